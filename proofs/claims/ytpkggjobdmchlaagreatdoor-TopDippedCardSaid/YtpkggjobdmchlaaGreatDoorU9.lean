/- wick.faults. -/
import Derived.Test.YtpkggjobdmchlaaGreatDoorK3
import Derived.Test.YtpkggjobdmchlaaGreatDoorU7
namespace Go.Proofs.YtpkggjobdmchlaaGreatDoor
open Go.RowKit
theorem pool_ok (n dia : Int) (hn : 0 ≤ n ∧ n ≤ 2000) (hd : 1 ≤ dia ∧ dia ≤ 2000) (b2 g : Nat) (w : World) (h2 : w.cell? ⟨b2, 0, none⟩ = some (.pointer (some ⟨g, 0, none⟩))) (h7 : w.cell? ⟨g, 7, none⟩ = some (.int .i64 dia)) :
    Calls Tryz.prog 88 #[.int .i64 n, .pointer (some ⟨b2, 0, none⟩)] w fun e w' => e = .returned (.int .i64 (n * dia * 1000)) ∧ w = w' := by
  have m := mulb (a := n) (b := dia) (A := 2000) (B := 2000) hn (by omega)
  have H1 := Lib.hid (wrapU (x := n * dia) (by omega))
  have H2 := Lib.hid (wrapU (x := n * dia * 1000) (by omega))
  clear m hn hd
  go_enter Tryz.func88, Tryz.ntmps88
  go_wp2_with fail
  go_ret
  exact ⟨ret_int (by rw [H1.out, H2.out]), rfl⟩
set_option maxRecDepth 100000 in
theorem smokes_ok {s : WShop} {c : Candle} {x : Wax} (lo hi : Burn) (hbn : 0 ≤ s.flame.2 ∧ s.flame.2 ≤ 2000) (vw vx : Value) (b2 g : Nat) (w : World) (h2 : w.cell? ⟨b2, 0, none⟩ = some (.pointer (some ⟨g, 0, none⟩))) (l2 : b2 < w.heap.size) (hg : w.heap[g]? = some (.cells (opC vw vx s c x) 104)) :
    Calls Tryz.prog 89 #[.agg (burnC lo), .agg (burnC hi), .pointer (some ⟨b2, 0, none⟩)] w fun e w' => e = .returned (.bool (smokes s hi)) ∧ Below w.heap.size w w' := by
  obtain ⟨hb0, hb1⟩ := hbn
  have H2 := Lib.hid h2
  have HG := Lib.hid hg
  have HGL := Lib.hid (block_lt hg)
  have C0 : Hid (Bs w [(w.heap.size, .cells (burnC lo) 66), (w.heap.size + 1, .cells (burnC hi) 66)] _) := Lib.hid (((Bs.nil w).push _ rfl (.cells (burnC lo) 66)).push (w.heap.size + 1) (by simp) (.cells (burnC hi) 66))
  clear h2 hg
  unfold smokes
  go_enter Tryz.func89, Tryz.ntmps89
  go_wp2_with fail
  generalize (w.alloc (.cells #[.int .i64 lo.rate, .int .i64 lo.flame, .int .i64 lo.pool] 66)).alloc (.cells #[.int .i64 hi.rate, .int .i64 hi.flame, .int .i64 hi.pool] 66) = w0 at *
  refine wp_region_inv0 (by kernel_rfl) (by kernel_rfl) (fun D w' => Below w0.heap.size w0 w') (Below.refl _ _).drew ?_
  apply obl_det
  case hrun =>
    intro D y wz hW hD R hR
    have HRR := Lib.hid hR
    clear hR
    have HW := Lib.hid hW
    clear hW hD
    go_wp2_with fail
    exact HRR.out _ HW.out
  case hnp => rfl
  case hv => first | exact ⟨_, fun _ => rfl⟩ | exact ⟨undef, fun _ => rfl⟩
  apply obl_det
  case hrun =>
    intro D y wz hW hD R hR
    have HRR := Lib.hid hR
    clear hR
    have HW := Lib.hid hW
    have HZ := Lib.hid (C0.out.call HW.out)
    have h1 := HZ.out.cell 1 rfl 1
    clear hW hD
    go_wp2_with fail
    exact HRR.out _ HW.out
  case hnp => rfl
  case hv => first | exact ⟨_, fun _ => rfl⟩ | exact ⟨undef, fun _ => rfl⟩
  apply obl_det
  case hrun =>
    intro D y wz hW hD R hR
    have HRR := Lib.hid hR
    clear hR
    have HW := Lib.hid hW
    have HZ := Lib.hid (C0.out.call HW.out)
    have h1 := (HZ.out.bel.cell (p := ⟨b2, 0, none⟩) l2).trans H2.out
    clear hW hD
    go_wp2_with fail
    exact HRR.out _ HW.out
  case hnp => rfl
  case hv => first | exact ⟨_, fun _ => rfl⟩ | exact ⟨undef, fun _ => rfl⟩
  apply obl_det
  case hrun =>
    intro D y wz hW hD R hR
    have HRR := Lib.hid hR
    clear hR
    have HW := Lib.hid hW
    clear hW hD
    go_wp2_with fail
    exact HRR.out _ HW.out
  case hnp => rfl
  case hv => first | exact ⟨_, fun _ => rfl⟩ | exact ⟨undef, fun _ => rfl⟩
  apply obl_det
  case hrun =>
    intro D y wz hW hD R hR
    have HRR := Lib.hid hR
    clear hR
    have HW := Lib.hid hW
    clear hW hD
    go_wp2_with fail
    exact HRR.out _ HW.out
  case hnp => rfl
  case hv => first | exact ⟨_, fun _ => rfl⟩ | exact ⟨undef, fun _ => rfl⟩
  apply obl_det
  case hrun =>
    intro D y wz hW hD R hR
    have HRR := Lib.hid hR
    clear hR
    have HW := Lib.hid hW
    clear hW hD
    go_wp2_with fail
    exact HRR.out _ HW.out
  case hnp => rfl
  case hv => first | exact ⟨_, fun _ => rfl⟩ | exact ⟨undef, fun _ => rfl⟩
  apply obl_det
  case hrun =>
    intro D y wz hW hD R hR
    have HRR := Lib.hid hR
    clear hR
    have HW := Lib.hid hW
    clear hW hD
    go_wp2_with fail
    exact HRR.out _ HW.out
  case hnp => rfl
  case hv => first | exact ⟨_, fun _ => rfl⟩ | exact ⟨undef, fun _ => rfl⟩
  apply obl_det
  case hrun =>
    intro D y wz hW hD R hR
    have HRR := Lib.hid hR
    clear hR
    have HW := Lib.hid hW
    have HZ := Lib.hid (C0.out.call HW.out)
    have hgg := block_keep HG.out HZ.out.bel
    have h1 := cell_of_row _ _ 3 _ _ _ hgg
    clear hW hD
    go_wp2_with fail
    exact HRR.out _ HW.out
  case hnp => rfl
  case hv => first | exact ⟨_, fun _ => rfl⟩ | exact ⟨undef, fun _ => rfl⟩
  apply obl_det
  case hrun =>
    intro D y wz hW hD R hR
    have HRR := Lib.hid hR
    clear hR
    have HW := Lib.hid hW
    clear hW hD
    go_wp2_with fail
    exact HRR.out _ HW.out
  case hnp => rfl
  case hv => first | exact ⟨_, fun _ => rfl⟩ | exact ⟨undef, fun _ => rfl⟩
  apply obl_det
  case hrun =>
    intro D y wz hW hD R hR
    have HRR := Lib.hid hR
    clear hR
    have HW := Lib.hid hW
    clear hW hD
    go_wp2_with fail
    exact HRR.out _ HW.out
  case hnp => rfl
  case hv => first | exact ⟨_, fun _ => rfl⟩ | exact ⟨undef, fun _ => rfl⟩
  apply obl_det
  case hrun =>
    intro D y wz hW hD R hR
    have HRR := Lib.hid hR
    clear hR
    have HW := Lib.hid hW
    clear hW hD
    go_wp2_with fail
    exact HRR.out _ HW.out
  case hnp => rfl
  case hv => first | exact ⟨_, fun _ => rfl⟩ | exact ⟨undef, fun _ => rfl⟩
  apply obl_nil
  intro D y w8 hall hW
  have HB := Lib.hid (C0.out.call hW)
  clear hall hW
  go_wp2_with fail
  go_ret
  exact ⟨rfl, HB.out.bel⟩
set_option maxRecDepth 100000 in
theorem goesOut_ok {s : WShop} {c : Candle} {x : Wax} (lo hi : Burn) (hbn : 0 ≤ s.flame.1 ∧ s.flame.1 ≤ 2000) (vw vx : Value) (b2 g : Nat) (w : World) (h2 : w.cell? ⟨b2, 0, none⟩ = some (.pointer (some ⟨g, 0, none⟩))) (l2 : b2 < w.heap.size) (hg : w.heap[g]? = some (.cells (opC vw vx s c x) 104)) :
    Calls Tryz.prog 90 #[.agg (burnC lo), .agg (burnC hi), .pointer (some ⟨b2, 0, none⟩)] w fun e w' => e = .returned (.bool (goesOut s lo)) ∧ Below w.heap.size w w' := by
  obtain ⟨hb0, hb1⟩ := hbn
  have H2 := Lib.hid h2
  have HG := Lib.hid hg
  have HGL := Lib.hid (block_lt hg)
  have C0 : Hid (Bs w [(w.heap.size, .cells (burnC lo) 66), (w.heap.size + 1, .cells (burnC hi) 66)] _) := Lib.hid (((Bs.nil w).push _ rfl (.cells (burnC lo) 66)).push (w.heap.size + 1) (by simp) (.cells (burnC hi) 66))
  clear h2 hg
  unfold goesOut
  go_enter Tryz.func90, Tryz.ntmps90
  go_wp2_with fail
  generalize (w.alloc (.cells #[.int .i64 lo.rate, .int .i64 lo.flame, .int .i64 lo.pool] 66)).alloc (.cells #[.int .i64 hi.rate, .int .i64 hi.flame, .int .i64 hi.pool] 66) = w0 at *
  refine wp_region_inv0 (by kernel_rfl) (by kernel_rfl) (fun D w' => Below w0.heap.size w0 w') (Below.refl _ _).drew ?_
  apply obl_det
  case hrun =>
    intro D y wz hW hD R hR
    have HRR := Lib.hid hR
    clear hR
    have HW := Lib.hid hW
    clear hW hD
    go_wp2_with fail
    exact HRR.out _ HW.out
  case hnp => rfl
  case hv => first | exact ⟨_, fun _ => rfl⟩ | exact ⟨undef, fun _ => rfl⟩
  apply obl_det
  case hrun =>
    intro D y wz hW hD R hR
    have HRR := Lib.hid hR
    clear hR
    have HW := Lib.hid hW
    have HZ := Lib.hid (C0.out.call HW.out)
    have h1 := HZ.out.cell 0 rfl 1
    clear hW hD
    go_wp2_with fail
    exact HRR.out _ HW.out
  case hnp => rfl
  case hv => first | exact ⟨_, fun _ => rfl⟩ | exact ⟨undef, fun _ => rfl⟩
  apply obl_det
  case hrun =>
    intro D y wz hW hD R hR
    have HRR := Lib.hid hR
    clear hR
    have HW := Lib.hid hW
    have HZ := Lib.hid (C0.out.call HW.out)
    have h1 := (HZ.out.bel.cell (p := ⟨b2, 0, none⟩) l2).trans H2.out
    clear hW hD
    go_wp2_with fail
    exact HRR.out _ HW.out
  case hnp => rfl
  case hv => first | exact ⟨_, fun _ => rfl⟩ | exact ⟨undef, fun _ => rfl⟩
  apply obl_det
  case hrun =>
    intro D y wz hW hD R hR
    have HRR := Lib.hid hR
    clear hR
    have HW := Lib.hid hW
    clear hW hD
    go_wp2_with fail
    exact HRR.out _ HW.out
  case hnp => rfl
  case hv => first | exact ⟨_, fun _ => rfl⟩ | exact ⟨undef, fun _ => rfl⟩
  apply obl_det
  case hrun =>
    intro D y wz hW hD R hR
    have HRR := Lib.hid hR
    clear hR
    have HW := Lib.hid hW
    clear hW hD
    go_wp2_with fail
    exact HRR.out _ HW.out
  case hnp => rfl
  case hv => first | exact ⟨_, fun _ => rfl⟩ | exact ⟨undef, fun _ => rfl⟩
  apply obl_det
  case hrun =>
    intro D y wz hW hD R hR
    have HRR := Lib.hid hR
    clear hR
    have HW := Lib.hid hW
    clear hW hD
    go_wp2_with fail
    exact HRR.out _ HW.out
  case hnp => rfl
  case hv => first | exact ⟨_, fun _ => rfl⟩ | exact ⟨undef, fun _ => rfl⟩
  apply obl_det
  case hrun =>
    intro D y wz hW hD R hR
    have HRR := Lib.hid hR
    clear hR
    have HW := Lib.hid hW
    clear hW hD
    go_wp2_with fail
    exact HRR.out _ HW.out
  case hnp => rfl
  case hv => first | exact ⟨_, fun _ => rfl⟩ | exact ⟨undef, fun _ => rfl⟩
  apply obl_det
  case hrun =>
    intro D y wz hW hD R hR
    have HRR := Lib.hid hR
    clear hR
    have HW := Lib.hid hW
    have HZ := Lib.hid (C0.out.call HW.out)
    have hgg := block_keep HG.out HZ.out.bel
    have h1 := cell_of_row _ _ 2 _ _ _ hgg
    clear hW hD
    go_wp2_with fail
    exact HRR.out _ HW.out
  case hnp => rfl
  case hv => first | exact ⟨_, fun _ => rfl⟩ | exact ⟨undef, fun _ => rfl⟩
  apply obl_det
  case hrun =>
    intro D y wz hW hD R hR
    have HRR := Lib.hid hR
    clear hR
    have HW := Lib.hid hW
    clear hW hD
    go_wp2_with fail
    exact HRR.out _ HW.out
  case hnp => rfl
  case hv => first | exact ⟨_, fun _ => rfl⟩ | exact ⟨undef, fun _ => rfl⟩
  apply obl_det
  case hrun =>
    intro D y wz hW hD R hR
    have HRR := Lib.hid hR
    clear hR
    have HW := Lib.hid hW
    clear hW hD
    go_wp2_with fail
    exact HRR.out _ HW.out
  case hnp => rfl
  case hv => first | exact ⟨_, fun _ => rfl⟩ | exact ⟨undef, fun _ => rfl⟩
  apply obl_det
  case hrun =>
    intro D y wz hW hD R hR
    have HRR := Lib.hid hR
    clear hR
    have HW := Lib.hid hW
    clear hW hD
    go_wp2_with fail
    exact HRR.out _ HW.out
  case hnp => rfl
  case hv => first | exact ⟨_, fun _ => rfl⟩ | exact ⟨undef, fun _ => rfl⟩
  apply obl_nil
  intro D y w8 hall hW
  have HB := Lib.hid (C0.out.call hW)
  clear hall hW
  go_wp2_with fail
  go_ret
  exact ⟨rfl, HB.out.bel⟩
set_option maxRecDepth 100000 in
theorem tunnels_ok {s : WShop} {c : Candle} {x : Wax} (lo hi : Burn) (hbn : 0 ≤ s.pool.1 ∧ s.pool.1 ≤ 2000) (vw vx : Value) (b2 b5 g : Nat) (w : World) (h2 : w.cell? ⟨b2, 0, none⟩ = some (.pointer (some ⟨g, 0, none⟩))) (l2 : b2 < w.heap.size) (h5 : w.cell? ⟨b5, 0, none⟩ = some (.func (.func 88) #[] #[.pointer (some ⟨b2, 0, none⟩)])) (l5 : b5 < w.heap.size) (hdi : 1 ≤ c.dia ∧ c.dia ≤ 2000) (hg : w.heap[g]? = some (.cells (opC vw vx s c x) 104)) :
    Calls Tryz.prog 91 #[.agg (burnC lo), .agg (burnC hi), .pointer (some ⟨b5, 0, none⟩), .pointer (some ⟨b2, 0, none⟩)] w fun e w' => e = .returned (.bool (tunnels s c lo)) ∧ Below w.heap.size w w' := by
  obtain ⟨hb0, hb1⟩ := hbn
  have H2 := Lib.hid h2
  have HG := Lib.hid hg
  have HGL := Lib.hid (block_lt hg)
  have C0 : Hid (Bs w [(w.heap.size, .cells (burnC lo) 66), (w.heap.size + 1, .cells (burnC hi) 66)] _) := Lib.hid (((Bs.nil w).push _ rfl (.cells (burnC lo) 66)).push (w.heap.size + 1) (by simp) (.cells (burnC hi) 66))
  have H5 := Lib.hid h5
  clear h5
  have HPO := fun w a b => Lib.hid (pool_ok s.pool.1 c.dia ⟨hb0, hb1⟩ hdi b2 g w a b)
  clear hdi
  clear h2 hg
  unfold tunnels
  go_enter Tryz.func91, Tryz.ntmps91
  go_wp2_with fail
  generalize (w.alloc (.cells #[.int .i64 lo.rate, .int .i64 lo.flame, .int .i64 lo.pool] 66)).alloc (.cells #[.int .i64 hi.rate, .int .i64 hi.flame, .int .i64 hi.pool] 66) = w0 at *
  refine wp_region_inv0 (by kernel_rfl) (by kernel_rfl) (fun D w' => Below w0.heap.size w0 w') (Below.refl _ _).drew ?_
  apply obl_det
  case hrun =>
    intro D y wz hW hD R hR
    have HRR := Lib.hid hR
    clear hR
    have HW := Lib.hid hW
    clear hW hD
    go_wp2_with fail
    exact HRR.out _ HW.out
  case hnp => rfl
  case hv => first | exact ⟨_, fun _ => rfl⟩ | exact ⟨undef, fun _ => rfl⟩
  apply obl_det
  case hrun =>
    intro D y wz hW hD R hR
    have HRR := Lib.hid hR
    clear hR
    have HW := Lib.hid hW
    have HZ := Lib.hid (C0.out.call HW.out)
    have h1 := HZ.out.cell 0 rfl 2
    clear hW hD
    go_wp2_with fail
    exact HRR.out _ HW.out
  case hnp => rfl
  case hv => first | exact ⟨_, fun _ => rfl⟩ | exact ⟨undef, fun _ => rfl⟩
  apply obl_det
  case hrun =>
    intro D y wz hW hD R hR
    have HRR := Lib.hid hR
    clear hR
    have HW := Lib.hid hW
    have HZ := Lib.hid (C0.out.call HW.out)
    have h1 := (HZ.out.bel.cell (p := ⟨b5, 0, none⟩) l5).trans H5.out
    clear hW hD
    go_wp2_with fail
    exact HRR.out _ HW.out
  case hnp => rfl
  case hv => first | exact ⟨_, fun _ => rfl⟩ | exact ⟨undef, fun _ => rfl⟩
  apply obl_det
  case hrun =>
    intro D y wz hW hD R hR
    have HRR := Lib.hid hR
    clear hR
    have HW := Lib.hid hW
    have HZ := Lib.hid (C0.out.call HW.out)
    have h1 := (HZ.out.bel.cell (p := ⟨b2, 0, none⟩) l2).trans H2.out
    clear hW hD
    go_wp2_with fail
    exact HRR.out _ HW.out
  case hnp => rfl
  case hv => first | exact ⟨_, fun _ => rfl⟩ | exact ⟨undef, fun _ => rfl⟩
  apply obl_det
  case hrun =>
    intro D y wz hW hD R hR
    have HRR := Lib.hid hR
    clear hR
    have HW := Lib.hid hW
    clear hW hD
    go_wp2_with fail
    exact HRR.out _ HW.out
  case hnp => rfl
  case hv => first | exact ⟨_, fun _ => rfl⟩ | exact ⟨undef, fun _ => rfl⟩
  apply obl_det
  case hrun =>
    intro D y wz hW hD R hR
    have HRR := Lib.hid hR
    clear hR
    have HW := Lib.hid hW
    clear hW hD
    go_wp2_with fail
    exact HRR.out _ HW.out
  case hnp => rfl
  case hv => first | exact ⟨_, fun _ => rfl⟩ | exact ⟨undef, fun _ => rfl⟩
  apply obl_det
  case hrun =>
    intro D y wz hW hD R hR
    have HRR := Lib.hid hR
    clear hR
    have HW := Lib.hid hW
    clear hW hD
    go_wp2_with fail
    exact HRR.out _ HW.out
  case hnp => rfl
  case hv => first | exact ⟨_, fun _ => rfl⟩ | exact ⟨undef, fun _ => rfl⟩
  apply obl_det
  case hrun =>
    intro D y wz hW hD R hR
    have HRR := Lib.hid hR
    clear hR
    have HW := Lib.hid hW
    clear hW hD
    go_wp2_with fail
    exact HRR.out _ HW.out
  case hnp => rfl
  case hv => first | exact ⟨_, fun _ => rfl⟩ | exact ⟨undef, fun _ => rfl⟩
  apply obl_det
  case hrun =>
    intro D y wz hW hD R hR
    have HRR := Lib.hid hR
    clear hR
    have HW := Lib.hid hW
    have HZ := Lib.hid (C0.out.call HW.out)
    have hgg := block_keep HG.out HZ.out.bel
    have h1 := cell_of_row _ _ 4 _ _ _ hgg
    clear hW hD
    go_wp2_with fail
    exact HRR.out _ HW.out
  case hnp => rfl
  case hv => first | exact ⟨_, fun _ => rfl⟩ | exact ⟨undef, fun _ => rfl⟩
  apply obl_det
  case hrun =>
    intro D y wz hW hD R hR
    have HRR := Lib.hid hR
    clear hR
    have HW := Lib.hid hW
    have HZ := Lib.hid (C0.out.call HW.out)
    have hgg := Lib.hid (block_keep HG.out HZ.out.bel)
    have h5 := Lib.hid ((HZ.out.bel.cell (p := ⟨b2, 0, none⟩) l2).trans H2.out)
    clear hW hD
    go_wp2_with fail
    refine (HPO _ h5.out (cell_of_row _ _ 7 _ _ _ hgg.out)).out.mono ?_
    rintro e w' ⟨rfl, rfl⟩
    go_wp2_with fail
    exact HRR.out _ HW.out
  case hnp => rfl
  case hv => first | exact ⟨_, fun _ => rfl⟩ | exact ⟨undef, fun _ => rfl⟩
  apply obl_det
  case hrun =>
    intro D y wz hW hD R hR
    have HRR := Lib.hid hR
    clear hR
    have HW := Lib.hid hW
    clear hW hD
    go_wp2_with fail
    exact HRR.out _ HW.out
  case hnp => rfl
  case hv => first | exact ⟨_, fun _ => rfl⟩ | exact ⟨undef, fun _ => rfl⟩
  apply obl_det
  case hrun =>
    intro D y wz hW hD R hR
    have HRR := Lib.hid hR
    clear hR
    have HW := Lib.hid hW
    clear hW hD
    go_wp2_with fail
    exact HRR.out _ HW.out
  case hnp => rfl
  case hv => first | exact ⟨_, fun _ => rfl⟩ | exact ⟨undef, fun _ => rfl⟩
  apply obl_nil
  intro D y w8 hall hW
  have HB := Lib.hid (C0.out.call hW)
  clear hall hW
  go_wp2_with fail
  go_ret
  exact ⟨rfl, HB.out.bel⟩
set_option maxRecDepth 100000 in
theorem runs_ok {s : WShop} {c : Candle} {x : Wax} (lo hi : Burn) (hbn : 0 ≤ s.pool.2 ∧ s.pool.2 ≤ 2000) (vw vx : Value) (b2 b5 g : Nat) (w : World) (h2 : w.cell? ⟨b2, 0, none⟩ = some (.pointer (some ⟨g, 0, none⟩))) (l2 : b2 < w.heap.size) (h5 : w.cell? ⟨b5, 0, none⟩ = some (.func (.func 88) #[] #[.pointer (some ⟨b2, 0, none⟩)])) (l5 : b5 < w.heap.size) (hdi : 1 ≤ c.dia ∧ c.dia ≤ 2000) (hg : w.heap[g]? = some (.cells (opC vw vx s c x) 104)) :
    Calls Tryz.prog 92 #[.agg (burnC lo), .agg (burnC hi), .pointer (some ⟨b5, 0, none⟩), .pointer (some ⟨b2, 0, none⟩)] w fun e w' => e = .returned (.bool (runs s c hi)) ∧ Below w.heap.size w w' := by
  obtain ⟨hb0, hb1⟩ := hbn
  have H2 := Lib.hid h2
  have HG := Lib.hid hg
  have HGL := Lib.hid (block_lt hg)
  have C0 : Hid (Bs w [(w.heap.size, .cells (burnC lo) 66), (w.heap.size + 1, .cells (burnC hi) 66)] _) := Lib.hid (((Bs.nil w).push _ rfl (.cells (burnC lo) 66)).push (w.heap.size + 1) (by simp) (.cells (burnC hi) 66))
  have H5 := Lib.hid h5
  clear h5
  have HPO := fun w a b => Lib.hid (pool_ok s.pool.2 c.dia ⟨hb0, hb1⟩ hdi b2 g w a b)
  clear hdi
  clear h2 hg
  unfold runs
  go_enter Tryz.func92, Tryz.ntmps92
  go_wp2_with fail
  generalize (w.alloc (.cells #[.int .i64 lo.rate, .int .i64 lo.flame, .int .i64 lo.pool] 66)).alloc (.cells #[.int .i64 hi.rate, .int .i64 hi.flame, .int .i64 hi.pool] 66) = w0 at *
  refine wp_region_inv0 (by kernel_rfl) (by kernel_rfl) (fun D w' => Below w0.heap.size w0 w') (Below.refl _ _).drew ?_
  apply obl_det
  case hrun =>
    intro D y wz hW hD R hR
    have HRR := Lib.hid hR
    clear hR
    have HW := Lib.hid hW
    clear hW hD
    go_wp2_with fail
    exact HRR.out _ HW.out
  case hnp => rfl
  case hv => first | exact ⟨_, fun _ => rfl⟩ | exact ⟨undef, fun _ => rfl⟩
  apply obl_det
  case hrun =>
    intro D y wz hW hD R hR
    have HRR := Lib.hid hR
    clear hR
    have HW := Lib.hid hW
    have HZ := Lib.hid (C0.out.call HW.out)
    have h1 := HZ.out.cell 1 rfl 2
    clear hW hD
    go_wp2_with fail
    exact HRR.out _ HW.out
  case hnp => rfl
  case hv => first | exact ⟨_, fun _ => rfl⟩ | exact ⟨undef, fun _ => rfl⟩
  apply obl_det
  case hrun =>
    intro D y wz hW hD R hR
    have HRR := Lib.hid hR
    clear hR
    have HW := Lib.hid hW
    have HZ := Lib.hid (C0.out.call HW.out)
    have h1 := (HZ.out.bel.cell (p := ⟨b5, 0, none⟩) l5).trans H5.out
    clear hW hD
    go_wp2_with fail
    exact HRR.out _ HW.out
  case hnp => rfl
  case hv => first | exact ⟨_, fun _ => rfl⟩ | exact ⟨undef, fun _ => rfl⟩
  apply obl_det
  case hrun =>
    intro D y wz hW hD R hR
    have HRR := Lib.hid hR
    clear hR
    have HW := Lib.hid hW
    have HZ := Lib.hid (C0.out.call HW.out)
    have h1 := (HZ.out.bel.cell (p := ⟨b2, 0, none⟩) l2).trans H2.out
    clear hW hD
    go_wp2_with fail
    exact HRR.out _ HW.out
  case hnp => rfl
  case hv => first | exact ⟨_, fun _ => rfl⟩ | exact ⟨undef, fun _ => rfl⟩
  apply obl_det
  case hrun =>
    intro D y wz hW hD R hR
    have HRR := Lib.hid hR
    clear hR
    have HW := Lib.hid hW
    clear hW hD
    go_wp2_with fail
    exact HRR.out _ HW.out
  case hnp => rfl
  case hv => first | exact ⟨_, fun _ => rfl⟩ | exact ⟨undef, fun _ => rfl⟩
  apply obl_det
  case hrun =>
    intro D y wz hW hD R hR
    have HRR := Lib.hid hR
    clear hR
    have HW := Lib.hid hW
    clear hW hD
    go_wp2_with fail
    exact HRR.out _ HW.out
  case hnp => rfl
  case hv => first | exact ⟨_, fun _ => rfl⟩ | exact ⟨undef, fun _ => rfl⟩
  apply obl_det
  case hrun =>
    intro D y wz hW hD R hR
    have HRR := Lib.hid hR
    clear hR
    have HW := Lib.hid hW
    clear hW hD
    go_wp2_with fail
    exact HRR.out _ HW.out
  case hnp => rfl
  case hv => first | exact ⟨_, fun _ => rfl⟩ | exact ⟨undef, fun _ => rfl⟩
  apply obl_det
  case hrun =>
    intro D y wz hW hD R hR
    have HRR := Lib.hid hR
    clear hR
    have HW := Lib.hid hW
    clear hW hD
    go_wp2_with fail
    exact HRR.out _ HW.out
  case hnp => rfl
  case hv => first | exact ⟨_, fun _ => rfl⟩ | exact ⟨undef, fun _ => rfl⟩
  apply obl_det
  case hrun =>
    intro D y wz hW hD R hR
    have HRR := Lib.hid hR
    clear hR
    have HW := Lib.hid hW
    have HZ := Lib.hid (C0.out.call HW.out)
    have hgg := block_keep HG.out HZ.out.bel
    have h1 := cell_of_row _ _ 5 _ _ _ hgg
    clear hW hD
    go_wp2_with fail
    exact HRR.out _ HW.out
  case hnp => rfl
  case hv => first | exact ⟨_, fun _ => rfl⟩ | exact ⟨undef, fun _ => rfl⟩
  apply obl_det
  case hrun =>
    intro D y wz hW hD R hR
    have HRR := Lib.hid hR
    clear hR
    have HW := Lib.hid hW
    have HZ := Lib.hid (C0.out.call HW.out)
    have hgg := Lib.hid (block_keep HG.out HZ.out.bel)
    have h5 := Lib.hid ((HZ.out.bel.cell (p := ⟨b2, 0, none⟩) l2).trans H2.out)
    clear hW hD
    go_wp2_with fail
    refine (HPO _ h5.out (cell_of_row _ _ 7 _ _ _ hgg.out)).out.mono ?_
    rintro e w' ⟨rfl, rfl⟩
    go_wp2_with fail
    exact HRR.out _ HW.out
  case hnp => rfl
  case hv => first | exact ⟨_, fun _ => rfl⟩ | exact ⟨undef, fun _ => rfl⟩
  apply obl_det
  case hrun =>
    intro D y wz hW hD R hR
    have HRR := Lib.hid hR
    clear hR
    have HW := Lib.hid hW
    clear hW hD
    go_wp2_with fail
    exact HRR.out _ HW.out
  case hnp => rfl
  case hv => first | exact ⟨_, fun _ => rfl⟩ | exact ⟨undef, fun _ => rfl⟩
  apply obl_det
  case hrun =>
    intro D y wz hW hD R hR
    have HRR := Lib.hid hR
    clear hR
    have HW := Lib.hid hW
    clear hW hD
    go_wp2_with fail
    exact HRR.out _ HW.out
  case hnp => rfl
  case hv => first | exact ⟨_, fun _ => rfl⟩ | exact ⟨undef, fun _ => rfl⟩
  apply obl_nil
  intro D y w8 hall hW
  have HB := Lib.hid (C0.out.call hW)
  clear hall hW
  go_wp2_with fail
  go_ret
  exact ⟨rfl, HB.out.bel⟩
end Go.Proofs.YtpkggjobdmchlaaGreatDoor
/- wick.faults: the whole. -/
namespace Go.Proofs.YtpkggjobdmchlaaGreatDoor
open Go.RowKit
theorem wpList_store_bt {P : Program} {ops : Array Oper} {rest : List Oper} {o : Oper} {a : Act} {w0 w : World} {Q : Exit → Act → World → Prop} {l : List (Nat × Obj)} (hgd : o.guard = none) (ty : TypeId) (x y : Operand) (ho : o.op = .store ty x y) (H : Bs w0 l w) (i g : Nat) (cells old : Array Value) (t : TypeId) (hi : l[i]? = some (g, .cells old t))
    (hx : a.eval x = .pointer (some ⟨g, 0, none⟩)) (hy : a.eval y = .agg cells) (hn : (P.info? ty).map (·.size) = some cells.size) (hold : old.size = cells.size) (h1 : cells.all (·.oneCell') = true)
    (h : ∀ w', Bs w0 (l.set i (g, .cells cells t)) w' → But g w w' → wpList P ops Q rest (a.put o.dst undef) w') : wpList P ops Q (o :: rest) a w :=
  have hb := below_setRow (Below.refl 0 w) (Nat.zero_le g) cells
  wpList_store_row hgd ty x y ho g cells hx hy t old (H.get i hi) hn hold h1 (h _ (H.setRow i hi cells) ⟨hb.os, hb.tape, hb.output, hb.size, fun k _ hk => setRow_other w g k cells hk⟩)
/-- One cell is stored; the heap is as long as it was. -/
theorem wpList_cell_bz {P : Program} {ops : Array Oper} {rest : List Oper} {o : Oper} {a : Act} {w0 w : World} {Q : Exit → Act → World → Prop} {l : List (Nat × Obj)} (hgd : o.guard = none) (ty : TypeId) (x y : Operand) (ho : o.op = .store ty x y) (H : Bs w0 l w) (i g j : Nat) (old : Array Value) (t : TypeId) (hi : l[i]? = some (g, .cells old t))
    (hx : a.eval x = .pointer (some ⟨g, j, none⟩)) (v : Value) (hy : a.eval y = v) (hj : j < old.size) (h1 : v.oneCell' = true) (hn : (P.info? ty).map (·.size) = some 1)
    (h : ∀ w', Bs w0 (l.set i (g, .cells (old.setIfInBounds j v) t)) w' → w'.heap.size = w.heap.size → wpList P ops Q rest (a.put o.dst undef) w') : wpList P ops Q (o :: rest) a w :=
  wpList_plain hgd fun _ hK => by
    have hc : w.cell? ⟨g, j, none⟩ = some old[j] := by rw [H.cell i hi]; simp [hj]
    unfold Oper.wp execOp
    simp only [ho, hx, hy, Instr.storeAt, Instr.sureAddr, Sem.run_bind, Sem.run_pure, Result.andThen_ok, run_store_at w g j ty v _ h1 hc (H.free i hi j) hn]
    exact hK _ _ (h _ (H.setCell i hi j v) (by simp))
theorem but_below {B g : Nat} {W w w' : World} (hb : Below B W w) (hB : B ≤ w.heap.size) (hg : B ≤ g) (h : But g w w') : Below B W w' :=
  hb.trans ⟨h.os, h.tape, h.output, h.size, fun k hk => h.block k (by omega) (by omega)⟩
theorem infoTest : (Tryz.prog.info? 175).map (·.size) = some 2 := by kernel_rfl
theorem run_buildTest (n : Int) (q : FuncId) (fr cap : Array Value) (w : World) : (Instr.build 175 #[(0, .int .i64 n), (1, .func (.func q) fr cap)]).run Tryz.prog w = .ok (.agg #[.int .i64 n, .func (.func q) fr cap]) w := run_build w 175 _ _ (by kernel_rfl)
theorem infoFF : (Tryz.prog.info? 172).map (·.size) = some 1 := by kernel_rfl
def flt (b1 b2 b3 b4 : Bool) : Nat → List Int
  | 0 => []
  | 1 => if b1 then [1] else []
  | 2 => (if b1 then [1] else []) ++ (if b2 then [2] else [])
  | 3 => (if b1 then [1] else []) ++ (if b2 then [2] else []) ++ (if b3 then [3] else [])
  | _ => (if b1 then [1] else []) ++ (if b2 then [2] else []) ++ (if b3 then [3] else []) ++ (if b4 then [4] else [])
theorem flt_len (b1 b2 b3 b4 : Bool) (n : Nat) : (flt b1 b2 b3 b4 n).length ≤ 4 := by
  match n with
  | 0 => simp [flt]
  | 1 => cases b1 <;> simp [flt]
  | 2 => cases b1 <;> cases b2 <;> simp [flt]
  | 3 => cases b1 <;> cases b2 <;> cases b3 <;> simp [flt]
  | n + 4 => cases b1 <;> cases b2 <;> cases b3 <;> cases b4 <;> simp [flt]
set_option maxRecDepth 100000 in
set_option maxHeartbeats 16000000 in
theorem faults_ok {s : WShop} {c : Candle} (hs : WOk s c) (k : Nat) (hk : k < s.wicks.length) (vw vx : Value) (g : Nat) (w : World) (hv : WShopAt w.heap.size w vw vx s) (hg : w.heap[g]? = some (.cells (opC vw vx s c (waxOf s c)) 104)) :
    Calls Tryz.prog 54 #[.pointer (some ⟨g, 0, none⟩), .int .i64 k] w fun e w' => ∃ v, e = .returned v ∧ IntsIn .i64 w'.heap.size w' v (faultsV s c k) ∧ Below w.heap.size w w' := by
  have hmf : ∀ (fn : Fn) (first cap : Array Value) (w : World), (Instr.makeFunc fn first cap).run Tryz.prog w = .ok (.func fn first cap) w := fun _ _ _ _ => rfl
  have hbt := run_buildTest
  have HG := Lib.hid hg
  have HGL := Lib.hid (block_lt hg)
  have HE := fun w h1 h2 => Lib.hid (ends_ok hs k hk vw vx g w h1 h2)
  have HV := Lib.hid hv
  have HF : Hid (faultsV s c k = flt (smokes s (mostB s c k)) (goesOut s (leastB s c k)) (tunnels s c (leastB s c k)) (runs s c (mostB s c k)) 4) := rfl
  have hfl := hs.flame
  have hpl := hs.pool
  have hdi := hs.dia
  have HS1 := fun (W : World) a l d => Lib.hid (smokes_ok (s := s) (c := c) (x := waxOf s c) (leastB s c k) (mostB s c k) (by omega) vw vx w.heap.size g W a l d)
  have HS2 := fun (W : World) a l d => Lib.hid (goesOut_ok (s := s) (c := c) (x := waxOf s c) (leastB s c k) (mostB s c k) (by omega) vw vx w.heap.size g W a l d)
  have HS3 := fun (W : World) a l a5 l5 d => Lib.hid (tunnels_ok (s := s) (c := c) (x := waxOf s c) (leastB s c k) (mostB s c k) (by omega) vw vx w.heap.size (w.heap.size + 1) g W a l a5 l5 hdi d)
  have HS4 := fun (W : World) a l a5 l5 d => Lib.hid (runs_ok (s := s) (c := c) (x := waxOf s c) (leastB s c k) (mostB s c k) (by omega) vw vx w.heap.size (w.heap.size + 1) g W a l a5 l5 hdi d)
  rw [HF.out]
  clear HF hs hv hk hg hfl hpl hdi
  generalize smokes s (mostB s c k) = b1 at *
  generalize goesOut s (leastB s c k) = b2 at *
  generalize tunnels s c (leastB s c k) = b3 at *
  generalize runs s c (mostB s c k) = b4 at *
  have HFL := Lib.hid (flt_len b1 b2 b3 b4)
  obtain ⟨i0, hi0, hz0, hz1, hz2⟩ := info3'
  have HI0 := Lib.hid hi0
  have HZ0 := Lib.hid hz0
  have HZ1 := Lib.hid hz1
  have HZ2 := Lib.hid hz2
  clear hi0 hz0 hz1 hz2
  have C0 : Hid (Bs w [(w.heap.size, .cells #[.pointer (some ⟨g, 0, none⟩)] 96), (w.heap.size + 1, .cells #[.nilFunc] 172)] _) := Lib.hid (((Bs.nil w).push _ rfl (.cells #[.pointer (some ⟨g, 0, none⟩)] 96)).push (w.heap.size + 1) (by simp) (.cells #[.nilFunc] 172))
  go_enter Tryz.func54, Tryz.ntmps54
  go_wp2_with (refine wpList_cell_bz rfl 172 _ _ rfl C0.out 1 _ 0 _ _ rfl rfl (.func (.func 88) #[] #[.pointer (some ⟨w.heap.size, 0, none⟩)]) rfl (by simp) rfl infoFF ?_; intro w0 hC0 hz0; have C1 : Hid (Bs w [(w.heap.size, .cells #[.pointer (some ⟨g, 0, none⟩)] 96), (w.heap.size + 1, .cells #[.func (.func 88) #[] #[.pointer (some ⟨w.heap.size, 0, none⟩)]] 172)] w0) := hC0; have hz : w0.heap.size = w.heap.size + 1 + 1 := (by simpa using hz0); clear hC0 hz0 C0; have hp0 := C1.out.cell 0 rfl 0; have hp1 := C1.out.cell 1 rfl 0)
  have C2 := Lib.hid (C1.out.push (w.heap.size + 1 + 1) hz (.cells #[.int .i64 1, .func (.func 89) #[] #[.pointer (some ⟨w.heap.size, 0, none⟩)], .int .i64 2, .func (.func 90) #[] #[.pointer (some ⟨w.heap.size, 0, none⟩)], .int .i64 3, .func (.func 91) #[] #[.pointer (some ⟨w.heap.size + 1, 0, none⟩), .pointer (some ⟨w.heap.size, 0, none⟩)], .int .i64 4, .func (.func 92) #[] #[.pointer (some ⟨w.heap.size + 1, 0, none⟩), .pointer (some ⟨w.heap.size, 0, none⟩)]] 175))
  clear C1 hz hp0 hp1
  refine (HE _ ((HV.out.below C2.out.bel).mono C2.out.bel.size) (block_keep HG.out C2.out.bel)).out.mono ?_
  rintro e w1 ⟨rfl, hb⟩
  have C3 := Lib.hid (C2.out.call hb)
  clear hb C2 HE HV
  have CP := Lib.hid ((C3.out.push _ rfl (.cells #[.int .i64 0, .int .i64 0, .int .i64 0] 66)).push (w1.heap.size + 1) (by simp) (.cells #[.int .i64 0, .int .i64 0, .int .i64 0] 66))
  clear C3
  go_wp2_with (first | (refine wpList_store_bs rfl 66 _ _ rfl CP.out 3 _ (burnC (leastB s c k)) _ _ rfl rfl rfl infoBurn rfl (by simp [Value.oneCell']) ?_; intro w3 hC3; have CQ : Hid (Bs w [(w.heap.size, .cells #[.pointer (some ⟨g, 0, none⟩)] 96), (w.heap.size + 1, .cells #[.func (.func 88) #[] #[.pointer (some ⟨w.heap.size, 0, none⟩)]] 172), (w.heap.size + 1 + 1, .cells #[.int .i64 1, .func (.func 89) #[] #[.pointer (some ⟨w.heap.size, 0, none⟩)], .int .i64 2, .func (.func 90) #[] #[.pointer (some ⟨w.heap.size, 0, none⟩)], .int .i64 3, .func (.func 91) #[] #[.pointer (some ⟨w.heap.size + 1, 0, none⟩), .pointer (some ⟨w.heap.size, 0, none⟩)], .int .i64 4, .func (.func 92) #[] #[.pointer (some ⟨w.heap.size + 1, 0, none⟩), .pointer (some ⟨w.heap.size, 0, none⟩)]] 175), (w1.heap.size, .cells (burnC (leastB s c k)) 66), (w1.heap.size + 1, .cells #[.int .i64 0, .int .i64 0, .int .i64 0] 66)] w3) := hC3; clear hC3 CP) | (refine wpList_store_bs rfl 66 _ _ rfl CQ.out 4 _ (burnC (mostB s c k)) _ _ rfl rfl rfl infoBurn rfl (by simp [Value.oneCell']) ?_; intro w4 hC4; have CR : Hid (Bs w [(w.heap.size, .cells #[.pointer (some ⟨g, 0, none⟩)] 96), (w.heap.size + 1, .cells #[.func (.func 88) #[] #[.pointer (some ⟨w.heap.size, 0, none⟩)]] 172), (w.heap.size + 1 + 1, .cells #[.int .i64 1, .func (.func 89) #[] #[.pointer (some ⟨w.heap.size, 0, none⟩)], .int .i64 2, .func (.func 90) #[] #[.pointer (some ⟨w.heap.size, 0, none⟩)], .int .i64 3, .func (.func 91) #[] #[.pointer (some ⟨w.heap.size + 1, 0, none⟩), .pointer (some ⟨w.heap.size, 0, none⟩)], .int .i64 4, .func (.func 92) #[] #[.pointer (some ⟨w.heap.size + 1, 0, none⟩), .pointer (some ⟨w.heap.size, 0, none⟩)]] 175), (w1.heap.size, .cells (burnC (leastB s c k)) 66), (w1.heap.size + 1, .cells (burnC (mostB s c k)) 66)] w4) := hC4; clear hC4 CQ))
  obtain ⟨B, hB⟩ : ∃ B, w4.heap.size = B := ⟨_, rfl⟩
  have HBZ := Lib.hid hB
  have HL : Hid (w.heap.size < B ∧ w.heap.size + 1 < B ∧ w.heap.size + 1 + 1 < B ∧ w1.heap.size < B ∧ w1.heap.size + 1 < B) := by
    have h0 := CR.out.lt 0 rfl
    have h1 := CR.out.lt 1 rfl
    have h2 := CR.out.lt 2 rfl
    have h3 := CR.out.lt 3 rfl
    have h4 := CR.out.lt 4 rfl
    exact ⟨by omega, by omega, by omega, by omega, by omega⟩
  clear hB
  go_loopw [4, 29] (fun tv iv wr => (iv = .int .i64 0 ∧ wr.ownsRow B 3 1 tv (flt b1 b2 b3 b4 0).length ((flt b1 b2 b3 b4 0).map (Value.int .i64)) ∧ Below B w4 wr ∧ B ≤ wr.heap.size) ∨ (iv = .int .i64 1 ∧ wr.ownsRow B 3 1 tv (flt b1 b2 b3 b4 1).length ((flt b1 b2 b3 b4 1).map (Value.int .i64)) ∧ Below B w4 wr ∧ B ≤ wr.heap.size) ∨ (iv = .int .i64 2 ∧ wr.ownsRow B 3 1 tv (flt b1 b2 b3 b4 2).length ((flt b1 b2 b3 b4 2).map (Value.int .i64)) ∧ Below B w4 wr ∧ B ≤ wr.heap.size) ∨ (iv = .int .i64 3 ∧ wr.ownsRow B 3 1 tv (flt b1 b2 b3 b4 3).length ((flt b1 b2 b3 b4 3).map (Value.int .i64)) ∧ Below B w4 wr ∧ B ≤ wr.heap.size) ∨ (iv = .int .i64 4 ∧ wr.ownsRow B 3 1 tv (flt b1 b2 b3 b4 4).length ((flt b1 b2 b3 b4 4).map (Value.int .i64)) ∧ Below B w4 wr ∧ B ≤ wr.heap.size)) (fun _ iv _ => 4 - (intOf iv).toNat)
  case atStart => exact .inl ⟨rfl, World.ownsRow_nil _ _ _ _, Below.refl _ _, Nat.le_of_eq HBZ.out.symm⟩
  case round =>
    rcases hrel with ⟨rfl, hrow, hbel, hsz⟩ | ⟨rfl, hrow, hbel, hsz⟩ | ⟨rfl, hrow, hbel, hsz⟩ | ⟨rfl, hrow, hbel, hsz⟩ | ⟨rfl, hrow, hbel, hsz⟩
    · have HR := Lib.hid hrow
      have HBL := Lib.hid hbel
      have HSZ := Lib.hid hsz
      clear hrow hbel hsz
      obtain ⟨ra, rc, rfl⟩ := ownsRow_slice HR.out
      have ht0 := (HBL.out.cell (p := ⟨w.heap.size + 1 + 1, 0, none⟩) HL.out.2.2.1).trans (CR.out.cell 2 rfl 0)
      have ht1 := (HBL.out.cell (p := ⟨w.heap.size + 1 + 1, 1, none⟩) HL.out.2.2.1).trans (CR.out.cell 2 rfl 1)
      have CT := Lib.hid ((Bs.nil wr).push _ rfl (.cells #[.int .i64 0, .nilFunc] 175))
      go_wp2_with (refine wpList_store_bt rfl 175 _ _ rfl CT.out 0 _ #[.int .i64 1, .func (.func 89) #[] #[.pointer (some ⟨w.heap.size, 0, none⟩)]] _ _ rfl rfl rfl infoTest rfl (by simp [Value.oneCell']) ?_; intro w6 hC6 hB6; have CU : Hid (Bs wr [(wr.heap.size, .cells #[.int .i64 1, .func (.func 89) #[] #[.pointer (some ⟨w.heap.size, 0, none⟩)]] 175)] w6) := hC6; have HR6 := Lib.hid (ownsRow.but (HR.out.alloc (.cells #[.int .i64 0, .nilFunc] 175)) hB6 (heap_alloc_new _ _) (by decide)); have HB6 := Lib.hid (but_below (HBL.out.alloc HSZ.out (.cells #[.int .i64 0, .nilFunc] 175)) (by have := HSZ.out; simp; omega) HSZ.out hB6); have HS6 : Hid (B ≤ w6.heap.size) := (by have h1 := hB6.size; have h2 := HSZ.out; unfold Hid; simp at h1; omega); clear hC6 hB6 CT ht0 ht1 HR HBL; have hu0 := CU.out.cell 0 rfl 0; have hu1 := CU.out.cell 0 rfl 1; have hl0 := (HB6.out.cell (p := ⟨w1.heap.size, 0, none⟩) HL.out.2.2.2.1).trans (CR.out.cell 3 rfl 0); have hl1 := (HB6.out.cell (p := ⟨w1.heap.size, 1, none⟩) HL.out.2.2.2.1).trans (CR.out.cell 3 rfl 1); have hl2 := (HB6.out.cell (p := ⟨w1.heap.size, 2, none⟩) HL.out.2.2.2.1).trans (CR.out.cell 3 rfl 2); have hm0 := (HB6.out.cell (p := ⟨w1.heap.size + 1, 0, none⟩) HL.out.2.2.2.2).trans (CR.out.cell 4 rfl 0); have hm1 := (HB6.out.cell (p := ⟨w1.heap.size + 1, 1, none⟩) HL.out.2.2.2.2).trans (CR.out.cell 4 rfl 1); have hm2 := (HB6.out.cell (p := ⟨w1.heap.size + 1, 2, none⟩) HL.out.2.2.2.2).trans (CR.out.cell 4 rfl 2))
      have HG6 : Hid (w6.heap[g]? = some (.cells (opC vw vx s c (waxOf s c)) 104)) := (HB6.out.block g (Nat.lt_trans HGL.out HL.out.1)).trans (block_keep HG.out CR.out.bel)
      have H2 := Lib.hid ((HB6.out.cell (p := ⟨w.heap.size, 0, none⟩) HL.out.1).trans (CR.out.cell 0 rfl 0))
      refine (HS1 w6 H2.out (Nat.lt_of_lt_of_le HL.out.1 HS6.out) HG6.out).out.mono ?_
      rintro e w7 ⟨rfl, hbw⟩
      have CV := Lib.hid (CU.out.call hbw)
      have HR7 := Lib.hid (ownsRow.below HR6.out hbw)
      have HB7 := Lib.hid (HB6.out.trans (hbw.mono HS6.out))
      have HS7 : Hid (B ≤ w7.heap.size) := Nat.le_trans HS6.out hbw.size
      have HN4 := Lib.hid (HFL.out 0)
      clear hbw CU HR6 HB6 HS6 hu0 hu1 hl0 hl1 hl2 hm0 hm1 hm2 HG6 H2
      cases b1
      · go_wp2_with fail
        refine ⟨.inr (.inl ⟨rfl, by simpa [flt] using HR7.out, HB7.out, HS7.out⟩), ?_⟩
        simp [intOf]
      · have hu0 := CV.out.cell 0 rfl 0
        have hn4 := HN4.out
        have hs7 := HS7.out
        go_wp2_with (at_builtin; refine wpList_append_own _ rfl _ _ 49 rfl B 3 i0 (.int .i64 0) 1 8 Tryz.underlying49 HI0.out HZ0.out HZ1.out HZ2.out rfl (by decide) _ _ _ rfl (HR7.out.alloc (.cells #[.int .i64 1] 3)) ⟨w7.heap.size, 0, none⟩ 1 1 [.int .i64 1] rfl rfl (cell_news _ _ _ _ (heap_alloc_new _ _)) (one_int _) (by unfold maxLen; omega) (by omega) (by simp; omega) ?_; intro v' w8 hown hgrow _; have HO8 := Lib.hid hown; have HB8 := Lib.hid ((HB7.out.alloc HS7.out (.cells #[.int .i64 1] 3)).grown hgrow (by simp; omega) (fun k e => (HR7.out.lt k e).1)); have HS8 : Hid (B ≤ w8.heap.size) := (by have h1 := hgrow.size; unfold Hid; simp at h1; omega); clear hown hgrow)
        refine ⟨.inr (.inl ⟨rfl, (by have e : flt true b2 b3 b4 1 = flt true b2 b3 b4 0 ++ [1] := (by simp [flt]); rw [e, List.length_append, List.map_append]; exact HO8.out), HB8.out, HS8.out⟩), ?_⟩
        simp [intOf]
    · have HR := Lib.hid hrow
      have HBL := Lib.hid hbel
      have HSZ := Lib.hid hsz
      clear hrow hbel hsz
      obtain ⟨ra, rc, rfl⟩ := ownsRow_slice HR.out
      have ht0 := (HBL.out.cell (p := ⟨w.heap.size + 1 + 1, 2, none⟩) HL.out.2.2.1).trans (CR.out.cell 2 rfl 2)
      have ht1 := (HBL.out.cell (p := ⟨w.heap.size + 1 + 1, 3, none⟩) HL.out.2.2.1).trans (CR.out.cell 2 rfl 3)
      have CT := Lib.hid ((Bs.nil wr).push _ rfl (.cells #[.int .i64 0, .nilFunc] 175))
      go_wp2_with (refine wpList_store_bt rfl 175 _ _ rfl CT.out 0 _ #[.int .i64 2, .func (.func 90) #[] #[.pointer (some ⟨w.heap.size, 0, none⟩)]] _ _ rfl rfl rfl infoTest rfl (by simp [Value.oneCell']) ?_; intro w6 hC6 hB6; have CU : Hid (Bs wr [(wr.heap.size, .cells #[.int .i64 2, .func (.func 90) #[] #[.pointer (some ⟨w.heap.size, 0, none⟩)]] 175)] w6) := hC6; have HR6 := Lib.hid (ownsRow.but (HR.out.alloc (.cells #[.int .i64 0, .nilFunc] 175)) hB6 (heap_alloc_new _ _) (by decide)); have HB6 := Lib.hid (but_below (HBL.out.alloc HSZ.out (.cells #[.int .i64 0, .nilFunc] 175)) (by have := HSZ.out; simp; omega) HSZ.out hB6); have HS6 : Hid (B ≤ w6.heap.size) := (by have h1 := hB6.size; have h2 := HSZ.out; unfold Hid; simp at h1; omega); clear hC6 hB6 CT ht0 ht1 HR HBL; have hu0 := CU.out.cell 0 rfl 0; have hu1 := CU.out.cell 0 rfl 1; have hl0 := (HB6.out.cell (p := ⟨w1.heap.size, 0, none⟩) HL.out.2.2.2.1).trans (CR.out.cell 3 rfl 0); have hl1 := (HB6.out.cell (p := ⟨w1.heap.size, 1, none⟩) HL.out.2.2.2.1).trans (CR.out.cell 3 rfl 1); have hl2 := (HB6.out.cell (p := ⟨w1.heap.size, 2, none⟩) HL.out.2.2.2.1).trans (CR.out.cell 3 rfl 2); have hm0 := (HB6.out.cell (p := ⟨w1.heap.size + 1, 0, none⟩) HL.out.2.2.2.2).trans (CR.out.cell 4 rfl 0); have hm1 := (HB6.out.cell (p := ⟨w1.heap.size + 1, 1, none⟩) HL.out.2.2.2.2).trans (CR.out.cell 4 rfl 1); have hm2 := (HB6.out.cell (p := ⟨w1.heap.size + 1, 2, none⟩) HL.out.2.2.2.2).trans (CR.out.cell 4 rfl 2))
      have HG6 : Hid (w6.heap[g]? = some (.cells (opC vw vx s c (waxOf s c)) 104)) := (HB6.out.block g (Nat.lt_trans HGL.out HL.out.1)).trans (block_keep HG.out CR.out.bel)
      have H2 := Lib.hid ((HB6.out.cell (p := ⟨w.heap.size, 0, none⟩) HL.out.1).trans (CR.out.cell 0 rfl 0))
      refine (HS2 w6 H2.out (Nat.lt_of_lt_of_le HL.out.1 HS6.out) HG6.out).out.mono ?_
      rintro e w7 ⟨rfl, hbw⟩
      have CV := Lib.hid (CU.out.call hbw)
      have HR7 := Lib.hid (ownsRow.below HR6.out hbw)
      have HB7 := Lib.hid (HB6.out.trans (hbw.mono HS6.out))
      have HS7 : Hid (B ≤ w7.heap.size) := Nat.le_trans HS6.out hbw.size
      have HN4 := Lib.hid (HFL.out 1)
      clear hbw CU HR6 HB6 HS6 hu0 hu1 hl0 hl1 hl2 hm0 hm1 hm2 HG6 H2
      cases b2
      · go_wp2_with fail
        refine ⟨.inr (.inr (.inl ⟨rfl, by simpa [flt] using HR7.out, HB7.out, HS7.out⟩)), ?_⟩
        simp [intOf]
      · have hu0 := CV.out.cell 0 rfl 0
        have hn4 := HN4.out
        have hs7 := HS7.out
        go_wp2_with (at_builtin; refine wpList_append_own _ rfl _ _ 49 rfl B 3 i0 (.int .i64 0) 1 8 Tryz.underlying49 HI0.out HZ0.out HZ1.out HZ2.out rfl (by decide) _ _ _ rfl (HR7.out.alloc (.cells #[.int .i64 2] 3)) ⟨w7.heap.size, 0, none⟩ 1 1 [.int .i64 2] rfl rfl (cell_news _ _ _ _ (heap_alloc_new _ _)) (one_int _) (by unfold maxLen; omega) (by omega) (by simp; omega) ?_; intro v' w8 hown hgrow _; have HO8 := Lib.hid hown; have HB8 := Lib.hid ((HB7.out.alloc HS7.out (.cells #[.int .i64 2] 3)).grown hgrow (by simp; omega) (fun k e => (HR7.out.lt k e).1)); have HS8 : Hid (B ≤ w8.heap.size) := (by have h1 := hgrow.size; unfold Hid; simp at h1; omega); clear hown hgrow)
        refine ⟨.inr (.inr (.inl ⟨rfl, (by have e : flt b1 true b3 b4 2 = flt b1 true b3 b4 1 ++ [2] := (by simp [flt]); rw [e, List.length_append, List.map_append]; exact HO8.out), HB8.out, HS8.out⟩)), ?_⟩
        simp [intOf]
    · have HR := Lib.hid hrow
      have HBL := Lib.hid hbel
      have HSZ := Lib.hid hsz
      clear hrow hbel hsz
      obtain ⟨ra, rc, rfl⟩ := ownsRow_slice HR.out
      have ht0 := (HBL.out.cell (p := ⟨w.heap.size + 1 + 1, 4, none⟩) HL.out.2.2.1).trans (CR.out.cell 2 rfl 4)
      have ht1 := (HBL.out.cell (p := ⟨w.heap.size + 1 + 1, 5, none⟩) HL.out.2.2.1).trans (CR.out.cell 2 rfl 5)
      have CT := Lib.hid ((Bs.nil wr).push _ rfl (.cells #[.int .i64 0, .nilFunc] 175))
      go_wp2_with (refine wpList_store_bt rfl 175 _ _ rfl CT.out 0 _ #[.int .i64 3, .func (.func 91) #[] #[.pointer (some ⟨w.heap.size + 1, 0, none⟩), .pointer (some ⟨w.heap.size, 0, none⟩)]] _ _ rfl rfl rfl infoTest rfl (by simp [Value.oneCell']) ?_; intro w6 hC6 hB6; have CU : Hid (Bs wr [(wr.heap.size, .cells #[.int .i64 3, .func (.func 91) #[] #[.pointer (some ⟨w.heap.size + 1, 0, none⟩), .pointer (some ⟨w.heap.size, 0, none⟩)]] 175)] w6) := hC6; have HR6 := Lib.hid (ownsRow.but (HR.out.alloc (.cells #[.int .i64 0, .nilFunc] 175)) hB6 (heap_alloc_new _ _) (by decide)); have HB6 := Lib.hid (but_below (HBL.out.alloc HSZ.out (.cells #[.int .i64 0, .nilFunc] 175)) (by have := HSZ.out; simp; omega) HSZ.out hB6); have HS6 : Hid (B ≤ w6.heap.size) := (by have h1 := hB6.size; have h2 := HSZ.out; unfold Hid; simp at h1; omega); clear hC6 hB6 CT ht0 ht1 HR HBL; have hu0 := CU.out.cell 0 rfl 0; have hu1 := CU.out.cell 0 rfl 1; have hl0 := (HB6.out.cell (p := ⟨w1.heap.size, 0, none⟩) HL.out.2.2.2.1).trans (CR.out.cell 3 rfl 0); have hl1 := (HB6.out.cell (p := ⟨w1.heap.size, 1, none⟩) HL.out.2.2.2.1).trans (CR.out.cell 3 rfl 1); have hl2 := (HB6.out.cell (p := ⟨w1.heap.size, 2, none⟩) HL.out.2.2.2.1).trans (CR.out.cell 3 rfl 2); have hm0 := (HB6.out.cell (p := ⟨w1.heap.size + 1, 0, none⟩) HL.out.2.2.2.2).trans (CR.out.cell 4 rfl 0); have hm1 := (HB6.out.cell (p := ⟨w1.heap.size + 1, 1, none⟩) HL.out.2.2.2.2).trans (CR.out.cell 4 rfl 1); have hm2 := (HB6.out.cell (p := ⟨w1.heap.size + 1, 2, none⟩) HL.out.2.2.2.2).trans (CR.out.cell 4 rfl 2))
      have HG6 : Hid (w6.heap[g]? = some (.cells (opC vw vx s c (waxOf s c)) 104)) := (HB6.out.block g (Nat.lt_trans HGL.out HL.out.1)).trans (block_keep HG.out CR.out.bel)
      have H2 := Lib.hid ((HB6.out.cell (p := ⟨w.heap.size, 0, none⟩) HL.out.1).trans (CR.out.cell 0 rfl 0))
      have H5 := Lib.hid ((HB6.out.cell (p := ⟨w.heap.size + 1, 0, none⟩) HL.out.2.1).trans (CR.out.cell 1 rfl 0))
      refine (HS3 w6 H2.out (Nat.lt_of_lt_of_le HL.out.1 HS6.out) H5.out (Nat.lt_of_lt_of_le HL.out.2.1 HS6.out) HG6.out).out.mono ?_
      rintro e w7 ⟨rfl, hbw⟩
      have CV := Lib.hid (CU.out.call hbw)
      have HR7 := Lib.hid (ownsRow.below HR6.out hbw)
      have HB7 := Lib.hid (HB6.out.trans (hbw.mono HS6.out))
      have HS7 : Hid (B ≤ w7.heap.size) := Nat.le_trans HS6.out hbw.size
      have HN4 := Lib.hid (HFL.out 2)
      clear hbw CU HR6 HB6 HS6 hu0 hu1 hl0 hl1 hl2 hm0 hm1 hm2 HG6 H2
      cases b3
      · go_wp2_with fail
        refine ⟨.inr (.inr (.inr (.inl ⟨rfl, by simpa [flt] using HR7.out, HB7.out, HS7.out⟩))), ?_⟩
        simp [intOf]
      · have hu0 := CV.out.cell 0 rfl 0
        have hn4 := HN4.out
        have hs7 := HS7.out
        go_wp2_with (at_builtin; refine wpList_append_own _ rfl _ _ 49 rfl B 3 i0 (.int .i64 0) 1 8 Tryz.underlying49 HI0.out HZ0.out HZ1.out HZ2.out rfl (by decide) _ _ _ rfl (HR7.out.alloc (.cells #[.int .i64 3] 3)) ⟨w7.heap.size, 0, none⟩ 1 1 [.int .i64 3] rfl rfl (cell_news _ _ _ _ (heap_alloc_new _ _)) (one_int _) (by unfold maxLen; omega) (by omega) (by simp; omega) ?_; intro v' w8 hown hgrow _; have HO8 := Lib.hid hown; have HB8 := Lib.hid ((HB7.out.alloc HS7.out (.cells #[.int .i64 3] 3)).grown hgrow (by simp; omega) (fun k e => (HR7.out.lt k e).1)); have HS8 : Hid (B ≤ w8.heap.size) := (by have h1 := hgrow.size; unfold Hid; simp at h1; omega); clear hown hgrow)
        refine ⟨.inr (.inr (.inr (.inl ⟨rfl, (by have e : flt b1 b2 true b4 3 = flt b1 b2 true b4 2 ++ [3] := (by simp [flt]); rw [e, List.length_append, List.map_append]; exact HO8.out), HB8.out, HS8.out⟩))), ?_⟩
        simp [intOf]
    · have HR := Lib.hid hrow
      have HBL := Lib.hid hbel
      have HSZ := Lib.hid hsz
      clear hrow hbel hsz
      obtain ⟨ra, rc, rfl⟩ := ownsRow_slice HR.out
      have ht0 := (HBL.out.cell (p := ⟨w.heap.size + 1 + 1, 6, none⟩) HL.out.2.2.1).trans (CR.out.cell 2 rfl 6)
      have ht1 := (HBL.out.cell (p := ⟨w.heap.size + 1 + 1, 7, none⟩) HL.out.2.2.1).trans (CR.out.cell 2 rfl 7)
      have CT := Lib.hid ((Bs.nil wr).push _ rfl (.cells #[.int .i64 0, .nilFunc] 175))
      go_wp2_with (refine wpList_store_bt rfl 175 _ _ rfl CT.out 0 _ #[.int .i64 4, .func (.func 92) #[] #[.pointer (some ⟨w.heap.size + 1, 0, none⟩), .pointer (some ⟨w.heap.size, 0, none⟩)]] _ _ rfl rfl rfl infoTest rfl (by simp [Value.oneCell']) ?_; intro w6 hC6 hB6; have CU : Hid (Bs wr [(wr.heap.size, .cells #[.int .i64 4, .func (.func 92) #[] #[.pointer (some ⟨w.heap.size + 1, 0, none⟩), .pointer (some ⟨w.heap.size, 0, none⟩)]] 175)] w6) := hC6; have HR6 := Lib.hid (ownsRow.but (HR.out.alloc (.cells #[.int .i64 0, .nilFunc] 175)) hB6 (heap_alloc_new _ _) (by decide)); have HB6 := Lib.hid (but_below (HBL.out.alloc HSZ.out (.cells #[.int .i64 0, .nilFunc] 175)) (by have := HSZ.out; simp; omega) HSZ.out hB6); have HS6 : Hid (B ≤ w6.heap.size) := (by have h1 := hB6.size; have h2 := HSZ.out; unfold Hid; simp at h1; omega); clear hC6 hB6 CT ht0 ht1 HR HBL; have hu0 := CU.out.cell 0 rfl 0; have hu1 := CU.out.cell 0 rfl 1; have hl0 := (HB6.out.cell (p := ⟨w1.heap.size, 0, none⟩) HL.out.2.2.2.1).trans (CR.out.cell 3 rfl 0); have hl1 := (HB6.out.cell (p := ⟨w1.heap.size, 1, none⟩) HL.out.2.2.2.1).trans (CR.out.cell 3 rfl 1); have hl2 := (HB6.out.cell (p := ⟨w1.heap.size, 2, none⟩) HL.out.2.2.2.1).trans (CR.out.cell 3 rfl 2); have hm0 := (HB6.out.cell (p := ⟨w1.heap.size + 1, 0, none⟩) HL.out.2.2.2.2).trans (CR.out.cell 4 rfl 0); have hm1 := (HB6.out.cell (p := ⟨w1.heap.size + 1, 1, none⟩) HL.out.2.2.2.2).trans (CR.out.cell 4 rfl 1); have hm2 := (HB6.out.cell (p := ⟨w1.heap.size + 1, 2, none⟩) HL.out.2.2.2.2).trans (CR.out.cell 4 rfl 2))
      have HG6 : Hid (w6.heap[g]? = some (.cells (opC vw vx s c (waxOf s c)) 104)) := (HB6.out.block g (Nat.lt_trans HGL.out HL.out.1)).trans (block_keep HG.out CR.out.bel)
      have H2 := Lib.hid ((HB6.out.cell (p := ⟨w.heap.size, 0, none⟩) HL.out.1).trans (CR.out.cell 0 rfl 0))
      have H5 := Lib.hid ((HB6.out.cell (p := ⟨w.heap.size + 1, 0, none⟩) HL.out.2.1).trans (CR.out.cell 1 rfl 0))
      refine (HS4 w6 H2.out (Nat.lt_of_lt_of_le HL.out.1 HS6.out) H5.out (Nat.lt_of_lt_of_le HL.out.2.1 HS6.out) HG6.out).out.mono ?_
      rintro e w7 ⟨rfl, hbw⟩
      have CV := Lib.hid (CU.out.call hbw)
      have HR7 := Lib.hid (ownsRow.below HR6.out hbw)
      have HB7 := Lib.hid (HB6.out.trans (hbw.mono HS6.out))
      have HS7 : Hid (B ≤ w7.heap.size) := Nat.le_trans HS6.out hbw.size
      have HN4 := Lib.hid (HFL.out 3)
      clear hbw CU HR6 HB6 HS6 hu0 hu1 hl0 hl1 hl2 hm0 hm1 hm2 HG6 H2
      cases b4
      · go_wp2_with fail
        refine ⟨.inr (.inr (.inr (.inr (⟨rfl, by simpa [flt] using HR7.out, HB7.out, HS7.out⟩)))), ?_⟩
        simp [intOf]
      · have hu0 := CV.out.cell 0 rfl 0
        have hn4 := HN4.out
        have hs7 := HS7.out
        go_wp2_with (at_builtin; refine wpList_append_own _ rfl _ _ 49 rfl B 3 i0 (.int .i64 0) 1 8 Tryz.underlying49 HI0.out HZ0.out HZ1.out HZ2.out rfl (by decide) _ _ _ rfl (HR7.out.alloc (.cells #[.int .i64 4] 3)) ⟨w7.heap.size, 0, none⟩ 1 1 [.int .i64 4] rfl rfl (cell_news _ _ _ _ (heap_alloc_new _ _)) (one_int _) (by unfold maxLen; omega) (by omega) (by simp; omega) ?_; intro v' w8 hown hgrow _; have HO8 := Lib.hid hown; have HB8 := Lib.hid ((HB7.out.alloc HS7.out (.cells #[.int .i64 4] 3)).grown hgrow (by simp; omega) (fun k e => (HR7.out.lt k e).1)); have HS8 : Hid (B ≤ w8.heap.size) := (by have h1 := hgrow.size; unfold Hid; simp at h1; omega); clear hown hgrow)
        refine ⟨.inr (.inr (.inr (.inr (⟨rfl, (by have e : flt b1 b2 b3 true 4 = flt b1 b2 b3 true 3 ++ [4] := (by simp [flt]); rw [e, List.length_append, List.map_append]; exact HO8.out), HB8.out, HS8.out⟩)))), ?_⟩
        simp [intOf]
    · have HR := Lib.hid hrow
      have HBL := Lib.hid hbel
      clear hrow hbel
      obtain ⟨ra, rc, rfl⟩ := ownsRow_slice HR.out
      go_wp2_with fail
      go_ret
      exact ⟨_, rfl, OwnInts.ints HR.out (by have := HFL.out 4; omega), CR.out.bel.trans (HBL.out.mono (by have := CR.out.bel.size; have := HBZ.out; omega))⟩
end Go.Proofs.YtpkggjobdmchlaaGreatDoor
