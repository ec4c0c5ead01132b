/- wick.faults. -/
import Derived.Test.YteebihcdgpfldaaGreatK3
import Derived.Test.YteebihcdgpfldaaGreatU8
namespace Go.Proofs.YteebihcdgpfldaaGreat
open Go.RowKit
theorem pool_ok (n dia : Int) (hn : 0 ≤ n ∧ n ≤ 2000) (hd : 1 ≤ dia ∧ dia ≤ 2000) (b2 g : Nat) (w : World) (h2 : w.cell? ⟨b2, 0, none⟩ = some (.pointer (some ⟨g, 0, none⟩))) (h7 : w.cell? ⟨g, 7, none⟩ = some (.int .i64 dia)) :
 Calls Tryz.prog 83 #[.int .i64 n, .pointer (some ⟨b2, 0, none⟩)] w fun e w' => e = .returned (.int .i64 (n * dia * 1000)) ∧ w = w' := by
 have m := mulb (a := n) (b := dia) (A := 2000) (B := 2000) hn (by omega)
 have H1 := Lib.hid (wrapU (x := n * dia) (by omega))
 have H2 := Lib.hid (wrapU (x := n * dia * 1000) (by omega))
 clear m hn hd
 go_enter Tryz.func83, Tryz.ntmps83
 go_wp2_with fail
 go_ret
 exact ⟨ret_int (by rw [H1.out, H2.out]), rfl⟩
set_option maxRecDepth 100000 in
theorem smokes_ok {s : WShop} {c : Candle} {x : Wax} (lo hi : Burn) (hbn : 0 ≤ s.flame.2 ∧ s.flame.2 ≤ 2000) (vw vx : Value) (b2 g : Nat) (w : World) (h2 : w.cell? ⟨b2, 0, none⟩ = some (.pointer (some ⟨g, 0, none⟩))) (l2 : b2 < w.heap.size) (hg : w.heap[g]? = some (.cells (opC vw vx s c x) 152)) :
 Calls Tryz.prog 84 #[.agg (burnC lo), .agg (burnC hi), .pointer (some ⟨b2, 0, none⟩)] w fun e w' => e = .returned (.bool (smokes s hi)) ∧ Below w.heap.size w w' := by
 obtain ⟨hb0, hb1⟩ := hbn
 have H2 := Lib.hid h2
 have HG := Lib.hid hg
 have HGL := Lib.hid (block_lt hg)
 have C0 : Hid (Bs w [(w.heap.size, .cells (burnC lo) 70), (w.heap.size + 1, .cells (burnC hi) 70)] _) := Lib.hid (((Bs.nil w).push _ rfl (.cells (burnC lo) 70)).push (w.heap.size + 1) (by simp) (.cells (burnC hi) 70))
 clear h2 hg
 unfold smokes
 go_enter Tryz.func84, Tryz.ntmps84
 go_wp2_with fail
 generalize (w.alloc (.cells #[.int .i64 lo.rate, .int .i64 lo.flame, .int .i64 lo.pool] 70)).alloc (.cells #[.int .i64 hi.rate, .int .i64 hi.flame, .int .i64 hi.pool] 70) = w0 at *
 refine wp_region_inv0 (by kernel_rfl) (by kernel_rfl) (fun D w' => Below w0.heap.size w0 w') (Below.refl _ _).drew ?_
 apply obl_det
 case hrun =>
  intro D y wz hW hD R hR
  have HRR := Lib.hid hR
  clear hR
  have HW := Lib.hid hW
  clear hW hD
  go_wp2_with fail
  exact HRR.out _ HW.out
 case hnp => rfl
 case hv => first | exact ⟨_, fun _ => rfl⟩ | exact ⟨undef, fun _ => rfl⟩
 apply obl_det
 case hrun =>
  intro D y wz hW hD R hR
  have HRR := Lib.hid hR
  clear hR
  have HW := Lib.hid hW
  have HZ := Lib.hid (C0.out.call HW.out)
  have h1 := HZ.out.cell 1 rfl 1
  clear hW hD
  go_wp2_with fail
  exact HRR.out _ HW.out
 case hnp => rfl
 case hv => first | exact ⟨_, fun _ => rfl⟩ | exact ⟨undef, fun _ => rfl⟩
 apply obl_det
 case hrun =>
  intro D y wz hW hD R hR
  have HRR := Lib.hid hR
  clear hR
  have HW := Lib.hid hW
  have HZ := Lib.hid (C0.out.call HW.out)
  have h1 := (HZ.out.bel.cell (p := ⟨b2, 0, none⟩) l2).trans H2.out
  clear hW hD
  go_wp2_with fail
  exact HRR.out _ HW.out
 case hnp => rfl
 case hv => first | exact ⟨_, fun _ => rfl⟩ | exact ⟨undef, fun _ => rfl⟩
 iterate 4
  (apply obl_det
   case hrun =>
    intro D y wz hW hD R hR
    have HRR := Lib.hid hR
    clear hR
    have HW := Lib.hid hW
    clear hW hD
    go_wp2_with fail
    exact HRR.out _ HW.out
   case hnp => rfl
   case hv => first | exact ⟨_, fun _ => rfl⟩ | exact ⟨undef, fun _ => rfl⟩)
 apply obl_det
 case hrun =>
  intro D y wz hW hD R hR
  have HRR := Lib.hid hR
  clear hR
  have HW := Lib.hid hW
  have HZ := Lib.hid (C0.out.call HW.out)
  have hgg := block_keep HG.out HZ.out.bel
  have h1 := cell_of_row _ _ 3 _ _ _ hgg
  clear hW hD
  go_wp2_with fail
  exact HRR.out _ HW.out
 case hnp => rfl
 case hv => first | exact ⟨_, fun _ => rfl⟩ | exact ⟨undef, fun _ => rfl⟩
 iterate 3
  (apply obl_det
   case hrun =>
    intro D y wz hW hD R hR
    have HRR := Lib.hid hR
    clear hR
    have HW := Lib.hid hW
    clear hW hD
    go_wp2_with fail
    exact HRR.out _ HW.out
   case hnp => rfl
   case hv => first | exact ⟨_, fun _ => rfl⟩ | exact ⟨undef, fun _ => rfl⟩)
 apply obl_nil
 intro D y w8 hall hW
 have HB := Lib.hid (C0.out.call hW)
 clear hall hW
 go_wp2_with fail
 go_ret
 exact ⟨rfl, HB.out.bel⟩
set_option maxRecDepth 100000 in
theorem goesOut_ok {s : WShop} {c : Candle} {x : Wax} (lo hi : Burn) (hbn : 0 ≤ s.flame.1 ∧ s.flame.1 ≤ 2000) (vw vx : Value) (b2 g : Nat) (w : World) (h2 : w.cell? ⟨b2, 0, none⟩ = some (.pointer (some ⟨g, 0, none⟩))) (l2 : b2 < w.heap.size) (hg : w.heap[g]? = some (.cells (opC vw vx s c x) 152)) :
 Calls Tryz.prog 85 #[.agg (burnC lo), .agg (burnC hi), .pointer (some ⟨b2, 0, none⟩)] w fun e w' => e = .returned (.bool (goesOut s lo)) ∧ Below w.heap.size w w' := by
 obtain ⟨hb0, hb1⟩ := hbn
 have H2 := Lib.hid h2
 have HG := Lib.hid hg
 have HGL := Lib.hid (block_lt hg)
 have C0 : Hid (Bs w [(w.heap.size, .cells (burnC lo) 70), (w.heap.size + 1, .cells (burnC hi) 70)] _) := Lib.hid (((Bs.nil w).push _ rfl (.cells (burnC lo) 70)).push (w.heap.size + 1) (by simp) (.cells (burnC hi) 70))
 clear h2 hg
 unfold goesOut
 go_enter Tryz.func85, Tryz.ntmps85
 go_wp2_with fail
 generalize (w.alloc (.cells #[.int .i64 lo.rate, .int .i64 lo.flame, .int .i64 lo.pool] 70)).alloc (.cells #[.int .i64 hi.rate, .int .i64 hi.flame, .int .i64 hi.pool] 70) = w0 at *
 refine wp_region_inv0 (by kernel_rfl) (by kernel_rfl) (fun D w' => Below w0.heap.size w0 w') (Below.refl _ _).drew ?_
 apply obl_det
 case hrun =>
  intro D y wz hW hD R hR
  have HRR := Lib.hid hR
  clear hR
  have HW := Lib.hid hW
  clear hW hD
  go_wp2_with fail
  exact HRR.out _ HW.out
 case hnp => rfl
 case hv => first | exact ⟨_, fun _ => rfl⟩ | exact ⟨undef, fun _ => rfl⟩
 apply obl_det
 case hrun =>
  intro D y wz hW hD R hR
  have HRR := Lib.hid hR
  clear hR
  have HW := Lib.hid hW
  have HZ := Lib.hid (C0.out.call HW.out)
  have h1 := HZ.out.cell 0 rfl 1
  clear hW hD
  go_wp2_with fail
  exact HRR.out _ HW.out
 case hnp => rfl
 case hv => first | exact ⟨_, fun _ => rfl⟩ | exact ⟨undef, fun _ => rfl⟩
 apply obl_det
 case hrun =>
  intro D y wz hW hD R hR
  have HRR := Lib.hid hR
  clear hR
  have HW := Lib.hid hW
  have HZ := Lib.hid (C0.out.call HW.out)
  have h1 := (HZ.out.bel.cell (p := ⟨b2, 0, none⟩) l2).trans H2.out
  clear hW hD
  go_wp2_with fail
  exact HRR.out _ HW.out
 case hnp => rfl
 case hv => first | exact ⟨_, fun _ => rfl⟩ | exact ⟨undef, fun _ => rfl⟩
 iterate 4
  (apply obl_det
   case hrun =>
    intro D y wz hW hD R hR
    have HRR := Lib.hid hR
    clear hR
    have HW := Lib.hid hW
    clear hW hD
    go_wp2_with fail
    exact HRR.out _ HW.out
   case hnp => rfl
   case hv => first | exact ⟨_, fun _ => rfl⟩ | exact ⟨undef, fun _ => rfl⟩)
 apply obl_det
 case hrun =>
  intro D y wz hW hD R hR
  have HRR := Lib.hid hR
  clear hR
  have HW := Lib.hid hW
  have HZ := Lib.hid (C0.out.call HW.out)
  have hgg := block_keep HG.out HZ.out.bel
  have h1 := cell_of_row _ _ 2 _ _ _ hgg
  clear hW hD
  go_wp2_with fail
  exact HRR.out _ HW.out
 case hnp => rfl
 case hv => first | exact ⟨_, fun _ => rfl⟩ | exact ⟨undef, fun _ => rfl⟩
 iterate 3
  (apply obl_det
   case hrun =>
    intro D y wz hW hD R hR
    have HRR := Lib.hid hR
    clear hR
    have HW := Lib.hid hW
    clear hW hD
    go_wp2_with fail
    exact HRR.out _ HW.out
   case hnp => rfl
   case hv => first | exact ⟨_, fun _ => rfl⟩ | exact ⟨undef, fun _ => rfl⟩)
 apply obl_nil
 intro D y w8 hall hW
 have HB := Lib.hid (C0.out.call hW)
 clear hall hW
 go_wp2_with fail
 go_ret
 exact ⟨rfl, HB.out.bel⟩
set_option maxRecDepth 100000 in
theorem tunnels_ok {s : WShop} {c : Candle} {x : Wax} (lo hi : Burn) (hbn : 0 ≤ s.pool.1 ∧ s.pool.1 ≤ 2000) (vw vx : Value) (b2 b5 g : Nat) (w : World) (h2 : w.cell? ⟨b2, 0, none⟩ = some (.pointer (some ⟨g, 0, none⟩))) (l2 : b2 < w.heap.size) (h5 : w.cell? ⟨b5, 0, none⟩ = some (.func (.func 83) #[] #[.pointer (some ⟨b2, 0, none⟩)])) (l5 : b5 < w.heap.size) (hdi : 1 ≤ c.dia ∧ c.dia ≤ 2000) (hg : w.heap[g]? = some (.cells (opC vw vx s c x) 152)) :
 Calls Tryz.prog 86 #[.agg (burnC lo), .agg (burnC hi), .pointer (some ⟨b5, 0, none⟩), .pointer (some ⟨b2, 0, none⟩)] w fun e w' => e = .returned (.bool (tunnels s c lo)) ∧ Below w.heap.size w w' := by
 obtain ⟨hb0, hb1⟩ := hbn
 have H2 := Lib.hid h2
 have HG := Lib.hid hg
 have HGL := Lib.hid (block_lt hg)
 have C0 : Hid (Bs w [(w.heap.size, .cells (burnC lo) 70), (w.heap.size + 1, .cells (burnC hi) 70)] _) := Lib.hid (((Bs.nil w).push _ rfl (.cells (burnC lo) 70)).push (w.heap.size + 1) (by simp) (.cells (burnC hi) 70))
 have H5 := Lib.hid h5
 clear h5
 have HPO := fun w a b => Lib.hid (pool_ok s.pool.1 c.dia ⟨hb0, hb1⟩ hdi b2 g w a b)
 clear hdi
 clear h2 hg
 unfold tunnels
 go_enter Tryz.func86, Tryz.ntmps86
 go_wp2_with fail
 generalize (w.alloc (.cells #[.int .i64 lo.rate, .int .i64 lo.flame, .int .i64 lo.pool] 70)).alloc (.cells #[.int .i64 hi.rate, .int .i64 hi.flame, .int .i64 hi.pool] 70) = w0 at *
 refine wp_region_inv0 (by kernel_rfl) (by kernel_rfl) (fun D w' => Below w0.heap.size w0 w') (Below.refl _ _).drew ?_
 apply obl_det
 case hrun =>
  intro D y wz hW hD R hR
  have HRR := Lib.hid hR
  clear hR
  have HW := Lib.hid hW
  clear hW hD
  go_wp2_with fail
  exact HRR.out _ HW.out
 case hnp => rfl
 case hv => first | exact ⟨_, fun _ => rfl⟩ | exact ⟨undef, fun _ => rfl⟩
 apply obl_det
 case hrun =>
  intro D y wz hW hD R hR
  have HRR := Lib.hid hR
  clear hR
  have HW := Lib.hid hW
  have HZ := Lib.hid (C0.out.call HW.out)
  have h1 := HZ.out.cell 0 rfl 2
  clear hW hD
  go_wp2_with fail
  exact HRR.out _ HW.out
 case hnp => rfl
 case hv => first | exact ⟨_, fun _ => rfl⟩ | exact ⟨undef, fun _ => rfl⟩
 apply obl_det
 case hrun =>
  intro D y wz hW hD R hR
  have HRR := Lib.hid hR
  clear hR
  have HW := Lib.hid hW
  have HZ := Lib.hid (C0.out.call HW.out)
  have h1 := (HZ.out.bel.cell (p := ⟨b5, 0, none⟩) l5).trans H5.out
  clear hW hD
  go_wp2_with fail
  exact HRR.out _ HW.out
 case hnp => rfl
 case hv => first | exact ⟨_, fun _ => rfl⟩ | exact ⟨undef, fun _ => rfl⟩
 apply obl_det
 case hrun =>
  intro D y wz hW hD R hR
  have HRR := Lib.hid hR
  clear hR
  have HW := Lib.hid hW
  have HZ := Lib.hid (C0.out.call HW.out)
  have h1 := (HZ.out.bel.cell (p := ⟨b2, 0, none⟩) l2).trans H2.out
  clear hW hD
  go_wp2_with fail
  exact HRR.out _ HW.out
 case hnp => rfl
 case hv => first | exact ⟨_, fun _ => rfl⟩ | exact ⟨undef, fun _ => rfl⟩
 iterate 4
  (apply obl_det
   case hrun =>
    intro D y wz hW hD R hR
    have HRR := Lib.hid hR
    clear hR
    have HW := Lib.hid hW
    clear hW hD
    go_wp2_with fail
    exact HRR.out _ HW.out
   case hnp => rfl
   case hv => first | exact ⟨_, fun _ => rfl⟩ | exact ⟨undef, fun _ => rfl⟩)
 apply obl_det
 case hrun =>
  intro D y wz hW hD R hR
  have HRR := Lib.hid hR
  clear hR
  have HW := Lib.hid hW
  have HZ := Lib.hid (C0.out.call HW.out)
  have hgg := block_keep HG.out HZ.out.bel
  have h1 := cell_of_row _ _ 4 _ _ _ hgg
  clear hW hD
  go_wp2_with fail
  exact HRR.out _ HW.out
 case hnp => rfl
 case hv => first | exact ⟨_, fun _ => rfl⟩ | exact ⟨undef, fun _ => rfl⟩
 apply obl_det
 case hrun =>
  intro D y wz hW hD R hR
  have HRR := Lib.hid hR
  clear hR
  have HW := Lib.hid hW
  have HZ := Lib.hid (C0.out.call HW.out)
  have hgg := Lib.hid (block_keep HG.out HZ.out.bel)
  have h5 := Lib.hid ((HZ.out.bel.cell (p := ⟨b2, 0, none⟩) l2).trans H2.out)
  clear hW hD
  go_wp2_with fail
  refine (HPO _ h5.out (cell_of_row _ _ 7 _ _ _ hgg.out)).out.mono ?_
  rintro e w' ⟨rfl, rfl⟩
  go_wp2_with fail
  exact HRR.out _ HW.out
 case hnp => rfl
 case hv => first | exact ⟨_, fun _ => rfl⟩ | exact ⟨undef, fun _ => rfl⟩
 iterate 2
  (apply obl_det
   case hrun =>
    intro D y wz hW hD R hR
    have HRR := Lib.hid hR
    clear hR
    have HW := Lib.hid hW
    clear hW hD
    go_wp2_with fail
    exact HRR.out _ HW.out
   case hnp => rfl
   case hv => first | exact ⟨_, fun _ => rfl⟩ | exact ⟨undef, fun _ => rfl⟩)
 apply obl_nil
 intro D y w8 hall hW
 have HB := Lib.hid (C0.out.call hW)
 clear hall hW
 go_wp2_with fail
 go_ret
 exact ⟨rfl, HB.out.bel⟩
set_option maxRecDepth 100000 in
theorem runs_ok {s : WShop} {c : Candle} {x : Wax} (lo hi : Burn) (hbn : 0 ≤ s.pool.2 ∧ s.pool.2 ≤ 2000) (vw vx : Value) (b2 b5 g : Nat) (w : World) (h2 : w.cell? ⟨b2, 0, none⟩ = some (.pointer (some ⟨g, 0, none⟩))) (l2 : b2 < w.heap.size) (h5 : w.cell? ⟨b5, 0, none⟩ = some (.func (.func 83) #[] #[.pointer (some ⟨b2, 0, none⟩)])) (l5 : b5 < w.heap.size) (hdi : 1 ≤ c.dia ∧ c.dia ≤ 2000) (hg : w.heap[g]? = some (.cells (opC vw vx s c x) 152)) :
 Calls Tryz.prog 87 #[.agg (burnC lo), .agg (burnC hi), .pointer (some ⟨b5, 0, none⟩), .pointer (some ⟨b2, 0, none⟩)] w fun e w' => e = .returned (.bool (runs s c hi)) ∧ Below w.heap.size w w' := by
 obtain ⟨hb0, hb1⟩ := hbn
 have H2 := Lib.hid h2
 have HG := Lib.hid hg
 have HGL := Lib.hid (block_lt hg)
 have C0 : Hid (Bs w [(w.heap.size, .cells (burnC lo) 70), (w.heap.size + 1, .cells (burnC hi) 70)] _) := Lib.hid (((Bs.nil w).push _ rfl (.cells (burnC lo) 70)).push (w.heap.size + 1) (by simp) (.cells (burnC hi) 70))
 have H5 := Lib.hid h5
 clear h5
 have HPO := fun w a b => Lib.hid (pool_ok s.pool.2 c.dia ⟨hb0, hb1⟩ hdi b2 g w a b)
 clear hdi
 clear h2 hg
 unfold runs
 go_enter Tryz.func87, Tryz.ntmps87
 go_wp2_with fail
 generalize (w.alloc (.cells #[.int .i64 lo.rate, .int .i64 lo.flame, .int .i64 lo.pool] 70)).alloc (.cells #[.int .i64 hi.rate, .int .i64 hi.flame, .int .i64 hi.pool] 70) = w0 at *
 refine wp_region_inv0 (by kernel_rfl) (by kernel_rfl) (fun D w' => Below w0.heap.size w0 w') (Below.refl _ _).drew ?_
 apply obl_det
 case hrun =>
  intro D y wz hW hD R hR
  have HRR := Lib.hid hR
  clear hR
  have HW := Lib.hid hW
  clear hW hD
  go_wp2_with fail
  exact HRR.out _ HW.out
 case hnp => rfl
 case hv => first | exact ⟨_, fun _ => rfl⟩ | exact ⟨undef, fun _ => rfl⟩
 apply obl_det
 case hrun =>
  intro D y wz hW hD R hR
  have HRR := Lib.hid hR
  clear hR
  have HW := Lib.hid hW
  have HZ := Lib.hid (C0.out.call HW.out)
  have h1 := HZ.out.cell 1 rfl 2
  clear hW hD
  go_wp2_with fail
  exact HRR.out _ HW.out
 case hnp => rfl
 case hv => first | exact ⟨_, fun _ => rfl⟩ | exact ⟨undef, fun _ => rfl⟩
 apply obl_det
 case hrun =>
  intro D y wz hW hD R hR
  have HRR := Lib.hid hR
  clear hR
  have HW := Lib.hid hW
  have HZ := Lib.hid (C0.out.call HW.out)
  have h1 := (HZ.out.bel.cell (p := ⟨b5, 0, none⟩) l5).trans H5.out
  clear hW hD
  go_wp2_with fail
  exact HRR.out _ HW.out
 case hnp => rfl
 case hv => first | exact ⟨_, fun _ => rfl⟩ | exact ⟨undef, fun _ => rfl⟩
 apply obl_det
 case hrun =>
  intro D y wz hW hD R hR
  have HRR := Lib.hid hR
  clear hR
  have HW := Lib.hid hW
  have HZ := Lib.hid (C0.out.call HW.out)
  have h1 := (HZ.out.bel.cell (p := ⟨b2, 0, none⟩) l2).trans H2.out
  clear hW hD
  go_wp2_with fail
  exact HRR.out _ HW.out
 case hnp => rfl
 case hv => first | exact ⟨_, fun _ => rfl⟩ | exact ⟨undef, fun _ => rfl⟩
 iterate 4
  (apply obl_det
   case hrun =>
    intro D y wz hW hD R hR
    have HRR := Lib.hid hR
    clear hR
    have HW := Lib.hid hW
    clear hW hD
    go_wp2_with fail
    exact HRR.out _ HW.out
   case hnp => rfl
   case hv => first | exact ⟨_, fun _ => rfl⟩ | exact ⟨undef, fun _ => rfl⟩)
 apply obl_det
 case hrun =>
  intro D y wz hW hD R hR
  have HRR := Lib.hid hR
  clear hR
  have HW := Lib.hid hW
  have HZ := Lib.hid (C0.out.call HW.out)
  have hgg := block_keep HG.out HZ.out.bel
  have h1 := cell_of_row _ _ 5 _ _ _ hgg
  clear hW hD
  go_wp2_with fail
  exact HRR.out _ HW.out
 case hnp => rfl
 case hv => first | exact ⟨_, fun _ => rfl⟩ | exact ⟨undef, fun _ => rfl⟩
 apply obl_det
 case hrun =>
  intro D y wz hW hD R hR
  have HRR := Lib.hid hR
  clear hR
  have HW := Lib.hid hW
  have HZ := Lib.hid (C0.out.call HW.out)
  have hgg := Lib.hid (block_keep HG.out HZ.out.bel)
  have h5 := Lib.hid ((HZ.out.bel.cell (p := ⟨b2, 0, none⟩) l2).trans H2.out)
  clear hW hD
  go_wp2_with fail
  refine (HPO _ h5.out (cell_of_row _ _ 7 _ _ _ hgg.out)).out.mono ?_
  rintro e w' ⟨rfl, rfl⟩
  go_wp2_with fail
  exact HRR.out _ HW.out
 case hnp => rfl
 case hv => first | exact ⟨_, fun _ => rfl⟩ | exact ⟨undef, fun _ => rfl⟩
 iterate 2
  (apply obl_det
   case hrun =>
    intro D y wz hW hD R hR
    have HRR := Lib.hid hR
    clear hR
    have HW := Lib.hid hW
    clear hW hD
    go_wp2_with fail
    exact HRR.out _ HW.out
   case hnp => rfl
   case hv => first | exact ⟨_, fun _ => rfl⟩ | exact ⟨undef, fun _ => rfl⟩)
 apply obl_nil
 intro D y w8 hall hW
 have HB := Lib.hid (C0.out.call hW)
 clear hall hW
 go_wp2_with fail
 go_ret
 exact ⟨rfl, HB.out.bel⟩
end Go.Proofs.YteebihcdgpfldaaGreat
