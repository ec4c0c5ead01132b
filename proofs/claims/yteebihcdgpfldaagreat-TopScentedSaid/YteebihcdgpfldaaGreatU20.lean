/- stearinlaw03: span, among, Truth, Shop, Candle, sized; stearinref03.Wrong where nothing is wrong. -/
import Derived.Test.YteebihcdgpfldaaGreatU19
import Derived.Test.YteebihcdgpfldaaGreatU17
namespace Go.Proofs.YteebihcdgpfldaaGreat
open Go.RowKit
theorem span32w (lo hi : Int) (w : World) : Calls Tryz.prog 32 #[.int .i64 lo, .int .i64 hi] w
 fun e w' => e = .returned (.agg #[.int .i64 lo, .int .i64 hi]) ∧ Below w.heap.size w w' := by
 have HB := Lib.hid ((Below.refl w.heap.size w).alloc (Nat.le_refl _) (.cells #[.int .i64 lo, .int .i64 hi] 30))
 have HR := Lib.hid (heap_alloc_new w (.cells #[.int .i64 lo, .int .i64 hi] 30))
 go_enter Tryz.func32, Tryz.ntmps32
 go_wp2_with fail
 exact bodyPost_ret (v := .agg #[.int .i64 lo, .int .i64 hi]) (results_cell_row (fn := Tryz.f32) rfl _ _ _ _ _ _ _ rfl HR.out Tryz.underlying30 rfl infoSpan) rfl ⟨rfl, HB.out⟩
set_option maxHeartbeats 4000000 in
theorem among55w (p : Int × Int) (n : Int) (w : World) (hp : -1000000000000000 ≤ p.1 ∧ p.1 ≤ p.2 ∧ p.2 ≤ 1000000000000000) (hn : 0 ≤ n) :
 Calls Tryz.prog 55 #[.agg #[.int .i64 p.1, .int .i64 p.2], .int .i64 n] w fun e w' => e = .returned (.int .i64 (amongW p n)) ∧ Below w.heap.size w w' := by
 have hin := among_in hp.2.1 n
 have HA : Hid (p.1 + n % (p.2 - p.1 + 1) = amongW p n) := rfl
 generalize amongW p n = A at *
 obtain ⟨x, y⟩ := p
 simp only at hp hin HA ⊢
 have hr1 := Int.emod_nonneg n (show y - x + 1 ≠ 0 by omega)
 have hr2 := Int.emod_lt_of_pos n (show 0 < y - x + 1 by omega)
 have C0 : Hid (Bs w [(w.heap.size, .cells #[.int .i64 x, .int .i64 y] 30)] _) := (Bs.nil w).push _ rfl (.cells #[.int .i64 x, .int .i64 y] 30)
 go_enter Tryz.func55, Tryz.ntmps55
 go_wp2_with fail
 refine wp_region_inv0 (by kernel_rfl) (by kernel_rfl) (fun D w' => Bs w [(w.heap.size, .cells #[.int .i64 x, .int .i64 y] 30)] w') C0.out.drew ?_
 apply obl_det
 case hrun =>
  intro D y wz hW hD R hR
  have HRR := Lib.hid hR
  clear hR
  have HW := Lib.hid hW
  clear hW hD
  go_wp2_with fail
  exact HRR.out _ HW.out
 case hnp => rfl
 case hv => first | exact ⟨_, fun _ => rfl⟩ | exact ⟨undef, fun _ => rfl⟩
 apply obl_det
 case hrun =>
  intro D y wz hW hD R hR
  have HRR := Lib.hid hR
  clear hR
  have HW := Lib.hid hW
  have h1 := HW.out.cell 0 rfl 0
  clear hW hD
  go_wp2_with fail
  exact HRR.out _ HW.out
 case hnp => rfl
 case hv => first | exact ⟨_, fun _ => rfl⟩ | exact ⟨undef, fun _ => rfl⟩
 iterate 2
  (apply obl_det
   case hrun =>
    intro D y wz hW hD R hR
    have HRR := Lib.hid hR
    clear hR
    have HW := Lib.hid hW
    clear hW hD
    go_wp2_with fail
    exact HRR.out _ HW.out
   case hnp => rfl
   case hv => first | exact ⟨_, fun _ => rfl⟩ | exact ⟨undef, fun _ => rfl⟩)
 apply obl_det
 case hrun =>
  intro D y wz hW hD R hR
  have HRR := Lib.hid hR
  clear hR
  have HW := Lib.hid hW
  have h1 := HW.out.cell 0 rfl 1
  clear hW hD
  go_wp2_with fail
  exact HRR.out _ HW.out
 case hnp => rfl
 case hv => first | exact ⟨_, fun _ => rfl⟩ | exact ⟨undef, fun _ => rfl⟩
 apply obl_det
 case hrun =>
  intro D y wz hW hD R hR
  have HRR := Lib.hid hR
  clear hR
  have HW := Lib.hid hW
  clear hW hD
  go_wp2_with fail
  exact HRR.out _ HW.out
 case hnp => rfl
 case hv => first | exact ⟨_, fun _ => rfl⟩ | exact ⟨undef, fun _ => rfl⟩
 apply obl_det
 case hrun =>
  intro D y wz hW hD R hR
  have HRR := Lib.hid hR
  clear hR
  have HW := Lib.hid hW
  have h1 := HW.out.cell 0 rfl 0
  clear hW hD
  go_wp2_with fail
  exact HRR.out _ HW.out
 case hnp => rfl
 case hv => first | exact ⟨_, fun _ => rfl⟩ | exact ⟨undef, fun _ => rfl⟩
 iterate 3
  (apply obl_det
   case hrun =>
    intro D y wz hW hD R hR
    have HRR := Lib.hid hR
    clear hR
    have HW := Lib.hid hW
    clear hW hD
    go_wp2_with fail
    exact HRR.out _ HW.out
   case hnp => rfl
   case hv => first | exact ⟨_, fun _ => rfl⟩ | exact ⟨undef, fun _ => rfl⟩)
 apply obl_det
 case hrun =>
  intro D y wz hW hD R hR
  have HRR := Lib.hid hR
  clear hR
  have HW := Lib.hid hW
  clear hW hD
  go_wp2_with fail
  rw [HA.out]
  exact HRR.out _ HW.out
 case hnp => rfl
 case hv => first | exact ⟨_, fun _ => rfl⟩ | exact ⟨undef, fun _ => rfl⟩
 apply obl_det
 case hrun =>
  intro D y wz hW hD R hR
  have HRR := Lib.hid hR
  clear hR
  have HW := Lib.hid hW
  clear hW hD
  go_wp2_with fail
  exact HRR.out _ HW.out
 case hnp => rfl
 case hv => first | exact ⟨_, fun _ => rfl⟩ | exact ⟨undef, fun _ => rfl⟩
 apply obl_nil
 intro D y w8 hall hW
 have HB := Lib.hid hW.bel
 clear hall hW
 go_wp2_with fail
 go_ret
 exact ⟨rfl, HB.out⟩
set_option maxRecDepth 100000 in
set_option maxHeartbeats 16000000 in
/-- Truth -/
theorem truth12w {s : WShop} {c : Candle} (hs : WOk s c) (k : Nat) (hk : k < s.wicks.length) (x : Nat → Int) (hx : ∀ i, 0 ≤ x i ∧ x i ≤ 65535) (vw vx : Value) (w : World) (hv : WShopAt w.heap.size w vw vx s) :
 Calls Tryz.prog 12 #[.agg (wshopC vw vx s), .int .i64 k, .agg (candC c), .agg #[.int .u16 (x 0), .int .u16 (x 1), .int .u16 (x 2), .int .u16 (x 3), .int .u16 (x 4), .int .u16 (x 5)]] w fun e w' => e = .returned (.agg (wtruC (wtruthV s k c x))) ∧ Below w.heap.size w w' := by
 obtain ⟨va, vc, rfl, hvc, -⟩ := sl_shape hv.1
 obtain ⟨xa, xc, rfl, hxc, -⟩ := sl_shape hv.2
 have HVB := Lib.hid hv
 have HXB := Lib.hid hx
 have hwax := hs.wax
 have hxi : c.wax.toNat < s.waxes.length := by omega
 have HCW : Hid (((c.wax.toNat : Nat) : Int) = c.wax) := by unfold Hid; omega
 have HNN := Lib.hid (show ∀ i, Hid (0 ≤ x i) from fun i => (hx i).1)
 have hwx := hs.bok hk
 have hdr := hs.draught
 have HA0 := fun w => Lib.hid (among55w (s.wicks.getD k default).pull (x 0) w (by have := hs.pull k hk; omega) (hx 0).1)
 have HA1 := fun w => Lib.hid (among55w (waxOf s c).flow (x 1) w (by have := hs.flow _ hxi; show _ ≤ (s.waxes.getD c.wax.toNat default).flow.1 ∧ (s.waxes.getD c.wax.toNat default).flow.1 ≤ (s.waxes.getD c.wax.toNat default).flow.2 ∧ (s.waxes.getD c.wax.toNat default).flow.2 ≤ _; omega) (hx 1).1)
 have HA2 := fun w => Lib.hid (among55w (waxOf s c).rise (x 2) w (by have := hs.rise _ hxi; show _ ≤ (s.waxes.getD c.wax.toNat default).rise.1 ∧ (s.waxes.getD c.wax.toNat default).rise.1 ≤ (s.waxes.getD c.wax.toNat default).rise.2 ∧ (s.waxes.getD c.wax.toNat default).rise.2 ≤ _; omega) (hx 2).1)
 have HA3 := fun w => Lib.hid (among55w (waxOf s c).spread (x 3) w (by have := hs.spread _ hxi; show _ ≤ (s.waxes.getD c.wax.toNat default).spread.1 ∧ (s.waxes.getD c.wax.toNat default).spread.1 ≤ (s.waxes.getD c.wax.toNat default).spread.2 ∧ (s.waxes.getD c.wax.toNat default).spread.2 ≤ _; omega) (hx 3).1)
 have HA4 := fun w => Lib.hid (among55w (-c.draught, c.draught) (x 4) w (by simp only; omega) (hx 4).1)
 have HA5 := fun w => Lib.hid (among55w c.cold (x 5) w (by have := hs.cold; omega) (hx 5).1)
 have HND : Hid (wrap64 (-c.draught) = -c.draught) := wrapU (by omega)
 have HR : Hid (wtruthV s k c x = ⟨amongW (s.wicks.getD k default).pull (x 0), amongW (waxOf s c).flow (x 1), amongW (waxOf s c).rise (x 2), amongW (waxOf s c).spread (x 3), amongW (-c.draught, c.draught) (x 4), amongW c.cold (x 5)⟩) := rfl
 generalize wtruthV s k c x = T at *
 generalize amongW (s.wicks.getD k default).pull (x 0) = a0 at *
 generalize amongW (waxOf s c).flow (x 1) = a1 at *
 generalize amongW (waxOf s c).rise (x 2) = a2 at *
 generalize amongW (waxOf s c).spread (x 3) = a3 at *
 generalize amongW (-c.draught, c.draught) (x 4) = a4 at *
 generalize amongW c.cold (x 5) = a5 at *
 have hT := HR.out
 subst hT
 clear HR hx
 obtain ⟨b, o, he, hbl, hx0, hx1, hx2, hx3, hx4, hx5, hx6, hx7, -⟩ := hv.2.at' hxi
 cases he
 obtain ⟨b2, o2, he, hbl2, hz0, hz1, hz2, hz3, -⟩ := hv.1.at' hk
 cases he
 have HXD : Hid (waxOf s c = s.waxes.getD c.wax.toNat default) := rfl
 have HX0 : Hid (w.cell? ⟨b, o + c.wax.toNat * 8, none⟩ = some (.string (waxOf s c).name)) := hx0
 have HX1 : Hid (w.cell? ⟨b, o + c.wax.toNat * 8 + 1, none⟩ = some (.int .i64 (waxOf s c).flow.1)) := hx1
 have HX2 : Hid (w.cell? ⟨b, o + c.wax.toNat * 8 + 2, none⟩ = some (.int .i64 (waxOf s c).flow.2)) := hx2
 have HX3 : Hid (w.cell? ⟨b, o + c.wax.toNat * 8 + 3, none⟩ = some (.int .i64 (waxOf s c).rise.1)) := hx3
 have HX4 : Hid (w.cell? ⟨b, o + c.wax.toNat * 8 + 4, none⟩ = some (.int .i64 (waxOf s c).rise.2)) := hx4
 have HX5 : Hid (w.cell? ⟨b, o + c.wax.toNat * 8 + 5, none⟩ = some (.int .i64 (waxOf s c).spread.1)) := hx5
 have HX6 : Hid (w.cell? ⟨b, o + c.wax.toNat * 8 + 6, none⟩ = some (.int .i64 (waxOf s c).spread.2)) := hx6
 have HX7 : Hid (w.cell? ⟨b, o + c.wax.toNat * 8 + 7, none⟩ = some (.int .i64 (waxOf s c).chill)) := hx7
 have HBL := Lib.hid hbl
 have HBL2 := Lib.hid hbl2
 have HZ2 := Lib.hid hz2
 have HZ3 := Lib.hid hz3
 have HCI : Hid ((c.wax.toNat : Int) < (s.waxes.length : Int)) := by unfold Hid; omega
 have HKI : Hid ((k : Int) < (s.wicks.length : Int)) := by unfold Hid; omega
 clear hx0 hx1 hx2 hx3 hx4 hx5 hx6 hx7 hz0 hz1 hz2 hz3 hbl hbl2 hv hs hwx hwax hdr HVB
 generalize waxOf s c = X at *
 generalize (s.wicks.getD k default).pull = P at *
 have C0 : Hid (Bs w [(w.heap.size, .cells #[.slice (some ⟨b2, o2, none⟩) s.wicks.length vc, .slice (some ⟨b, o, none⟩) s.waxes.length xc, .int .i64 s.flame.1, .int .i64 s.flame.2, .int .i64 s.pool.1, .int .i64 s.pool.2] 32), (w.heap.size + 1, .cells #[.int .i64 c.wax, .int .i64 c.dia, .int .i64 c.draught, .int .i64 c.cold.1, .int .i64 c.cold.2] 34), (w.heap.size + 1 + 1, .cells #[.int .u16 (x 0), .int .u16 (x 1), .int .u16 (x 2), .int .u16 (x 3), .int .u16 (x 4), .int .u16 (x 5)] 36), (w.heap.size + 1 + 1 + 1, .cells #[.int .i64 0, .int .i64 0, .int .i64 0, .int .i64 0, .int .i64 0, .int .i64 0] 63)] _) := Lib.hid (((((Bs.nil w).push _ rfl (.cells #[.slice (some ⟨b2, o2, none⟩) s.wicks.length vc, .slice (some ⟨b, o, none⟩) s.waxes.length xc, .int .i64 s.flame.1, .int .i64 s.flame.2, .int .i64 s.pool.1, .int .i64 s.pool.2] 32)).push (w.heap.size + 1) (by simp) (.cells #[.int .i64 c.wax, .int .i64 c.dia, .int .i64 c.draught, .int .i64 c.cold.1, .int .i64 c.cold.2] 34)).push (w.heap.size + 1 + 1) (by simp) (.cells #[.int .u16 (x 0), .int .u16 (x 1), .int .u16 (x 2), .int .u16 (x 3), .int .u16 (x 4), .int .u16 (x 5)] 36)).push (w.heap.size + 1 + 1 + 1) (by simp) (.cells #[.int .i64 0, .int .i64 0, .int .i64 0, .int .i64 0, .int .i64 0, .int .i64 0] 63))
 have hc1 := C0.out.cell 0 rfl 1
 have hk0 : (((w.alloc (.cells #[.slice (some ⟨b2, o2, none⟩) s.wicks.length vc, .slice (some ⟨b, o, none⟩) s.waxes.length xc, .int .i64 s.flame.1, .int .i64 s.flame.2, .int .i64 s.pool.1, .int .i64 s.pool.2] 32)).alloc (.cells #[.int .i64 c.wax, .int .i64 c.dia, .int .i64 c.draught, .int .i64 c.cold.1, .int .i64 c.cold.2] 34)).alloc (.cells #[.int .u16 (x 0), .int .u16 (x 1), .int .u16 (x 2), .int .u16 (x 3), .int .u16 (x 4), .int .u16 (x 5)] 36) |>.alloc (.cells #[.int .i64 0, .int .i64 0, .int .i64 0, .int .i64 0, .int .i64 0, .int .i64 0] 63)).cell? ⟨w.heap.size + 1, 0, none⟩ = some (.int .i64 (c.wax.toNat : Int)) := by rw [HCW.out]; exact C0.out.cell 1 rfl 0
 have hy0 := (C0.out.bel.cell (p := ⟨b, o + c.wax.toNat * 8, none⟩) HBL.out).trans HX0.out
 have hy1 := (C0.out.bel.cell (p := ⟨b, o + c.wax.toNat * 8 + 1, none⟩) HBL.out).trans HX1.out
 have hy2 := (C0.out.bel.cell (p := ⟨b, o + c.wax.toNat * 8 + 2, none⟩) HBL.out).trans HX2.out
 have hy3 := (C0.out.bel.cell (p := ⟨b, o + c.wax.toNat * 8 + 3, none⟩) HBL.out).trans HX3.out
 have hy4 := (C0.out.bel.cell (p := ⟨b, o + c.wax.toNat * 8 + 4, none⟩) HBL.out).trans HX4.out
 have hy5 := (C0.out.bel.cell (p := ⟨b, o + c.wax.toNat * 8 + 5, none⟩) HBL.out).trans HX5.out
 have hy6 := (C0.out.bel.cell (p := ⟨b, o + c.wax.toNat * 8 + 6, none⟩) HBL.out).trans HX6.out
 have hy7 := (C0.out.bel.cell (p := ⟨b, o + c.wax.toNat * 8 + 7, none⟩) HBL.out).trans HX7.out
 have hci := HCI.out
 have CP := Lib.hid (C0.out.push (w.heap.size + 1 + 1 + 1 + 1) (by simp) (.cells #[.string ByteArray.empty, .int .i64 0, .int .i64 0, .int .i64 0, .int .i64 0, .int .i64 0, .int .i64 0, .int .i64 0] 133))
 have hcw := HCW.out
 generalize hcwx : c.wax.toNat = xi at *
 go_enter Tryz.func12, Tryz.ntmps12
 go_wp2_with (refine wpList_store_bs rfl 133 _ _ rfl CP.out 4 _ _ _ _ rfl rfl rfl infoWax rfl (by simp [Value.oneCell']) ?_; intro w5 hC5; have C5 : Hid (Bs w [(w.heap.size, .cells #[.slice (some ⟨b2, o2, none⟩) s.wicks.length vc, .slice (some ⟨b, o, none⟩) s.waxes.length xc, .int .i64 s.flame.1, .int .i64 s.flame.2, .int .i64 s.pool.1, .int .i64 s.pool.2] 32), (w.heap.size + 1, .cells #[.int .i64 c.wax, .int .i64 c.dia, .int .i64 c.draught, .int .i64 c.cold.1, .int .i64 c.cold.2] 34), (w.heap.size + 1 + 1, .cells #[.int .u16 (x 0), .int .u16 (x 1), .int .u16 (x 2), .int .u16 (x 3), .int .u16 (x 4), .int .u16 (x 5)] 36), (w.heap.size + 1 + 1 + 1, .cells #[.int .i64 0, .int .i64 0, .int .i64 0, .int .i64 0, .int .i64 0, .int .i64 0] 63), (w.heap.size + 1 + 1 + 1 + 1, .cells #[.string X.name, .int .i64 X.flow.1, .int .i64 X.flow.2, .int .i64 X.rise.1, .int .i64 X.rise.2, .int .i64 X.spread.1, .int .i64 X.spread.2, .int .i64 X.chill] 133)] w5) := hC5; clear hC5 CP C0 hk0 hc1 hy0 hy1 hy2 hy3 hy4 hy5 hy6 hy7 hci)
 clear HX0 HX1 HX2 HX3 HX4 HX5 HX6 HX7 HBL HCW hcw hcwx HCI
 refine wp_region_inv0 (by kernel_rfl) (by kernel_rfl) (fun D w' => Bs w [(w.heap.size, .cells #[.slice (some ⟨b2, o2, none⟩) s.wicks.length vc, .slice (some ⟨b, o, none⟩) s.waxes.length xc, .int .i64 s.flame.1, .int .i64 s.flame.2, .int .i64 s.pool.1, .int .i64 s.pool.2] 32), (w.heap.size + 1, .cells #[.int .i64 c.wax, .int .i64 c.dia, .int .i64 c.draught, .int .i64 c.cold.1, .int .i64 c.cold.2] 34), (w.heap.size + 1 + 1, .cells #[.int .u16 (x 0), .int .u16 (x 1), .int .u16 (x 2), .int .u16 (x 3), .int .u16 (x 4), .int .u16 (x 5)] 36), (w.heap.size + 1 + 1 + 1, .cells (cond (D 45) #[.int .i64 a0, .int .i64 a1, .int .i64 a2, .int .i64 a3, .int .i64 a4, .int .i64 a5] #[.int .i64 0, .int .i64 0, .int .i64 0, .int .i64 0, .int .i64 0, .int .i64 0]) 63), (w.heap.size + 1 + 1 + 1 + 1, .cells #[.string X.name, .int .i64 X.flow.1, .int .i64 X.flow.2, .int .i64 X.rise.1, .int .i64 X.rise.2, .int .i64 X.spread.1, .int .i64 X.spread.2, .int .i64 X.chill] 133)] w') C5.out.drew ?_
 apply obl_det
 case hrun =>
  intro D y wz hW hD R hR
  have HRR := Lib.hid hR
  clear hR
  have HW := Lib.hid hW
  clear hW hD
  go_wp2_with fail
  exact HRR.out _ HW.out
 case hnp => rfl
 case hv => first | exact ⟨_, fun _ => rfl⟩ | exact ⟨undef, fun _ => rfl⟩
 apply obl_det
 case hrun =>
  intro D y wz hW hD R hR
  have HRR := Lib.hid hR
  clear hR
  have HW := Lib.hid hW
  have h1 := HW.out.cell 0 rfl 0
  clear hW hD
  go_wp2_with fail
  exact HRR.out _ HW.out
 case hnp => rfl
 case hv => first | exact ⟨_, fun _ => rfl⟩ | exact ⟨undef, fun _ => rfl⟩
 apply obl_det
 case hrun =>
  intro D y wz hW hD R hR
  have HRR := Lib.hid hR
  clear hR
  have HW := Lib.hid hW
  clear hW hD
  go_wp2_with fail
  exact HRR.out _ HW.out
 case hnp => rfl
 case hv => first | exact ⟨_, fun _ => rfl⟩ | exact ⟨undef, fun _ => rfl⟩
 apply obl_det
 case hrun =>
  intro D y wz hW hD R hR
  have HRR := Lib.hid hR
  clear hR
  have HW := Lib.hid hW
  have h1 := HKI.out
  clear hW hD
  go_wp2_with fail
  exact HRR.out _ HW.out
 case hnp => rfl
 case hv => first | exact ⟨_, fun _ => rfl⟩ | exact ⟨undef, fun _ => rfl⟩
 apply obl_det
 case hrun =>
  intro D y wz hW hD R hR
  have HRR := Lib.hid hR
  clear hR
  have HW := Lib.hid hW
  clear hW hD
  go_wp2_with fail
  exact HRR.out _ HW.out
 case hnp => rfl
 case hv => first | exact ⟨_, fun _ => rfl⟩ | exact ⟨undef, fun _ => rfl⟩
 apply obl_det
 case hrun =>
  intro D y wz hW hD R hR
  have HRR := Lib.hid hR
  clear hR
  have HW := Lib.hid hW
  have h1 := (HW.out.bel.cell (p := ⟨b2, o2 + k * 4 + 2, none⟩) HBL2.out).trans HZ2.out
  have h2 := (HW.out.bel.cell (p := ⟨b2, o2 + k * 4 + 3, none⟩) HBL2.out).trans HZ3.out
  clear hW hD
  go_wp2_with fail
  exact HRR.out _ HW.out
 case hnp => rfl
 case hv => first | exact ⟨_, fun _ => rfl⟩ | exact ⟨undef, fun _ => rfl⟩
 apply obl_det
 case hrun =>
  intro D y wz hW hD R hR
  have HRR := Lib.hid hR
  clear hR
  have HW := Lib.hid hW
  clear hW hD
  go_wp2_with fail
  exact HRR.out _ HW.out
 case hnp => rfl
 case hv => first | exact ⟨_, fun _ => rfl⟩ | exact ⟨undef, fun _ => rfl⟩
 apply obl_det
 case hrun =>
  intro D y wz hW hD R hR
  have HRR := Lib.hid hR
  clear hR
  have HW := Lib.hid hW
  have h1 := HW.out.cell 2 rfl 0
  clear hW hD
  go_wp2_with fail
  exact HRR.out _ HW.out
 case hnp => rfl
 case hv => first | exact ⟨_, fun _ => rfl⟩ | exact ⟨undef, fun _ => rfl⟩
 apply obl_det
 case hrun =>
  intro D y wz hW hD R hR
  have HRR := Lib.hid hR
  clear hR
  have HW := Lib.hid hW
  have h1 := HXB.out 0
  clear hW hD
  go_wp2_with fail
  exact HRR.out _ HW.out
 case hnp => rfl
 case hv => first | exact ⟨_, fun _ => rfl⟩ | exact ⟨undef, fun _ => rfl⟩
 apply obl_det
 case hrun =>
  intro D y wz hW hD R hR
  have HRR := Lib.hid hR
  clear hR
  have HW := Lib.hid hW
  clear hW hD
  go_wp2_with fail
  refine ((HA0 _).out).mono ?_
  rintro e w' ⟨rfl, hb⟩
  have HW2 := Lib.hid (HW.out.call hb)
  clear hb
  go_wp2_with fail
  exact HRR.out _ HW2.out
 case hnp => rfl
 case hv => first | exact ⟨_, fun _ => rfl⟩ | exact ⟨undef, fun _ => rfl⟩
 apply obl_det
 case hrun =>
  intro D y wz hW hD R hR
  have HRR := Lib.hid hR
  clear hR
  have HW := Lib.hid hW
  clear hW hD
  go_wp2_with fail
  exact HRR.out _ HW.out
 case hnp => rfl
 case hv => first | exact ⟨_, fun _ => rfl⟩ | exact ⟨undef, fun _ => rfl⟩
 apply obl_det
 case hrun =>
  intro D y wz hW hD R hR
  have HRR := Lib.hid hR
  clear hR
  have HW := Lib.hid hW
  have h1 := HW.out.cell 4 rfl 1
  have h2 := HW.out.cell 4 rfl 2
  clear hW hD
  go_wp2_with fail
  exact HRR.out _ HW.out
 case hnp => rfl
 case hv => first | exact ⟨_, fun _ => rfl⟩ | exact ⟨undef, fun _ => rfl⟩
 apply obl_det
 case hrun =>
  intro D y wz hW hD R hR
  have HRR := Lib.hid hR
  clear hR
  have HW := Lib.hid hW
  clear hW hD
  go_wp2_with fail
  exact HRR.out _ HW.out
 case hnp => rfl
 case hv => first | exact ⟨_, fun _ => rfl⟩ | exact ⟨undef, fun _ => rfl⟩
 apply obl_det
 case hrun =>
  intro D y wz hW hD R hR
  have HRR := Lib.hid hR
  clear hR
  have HW := Lib.hid hW
  have h1 := HW.out.cell 2 rfl 1
  clear hW hD
  go_wp2_with fail
  exact HRR.out _ HW.out
 case hnp => rfl
 case hv => first | exact ⟨_, fun _ => rfl⟩ | exact ⟨undef, fun _ => rfl⟩
 apply obl_det
 case hrun =>
  intro D y wz hW hD R hR
  have HRR := Lib.hid hR
  clear hR
  have HW := Lib.hid hW
  have h1 := HXB.out 1
  clear hW hD
  go_wp2_with fail
  exact HRR.out _ HW.out
 case hnp => rfl
 case hv => first | exact ⟨_, fun _ => rfl⟩ | exact ⟨undef, fun _ => rfl⟩
 apply obl_det
 case hrun =>
  intro D y wz hW hD R hR
  have HRR := Lib.hid hR
  clear hR
  have HW := Lib.hid hW
  clear hW hD
  go_wp2_with fail
  refine ((HA1 _).out).mono ?_
  rintro e w' ⟨rfl, hb⟩
  have HW2 := Lib.hid (HW.out.call hb)
  clear hb
  go_wp2_with fail
  exact HRR.out _ HW2.out
 case hnp => rfl
 case hv => first | exact ⟨_, fun _ => rfl⟩ | exact ⟨undef, fun _ => rfl⟩
 apply obl_det
 case hrun =>
  intro D y wz hW hD R hR
  have HRR := Lib.hid hR
  clear hR
  have HW := Lib.hid hW
  clear hW hD
  go_wp2_with fail
  exact HRR.out _ HW.out
 case hnp => rfl
 case hv => first | exact ⟨_, fun _ => rfl⟩ | exact ⟨undef, fun _ => rfl⟩
 apply obl_det
 case hrun =>
  intro D y wz hW hD R hR
  have HRR := Lib.hid hR
  clear hR
  have HW := Lib.hid hW
  have h1 := HW.out.cell 4 rfl 3
  have h2 := HW.out.cell 4 rfl 4
  clear hW hD
  go_wp2_with fail
  exact HRR.out _ HW.out
 case hnp => rfl
 case hv => first | exact ⟨_, fun _ => rfl⟩ | exact ⟨undef, fun _ => rfl⟩
 apply obl_det
 case hrun =>
  intro D y wz hW hD R hR
  have HRR := Lib.hid hR
  clear hR
  have HW := Lib.hid hW
  clear hW hD
  go_wp2_with fail
  exact HRR.out _ HW.out
 case hnp => rfl
 case hv => first | exact ⟨_, fun _ => rfl⟩ | exact ⟨undef, fun _ => rfl⟩
 apply obl_det
 case hrun =>
  intro D y wz hW hD R hR
  have HRR := Lib.hid hR
  clear hR
  have HW := Lib.hid hW
  have h1 := HW.out.cell 2 rfl 2
  clear hW hD
  go_wp2_with fail
  exact HRR.out _ HW.out
 case hnp => rfl
 case hv => first | exact ⟨_, fun _ => rfl⟩ | exact ⟨undef, fun _ => rfl⟩
 apply obl_det
 case hrun =>
  intro D y wz hW hD R hR
  have HRR := Lib.hid hR
  clear hR
  have HW := Lib.hid hW
  have h1 := HXB.out 2
  clear hW hD
  go_wp2_with fail
  exact HRR.out _ HW.out
 case hnp => rfl
 case hv => first | exact ⟨_, fun _ => rfl⟩ | exact ⟨undef, fun _ => rfl⟩
 apply obl_det
 case hrun =>
  intro D y wz hW hD R hR
  have HRR := Lib.hid hR
  clear hR
  have HW := Lib.hid hW
  clear hW hD
  go_wp2_with fail
  refine ((HA2 _).out).mono ?_
  rintro e w' ⟨rfl, hb⟩
  have HW2 := Lib.hid (HW.out.call hb)
  clear hb
  go_wp2_with fail
  exact HRR.out _ HW2.out
 case hnp => rfl
 case hv => first | exact ⟨_, fun _ => rfl⟩ | exact ⟨undef, fun _ => rfl⟩
 apply obl_det
 case hrun =>
  intro D y wz hW hD R hR
  have HRR := Lib.hid hR
  clear hR
  have HW := Lib.hid hW
  clear hW hD
  go_wp2_with fail
  exact HRR.out _ HW.out
 case hnp => rfl
 case hv => first | exact ⟨_, fun _ => rfl⟩ | exact ⟨undef, fun _ => rfl⟩
 apply obl_det
 case hrun =>
  intro D y wz hW hD R hR
  have HRR := Lib.hid hR
  clear hR
  have HW := Lib.hid hW
  have h1 := HW.out.cell 4 rfl 5
  have h2 := HW.out.cell 4 rfl 6
  clear hW hD
  go_wp2_with fail
  exact HRR.out _ HW.out
 case hnp => rfl
 case hv => first | exact ⟨_, fun _ => rfl⟩ | exact ⟨undef, fun _ => rfl⟩
 apply obl_det
 case hrun =>
  intro D y wz hW hD R hR
  have HRR := Lib.hid hR
  clear hR
  have HW := Lib.hid hW
  clear hW hD
  go_wp2_with fail
  exact HRR.out _ HW.out
 case hnp => rfl
 case hv => first | exact ⟨_, fun _ => rfl⟩ | exact ⟨undef, fun _ => rfl⟩
 apply obl_det
 case hrun =>
  intro D y wz hW hD R hR
  have HRR := Lib.hid hR
  clear hR
  have HW := Lib.hid hW
  have h1 := HW.out.cell 2 rfl 3
  clear hW hD
  go_wp2_with fail
  exact HRR.out _ HW.out
 case hnp => rfl
 case hv => first | exact ⟨_, fun _ => rfl⟩ | exact ⟨undef, fun _ => rfl⟩
 apply obl_det
 case hrun =>
  intro D y wz hW hD R hR
  have HRR := Lib.hid hR
  clear hR
  have HW := Lib.hid hW
  have h1 := HXB.out 3
  clear hW hD
  go_wp2_with fail
  exact HRR.out _ HW.out
 case hnp => rfl
 case hv => first | exact ⟨_, fun _ => rfl⟩ | exact ⟨undef, fun _ => rfl⟩
 apply obl_det
 case hrun =>
  intro D y wz hW hD R hR
  have HRR := Lib.hid hR
  clear hR
  have HW := Lib.hid hW
  clear hW hD
  go_wp2_with fail
  refine ((HA3 _).out).mono ?_
  rintro e w' ⟨rfl, hb⟩
  have HW2 := Lib.hid (HW.out.call hb)
  clear hb
  go_wp2_with fail
  exact HRR.out _ HW2.out
 case hnp => rfl
 case hv => first | exact ⟨_, fun _ => rfl⟩ | exact ⟨undef, fun _ => rfl⟩
 apply obl_det
 case hrun =>
  intro D y wz hW hD R hR
  have HRR := Lib.hid hR
  clear hR
  have HW := Lib.hid hW
  clear hW hD
  go_wp2_with fail
  exact HRR.out _ HW.out
 case hnp => rfl
 case hv => first | exact ⟨_, fun _ => rfl⟩ | exact ⟨undef, fun _ => rfl⟩
 apply obl_det
 case hrun =>
  intro D y wz hW hD R hR
  have HRR := Lib.hid hR
  clear hR
  have HW := Lib.hid hW
  have h1 := HW.out.cell 1 rfl 2
  clear hW hD
  go_wp2_with fail
  exact HRR.out _ HW.out
 case hnp => rfl
 case hv => first | exact ⟨_, fun _ => rfl⟩ | exact ⟨undef, fun _ => rfl⟩
 apply obl_det
 case hrun =>
  intro D y wz hW hD R hR
  have HRR := Lib.hid hR
  clear hR
  have HW := Lib.hid hW
  clear hW hD
  go_wp2_with fail
  rw [HND.out]
  exact HRR.out _ HW.out
 case hnp => rfl
 case hv => first | exact ⟨_, fun _ => rfl⟩ | exact ⟨undef, fun _ => rfl⟩
 apply obl_det
 case hrun =>
  intro D y wz hW hD R hR
  have HRR := Lib.hid hR
  clear hR
  have HW := Lib.hid hW
  clear hW hD
  go_wp2_with fail
  exact HRR.out _ HW.out
 case hnp => rfl
 case hv => first | exact ⟨_, fun _ => rfl⟩ | exact ⟨undef, fun _ => rfl⟩
 apply obl_det
 case hrun =>
  intro D y wz hW hD R hR
  have HRR := Lib.hid hR
  clear hR
  have HW := Lib.hid hW
  have h1 := HW.out.cell 1 rfl 2
  clear hW hD
  go_wp2_with fail
  exact HRR.out _ HW.out
 case hnp => rfl
 case hv => first | exact ⟨_, fun _ => rfl⟩ | exact ⟨undef, fun _ => rfl⟩
 apply obl_det
 case hrun =>
  intro D y wz hW hD R hR
  have HRR := Lib.hid hR
  clear hR
  have HW := Lib.hid hW
  clear hW hD
  go_wp2_with fail
  refine (span32w (-c.draught) c.draught _).mono ?_
  rintro e w' ⟨rfl, hb⟩
  have HW2 := Lib.hid (HW.out.call hb)
  clear hb
  go_wp2_with fail
  exact HRR.out _ HW2.out
 case hnp => rfl
 case hv => first | exact ⟨_, fun _ => rfl⟩ | exact ⟨undef, fun _ => rfl⟩
 apply obl_det
 case hrun =>
  intro D y wz hW hD R hR
  have HRR := Lib.hid hR
  clear hR
  have HW := Lib.hid hW
  clear hW hD
  go_wp2_with fail
  exact HRR.out _ HW.out
 case hnp => rfl
 case hv => first | exact ⟨_, fun _ => rfl⟩ | exact ⟨undef, fun _ => rfl⟩
 apply obl_det
 case hrun =>
  intro D y wz hW hD R hR
  have HRR := Lib.hid hR
  clear hR
  have HW := Lib.hid hW
  have h1 := HW.out.cell 2 rfl 4
  clear hW hD
  go_wp2_with fail
  exact HRR.out _ HW.out
 case hnp => rfl
 case hv => first | exact ⟨_, fun _ => rfl⟩ | exact ⟨undef, fun _ => rfl⟩
 apply obl_det
 case hrun =>
  intro D y wz hW hD R hR
  have HRR := Lib.hid hR
  clear hR
  have HW := Lib.hid hW
  have h1 := HXB.out 4
  clear hW hD
  go_wp2_with fail
  exact HRR.out _ HW.out
 case hnp => rfl
 case hv => first | exact ⟨_, fun _ => rfl⟩ | exact ⟨undef, fun _ => rfl⟩
 apply obl_det
 case hrun =>
  intro D y wz hW hD R hR
  have HRR := Lib.hid hR
  clear hR
  have HW := Lib.hid hW
  clear hW hD
  go_wp2_with fail
  refine ((HA4 _).out).mono ?_
  rintro e w' ⟨rfl, hb⟩
  have HW2 := Lib.hid (HW.out.call hb)
  clear hb
  go_wp2_with fail
  exact HRR.out _ HW2.out
 case hnp => rfl
 case hv => first | exact ⟨_, fun _ => rfl⟩ | exact ⟨undef, fun _ => rfl⟩
 apply obl_det
 case hrun =>
  intro D y wz hW hD R hR
  have HRR := Lib.hid hR
  clear hR
  have HW := Lib.hid hW
  clear hW hD
  go_wp2_with fail
  exact HRR.out _ HW.out
 case hnp => rfl
 case hv => first | exact ⟨_, fun _ => rfl⟩ | exact ⟨undef, fun _ => rfl⟩
 apply obl_det
 case hrun =>
  intro D y wz hW hD R hR
  have HRR := Lib.hid hR
  clear hR
  have HW := Lib.hid hW
  have h1 := HW.out.cell 1 rfl 3
  have h2 := HW.out.cell 1 rfl 4
  clear hW hD
  go_wp2_with fail
  exact HRR.out _ HW.out
 case hnp => rfl
 case hv => first | exact ⟨_, fun _ => rfl⟩ | exact ⟨undef, fun _ => rfl⟩
 apply obl_det
 case hrun =>
  intro D y wz hW hD R hR
  have HRR := Lib.hid hR
  clear hR
  have HW := Lib.hid hW
  clear hW hD
  go_wp2_with fail
  exact HRR.out _ HW.out
 case hnp => rfl
 case hv => first | exact ⟨_, fun _ => rfl⟩ | exact ⟨undef, fun _ => rfl⟩
 apply obl_det
 case hrun =>
  intro D y wz hW hD R hR
  have HRR := Lib.hid hR
  clear hR
  have HW := Lib.hid hW
  have h1 := HW.out.cell 2 rfl 5
  clear hW hD
  go_wp2_with fail
  exact HRR.out _ HW.out
 case hnp => rfl
 case hv => first | exact ⟨_, fun _ => rfl⟩ | exact ⟨undef, fun _ => rfl⟩
 apply obl_det
 case hrun =>
  intro D y wz hW hD R hR
  have HRR := Lib.hid hR
  clear hR
  have HW := Lib.hid hW
  have h1 := HXB.out 5
  clear hW hD
  go_wp2_with fail
  exact HRR.out _ HW.out
 case hnp => rfl
 case hv => first | exact ⟨_, fun _ => rfl⟩ | exact ⟨undef, fun _ => rfl⟩
 apply obl_det
 case hrun =>
  intro D y wz hW hD R hR
  have HRR := Lib.hid hR
  clear hR
  have HW := Lib.hid hW
  clear hW hD
  go_wp2_with fail
  refine ((HA5 _).out).mono ?_
  rintro e w' ⟨rfl, hb⟩
  have HW2 := Lib.hid (HW.out.call hb)
  clear hb
  go_wp2_with fail
  exact HRR.out _ HW2.out
 case hnp => rfl
 case hv => first | exact ⟨_, fun _ => rfl⟩ | exact ⟨undef, fun _ => rfl⟩
 apply obl_det
 case hrun =>
  intro D y wz hW hD R hR
  have HRR := Lib.hid hR
  clear hR
  have HW := Lib.hid hW
  clear hW hD
  refine wpList_bdU rfl 63 _ rfl _ (by simp only [List.map_toArray, List.map]; rfl) _ (run_buildTru ..) ?_
  exact HRR.out _ HW.out
 case hnp => rfl
 case hv => first | exact ⟨_, fun _ => rfl⟩ | exact ⟨undef, fun _ => rfl⟩
 apply obl_det
 case hrun =>
  intro D y wz hW hD R hR
  have HRR := Lib.hid hR
  clear hR
  have h0 : D 45 = false := hD.not
  rw [h0] at hW
  clear h0
  have HW := Lib.hid hW
  clear hW hD
  refine wpList_store_bs rfl 63 _ _ rfl HW.out 3 _ #[.int .i64 a0, .int .i64 a1, .int .i64 a2, .int .i64 a3, .int .i64 a4, .int .i64 a5] _ _ rfl rfl rfl infoTru rfl (by simp [Value.oneCell']) ?_
  intro w6 hC6
  have HC6 := Lib.hid hC6
  clear hC6
  simp only [Act.put]
  go_simp
  exact HRR.out _ HC6.out
 case hnp => rfl
 case hv => first | exact ⟨_, fun _ => rfl⟩ | exact ⟨undef, fun _ => rfl⟩
 apply obl_nil
 intro D y w8 hall hW
 rw [hall 45 (by decide)] at hW
 have HT3 : Hid (Bs w [(w.heap.size, .cells #[.slice (some ⟨b2, o2, none⟩) s.wicks.length vc, .slice (some ⟨b, o, none⟩) s.waxes.length xc, .int .i64 s.flame.1, .int .i64 s.flame.2, .int .i64 s.pool.1, .int .i64 s.pool.2] 32), (w.heap.size + 1, .cells #[.int .i64 c.wax, .int .i64 c.dia, .int .i64 c.draught, .int .i64 c.cold.1, .int .i64 c.cold.2] 34), (w.heap.size + 1 + 1, .cells #[.int .u16 (x 0), .int .u16 (x 1), .int .u16 (x 2), .int .u16 (x 3), .int .u16 (x 4), .int .u16 (x 5)] 36), (w.heap.size + 1 + 1 + 1, .cells #[.int .i64 a0, .int .i64 a1, .int .i64 a2, .int .i64 a3, .int .i64 a4, .int .i64 a5] 63), (w.heap.size + 1 + 1 + 1 + 1, .cells #[.string X.name, .int .i64 X.flow.1, .int .i64 X.flow.2, .int .i64 X.rise.1, .int .i64 X.rise.2, .int .i64 X.spread.1, .int .i64 X.spread.2, .int .i64 X.chill] 133)] w8) := hW
 clear hall hW
 go_wp2_with fail
 exact bodyPost_ret (v := .agg #[.int .i64 a0, .int .i64 a1, .int .i64 a2, .int .i64 a3, .int .i64 a4, .int .i64 a5]) (results_cell_row (fn := Tryz.f12) rfl _ _ _ _ _ _ _ rfl (HT3.out.get 3 rfl) Tryz.underlying63 rfl infoTru) rfl ⟨rfl, HT3.out.bel⟩
set_option maxRecDepth 100000 in
set_option maxHeartbeats 16000000 in
/-- Wrong, where nothing is wrong. -/
theorem wrong16w {s : WShop} {c : Candle} (hs : WOk s c) (b : Burn) (hp : -10000000000000 ≤ b.pool ∧ b.pool ≤ 10000000000000) (h1 : smokes s b = false) (h2 : goesOut s b = false) (h3 : tunnels s c b = false) (h4 : runs s c b = false) (vw vx : Value) (w : World) (hv : WShopAt w.heap.size w vw vx s) :
 Calls Tryz.prog 16 #[.agg (wshopC vw vx s), .agg (candC c), .agg (burnC b)] w fun e w' => e = .returned (.slice none 0 0) ∧ Below w.heap.size w w' := by
 obtain ⟨va, vc, rfl, -, -⟩ := sl_shape hv.1
 obtain ⟨xa, xc, rfl, -, -⟩ := sl_shape hv.2
 have hf := hs.flame
 have hpo := hs.pool
 have hd := hs.dia
 have C0 : Hid (Bs w [(w.heap.size, .cells #[.slice va s.wicks.length vc, .slice xa s.waxes.length xc, .int .i64 s.flame.1, .int .i64 s.flame.2, .int .i64 s.pool.1, .int .i64 s.pool.2] 32), (w.heap.size + 1, .cells #[.int .i64 c.wax, .int .i64 c.dia, .int .i64 c.draught, .int .i64 c.cold.1, .int .i64 c.cold.2] 34), (w.heap.size + 1 + 1, .cells #[.int .i64 b.rate, .int .i64 b.flame, .int .i64 b.pool] 70)] _) := Lib.hid ((((Bs.nil w).push _ rfl (.cells #[.slice va s.wicks.length vc, .slice xa s.waxes.length xc, .int .i64 s.flame.1, .int .i64 s.flame.2, .int .i64 s.pool.1, .int .i64 s.pool.2] 32)).push (w.heap.size + 1) (by simp) (.cells #[.int .i64 c.wax, .int .i64 c.dia, .int .i64 c.draught, .int .i64 c.cold.1, .int .i64 c.cold.2] 34)).push (w.heap.size + 1 + 1) (by simp) (.cells #[.int .i64 b.rate, .int .i64 b.flame, .int .i64 b.pool] 70))
 have hc2 := C0.out.cell 0 rfl 2
 have hc3 := C0.out.cell 0 rfl 3
 have hc4 := C0.out.cell 0 rfl 4
 have hc5 := C0.out.cell 0 rfl 5
 have hk1 := C0.out.cell 1 rfl 1
 have hb1 := C0.out.cell 2 rfl 1
 have hb2 := C0.out.cell 2 rfl 2
 unfold smokes at h1
 unfold goesOut at h2
 unfold tunnels at h3
 unfold runs at h4
 obtain ⟨m1, hm1⟩ : ∃ q, s.pool.1 * c.dia = q := ⟨_, rfl⟩
 obtain ⟨m2, hm2⟩ : ∃ q, s.pool.2 * c.dia = q := ⟨_, rfl⟩
 have k1 := mulb (a := s.pool.1) (b := c.dia) (A := 2000) (B := 2000) (by omega) (by omega)
 have k2 := mulb (a := s.pool.2) (b := c.dia) (A := 2000) (B := 2000) (by omega) (by omega)
 rw [hm1] at h3 k1
 rw [hm2] at h4 k2
 have e1 : decide (s.flame.2 * 1000000 < b.flame) = false := h1
 have e2 : decide (b.flame < s.flame.1 * 1000000) = false := h2
 have e3 : decide (1000 * b.pool < m1 * 1000000) = false := by rw [decide_eq_false_iff_not] at h3 ⊢; omega
 have e4 : decide (m2 * 1000000 < 1000 * b.pool) = false := by rw [decide_eq_false_iff_not] at h4 ⊢; omega
 have W1 : wrap64 (s.flame.2 * 1000000) = s.flame.2 * 1000000 := wrapU (by omega)
 have W2 : wrap64 (s.flame.1 * 1000000) = s.flame.1 * 1000000 := wrapU (by omega)
 have W3 : wrap64 (1000 * b.pool) = 1000 * b.pool := wrapU (by omega)
 have W4 : wrap64 (s.pool.1 * c.dia) = m1 := by rw [hm1]; exact wrapU (by omega)
 have W5 : wrap64 (s.pool.2 * c.dia) = m2 := by rw [hm2]; exact wrapU (by omega)
 have W6 : wrap64 (m1 * 1000000) = m1 * 1000000 := wrapU (by omega)
 have W7 : wrap64 (m2 * 1000000) = m2 * 1000000 := wrapU (by omega)
 have HM1 := Lib.hid hm1
 have HM2 := Lib.hid hm2
 clear h1 h2 h3 h4 hf hpo hd k1 k2 hm1 hm2 hp hs hv
 go_enter Tryz.func16, Tryz.ntmps16
 go_wp2_with fail
 all_goals (go_ret; exact ⟨rfl, C0.out.bel⟩)
theorem shop23w (w : World) : Calls Tryz.prog 23 #[] w (fun e w' => ∃ vw vx, e = .returned (.agg (wshopC vw vx exW)) ∧ WShopAt w'.heap.size w' vw vx exW ∧ Below w.heap.size w w') := by
 have C0 := Lib.hid ((Bs.nil w).push _ rfl (.cells #[.slice none 0 0, .slice none 0 0, .int .i64 0, .int .i64 0, .int .i64 0, .int .i64 0] 32))
 go_enter Tryz.func23, Tryz.ntmps23
 go_wp2_with fail
 refine (span32w 16 18 _).mono ?_
 rintro e w1 ⟨rfl, hb⟩
 have C1 := Lib.hid (C0.out.call hb)
 clear hb C0
 go_wp2_with fail
 refine (span32w 20 24 _).mono ?_
 rintro e w2 ⟨rfl, hb⟩
 have C2 := Lib.hid (C1.out.call hb)
 clear hb C1
 go_wp2_with fail
 refine (span32w 30 36 _).mono ?_
 rintro e w3 ⟨rfl, hb⟩
 have C3 := Lib.hid (C2.out.call hb)
 clear hb C2
 have CA := Lib.hid (C3.out.push _ rfl (.cells #[.string ⟨#[116, 104, 105, 110]⟩, .int .i64 10, .int .i64 16, .int .i64 18, .string ⟨#[109, 105, 100]⟩, .int .i64 14, .int .i64 20, .int .i64 24, .string ⟨#[102, 97, 116]⟩, .int .i64 20, .int .i64 30, .int .i64 36] 53))
 clear C3
 have C3 := CA
 clear CA
 go_wp2_with fail
 refine (span32w 100 100 _).mono ?_
 rintro e w4 ⟨rfl, hb⟩
 have C4 := Lib.hid (C3.out.call hb)
 clear hb C3
 go_wp2_with fail
 refine (span32w 150 160 _).mono ?_
 rintro e w5 ⟨rfl, hb⟩
 have C5 := Lib.hid (C4.out.call hb)
 clear hb C4
 go_wp2_with fail
 refine (span32w 1000 1100 _).mono ?_
 rintro e w6 ⟨rfl, hb⟩
 have C6 := Lib.hid (C5.out.call hb)
 clear hb C5
 have CA := Lib.hid (C6.out.push _ rfl (.cells #[.string ⟨#[98, 101, 101, 115]⟩, .int .i64 100, .int .i64 100, .int .i64 150, .int .i64 160, .int .i64 1000, .int .i64 1100, .int .i64 1] 133))
 clear C6
 have C6 := CA
 clear CA
 go_wp2_with fail
 refine (span32w 20 45 _).mono ?_
 rintro e w7 ⟨rfl, hb⟩
 have C7 := Lib.hid (C6.out.call hb)
 clear hb C6
 go_wp2_with fail
 refine (span32w 500 1000 _).mono ?_
 rintro e w8 ⟨rfl, hb⟩
 have C8 := Lib.hid (C7.out.call hb)
 clear hb C7
 go_wp2_with (refine wpList_store_bs rfl 32 _ _ rfl C8.out 0 _ _ _ _ rfl rfl rfl infoWS rfl (by simp [Value.oneCell']) ?_; intro w9 hC9)
 have H0 := hC9.get 0 rfl
 have H1 := hC9.get 1 rfl
 have H2 := hC9.get 2 rfl
 refine bodyPost_ret (v := .agg (wshopC _ _ exW)) (results_cell_row (fn := Tryz.f23) rfl _ _ _ _ _ _ _ rfl H0 Tryz.underlying32 rfl infoWS) rfl ⟨_, _, rfl, ⟨?_, ?_⟩, hC9.bel⟩
 ·refine ⟨_, _, rfl, by simp [exW], by simp [exW], .inr ⟨_, 0, rfl, block_lt H1, fun i hi => ?_⟩⟩
  have hi3 : i = 0 ∨ i = 1 ∨ i = 2 := by simp [exW] at hi; omega
  rcases hi3 with rfl | rfl | rfl <;> exact ⟨cell_of_row _ _ _ _ _ _ H1, cell_of_row _ _ _ _ _ _ H1, cell_of_row _ _ _ _ _ _ H1, cell_of_row _ _ _ _ _ _ H1, by decide⟩
 ·refine ⟨_, _, rfl, by simp [exW], by simp [exW], .inr ⟨_, 0, rfl, block_lt H2, fun i hi => ?_⟩⟩
  have hi3 : i = 0 := by simp [exW] at hi; omega
  subst hi3
  exact ⟨cell_of_row _ _ _ _ _ _ H2, cell_of_row _ _ _ _ _ _ H2, cell_of_row _ _ _ _ _ _ H2, cell_of_row _ _ _ _ _ _ H2, cell_of_row _ _ _ _ _ _ H2, cell_of_row _ _ _ _ _ _ H2, cell_of_row _ _ _ _ _ _ H2, cell_of_row _ _ _ _ _ _ H2, by decide⟩
theorem cand24w (w : World) : Calls Tryz.prog 24 #[] w (fun e w' => e = .returned (.agg (candC (exC 300))) ∧ Below w.heap.size w w') := by
 have C0 := Lib.hid ((Bs.nil w).push _ rfl (.cells #[.int .i64 0, .int .i64 0, .int .i64 0, .int .i64 0, .int .i64 0] 34))
 go_enter Tryz.func24, Tryz.ntmps24
 go_wp2_with fail
 refine (span32w 0 20 _).mono ?_
 rintro e w1 ⟨rfl, hb⟩
 have C1 := Lib.hid (C0.out.call hb)
 clear hb C0
 go_wp2_with (refine wpList_store_bs rfl 34 _ _ rfl C1.out 0 _ #[.int .i64 0, .int .i64 300, .int .i64 10, .int .i64 0, .int .i64 20] _ _ rfl rfl rfl infoWC rfl (by simp [Value.oneCell']) ?_; intro w9 hC9; have C9 : Hid (Bs w [(w.heap.size, .cells #[.int .i64 0, .int .i64 300, .int .i64 10, .int .i64 0, .int .i64 20] 34)] w9) := hC9; clear hC9)
 exact bodyPost_ret (v := .agg #[.int .i64 0, .int .i64 300, .int .i64 10, .int .i64 0, .int .i64 20]) (results_cell_row (fn := Tryz.f24) rfl _ _ _ _ _ _ _ rfl (C9.out.get 0 rfl) Tryz.underlying34 rfl infoWC) rfl ⟨rfl, C9.out.bel⟩
theorem sized28w (d : Int) (w : World) : Calls Tryz.prog 28 #[.int .i64 d] w (fun e w' => e = .returned (.agg (candC (exC d))) ∧ Below w.heap.size w w') := by
 have C0 := Lib.hid ((Bs.nil w).push _ rfl (.cells #[.int .i64 0, .int .i64 0, .int .i64 0, .int .i64 0, .int .i64 0] 34))
 go_enter Tryz.func28, Tryz.ntmps28
 go_wp2_with fail
 refine (cand24w _).mono ?_
 rintro e w1 ⟨rfl, hb⟩
 have C1 := Lib.hid (C0.out.call hb)
 clear hb C0
 have C2 := Lib.hid (C1.out.push _ rfl (.cells #[.int .i64 0, .int .i64 0, .int .i64 0, .int .i64 0, .int .i64 0] 34))
 clear C1
 go_wp2_with (first | (refine wpList_store_bs rfl 34 _ _ rfl C2.out 1 _ #[.int .i64 0, .int .i64 300, .int .i64 10, .int .i64 0, .int .i64 20] _ _ rfl rfl rfl infoWC rfl (by simp [Value.oneCell']) ?_; intro w5 hC5; have C5 : Hid (Bs w [(w.heap.size, .cells #[.int .i64 0, .int .i64 0, .int .i64 0, .int .i64 0, .int .i64 0] 34), (w1.heap.size, .cells #[.int .i64 0, .int .i64 300, .int .i64 10, .int .i64 0, .int .i64 20] 34)] w5) := hC5; clear hC5 C2) | (refine wpList_cell_bs rfl 3 _ _ rfl C5.out 1 _ 1 _ _ rfl rfl (.int .i64 d) rfl (by simp) rfl info3 ?_; intro w6 hC6; have C6 : Hid (Bs w [(w.heap.size, .cells #[.int .i64 0, .int .i64 0, .int .i64 0, .int .i64 0, .int .i64 0] 34), (w1.heap.size, .cells #[.int .i64 0, .int .i64 d, .int .i64 10, .int .i64 0, .int .i64 20] 34)] w6) := hC6; clear hC6 C5) | (refine wpList_load_row rfl 34 _ rfl _ rfl _ _ _ _ (C6.out.get 1 rfl) Tryz.underlying34 rfl infoWC ?_) | (refine wpList_store_bs rfl 34 _ _ rfl C6.out 0 _ #[.int .i64 0, .int .i64 d, .int .i64 10, .int .i64 0, .int .i64 20] _ _ rfl rfl rfl infoWC rfl (by simp [Value.oneCell']) ?_; intro w7 hC7; have C7 : Hid (Bs w [(w.heap.size, .cells #[.int .i64 0, .int .i64 d, .int .i64 10, .int .i64 0, .int .i64 20] 34), (w1.heap.size, .cells #[.int .i64 0, .int .i64 d, .int .i64 10, .int .i64 0, .int .i64 20] 34)] w7) := hC7; clear hC7 C6))
 exact bodyPost_ret (v := .agg #[.int .i64 0, .int .i64 d, .int .i64 10, .int .i64 0, .int .i64 20]) (results_cell_row (fn := Tryz.f28) rfl _ _ _ _ _ _ _ rfl (C7.out.get 0 rfl) Tryz.underlying34 rfl infoWC) rfl ⟨rfl, C7.out.bel⟩
end Go.Proofs.YteebihcdgpfldaaGreat
