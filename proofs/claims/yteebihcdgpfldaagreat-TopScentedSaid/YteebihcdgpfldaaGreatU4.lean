/- wick.open at valid shops and candles. -/
import Derived.Test.YteebihcdgpfldaaGreatU3
namespace Go.Proofs.YteebihcdgpfldaaGreat
open Go.RowKit
theorem infoWS : (Tryz.prog.info? 32).map (·.size) = some 6 := by kernel_rfl
theorem infoWC : (Tryz.prog.info? 34).map (·.size) = some 5 := by kernel_rfl
/-- The cells of an opened shop. -/
abbrev opC (vw vx : Value) (s : WShop) (c : Candle) (x : Wax) : Array Value := #[vw, vx, .int .i64 s.flame.1, .int .i64 s.flame.2, .int .i64 s.pool.1, .int .i64 s.pool.2, .int .i64 c.wax, .int .i64 c.dia, .int .i64 c.draught, .int .i64 c.cold.1, .int .i64 c.cold.2, .string x.name, .int .i64 x.flow.1, .int .i64 x.flow.2, .int .i64 x.rise.1, .int .i64 x.rise.2, .int .i64 x.spread.1, .int .i64 x.spread.2, .int .i64 x.chill]
theorem run_buildShop (va : Option Addr) (nw vc : Nat) (xa : Option Addr) (nx xc : Nat) (f1 f2 p1 p2 a b d c1 c2 : Int) (nm : ByteArray) (x1 x2 x3 x4 x5 x6 x7 : Int) (w : World) :
 (Instr.build 152 #[(0, .agg #[.slice va nw vc, .slice xa nx xc, .int .i64 f1, .int .i64 f2, .int .i64 p1, .int .i64 p2]), (1, .agg #[.int .i64 a, .int .i64 b, .int .i64 d, .int .i64 c1, .int .i64 c2]), (2, .agg #[.string nm, .int .i64 x1, .int .i64 x2, .int .i64 x3, .int .i64 x4, .int .i64 x5, .int .i64 x6, .int .i64 x7])]).run Tryz.prog w
  = .ok (.agg #[.slice va nw vc, .slice xa nx xc, .int .i64 f1, .int .i64 f2, .int .i64 p1, .int .i64 p2, .int .i64 a, .int .i64 b, .int .i64 d, .int .i64 c1, .int .i64 c2, .string nm, .int .i64 x1, .int .i64 x2, .int .i64 x3, .int .i64 x4, .int .i64 x5, .int .i64 x6, .int .i64 x7]) w :=
 run_build w 152 _ _ (by kernel_rfl)
theorem wpList_valueU {P : Program} {ops : Array Oper} {rest : List Oper} {o : Oper} {a : Act} {w w' : World} {Q : Exit → Act → World → Prop} (hgd : o.guard = none) (v : Value)
 (hr : (execOp a.eval o).run P w = .ok (.value v) w') (h : wpList P ops Q rest (a.put o.dst v) w') : wpList P ops Q (o :: rest) a w :=
 wpList_plain hgd fun _ hK => by unfold Oper.wp; rw [hr]; exact hK _ _ h
theorem wpList_bdU {P : Program} {ops : Array Oper} {rest : List Oper} {o : Oper} {a : Act} {w : World} {Q : Exit → Act → World → Prop} (hgd : o.guard = none) (ty : TypeId) (parts : Array (Nat × Operand)) (ho : o.op = .build ty parts) (vs : Array (Nat × Value)) (hv : parts.map (fun (p : Nat × Operand) => (p.1, a.eval p.2)) = vs)
 (cells : Array Value) (hr : (Instr.build ty vs).run P w = .ok (.agg cells) w) (h : wpList P ops Q rest (a.put o.dst (.agg cells)) w) : wpList P ops Q (o :: rest) a w := by
 refine wpList_valueU hgd (.agg cells) ?_ h
 unfold execOp
 simp only [ho]
 rw [show (parts.map fun x => (x.1, a.eval x.2)) = vs from hv] 
 simp only [Sem.run_bind, hr, Result.andThen_ok, Sem.run_pure]
/-- A box is laid behind reads. -/
structure BxW (W0 : World) (cs : Array Value) (T : TypeId) (d9 d10 : Bool) (y73 y6 : Value) (w : World) : Prop where
 bel : Below W0.heap.size W0 w
 p : d9 = true → ∃ g, y73 = .pointer (some ⟨g, 0, none⟩) ∧ W0.heap.size ≤ g ∧ w.heap[g]? = some (.cells cs T)
 q : d10 = true → y6 = y73
set_option maxRecDepth 100000 in
set_option maxHeartbeats 16000000 in
theorem wopen_ok {s : WShop} {c : Candle} (hs : WOk s c) (ks : List Int) (hks : ∀ k ∈ ks, 0 ≤ k ∧ k ≤ (s.wicks.length : Int) - 1) (vw vx vk : Value) (w : World) (hv : WShopAt w.heap.size w vw vx s) (hvk : IntsIn .i64 w.heap.size w vk ks) :
 Calls Tryz.prog 46 #[.agg (wshopC vw vx s), .agg (candC c), vk] w fun e w' => ∃ g, e = .returned (.tuple #[.pointer (some ⟨g, 0, none⟩), .int .i64 0]) ∧ w.heap.size ≤ g ∧ w'.heap[g]? = some (.cells (opC vw vx s c (waxOf s c)) 152) ∧ Below w.heap.size w w' := by
 obtain ⟨va, vc, rfl, hvl, -⟩ := sl_shape hv.1
 obtain ⟨xa, xc, rfl, hxl, -⟩ := sl_shape hv.2
 have HV := Lib.hid hv
 have HS := Lib.hid hs
 have HKS := Lib.hid (outB_in hks)
 have HVK := Lib.hid hvk
 obtain ⟨ka, kc, rfl, -⟩ := hvk
 have hb0 := hs.nw1
 have hb1 := hs.nw12
 have hb2 := hs.nx1
 have hb3 := hs.nx6
 obtain ⟨hw0, hw1⟩ := hs.wax
 obtain ⟨hd0, hd1⟩ := hs.dia
 obtain ⟨hr0, hr1⟩ := hs.draught
 obtain ⟨hc0, hc1, hc2⟩ := hs.cold
 have HCK := fun w h => Lib.hid (wcheck_ok hs (.slice va s.wicks.length vc) (.slice xa s.waxes.length xc) w h)
 have hxi : c.wax.toNat < s.waxes.length := by omega
 have HCW : Hid (((c.wax.toNat : Nat) : Int) = c.wax) := by unfold Hid; omega
 have HXD : Hid (waxOf s c = s.waxes.getD c.wax.toNat default) := rfl
 obtain ⟨b, o, he, hbl, hx0, hx1, hx2, hx3, hx4, hx5, hx6, hx7, hsz⟩ := HV.out.2.at' hxi
 cases he
 rw [HXD.out]
 have HX0 : Hid (w.cell? ⟨b, o + c.wax.toNat * 8, none⟩ = some (.string (s.waxes.getD c.wax.toNat default).name)) := hx0
 have HX1 : Hid (w.cell? ⟨b, o + c.wax.toNat * 8 + 1, none⟩ = some (.int .i64 (s.waxes.getD c.wax.toNat default).flow.1)) := hx1
 have HX2 : Hid (w.cell? ⟨b, o + c.wax.toNat * 8 + 2, none⟩ = some (.int .i64 (s.waxes.getD c.wax.toNat default).flow.2)) := hx2
 have HX3 : Hid (w.cell? ⟨b, o + c.wax.toNat * 8 + 3, none⟩ = some (.int .i64 (s.waxes.getD c.wax.toNat default).rise.1)) := hx3
 have HX4 : Hid (w.cell? ⟨b, o + c.wax.toNat * 8 + 4, none⟩ = some (.int .i64 (s.waxes.getD c.wax.toNat default).rise.2)) := hx4
 have HX5 : Hid (w.cell? ⟨b, o + c.wax.toNat * 8 + 5, none⟩ = some (.int .i64 (s.waxes.getD c.wax.toNat default).spread.1)) := hx5
 have HX6 : Hid (w.cell? ⟨b, o + c.wax.toNat * 8 + 6, none⟩ = some (.int .i64 (s.waxes.getD c.wax.toNat default).spread.2)) := hx6
 have HX7 : Hid (w.cell? ⟨b, o + c.wax.toNat * 8 + 7, none⟩ = some (.int .i64 (s.waxes.getD c.wax.toNat default).chill)) := hx7
 have HBL := Lib.hid hbl
 generalize s.waxes.getD c.wax.toNat default = x at *
 generalize c.wax.toNat = kx at *
 clear hv hs hks hx0 hx1 hx2 hx3 hx4 hx5 hx6 hx7 hbl hsz HXD
 obtain ⟨cw, cd, cr, cc⟩ := c
 obtain ⟨cc1, cc2⟩ := cc
 simp only at *
 obtain rfl : cw = (kx : Int) := HCW.out.symm
 have C0 : Hid (Bs w [(w.heap.size, .cells #[.slice va s.wicks.length vc, .slice (some ⟨b, o, none⟩) s.waxes.length xc, .int .i64 s.flame.1, .int .i64 s.flame.2, .int .i64 s.pool.1, .int .i64 s.pool.2] 32), (w.heap.size + 1, .cells #[.int .i64 (kx : Int), .int .i64 cd, .int .i64 cr, .int .i64 cc1, .int .i64 cc2] 34)] _) := Lib.hid (((Bs.nil w).push _ rfl (.cells #[.slice va s.wicks.length vc, .slice (some ⟨b, o, none⟩) s.waxes.length xc, .int .i64 s.flame.1, .int .i64 s.flame.2, .int .i64 s.pool.1, .int .i64 s.pool.2] 32)).push (w.heap.size + 1) (by simp) (.cells #[.int .i64 (kx : Int), .int .i64 cd, .int .i64 cr, .int .i64 cc1, .int .i64 cc2] 34))
 have hc0_0 := C0.out.cell 0 rfl 0
 have hc0_1 := C0.out.cell 0 rfl 1
 have hc0_2 := C0.out.cell 0 rfl 2
 have hc0_3 := C0.out.cell 0 rfl 3
 have hc0_4 := C0.out.cell 0 rfl 4
 have hc0_5 := C0.out.cell 0 rfl 5
 go_enter Tryz.func46, Tryz.ntmps46
 go_wp2_with fail
 refine (HCK _ ((HV.out.below C0.out.bel).mono C0.out.bel.size)).out.mono ?_
 rintro e w1 ⟨rfl, hb⟩
 clear HCK
 have C1 := Lib.hid (C0.out.call hb)
 clear hc0_0 hc0_1 hc0_2 hc0_3 hc0_4 hc0_5
 clear hb C0
 have hc0_0 := C1.out.cell 0 rfl 0
 have hc0_1 := C1.out.cell 0 rfl 1
 have hc0_2 := C1.out.cell 0 rfl 2
 have hc0_3 := C1.out.cell 0 rfl 3
 have hc0_4 := C1.out.cell 0 rfl 4
 have hc0_5 := C1.out.cell 0 rfl 5
 clear hc0_0 hc0_1 hc0_2 hc0_3 hc0_4 hc0_5
 have hc0_0 := C1.out.cell 0 rfl 0
 have hc0_1 := C1.out.cell 0 rfl 1
 have hc1_0 := C1.out.cell 1 rfl 0
 have hc1_1 := C1.out.cell 1 rfl 1
 have hc1_2 := C1.out.cell 1 rfl 2
 have hc1_3 := C1.out.cell 1 rfl 3
 have hc1_4 := C1.out.cell 1 rfl 4
 go_wp2_with fail
 refine (kout_r false _ _ ks HKS.out _ _ _ (HVK.out.below C1.out.bel) C1.out.bel.size).mono ?_
 rintro e w1 ⟨rfl, hb⟩
 clear HKS HVK
 have C2 := Lib.hid (C1.out.call hb)
 clear hc0_0 hc0_1 hc1_0 hc1_1 hc1_2 hc1_3 hc1_4
 clear hb C1
 have hc0_0 := C2.out.cell 0 rfl 0
 have hc0_1 := C2.out.cell 0 rfl 1
 have hc1_0 := C2.out.cell 1 rfl 0
 have hc1_1 := C2.out.cell 1 rfl 1
 have hc1_2 := C2.out.cell 1 rfl 2
 have hc1_3 := C2.out.cell 1 rfl 3
 have hc1_4 := C2.out.cell 1 rfl 4
 go_wp2_with fail
 refine (kout_row false 0 _ [(kx : Int)] 1 rfl (by simp) (by rw [outB_one, outOne_ff]; omega) _ _ rfl _ (heap_alloc_new _ _)).mono ?_
 rintro e w1 ⟨rfl, hb⟩
 have C3 := Lib.hid ((C2.out.alloc _).call hb)
 clear hc0_0 hc0_1 hc1_0 hc1_1 hc1_2 hc1_3 hc1_4
 clear hb C2
 have hc0_0 := C3.out.cell 0 rfl 0
 have hc0_1 := C3.out.cell 0 rfl 1
 have hc1_0 := C3.out.cell 1 rfl 0
 have hc1_1 := C3.out.cell 1 rfl 1
 have hc1_2 := C3.out.cell 1 rfl 2
 have hc1_3 := C3.out.cell 1 rfl 3
 have hc1_4 := C3.out.cell 1 rfl 4
 go_wp2_with fail
 refine (kout_row false 1 2000 [cd] 1 rfl (by simp) (by rw [outB_one, outOne_ff]; omega) _ _ rfl _ (heap_alloc_new _ _)).mono ?_
 rintro e w1 ⟨rfl, hb⟩
 have C4 := Lib.hid ((C3.out.alloc _).call hb)
 clear hc0_0 hc0_1 hc1_0 hc1_1 hc1_2 hc1_3 hc1_4
 clear hb C3
 have hc0_0 := C4.out.cell 0 rfl 0
 have hc0_1 := C4.out.cell 0 rfl 1
 have hc1_0 := C4.out.cell 1 rfl 0
 have hc1_1 := C4.out.cell 1 rfl 1
 have hc1_2 := C4.out.cell 1 rfl 2
 have hc1_3 := C4.out.cell 1 rfl 3
 have hc1_4 := C4.out.cell 1 rfl 4
 go_wp2_with fail
 refine (kout_row false 0 90 [cr] 1 rfl (by simp) (by rw [outB_one, outOne_ff]; omega) _ _ rfl _ (heap_alloc_new _ _)).mono ?_
 rintro e w1 ⟨rfl, hb⟩
 have C5 := Lib.hid ((C4.out.alloc _).call hb)
 clear hc0_0 hc0_1 hc1_0 hc1_1 hc1_2 hc1_3 hc1_4
 clear hb C4
 have hc0_0 := C5.out.cell 0 rfl 0
 have hc0_1 := C5.out.cell 0 rfl 1
 have hc1_0 := C5.out.cell 1 rfl 0
 have hc1_1 := C5.out.cell 1 rfl 1
 have hc1_2 := C5.out.cell 1 rfl 2
 have hc1_3 := C5.out.cell 1 rfl 3
 have hc1_4 := C5.out.cell 1 rfl 4
 go_wp2_with fail
 refine (kout_row false 0 300 [cc1, cc2] 2 rfl (by simp) (outB_in (by simp; omega)) _ _ rfl _ (heap_alloc_new _ _)).mono ?_
 rintro e w1 ⟨rfl, hb⟩
 have C6 := Lib.hid ((C5.out.alloc _).call hb)
 clear hc0_0 hc0_1 hc1_0 hc1_1 hc1_2 hc1_3 hc1_4
 clear hb C5
 have hc0_0 := C6.out.cell 0 rfl 0
 have hc0_1 := C6.out.cell 0 rfl 1
 have hc1_0 := C6.out.cell 1 rfl 0
 have hc1_1 := C6.out.cell 1 rfl 1
 have hc1_2 := C6.out.cell 1 rfl 2
 have hc1_3 := C6.out.cell 1 rfl 3
 have hc1_4 := C6.out.cell 1 rfl 4
 go_wp2_with fail
 have HXX := Lib.hid (SpansIn.cells (cs := #[.int .i64 ((cc1, cc2) : Int × Int).1, .int .i64 ((cc1, cc2) : Int × Int).2]) (l := [((cc1, cc2) : Int × Int)]) (n := 1) (heap_alloc_new w1 (.cells #[.int .i64 ((cc1, cc2) : Int × Int).1, .int .i64 ((cc1, cc2) : Int × Int).2] 30)) rfl (by simp) (by intro i hi; have h3 : i = 0 := (by simp at hi; omega); subst h3; exact ⟨rfl, rfl⟩))
 refine (turned_any false _ _ _ HXX.out (by simp; omega)).mono ?_
 rintro e w1 ⟨rfl, hb⟩
 clear HXX
 have C7 := Lib.hid ((C6.out.alloc _).call hb)
 clear hc0_0 hc0_1 hc1_0 hc1_1 hc1_2 hc1_3 hc1_4
 clear hb C6
 have hc0_0 := C7.out.cell 0 rfl 0
 have hc0_1 := C7.out.cell 0 rfl 1
 have hc1_0 := C7.out.cell 1 rfl 0
 have hc1_1 := C7.out.cell 1 rfl 1
 have hc1_2 := C7.out.cell 1 rfl 2
 have hc1_3 := C7.out.cell 1 rfl 3
 have hc1_4 := C7.out.cell 1 rfl 4
 clear hc0_0 hc0_1 hc1_0 hc1_1 hc1_2 hc1_3 hc1_4
 go_wp2_with fail
 refine wp_region_inv1 (by kernel_rfl) (by kernel_rfl) [73, 6] (fun D y w' => BxW w1 #[.slice va s.wicks.length vc, .slice (some ⟨b, o, none⟩) s.waxes.length xc, .int .i64 s.flame.1, .int .i64 s.flame.2, .int .i64 s.pool.1, .int .i64 s.pool.2, .int .i64 (kx : Int), .int .i64 cd, .int .i64 cr, .int .i64 cc1, .int .i64 cc2, .string x.name, .int .i64 x.flow.1, .int .i64 x.flow.2, .int .i64 x.rise.1, .int .i64 x.rise.2, .int .i64 x.spread.1, .int .i64 x.spread.2, .int .i64 x.chill] 152 (D 9) (D 10) (y 73) (y 6) w') ⟨(Below.refl _ _).drew, fun h => (by cases h), fun h => (by cases h)⟩ ?FP ?hFP ?_
 case hFP =>
  intro y
  simp only [fill, List.foldl, Act.put, List.setIfInBounds_toArray, List.set]
  exact rfl
 apply obl_det
 case hrun =>
  intro D y wz hW hD R hR
  have HRR := Lib.hid hR
  clear hR
  have HW := Lib.hid hW
  have HZ := Lib.hid (C7.out.call HW.out.bel)
  have h1 := HZ.out.get 0 rfl
  clear hW hD
  refine wpList_load_row rfl 32 _ rfl _ rfl _ _ _ _ h1 Tryz.underlying32 rfl infoWS ?_
  go_simp
  exact HRR.out _ ⟨HW.out.bel, HW.out.p, HW.out.q⟩
 case hnp => rfl
 case hv => first | exact ⟨_, fun _ => rfl⟩ | exact ⟨undef, fun _ => rfl⟩
 apply obl_det
 case hrun =>
  intro D y wz hW hD R hR
  have HRR := Lib.hid hR
  clear hR
  have HW := Lib.hid hW
  have HZ := Lib.hid (C7.out.call HW.out.bel)
  have h1 := HZ.out.get 1 rfl
  clear hW hD
  refine wpList_load_row rfl 34 _ rfl _ rfl _ _ _ _ h1 Tryz.underlying34 rfl infoWC ?_
  go_simp
  exact HRR.out _ ⟨HW.out.bel, HW.out.p, HW.out.q⟩
 case hnp => rfl
 case hv => first | exact ⟨_, fun _ => rfl⟩ | exact ⟨undef, fun _ => rfl⟩
 apply obl_det
 case hrun =>
  intro D y wz hW hD R hR
  have HRR := Lib.hid hR
  clear hR
  have HW := Lib.hid hW
  clear hW hD
  go_wp2_with fail
  exact HRR.out _ ⟨HW.out.bel, HW.out.p, HW.out.q⟩
 case hnp => rfl
 case hv => first | exact ⟨_, fun _ => rfl⟩ | exact ⟨undef, fun _ => rfl⟩
 apply obl_det
 case hrun =>
  intro D y wz hW hD R hR
  have HRR := Lib.hid hR
  clear hR
  have HW := Lib.hid hW
  have HZ := Lib.hid (C7.out.call HW.out.bel)
  have h1 := HZ.out.cell 0 rfl 1
  clear hW hD
  go_wp2_with fail
  exact HRR.out _ ⟨HW.out.bel, HW.out.p, HW.out.q⟩
 case hnp => rfl
 case hv => first | exact ⟨_, fun _ => rfl⟩ | exact ⟨undef, fun _ => rfl⟩
 apply obl_det
 case hrun =>
  intro D y wz hW hD R hR
  have HRR := Lib.hid hR
  clear hR
  have HW := Lib.hid hW
  clear hW hD
  go_wp2_with fail
  exact HRR.out _ ⟨HW.out.bel, HW.out.p, HW.out.q⟩
 case hnp => rfl
 case hv => first | exact ⟨_, fun _ => rfl⟩ | exact ⟨undef, fun _ => rfl⟩
 apply obl_det
 case hrun =>
  intro D y wz hW hD R hR
  have HRR := Lib.hid hR
  clear hR
  have HW := Lib.hid hW
  have HZ := Lib.hid (C7.out.call HW.out.bel)
  have h1 := HZ.out.cell 1 rfl 0
  clear hW hD
  go_wp2_with fail
  exact HRR.out _ ⟨HW.out.bel, HW.out.p, HW.out.q⟩
 case hnp => rfl
 case hv => first | exact ⟨_, fun _ => rfl⟩ | exact ⟨undef, fun _ => rfl⟩
 apply obl_det
 case hrun =>
  intro D y wz hW hD R hR
  have HRR := Lib.hid hR
  clear hR
  have HW := Lib.hid hW
  clear hW hD
  go_wp2_with fail
  exact HRR.out _ ⟨HW.out.bel, HW.out.p, HW.out.q⟩
 case hnp => rfl
 case hv => first | exact ⟨_, fun _ => rfl⟩ | exact ⟨undef, fun _ => rfl⟩
 apply obl_det
 case hrun =>
  intro D y wz hW hD R hR
  have HRR := Lib.hid hR
  clear hR
  have HW := Lib.hid hW
  have HZ := Lib.hid (C7.out.call HW.out.bel)
  have h0 := (HZ.out.bel.cell (p := ⟨b, o + kx * 8, none⟩) HBL.out).trans HX0.out
  have h1 := (HZ.out.bel.cell (p := ⟨b, o + kx * 8 + 1, none⟩) HBL.out).trans HX1.out
  have h2 := (HZ.out.bel.cell (p := ⟨b, o + kx * 8 + 2, none⟩) HBL.out).trans HX2.out
  have h3 := (HZ.out.bel.cell (p := ⟨b, o + kx * 8 + 3, none⟩) HBL.out).trans HX3.out
  have h4 := (HZ.out.bel.cell (p := ⟨b, o + kx * 8 + 4, none⟩) HBL.out).trans HX4.out
  have h5 := (HZ.out.bel.cell (p := ⟨b, o + kx * 8 + 5, none⟩) HBL.out).trans HX5.out
  have h6 := (HZ.out.bel.cell (p := ⟨b, o + kx * 8 + 6, none⟩) HBL.out).trans HX6.out
  have h7 := (HZ.out.bel.cell (p := ⟨b, o + kx * 8 + 7, none⟩) HBL.out).trans HX7.out
  clear hW hD
  go_wp2_with fail
  exact HRR.out _ ⟨HW.out.bel, HW.out.p, HW.out.q⟩
 case hnp => rfl
 case hv => first | exact ⟨_, fun _ => rfl⟩ | exact ⟨undef, fun _ => rfl⟩
 apply obl_det
 case hrun =>
  intro D y wz hW hD R hR
  have HRR := Lib.hid hR
  clear hR
  have HW := Lib.hid hW
  clear hW hD
  refine wpList_bdU rfl 152 _ rfl _ (by simp only [List.map_toArray, List.map]; rfl) _ (run_buildShop ..) ?_
  exact HRR.out _ ⟨HW.out.bel, HW.out.p, HW.out.q⟩
 case hnp => rfl
 case hv => first | exact ⟨_, fun _ => rfl⟩ | exact ⟨undef, fun _ => rfl⟩
 apply obl_priv 73
 case hd => rfl
 case hp => rfl
 case hrun =>
  intro D y wz hW hD R hR
  have HRR := Lib.hid hR
  clear hR
  have h10 : D 10 = false := hD.post _ 10 rfl (by kernel_rfl)
  have HBS := Lib.hid hW.bel
  have H10 := Lib.hid h10
  clear hW hD h10
  go_wp2_with fail
  refine HRR.out (.pointer (some ⟨wz.heap.size, 0, none⟩)) _ ⟨HBS.out.alloc HBS.out.size _, fun _ => ⟨_, rfl, HBS.out.size, heap_alloc_new _ _⟩, fun h => ?_⟩
  have h : D 10 = true := h
  rw [H10.out] at h
  cases h
 apply obl_priv 6
 case hd => rfl
 case hp => rfl
 case hrun =>
  intro D y wz hW hD R hR
  have HRR := Lib.hid hR
  clear hR
  obtain ⟨gp, e, hgt, hcell⟩ := hW.p (hD.pre _ 9 rfl (by kernel_rfl))
  have HW := Lib.hid hW
  have E := Lib.hid e
  clear hW hD hcell e hgt
  go_wp2_with fail
  refine HRR.out (y 73) _ ⟨HW.out.bel, HW.out.p, fun _ => rfl⟩
 apply obl_det
 case hrun =>
  intro D y wz hW hD R hR
  have HRR := Lib.hid hR
  clear hR
  have HW := Lib.hid hW
  clear hW hD
  go_wp2_with fail
  exact HRR.out _ ⟨HW.out.bel, HW.out.p, HW.out.q⟩
 case hnp => rfl
 case hv => first | exact ⟨_, fun _ => rfl⟩ | exact ⟨undef, fun _ => rfl⟩
 apply obl_nil
 intro D y w8 hall hW
 obtain ⟨gp, e, hgt, hcell⟩ := hW.p (hall 9 (by decide))
 have e6 := hW.q (hall 10 (by decide))
 have HB := Lib.hid (C7.out.call hW.bel)
 have HCL := Lib.hid hcell
 have HGT := Lib.hid (Nat.le_trans C7.out.bel.size hgt)
 clear hW hall hcell hgt
 rw [e6, e]
 clear e6 e
 go_wp2_with fail
 go_ret2
 exact ⟨gp, rfl, HGT.out, HCL.out, HB.out.bel⟩
end Go.Proofs.YteebihcdgpfldaaGreat
