/- slices.Collect; wick.Suits. -/
import Derived.Test.YteebihcdgpfldaaGreatU14
namespace Go.Proofs.YteebihcdgpfldaaGreat
open Go.RowKit
theorem collect_ok {s : WShop} {c : Candle} (hs : WOk s c) (va : Option Addr) (vc : Nat) (vx : Value) (g b : Nat) (w : World) (hb : w.heap[b]? = some (.cells #[.pointer (some ⟨g, 0, none⟩)] 119)) (hg : w.heap[g]? = some (.cells (opC (.slice va s.wicks.length vc) vx s c (waxOf s c)) 152)) (hv : WShopAt w.heap.size w (.slice va s.wicks.length vc) vx s) :
 Calls Tryz.prog 68 #[.func (.func 98) #[] #[.pointer (some ⟨b, 0, none⟩)]] w fun e w' => ∃ v, e = .returned v ∧ IntsIn .i64 w'.heap.size w' v (suitsV s c) ∧ Below w.heap.size w w' := by
 have HA := Lib.hid (appendSeq_ok hs va vc vx g b w hb hg hv)
 clear hb hg hv hs
 go_enter Tryz.func68, Tryz.ntmps68
 go_wp2_with fail
 refine HA.out.mono ?_
 rintro e w1 ⟨v, rfl, hi, hb⟩
 have HI := Lib.hid hi
 have HB := Lib.hid hb
 clear hi hb HA
 obtain ⟨ra, rc, rfl, -⟩ := HI.out
 go_wp2_with fail
 go_ret
 exact ⟨_, rfl, HI.out, HB.out⟩
set_option maxRecDepth 100000 in
set_option maxHeartbeats 16000000 in
theorem Suits_ok {s : WShop} {c : Candle} (hs : WOk s c) (vw vx : Value) (w : World) (hv : WShopAt w.heap.size w vw vx s) :
 Calls Tryz.prog 26 #[.agg (wshopC vw vx s), .agg (candC c)] w fun e w' => ∃ v, e = .returned (.tuple #[v, .int .i64 0]) ∧ IntsIn .i64 w'.heap.size w' v (suitsV s c) ∧ Below w.heap.size w w' := by
 have HCO := fun va vc vx g b w hb hg hv => Lib.hid (collect_ok hs va vc vx g b w hb hg hv)
 obtain ⟨va, vc, rfl, hvl, -⟩ := sl_shape hv.1
 obtain ⟨xa, xc, rfl, hxl, -⟩ := sl_shape hv.2
 have HV := Lib.hid hv
 have HOP := fun vk w h1 h2 => Lib.hid (wopen_ok hs [] (by intro z hz; simp at hz) (.slice va s.wicks.length vc) (.slice xa s.waxes.length xc) vk w h1 h2)
 have C0 : Hid (Bs w [(w.heap.size, .cells #[.slice va s.wicks.length vc, .slice xa s.waxes.length xc, .int .i64 s.flame.1, .int .i64 s.flame.2, .int .i64 s.pool.1, .int .i64 s.pool.2] 32), (w.heap.size + 1, .cells #[.int .i64 c.wax, .int .i64 c.dia, .int .i64 c.draught, .int .i64 c.cold.1, .int .i64 c.cold.2] 34)] _) := Lib.hid (((Bs.nil w).push _ rfl (.cells #[.slice va s.wicks.length vc, .slice xa s.waxes.length xc, .int .i64 s.flame.1, .int .i64 s.flame.2, .int .i64 s.pool.1, .int .i64 s.pool.2] 32)).push (w.heap.size + 1) (by simp) (.cells #[.int .i64 c.wax, .int .i64 c.dia, .int .i64 c.draught, .int .i64 c.cold.1, .int .i64 c.cold.2] 34))
 have hc0 := C0.out.cell 0 rfl 0
 have hc1 := C0.out.cell 0 rfl 1
 have hc2 := C0.out.cell 0 rfl 2
 have hc3 := C0.out.cell 0 rfl 3
 have hc4 := C0.out.cell 0 rfl 4
 have hc5 := C0.out.cell 0 rfl 5
 have hk0 := C0.out.cell 1 rfl 0
 have hk1 := C0.out.cell 1 rfl 1
 have hk2 := C0.out.cell 1 rfl 2
 have hk3 := C0.out.cell 1 rfl 3
 have hk4 := C0.out.cell 1 rfl 4
 clear hs hv
 go_enter Tryz.func26, Tryz.ntmps26
 go_wp2_with fail
 refine (HOP _ _ ((HV.out.below C0.out.bel).mono C0.out.bel.size) ⟨none, 0, rfl, by simp, .inl rfl⟩).out.mono ?_
 rintro e w1 ⟨g, rfl, -, hg, hb⟩
 have C1 := Lib.hid (C0.out.call hb)
 have HG := Lib.hid hg
 clear hb hg C0 HOP hc0 hc1 hc2 hc3 hc4 hc5 hk0 hk1 hk2 hk3 hk4
 go_wp2_with fail
 refine (suiting_any g _).mono ?_
 rintro e w2 ⟨rfl, rfl⟩
 have HB2 : Hid (Below w1.heap.size w1 (w1.alloc (.cells #[.pointer (some ⟨g, 0, none⟩)] 119))) := (Below.refl _ _).alloc (Nat.le_refl _) _
 have C2 := Lib.hid (C1.out.call HB2.out)
 go_wp2_with fail
 refine (HCO va vc (.slice xa s.waxes.length xc) g w1.heap.size _ (heap_alloc_new _ _) (block_keep HG.out HB2.out) ((HV.out.below C2.out.bel).mono C2.out.bel.size)).out.mono ?_
 rintro e w3 ⟨v, rfl, hi, hb⟩
 have C3 := Lib.hid (C2.out.call hb)
 have HI := Lib.hid hi
 clear hb hi C1 C2 HCO HV HB2
 obtain ⟨ra, rc, rfl, -⟩ := HI.out
 go_wp2_with fail
 go_ret2
 exact ⟨_, rfl, HI.out, C3.out.bel⟩
end Go.Proofs.YteebihcdgpfldaaGreat
