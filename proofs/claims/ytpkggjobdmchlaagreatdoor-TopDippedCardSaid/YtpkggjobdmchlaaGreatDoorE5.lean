/- dip: after. -/
import Derived.Deep.Cut
import Derived.Deep.CutBlock
import Derived.Test.YtpkggjobdmchlaaGreatDoorE4
import Derived.Test.YtpkggjobdmchlaaGreatDoorG2
namespace Go.Proofs.YtpkggjobdmchlaaGreatDoor
open Go.RowKit
theorem idx4_0 (x : Array Value) (w : World) : (Instr.index 170 (.agg #[.func (.func 84) #[.agg x] #[], .func (.func 85) #[.agg x] #[], .func (.func 64) #[.agg x] #[], .func (.func 65) #[.agg x] #[]]) (.int .i64 0)).run Tryz.prog w = .ok (.func (.func 84) #[.agg x] #[]) w := by kernel_rfl
theorem idx4_1 (x : Array Value) (w : World) : (Instr.index 170 (.agg #[.func (.func 84) #[.agg x] #[], .func (.func 85) #[.agg x] #[], .func (.func 64) #[.agg x] #[], .func (.func 65) #[.agg x] #[]]) (.int .i64 1)).run Tryz.prog w = .ok (.func (.func 85) #[.agg x] #[]) w := by kernel_rfl
theorem idx4_2 (x : Array Value) (w : World) : (Instr.index 170 (.agg #[.func (.func 84) #[.agg x] #[], .func (.func 85) #[.agg x] #[], .func (.func 64) #[.agg x] #[], .func (.func 65) #[.agg x] #[]]) (.int .i64 2)).run Tryz.prog w = .ok (.func (.func 64) #[.agg x] #[]) w := by kernel_rfl
theorem idx4_3 (x : Array Value) (w : World) : (Instr.index 170 (.agg #[.func (.func 84) #[.agg x] #[], .func (.func 85) #[.agg x] #[], .func (.func 64) #[.agg x] #[], .func (.func 65) #[.agg x] #[]]) (.int .i64 3)).run Tryz.prog w = .ok (.func (.func 65) #[.agg x] #[]) w := by kernel_rfl
/-- A range's numbers are not great. -/
def RngB (B : Int) (r : DRng) : Prop := (-B ≤ r.top.1 ∧ r.top.1 ≤ B) ∧ (-B ≤ r.top.2 ∧ r.top.2 ≤ B) ∧ (-B ≤ r.foot.1 ∧ r.foot.1 ≤ B) ∧ (-B ≤ r.foot.2 ∧ r.foot.2 ≤ B) ∧ (-B ≤ r.skew.1 ∧ r.skew.1 ≤ B) ∧ -B ≤ r.skew.2 ∧ r.skew.2 ≤ B
set_option maxRecDepth 100000 in
set_option maxHeartbeats 16000000 in
theorem after_ok {s : DShop} (hs : DOk s) {d : DDip} (hd : DipOk s d) {r : DRng} (hr : RngB 100000000000 r) (v : Value) (w : World) (hv : DBathsIn w.heap.size w v s.baths) :
    Calls Tryz.prog 48 #[.agg (dshopC s v), .agg (rngC r), .agg (dipC d)] w fun e w' => e = .returned (.agg (rngC (afterV s r d))) ∧ Below w.heap.size w w' := by
  have hwi := warm_in hs hd
  obtain ⟨va, vc, rfl, -, -⟩ := sl_shape hv
  have HV := Lib.hid hv
  have hgc := grow_bound hs hd (warm := (warmOf s d).1) (by omega)
  have hgh := grow_bound hs hd (warm := (warmOf s d).2) (by omega)
  have hgc' : (-25000000 ≤ (coldV s d).1 ∧ (coldV s d).1 ≤ 25000000) ∧ -25000000 ≤ (coldV s d).2 ∧ (coldV s d).2 ≤ 25000000 := hgc
  have hgh' : (-25000000 ≤ (hotV s d).1 ∧ (hotV s d).1 ≤ 25000000) ∧ -25000000 ≤ (hotV s d).2 ∧ (hotV s d).2 ≤ 25000000 := hgh
  have hle : (leastV s d).1 = hotV s d ∨ (leastV s d).1 = coldV s d := by unfold leastV; split; exact .inl rfl; exact .inr rfl
  have hmo : (mostV s d).1 = hotV s d ∨ (mostV s d).1 = coldV s d := by unfold mostV; split; exact .inl rfl; exact .inr rfl
  have H0 := fun v w h => Lib.hid (cold_ok hs hd v w h)
  have H1 := fun v w h => Lib.hid (hot_ok hs hd v w h)
  have H2 := fun v w h => Lib.hid (least_ok hs hd v w h)
  have H3 := fun v w h => Lib.hid (most_ok hs hd v w h)
  have hbl : (-25000000 ≤ (leastV s d).1.1 ∧ (leastV s d).1.1 ≤ 25000000) ∧ -25000000 ≤ (leastV s d).1.2 ∧ (leastV s d).1.2 ≤ 25000000 := by rcases hle with h | h <;> rw [h] <;> assumption
  have hbm : (-25000000 ≤ (mostV s d).1.1 ∧ (mostV s d).1.1 ≤ 25000000) ∧ -25000000 ≤ (mostV s d).1.2 ∧ (mostV s d).1.2 ≤ 25000000 := by rcases hmo with h | h <;> rw [h] <;> assumption
  have HSL := fun w => Lib.hid (skew_ok (leastV s d).1 (by omega) w)
  have HSM := fun w => Lib.hid (skew_ok (mostV s d).1 (by omega) w)
  have HE : Hid (afterV s r d = ⟨(r.top.1 + (hotV s d).1, r.top.2 + (coldV s d).1), (r.foot.1 + (hotV s d).2, r.foot.2 + (coldV s d).2), (r.skew.1 + skewG (leastV s d).1, r.skew.2 + skewG (mostV s d).1)⟩) := rfl
  have hks : -50000000 ≤ skewG (leastV s d).1 ∧ skewG (leastV s d).1 ≤ 50000000 := by unfold skewG; omega
  have hkm : -50000000 ≤ skewG (mostV s d).1 ∧ skewG (mostV s d).1 ≤ 50000000 := by unfold skewG; omega
  rw [HE.out]
  clear hgc hgh hwi hs hd hv HE hle hmo hbl hbm
  generalize coldV s d = C at *
  generalize hotV s d = H at *
  generalize leastV s d = LL at *
  generalize mostV s d = MM at *
  generalize warmOf s d = wm at *
  obtain ⟨c1, c2⟩ := C
  obtain ⟨h1, h2⟩ := H
  obtain ⟨⟨l1, l2⟩, l3⟩ := LL
  obtain ⟨⟨m1, m2⟩, m3⟩ := MM
  obtain ⟨⟨t1, t2⟩, ⟨f1, f2⟩, ⟨k1, k2⟩⟩ := r
  unfold RngB at hr
  simp only at HSL HSM H0 H1 H2 H3 hks hkm hgc' hgh' hr ⊢
  generalize skewG (l1, l2) = sl at *
  generalize skewG (m1, m2) = sm at *
  have wt1 : wrap64 (t1 + h1) = t1 + h1 := wrapU (by omega)
  have wt2 : wrap64 (t2 + c1) = t2 + c1 := wrapU (by omega)
  have wf1 : wrap64 (f1 + h2) = f1 + h2 := wrapU (by omega)
  have wf2 : wrap64 (f2 + c2) = f2 + c2 := wrapU (by omega)
  have WK1 : Hid (wrap64 (k1 + sl) = k1 + sl) := wrapU (by omega)
  have WK2 : Hid (wrap64 (k2 + sm) = k2 + sm) := wrapU (by omega)
  clear hks hkm hgc' hgh' hr
  have WT := Lib.hid (And.intro wt1 (And.intro wt2 (And.intro wf1 wf2)))
  clear wt1 wt2 wf1 wf2
  have C5 : Hid (Bs w [(w.heap.size, .cells (dshopC s (.slice va s.baths.length vc)) 106), (w.heap.size + 1, .cells #[.int .i64 (t1), .int .i64 (t2), .int .i64 (f1), .int .i64 (f2), .int .i64 (k1), .int .i64 (k2)] 95), (w.heap.size + 2, .cells (dipC d) 54), (w.heap.size + 3, .cells #[.int .i64 0, .int .i64 0, .int .i64 0, .int .i64 0, .int .i64 0, .int .i64 0] 95), (w.heap.size + 4, .cells #[.int .i64 0, .int .i64 0, .int .i64 0, .int .i64 0, .int .i64 0, .int .i64 0, .int .i64 0, .int .i64 0] 169)] _) := Lib.hid ((((((Bs.nil w).push _ rfl (.cells (dshopC s (.slice va s.baths.length vc)) 106)).push (w.heap.size + 1) (by simp) (.cells #[.int .i64 (t1), .int .i64 (t2), .int .i64 (f1), .int .i64 (f2), .int .i64 (k1), .int .i64 (k2)] 95)).push (w.heap.size + 2) (by simp) (.cells (dipC d) 54)).push (w.heap.size + 3) (by simp) (.cells #[.int .i64 0, .int .i64 0, .int .i64 0, .int .i64 0, .int .i64 0, .int .i64 0] 95)).push (w.heap.size + 4) (by simp) (.cells #[.int .i64 0, .int .i64 0, .int .i64 0, .int .i64 0, .int .i64 0, .int .i64 0, .int .i64 0, .int .i64 0] 169))
  go_enter Tryz.func48, Tryz.ntmps48
  go_wp2_with (refine wpList_load_row rfl 106 _ rfl _ rfl _ _ _ _ (C5.out.get 0 rfl) Tryz.underlying106 rfl infoDsh ?_)
  go_loopw [19] (fun iv wr => (iv = .int .i64 0 ∧ Bs w [(w.heap.size, .cells (dshopC s (.slice va s.baths.length vc)) 106), (w.heap.size + 1, .cells #[.int .i64 (t1), .int .i64 (t2), .int .i64 (f1), .int .i64 (f2), .int .i64 (k1), .int .i64 (k2)] 95), (w.heap.size + 2, .cells (dipC d) 54), (w.heap.size + 3, .cells #[.int .i64 0, .int .i64 0, .int .i64 0, .int .i64 0, .int .i64 0, .int .i64 0] 95), (w.heap.size + 4, .cells #[.int .i64 0, .int .i64 0, .int .i64 0, .int .i64 0, .int .i64 0, .int .i64 0, .int .i64 0, .int .i64 0] 169)] wr) ∨ (iv = .int .i64 1 ∧ Bs w [(w.heap.size, .cells (dshopC s (.slice va s.baths.length vc)) 106), (w.heap.size + 1, .cells #[.int .i64 (t1), .int .i64 (t2), .int .i64 (f1), .int .i64 (f2), .int .i64 (k1), .int .i64 (k2)] 95), (w.heap.size + 2, .cells (dipC d) 54), (w.heap.size + 3, .cells #[.int .i64 0, .int .i64 0, .int .i64 0, .int .i64 0, .int .i64 0, .int .i64 0] 95), (w.heap.size + 4, .cells #[.int .i64 c1, .int .i64 c2, .int .i64 0, .int .i64 0, .int .i64 0, .int .i64 0, .int .i64 0, .int .i64 0] 169)] wr) ∨ (iv = .int .i64 2 ∧ Bs w [(w.heap.size, .cells (dshopC s (.slice va s.baths.length vc)) 106), (w.heap.size + 1, .cells #[.int .i64 (t1), .int .i64 (t2), .int .i64 (f1), .int .i64 (f2), .int .i64 (k1), .int .i64 (k2)] 95), (w.heap.size + 2, .cells (dipC d) 54), (w.heap.size + 3, .cells #[.int .i64 0, .int .i64 0, .int .i64 0, .int .i64 0, .int .i64 0, .int .i64 0] 95), (w.heap.size + 4, .cells #[.int .i64 c1, .int .i64 c2, .int .i64 h1, .int .i64 h2, .int .i64 0, .int .i64 0, .int .i64 0, .int .i64 0] 169)] wr) ∨ (iv = .int .i64 3 ∧ Bs w [(w.heap.size, .cells (dshopC s (.slice va s.baths.length vc)) 106), (w.heap.size + 1, .cells #[.int .i64 (t1), .int .i64 (t2), .int .i64 (f1), .int .i64 (f2), .int .i64 (k1), .int .i64 (k2)] 95), (w.heap.size + 2, .cells (dipC d) 54), (w.heap.size + 3, .cells #[.int .i64 0, .int .i64 0, .int .i64 0, .int .i64 0, .int .i64 0, .int .i64 0] 95), (w.heap.size + 4, .cells #[.int .i64 c1, .int .i64 c2, .int .i64 h1, .int .i64 h2, .int .i64 l1, .int .i64 l2, .int .i64 0, .int .i64 0] 169)] wr) ∨ (iv = .int .i64 4 ∧ Bs w [(w.heap.size, .cells (dshopC s (.slice va s.baths.length vc)) 106), (w.heap.size + 1, .cells #[.int .i64 (t1), .int .i64 (t2), .int .i64 (f1), .int .i64 (f2), .int .i64 (k1), .int .i64 (k2)] 95), (w.heap.size + 2, .cells (dipC d) 54), (w.heap.size + 3, .cells #[.int .i64 0, .int .i64 0, .int .i64 0, .int .i64 0, .int .i64 0, .int .i64 0] 95), (w.heap.size + 4, .cells #[.int .i64 c1, .int .i64 c2, .int .i64 h1, .int .i64 h2, .int .i64 l1, .int .i64 l2, .int .i64 m1, .int .i64 m2] 169)] wr)) (fun iv _ => 4 - (intOf iv).toNat)
  case atStart => exact .inl ⟨rfl, C5.out⟩
  case round =>
    clear C5
    rcases hrel with ⟨rfl, hbs⟩ | ⟨rfl, hbs⟩ | ⟨rfl, hbs⟩ | ⟨rfl, hbs⟩ | ⟨rfl, hbs⟩
    · have CI := Lib.hid hbs
      clear hbs
      have hix := fun w => idx4_0 (dshopC s (.slice va s.baths.length vc)) w
      go_wp2_with (refine wpList_load_row rfl 54 _ rfl _ rfl _ _ _ _ (CI.out.get 2 rfl) Tryz.underlying54 rfl infoDD ?_)
      clear hix
      refine (H0 _ _ ((HV.out.below CI.out.bel).mono CI.out.bel.size)).out.mono ?_
      rintro e w6 ⟨rfl, hb⟩
      have C6 := Lib.hid (CI.out.call hb)
      clear hb CI
      go_wp2_with (refine wpList_mid_bsN rfl 127 _ _ rfl C6.out 4 _ 0 #[.int .i64 c1, .int .i64 c2] _ _ rfl rfl rfl infoGT (by simp) (by simp [Value.oneCell']) ?_; intro w7 hC; have C7 : Hid (Bs w [(w.heap.size, .cells (dshopC s (.slice va s.baths.length vc)) 106), (w.heap.size + 1, .cells #[.int .i64 (t1), .int .i64 (t2), .int .i64 (f1), .int .i64 (f2), .int .i64 (k1), .int .i64 (k2)] 95), (w.heap.size + 2, .cells (dipC d) 54), (w.heap.size + 3, .cells #[.int .i64 0, .int .i64 0, .int .i64 0, .int .i64 0, .int .i64 0, .int .i64 0] 95), (w.heap.size + 4, .cells #[.int .i64 c1, .int .i64 c2, .int .i64 0, .int .i64 0, .int .i64 0, .int .i64 0, .int .i64 0, .int .i64 0] 169)] w7) := hC; clear hC C6)
      refine ⟨.inr (.inl ⟨rfl, C7.out⟩), ?_⟩
      simp [intOf]
    · have CI := Lib.hid hbs
      clear hbs
      have hix := fun w => idx4_1 (dshopC s (.slice va s.baths.length vc)) w
      go_wp2_with (refine wpList_load_row rfl 54 _ rfl _ rfl _ _ _ _ (CI.out.get 2 rfl) Tryz.underlying54 rfl infoDD ?_)
      clear hix
      refine (H1 _ _ ((HV.out.below CI.out.bel).mono CI.out.bel.size)).out.mono ?_
      rintro e w6 ⟨rfl, hb⟩
      have C6 := Lib.hid (CI.out.call hb)
      clear hb CI
      go_wp2_with (refine wpList_mid_bsN rfl 127 _ _ rfl C6.out 4 _ 2 #[.int .i64 h1, .int .i64 h2] _ _ rfl rfl rfl infoGT (by simp) (by simp [Value.oneCell']) ?_; intro w7 hC; have C7 : Hid (Bs w [(w.heap.size, .cells (dshopC s (.slice va s.baths.length vc)) 106), (w.heap.size + 1, .cells #[.int .i64 (t1), .int .i64 (t2), .int .i64 (f1), .int .i64 (f2), .int .i64 (k1), .int .i64 (k2)] 95), (w.heap.size + 2, .cells (dipC d) 54), (w.heap.size + 3, .cells #[.int .i64 0, .int .i64 0, .int .i64 0, .int .i64 0, .int .i64 0, .int .i64 0] 95), (w.heap.size + 4, .cells #[.int .i64 c1, .int .i64 c2, .int .i64 h1, .int .i64 h2, .int .i64 0, .int .i64 0, .int .i64 0, .int .i64 0] 169)] w7) := hC; clear hC C6)
      refine ⟨.inr (.inr (.inl ⟨rfl, C7.out⟩)), ?_⟩
      simp [intOf]
    · have CI := Lib.hid hbs
      clear hbs
      have hix := fun w => idx4_2 (dshopC s (.slice va s.baths.length vc)) w
      go_wp2_with (refine wpList_load_row rfl 54 _ rfl _ rfl _ _ _ _ (CI.out.get 2 rfl) Tryz.underlying54 rfl infoDD ?_)
      clear hix
      refine (H2 _ _ ((HV.out.below CI.out.bel).mono CI.out.bel.size)).out.mono ?_
      rintro e w6 ⟨rfl, hb⟩
      have C6 := Lib.hid (CI.out.call hb)
      clear hb CI
      go_wp2_with (refine wpList_mid_bsN rfl 127 _ _ rfl C6.out 4 _ 4 #[.int .i64 l1, .int .i64 l2] _ _ rfl rfl rfl infoGT (by simp) (by simp [Value.oneCell']) ?_; intro w7 hC; have C7 : Hid (Bs w [(w.heap.size, .cells (dshopC s (.slice va s.baths.length vc)) 106), (w.heap.size + 1, .cells #[.int .i64 (t1), .int .i64 (t2), .int .i64 (f1), .int .i64 (f2), .int .i64 (k1), .int .i64 (k2)] 95), (w.heap.size + 2, .cells (dipC d) 54), (w.heap.size + 3, .cells #[.int .i64 0, .int .i64 0, .int .i64 0, .int .i64 0, .int .i64 0, .int .i64 0] 95), (w.heap.size + 4, .cells #[.int .i64 c1, .int .i64 c2, .int .i64 h1, .int .i64 h2, .int .i64 l1, .int .i64 l2, .int .i64 0, .int .i64 0] 169)] w7) := hC; clear hC C6)
      refine ⟨.inr (.inr (.inr (.inl ⟨rfl, C7.out⟩))), ?_⟩
      simp [intOf]
    · have CI := Lib.hid hbs
      clear hbs
      have hix := fun w => idx4_3 (dshopC s (.slice va s.baths.length vc)) w
      go_wp2_with (refine wpList_load_row rfl 54 _ rfl _ rfl _ _ _ _ (CI.out.get 2 rfl) Tryz.underlying54 rfl infoDD ?_)
      clear hix
      refine (H3 _ _ ((HV.out.below CI.out.bel).mono CI.out.bel.size)).out.mono ?_
      rintro e w6 ⟨rfl, hb⟩
      have C6 := Lib.hid (CI.out.call hb)
      clear hb CI
      go_wp2_with (refine wpList_mid_bsN rfl 127 _ _ rfl C6.out 4 _ 6 #[.int .i64 m1, .int .i64 m2] _ _ rfl rfl rfl infoGT (by simp) (by simp [Value.oneCell']) ?_; intro w7 hC; have C7 : Hid (Bs w [(w.heap.size, .cells (dshopC s (.slice va s.baths.length vc)) 106), (w.heap.size + 1, .cells #[.int .i64 (t1), .int .i64 (t2), .int .i64 (f1), .int .i64 (f2), .int .i64 (k1), .int .i64 (k2)] 95), (w.heap.size + 2, .cells (dipC d) 54), (w.heap.size + 3, .cells #[.int .i64 0, .int .i64 0, .int .i64 0, .int .i64 0, .int .i64 0, .int .i64 0] 95), (w.heap.size + 4, .cells #[.int .i64 c1, .int .i64 c2, .int .i64 h1, .int .i64 h2, .int .i64 l1, .int .i64 l2, .int .i64 m1, .int .i64 m2] 169)] w7) := hC; clear hC C6)
      refine ⟨.inr (.inr (.inr (.inr (⟨rfl, C7.out⟩)))), ?_⟩
      simp [intOf]
    · have CI := Lib.hid hbs
      clear hbs HV H0 H1 H2 H3
      obtain ⟨wt1, wt2, wf1, wf2⟩ := WT.out
      have x10 := CI.out.cell 1 rfl 0; have x11 := CI.out.cell 1 rfl 1; have x12 := CI.out.cell 1 rfl 2; have x13 := CI.out.cell 1 rfl 3; have x14 := CI.out.cell 1 rfl 4; have x15 := CI.out.cell 1 rfl 5; have x40 := CI.out.cell 4 rfl 0; have x41 := CI.out.cell 4 rfl 1; have x42 := CI.out.cell 4 rfl 2; have x43 := CI.out.cell 4 rfl 3
      go_upto_region 8 with (refine wpList_mid_bsN rfl 25 _ _ rfl CI.out 1 _ 0 #[.int .i64 (t1 + h1), .int .i64 (t2 + c1)] _ _ rfl rfl rfl infoSpan (by simp) (by simp [Value.oneCell']) ?_; intro w7 hC; have C7 : Hid (Bs w [(w.heap.size, .cells (dshopC s (.slice va s.baths.length vc)) 106), (w.heap.size + 1, .cells #[.int .i64 (t1 + h1), .int .i64 (t2 + c1), .int .i64 (f1), .int .i64 (f2), .int .i64 (k1), .int .i64 (k2)] 95), (w.heap.size + 2, .cells (dipC d) 54), (w.heap.size + 3, .cells #[.int .i64 0, .int .i64 0, .int .i64 0, .int .i64 0, .int .i64 0, .int .i64 0] 95), (w.heap.size + 4, .cells #[.int .i64 c1, .int .i64 c2, .int .i64 h1, .int .i64 h2, .int .i64 l1, .int .i64 l2, .int .i64 m1, .int .i64 m2] 169)] w7) := hC; clear hC CI x10 x11 x12 x13 x14 x15 x40 x41 x42 x43; have x10 := C7.out.cell 1 rfl 0; have x11 := C7.out.cell 1 rfl 1; have x12 := C7.out.cell 1 rfl 2; have x13 := C7.out.cell 1 rfl 3; have x14 := C7.out.cell 1 rfl 4; have x15 := C7.out.cell 1 rfl 5; have x40 := C7.out.cell 4 rfl 0; have x41 := C7.out.cell 4 rfl 1; have x42 := C7.out.cell 4 rfl 2; have x43 := C7.out.cell 4 rfl 3)
      go_upto_region 9 with (refine wpList_mid_bsN rfl 25 _ _ rfl C7.out 1 _ 2 #[.int .i64 (f1 + h2), .int .i64 (f2 + c2)] _ _ rfl rfl rfl infoSpan (by simp) (by simp [Value.oneCell']) ?_; intro w8 hC; have C8 : Hid (Bs w [(w.heap.size, .cells (dshopC s (.slice va s.baths.length vc)) 106), (w.heap.size + 1, .cells #[.int .i64 (t1 + h1), .int .i64 (t2 + c1), .int .i64 (f1 + h2), .int .i64 (f2 + c2), .int .i64 (k1), .int .i64 (k2)] 95), (w.heap.size + 2, .cells (dipC d) 54), (w.heap.size + 3, .cells #[.int .i64 0, .int .i64 0, .int .i64 0, .int .i64 0, .int .i64 0, .int .i64 0] 95), (w.heap.size + 4, .cells #[.int .i64 c1, .int .i64 c2, .int .i64 h1, .int .i64 h2, .int .i64 l1, .int .i64 l2, .int .i64 m1, .int .i64 m2] 169)] w8) := hC; clear hC C7 x10 x11 x12 x13 x14 x15 x40 x41 x42 x43)
      clear wt1 wt2 wf1 wf2
      refine wp_region_inv0 (by kernel_rfl) (by kernel_rfl) (fun D w' => Bs w [(w.heap.size, .cells (dshopC s (.slice va s.baths.length vc)) 106), (w.heap.size + 1, .cells (bif D 16 then #[.int .i64 (t1 + h1), .int .i64 (t2 + c1), .int .i64 (f1 + h2), .int .i64 (f2 + c2), .int .i64 (k1 + sl), .int .i64 (k2 + sm)] else #[.int .i64 (t1 + h1), .int .i64 (t2 + c1), .int .i64 (f1 + h2), .int .i64 (f2 + c2), .int .i64 (k1), .int .i64 (k2)]) 95), (w.heap.size + 2, .cells (dipC d) 54), (w.heap.size + 3, .cells #[.int .i64 0, .int .i64 0, .int .i64 0, .int .i64 0, .int .i64 0, .int .i64 0] 95), (w.heap.size + 4, .cells #[.int .i64 c1, .int .i64 c2, .int .i64 h1, .int .i64 h2, .int .i64 l1, .int .i64 l2, .int .i64 m1, .int .i64 m2] 169)] w') C8.out.drew ?_
      iterate 2
        (apply obl_det
         case hrun =>
           intro D y wz hW hD R hR
           have HRR := Lib.hid hR
           clear hR
           have HW := Lib.hid hW
           clear hW hD
           go_wp2
           exact HRR.out _ HW.out
         case hnp => rfl
         case hv => first | exact ⟨_, fun _ => rfl⟩ | exact ⟨undef, fun _ => rfl⟩)
      apply obl_det
      case hrun =>
        intro D y wz hW hD R hR
        have HRR := Lib.hid hR
        clear hR
        have h16 : D 16 = false := hD.post _ 16 rfl (by kernel_rfl)
        have H16 := Lib.hid h16
        have y := hW.cell 1 rfl 4
        rw [h16] at y
        simp only [cond] at y
        clear h16
        have HW := Lib.hid hW
        clear hW hD
        go_wp2_with fail
        exact HRR.out _ HW.out
      case hnp => rfl
      case hv => first | exact ⟨_, fun _ => rfl⟩ | exact ⟨undef, fun _ => rfl⟩
      apply obl_det
      case hrun =>
        intro D y wz hW hD R hR
        have HRR := Lib.hid hR
        clear hR
        have HW := Lib.hid hW
        clear hW hD
        go_wp2
        exact HRR.out _ HW.out
      case hnp => rfl
      case hv => first | exact ⟨_, fun _ => rfl⟩ | exact ⟨undef, fun _ => rfl⟩
      apply obl_det
      case hrun =>
        intro D y wz hW hD R hR
        have HRR := Lib.hid hR
        clear hR
        have HW := Lib.hid hW
        have z0 := HW.out.cell 4 rfl 4
        have z1 := HW.out.cell 4 rfl 5
        clear hW hD
        go_wp2_with fail
        exact HRR.out _ HW.out
      case hnp => rfl
      case hv => first | exact ⟨_, fun _ => rfl⟩ | exact ⟨undef, fun _ => rfl⟩
      apply obl_det
      case hrun =>
        intro D y wz hW hD R hR
        have HRR := Lib.hid hR
        clear hR
        have HW := Lib.hid hW
        clear hW hD
        go_wp2_with fail
        refine ((HSL _).out).mono ?_
        rintro e w' ⟨rfl, hb⟩
        have HB2 := Lib.hid (HW.out.call hb)
        clear hb
        go_wp2_with fail
        exact HRR.out _ HB2.out
      case hnp => rfl
      case hv => first | exact ⟨_, fun _ => rfl⟩ | exact ⟨undef, fun _ => rfl⟩
      apply obl_det
      case hrun =>
        intro D y wz hW hD R hR
        have HRR := Lib.hid hR
        clear hR
        have HW := Lib.hid hW
        clear hW hD
        go_wp2_with fail
        rw [WK1.out]
        exact HRR.out _ HW.out
      case hnp => rfl
      case hv => first | exact ⟨_, fun _ => rfl⟩ | exact ⟨undef, fun _ => rfl⟩
      iterate 2
        (apply obl_det
         case hrun =>
           intro D y wz hW hD R hR
           have HRR := Lib.hid hR
           clear hR
           have HW := Lib.hid hW
           clear hW hD
           go_wp2
           exact HRR.out _ HW.out
         case hnp => rfl
         case hv => first | exact ⟨_, fun _ => rfl⟩ | exact ⟨undef, fun _ => rfl⟩)
      apply obl_det
      case hrun =>
        intro D y wz hW hD R hR
        have HRR := Lib.hid hR
        clear hR
        have h16 : D 16 = false := hD.post _ 16 rfl (by kernel_rfl)
        have H16 := Lib.hid h16
        have y := hW.cell 1 rfl 5
        rw [h16] at y
        simp only [cond] at y
        clear h16
        have HW := Lib.hid hW
        clear hW hD
        go_wp2_with fail
        exact HRR.out _ HW.out
      case hnp => rfl
      case hv => first | exact ⟨_, fun _ => rfl⟩ | exact ⟨undef, fun _ => rfl⟩
      apply obl_det
      case hrun =>
        intro D y wz hW hD R hR
        have HRR := Lib.hid hR
        clear hR
        have HW := Lib.hid hW
        clear hW hD
        go_wp2
        exact HRR.out _ HW.out
      case hnp => rfl
      case hv => first | exact ⟨_, fun _ => rfl⟩ | exact ⟨undef, fun _ => rfl⟩
      apply obl_det
      case hrun =>
        intro D y wz hW hD R hR
        have HRR := Lib.hid hR
        clear hR
        have HW := Lib.hid hW
        have z0 := HW.out.cell 4 rfl 6
        have z1 := HW.out.cell 4 rfl 7
        clear hW hD
        go_wp2_with fail
        exact HRR.out _ HW.out
      case hnp => rfl
      case hv => first | exact ⟨_, fun _ => rfl⟩ | exact ⟨undef, fun _ => rfl⟩
      apply obl_det
      case hrun =>
        intro D y wz hW hD R hR
        have HRR := Lib.hid hR
        clear hR
        have HW := Lib.hid hW
        clear hW hD
        go_wp2_with fail
        refine ((HSM _).out).mono ?_
        rintro e w' ⟨rfl, hb⟩
        have HB2 := Lib.hid (HW.out.call hb)
        clear hb
        go_wp2_with fail
        exact HRR.out _ HB2.out
      case hnp => rfl
      case hv => first | exact ⟨_, fun _ => rfl⟩ | exact ⟨undef, fun _ => rfl⟩
      apply obl_det
      case hrun =>
        intro D y wz hW hD R hR
        have HRR := Lib.hid hR
        clear hR
        have HW := Lib.hid hW
        clear hW hD
        go_wp2_with fail
        rw [WK2.out]
        exact HRR.out _ HW.out
      case hnp => rfl
      case hv => first | exact ⟨_, fun _ => rfl⟩ | exact ⟨undef, fun _ => rfl⟩
      iterate 2
        (apply obl_det
         case hrun =>
           intro D y wz hW hD R hR
           have HRR := Lib.hid hR
           clear hR
           have HW := Lib.hid hW
           clear hW hD
           go_wp2
           exact HRR.out _ HW.out
         case hnp => rfl
         case hv => first | exact ⟨_, fun _ => rfl⟩ | exact ⟨undef, fun _ => rfl⟩)
      apply obl_det
      case hrun =>
        intro D y wz hW hD R hR
        have HRR := Lib.hid hR
        clear hR
        have h16 : D 16 = false := hD.not
        rw [h16] at hW
        replace hW : Bs w [(w.heap.size, .cells (dshopC s (.slice va s.baths.length vc)) 106), (w.heap.size + 1, .cells #[.int .i64 (t1 + h1), .int .i64 (t2 + c1), .int .i64 (f1 + h2), .int .i64 (f2 + c2), .int .i64 (k1), .int .i64 (k2)] 95), (w.heap.size + 2, .cells (dipC d) 54), (w.heap.size + 3, .cells #[.int .i64 0, .int .i64 0, .int .i64 0, .int .i64 0, .int .i64 0, .int .i64 0] 95), (w.heap.size + 4, .cells #[.int .i64 c1, .int .i64 c2, .int .i64 h1, .int .i64 h2, .int .i64 l1, .int .i64 l2, .int .i64 m1, .int .i64 m2] 169)] wz := hW
        have HW := Lib.hid hW
        clear hW hD
        refine wpList_mid_bsN rfl 25 _ _ rfl HW.out 1 _ 4 #[.int .i64 (k1 + sl), .int .i64 (k2 + sm)] _ _ rfl rfl rfl infoSpan (by simp) (by simp [Value.oneCell']) ?_
        intro w' hw'
        go_simp
        exact HRR.out _ hw'
      case hnp => rfl
      case hv => first | exact ⟨_, fun _ => rfl⟩ | exact ⟨undef, fun _ => rfl⟩
      apply obl_nil
      intro D y w8x hall hW
      have C9 : Hid (Bs w [(w.heap.size, .cells (dshopC s (.slice va s.baths.length vc)) 106), (w.heap.size + 1, .cells #[.int .i64 (t1 + h1), .int .i64 (t2 + c1), .int .i64 (f1 + h2), .int .i64 (f2 + c2), .int .i64 (k1 + sl), .int .i64 (k2 + sm)] 95), (w.heap.size + 2, .cells (dipC d) 54), (w.heap.size + 3, .cells #[.int .i64 0, .int .i64 0, .int .i64 0, .int .i64 0, .int .i64 0, .int .i64 0] 95), (w.heap.size + 4, .cells #[.int .i64 c1, .int .i64 c2, .int .i64 h1, .int .i64 h2, .int .i64 l1, .int .i64 l2, .int .i64 m1, .int .i64 m2] 169)] w8x) := by
        have h16 := hall 16 (by decide)
        rw [h16] at hW
        exact hW
      clear hW hall C8
      go_wp2_with (first | (refine wpList_load_row rfl 95 _ rfl _ rfl _ _ _ _ (C9.out.get 1 rfl) Tryz.underlying95 rfl infoDR ?_) | (refine wpList_store_bs rfl 95 _ _ rfl C9.out 3 _ _ _ _ rfl rfl rfl infoDR rfl (by simp [Value.oneCell']) ?_; intro w10 hC; have C10 := Lib.hid hC; clear hC C9))
      exact bodyPost_ret (results_cell_row (fn := Tryz.f48) rfl _ _ _ _ _ _ _ rfl (C10.out.get 3 rfl) Tryz.underlying95 rfl infoDR) rfl ⟨rfl, C10.out.bel⟩
end Go.Proofs.YtpkggjobdmchlaaGreatDoor
