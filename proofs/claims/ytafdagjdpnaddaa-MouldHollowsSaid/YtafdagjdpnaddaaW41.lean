/- stearinref05.Hollow. -/
import Derived.Test.YtafdagjdpnaddaaW36
import Derived.Test.YtafdagjdpnaddaaW26
import Derived.Test.YtafdagjdpnaddaaW25
namespace Go.Proofs.Ytafdagjdpnaddaa
open Go.RowKit
theorem hollowV_zero {m : Mou} {plan : List Int} (h : hollowE m plan ≠ 0) : hollowV m plan = ((0, 0), (0, 0), hollowE m plan) := by
  unfold hollowV
  rw [if_pos h]
theorem hollowV_ok {m : Mou} {plan : List Int} (h : hollowE m plan = 0) : hollowV m plan = ((holV m (endsL m false) plan, holV m (endsL m true) plan), (pourL (fall m (endsL m true)) m.fill plan, pourL (fall m (endsL m false)) m.fill plan), 0) := by
  unfold hollowV
  rw [if_neg (by simp [h])]
set_option maxRecDepth 100000 in
set_option maxHeartbeats 32000000 in
theorem hollow_ref (m : Mou) (pv : Value) (plan : List Int) (w : World) (hp : IntsIn .i64 w.heap.size w pv plan) : Calls Try.prog 32 #[.agg #[.int .i64 m.rings, .int .i64 m.give, .int .i64 m.pl, .int .i64 m.ph, .int .i64 m.wl, .int .i64 m.wh, .int .i64 m.set, .int .i64 m.shrink, .int .i64 m.skin, .int .i64 m.fill, .int .i64 m.gap, .int .i64 m.deep], pv] w (RetHol (hollowV m plan) w) := by
  have C0 : Hid (Bs w [(w.heap.size, .cells #[.int .i64 m.rings, .int .i64 m.give, .int .i64 m.pl, .int .i64 m.ph, .int .i64 m.wl, .int .i64 m.wh, .int .i64 m.set, .int .i64 m.shrink, .int .i64 m.skin, .int .i64 m.fill, .int .i64 m.gap, .int .i64 m.deep] 25), (w.heap.size + 1, .cells #[.int .i64 0, .int .i64 0, .int .i64 0, .int .i64 0] 45)] _) := ((Bs.nil w).push _ rfl (.cells #[.int .i64 m.rings, .int .i64 m.give, .int .i64 m.pl, .int .i64 m.ph, .int .i64 m.wl, .int .i64 m.wh, .int .i64 m.set, .int .i64 m.shrink, .int .i64 m.skin, .int .i64 m.fill, .int .i64 m.gap, .int .i64 m.deep] 25)).push (w.heap.size + 1) (by simp) (.cells #[.int .i64 0, .int .i64 0, .int .i64 0, .int .i64 0] 45)
  have HP := Lib.hid hp
  clear hp
  have HC : ∀ w, Hid (Calls Try.prog 19 #[.agg #[.int .i64 m.rings, .int .i64 m.give, .int .i64 m.pl, .int .i64 m.ph, .int .i64 m.wl, .int .i64 m.wh, .int .i64 m.set, .int .i64 m.shrink, .int .i64 m.skin, .int .i64 m.fill, .int .i64 m.gap, .int .i64 m.deep]] w fun e w' => e = .returned (.int .i64 (checkE m)) ∧ Below w.heap.size w w') := checkR_any m
  have HS : ∀ w, Hid (Calls Try.prog 28 #[.agg #[.int .i64 m.rings, .int .i64 m.give, .int .i64 m.pl, .int .i64 m.ph, .int .i64 m.wl, .int .i64 m.wh, .int .i64 m.set, .int .i64 m.shrink, .int .i64 m.skin, .int .i64 m.fill, .int .i64 m.gap, .int .i64 m.deep]] w (RetSpE (setsV m).1 (setsV m).2 w)) := sets_ref m
  by_cases hck : checkE m = 0
  rotate_left
  · have hE : hollowE m plan = checkE m := by unfold hollowE; rw [if_pos hck]
    have HV : Hid (hollowV m plan = ((0, 0), (0, 0), checkE m)) := by
      unfold Hid
      rw [hollowV_zero (by rw [hE]; exact hck), hE]
    have hz : (checkE m != 0) = true := by simpa using hck
    have hz2 : (checkE m == 0) = false := by simpa using hck
    clear hE hck HS
    generalize checkE m = E at *
    go_enter Try.func32, Try.ntmps32
    go_wp2_with (refine wpList_load_bs rfl 25 _ rfl C0.out 0 w.heap.size #[.int .i64 m.rings, .int .i64 m.give, .int .i64 m.pl, .int .i64 m.ph, .int .i64 m.wl, .int .i64 m.wh, .int .i64 m.set, .int .i64 m.shrink, .int .i64 m.skin, .int .i64 m.fill, .int .i64 m.gap, .int .i64 m.deep] 25 rfl rfl _ Try.underlying25 rfl info25 ?_)
    refine (HC _).out.mono ?_
    rintro e w1 ⟨rfl, hb⟩
    have C1 := Lib.hid (C0.out.call hb)
    clear hb C0
    go_wp2_with (refine wpList_store_bs rfl 45 _ _ rfl C1.out 1 _ _ _ _ rfl rfl rfl info45 rfl (by simp [Value.oneCell']) ?_; intro w4 hC4)
    rw [HV.out]
    refine bodyPost_ret (v := .tuple #[.agg #[.int .i64 0, .int .i64 0, .int .i64 0, .int .i64 0], .int .i64 E]) (results_ct (fn := Try.f32) rfl _ _ _ _ _ _ _ _ rfl rfl (hC4.get 1 rfl) Try.underlying45 rfl info45) rfl ⟨rfl, hC4.bel⟩
  have hm := valid_of_check hck
  have HM := Lib.hid hm
  have hP : ∀ (w : World) (v : Value), IntsIn .i64 w.heap.size w v plan → Hid (Calls Try.prog 43 #[.agg #[.int .i64 m.rings, .int .i64 m.give, .int .i64 m.pl, .int .i64 m.ph, .int .i64 m.wl, .int .i64 m.wh, .int .i64 m.set, .int .i64 m.shrink, .int .i64 m.skin, .int .i64 m.fill, .int .i64 m.gap, .int .i64 m.deep], v] w fun e w' => e = .returned (.int .i64 (planE m plan)) ∧ Below w.heap.size w w') := fun w v hv =>
    plan_any m (by have := hm.a1; omega) hm.a6 plan v w hv
  rw [hck] at HC
  by_cases hpl : planE m plan = 0
  rotate_left
  · have hE : hollowE m plan = planE m plan := by unfold hollowE; rw [if_neg (by simp [hck]), if_pos hpl]
    have HV : Hid (hollowV m plan = ((0, 0), (0, 0), planE m plan)) := by
      unfold Hid
      rw [hollowV_zero (by rw [hE]; exact hpl), hE]
    have hz : (planE m plan != 0) = true := by simpa using hpl
    have hz2 : (planE m plan == 0) = false := by simpa using hpl
    clear hE hck hpl hm HM HS
    generalize planE m plan = E at *
    go_enter Try.func32, Try.ntmps32
    go_wp2_with (refine wpList_load_bs rfl 25 _ rfl C0.out 0 w.heap.size #[.int .i64 m.rings, .int .i64 m.give, .int .i64 m.pl, .int .i64 m.ph, .int .i64 m.wl, .int .i64 m.wh, .int .i64 m.set, .int .i64 m.shrink, .int .i64 m.skin, .int .i64 m.fill, .int .i64 m.gap, .int .i64 m.deep] 25 rfl rfl _ Try.underlying25 rfl info25 ?_)
    refine (HC _).out.mono ?_
    rintro e w1 ⟨rfl, hb⟩
    have C1 := Lib.hid (C0.out.call hb)
    clear hb C0
    go_wp2_with (refine wpList_load_bs rfl 25 _ rfl C1.out 0 w.heap.size #[.int .i64 m.rings, .int .i64 m.give, .int .i64 m.pl, .int .i64 m.ph, .int .i64 m.wl, .int .i64 m.wh, .int .i64 m.set, .int .i64 m.shrink, .int .i64 m.skin, .int .i64 m.fill, .int .i64 m.gap, .int .i64 m.deep] 25 rfl rfl _ Try.underlying25 rfl info25 ?_)
    refine (hP _ _ ((HP.out.below C1.out.bel).mono C1.out.bel.size)).out.mono ?_
    rintro e w2 ⟨rfl, hb⟩
    have C2 := Lib.hid (C1.out.call hb)
    clear hb C1
    go_wp2_with (refine wpList_store_bs rfl 45 _ _ rfl C2.out 1 _ _ _ _ rfl rfl rfl info45 rfl (by simp [Value.oneCell']) ?_; intro w4 hC4)
    rw [HV.out]
    refine bodyPost_ret (v := .tuple #[.agg #[.int .i64 0, .int .i64 0, .int .i64 0, .int .i64 0], .int .i64 E]) (results_ct (fn := Try.f32) rfl _ _ _ _ _ _ _ _ rfl rfl (hC4.get 1 rfl) Try.underlying45 rfl info45) rfl ⟨rfl, hC4.bel⟩
  rw [hpl] at hP
  have hpo := plan_ok.1 hpl
  have hEE : hollowE m plan = if neverB (endsL m true) = true then 9 else if poursB m (endsL m false) plan = false then 9 else 0 := by
    unfold hollowE
    rw [if_neg (by simp [hck]), if_neg (by simp [hpl])]
  by_cases hnv : neverB (endsL m true) = true
  · have HV : Hid (hollowV m plan = ((0, 0), (0, 0), 9)) := by
      rw [if_pos hnv] at hEE
      unfold Hid
      rw [hollowV_zero (by rw [hEE]; simp), hEE]
    rw [setsV_never hck hnv] at HS
    clear hEE hck hpl hm HM hnv hpo
    go_enter Try.func32, Try.ntmps32
    go_wp2_with (refine wpList_load_bs rfl 25 _ rfl C0.out 0 w.heap.size #[.int .i64 m.rings, .int .i64 m.give, .int .i64 m.pl, .int .i64 m.ph, .int .i64 m.wl, .int .i64 m.wh, .int .i64 m.set, .int .i64 m.shrink, .int .i64 m.skin, .int .i64 m.fill, .int .i64 m.gap, .int .i64 m.deep] 25 rfl rfl _ Try.underlying25 rfl info25 ?_)
    refine (HC _).out.mono ?_
    rintro e w1 ⟨rfl, hb⟩
    have C1 := Lib.hid (C0.out.call hb)
    clear hb C0
    go_wp2_with (refine wpList_load_bs rfl 25 _ rfl C1.out 0 w.heap.size #[.int .i64 m.rings, .int .i64 m.give, .int .i64 m.pl, .int .i64 m.ph, .int .i64 m.wl, .int .i64 m.wh, .int .i64 m.set, .int .i64 m.shrink, .int .i64 m.skin, .int .i64 m.fill, .int .i64 m.gap, .int .i64 m.deep] 25 rfl rfl _ Try.underlying25 rfl info25 ?_)
    refine (hP _ _ ((HP.out.below C1.out.bel).mono C1.out.bel.size)).out.mono ?_
    rintro e w2 ⟨rfl, hb⟩
    have C2 := Lib.hid (C1.out.call hb)
    clear hb C1
    go_wp2_with (refine wpList_load_bs rfl 25 _ rfl C2.out 0 w.heap.size #[.int .i64 m.rings, .int .i64 m.give, .int .i64 m.pl, .int .i64 m.ph, .int .i64 m.wl, .int .i64 m.wh, .int .i64 m.set, .int .i64 m.shrink, .int .i64 m.skin, .int .i64 m.fill, .int .i64 m.gap, .int .i64 m.deep] 25 rfl rfl _ Try.underlying25 rfl info25 ?_)
    refine (HS _).out.mono ?_
    rintro e w3 ⟨v3, rfl, -, hb⟩
    have C3 := Lib.hid (C2.out.call hb)
    clear hb C2
    go_wp2_with (refine wpList_store_bs rfl 45 _ _ rfl C3.out 1 _ _ _ _ rfl rfl rfl info45 rfl (by simp [Value.oneCell']) ?_; intro w4 hC4)
    rw [HV.out]
    refine bodyPost_ret (v := .tuple #[.agg #[.int .i64 0, .int .i64 0, .int .i64 0, .int .i64 0], .int .i64 9]) (results_ct (fn := Try.f32) rfl _ _ _ _ _ _ _ _ rfl rfl (hC4.get 1 rfl) Try.underlying45 rfl info45) rfl ⟨rfl, hC4.bel⟩
  have hnv' : neverB (endsL m true) = false := by simpa using hnv
  rw [setsV_ok hck hnv'] at HS
  have HE : ∀ w, Hid (Calls Try.prog 62 #[.agg #[.int .i64 m.rings, .int .i64 m.give, .int .i64 m.pl, .int .i64 m.ph, .int .i64 m.wl, .int .i64 m.wh, .int .i64 m.set, .int .i64 m.shrink, .int .i64 m.skin, .int .i64 m.fill, .int .i64 m.gap, .int .i64 m.deep]] w (RetEnds m w)) := ends_ref m hm
  have hPo : ∀ (b : Bool) (w : World) (v1 v2 : Value), poursB m (endsL m false) plan = b → IntsIn .i64 w.heap.size w v1 (endsL m false) → IntsIn .i64 w.heap.size w v2 plan → Hid (Calls Try.prog 46 #[.agg #[.int .i64 m.rings, .int .i64 m.give, .int .i64 m.pl, .int .i64 m.ph, .int .i64 m.wl, .int .i64 m.wh, .int .i64 m.set, .int .i64 m.shrink, .int .i64 m.skin, .int .i64 m.fill, .int .i64 m.gap, .int .i64 m.deep], v1, v2] w fun e w' => e = .returned (.bool b) ∧ Below w.heap.size w w') := fun b w v1 v2 hb h1 h2 =>
    pours_r b m (endsL m false) (by have := endsL_lenI hm false; have := hm.r8; omega) plan hb v1 v2 w h1 h2
  by_cases hpb : poursB m (endsL m false) plan = false
  · have HV : Hid (hollowV m plan = ((0, 0), (0, 0), 9)) := by
      rw [if_neg hnv, if_pos hpb] at hEE
      unfold Hid
      rw [hollowV_zero (by rw [hEE]; simp), hEE]
    have HPF := fun w v1 v2 => hPo false w v1 v2 hpb
    clear hEE hck hpl hm hnv hnv' hpo hpb hPo
    generalize (endsL m false).zip (endsL m true) = zz at *
    go_enter Try.func32, Try.ntmps32
    go_wp2_with (refine wpList_load_bs rfl 25 _ rfl C0.out 0 w.heap.size #[.int .i64 m.rings, .int .i64 m.give, .int .i64 m.pl, .int .i64 m.ph, .int .i64 m.wl, .int .i64 m.wh, .int .i64 m.set, .int .i64 m.shrink, .int .i64 m.skin, .int .i64 m.fill, .int .i64 m.gap, .int .i64 m.deep] 25 rfl rfl _ Try.underlying25 rfl info25 ?_)
    refine (HC _).out.mono ?_
    rintro e w1 ⟨rfl, hb⟩
    have C1 := Lib.hid (C0.out.call hb)
    clear hb C0
    go_wp2_with (refine wpList_load_bs rfl 25 _ rfl C1.out 0 w.heap.size #[.int .i64 m.rings, .int .i64 m.give, .int .i64 m.pl, .int .i64 m.ph, .int .i64 m.wl, .int .i64 m.wh, .int .i64 m.set, .int .i64 m.shrink, .int .i64 m.skin, .int .i64 m.fill, .int .i64 m.gap, .int .i64 m.deep] 25 rfl rfl _ Try.underlying25 rfl info25 ?_)
    refine (hP _ _ ((HP.out.below C1.out.bel).mono C1.out.bel.size)).out.mono ?_
    rintro e w2 ⟨rfl, hb⟩
    have C2 := Lib.hid (C1.out.call hb)
    clear hb C1
    go_wp2_with (refine wpList_load_bs rfl 25 _ rfl C2.out 0 w.heap.size #[.int .i64 m.rings, .int .i64 m.give, .int .i64 m.pl, .int .i64 m.ph, .int .i64 m.wl, .int .i64 m.wh, .int .i64 m.set, .int .i64 m.shrink, .int .i64 m.skin, .int .i64 m.fill, .int .i64 m.gap, .int .i64 m.deep] 25 rfl rfl _ Try.underlying25 rfl info25 ?_)
    refine (HS _).out.mono ?_
    rintro e w3 ⟨v3, rfl, -, hb⟩
    have C3 := Lib.hid (C2.out.call hb)
    clear hb C2
    go_wp2_with (refine wpList_load_bs rfl 25 _ rfl C3.out 0 w.heap.size #[.int .i64 m.rings, .int .i64 m.give, .int .i64 m.pl, .int .i64 m.ph, .int .i64 m.wl, .int .i64 m.wh, .int .i64 m.set, .int .i64 m.shrink, .int .i64 m.skin, .int .i64 m.fill, .int .i64 m.gap, .int .i64 m.deep] 25 rfl rfl _ Try.underlying25 rfl info25 ?_)
    refine (HE _).out.mono ?_
    rintro e w5 ⟨v1, v2, rfl, hn1, hn2, hb⟩
    have HF := Lib.hid hn1
    have HH := Lib.hid hn2
    have C4 := Lib.hid (C3.out.call hb)
    clear hb C3 hn1 hn2
    go_wp2_with (refine wpList_load_bs rfl 25 _ rfl C4.out 0 w.heap.size #[.int .i64 m.rings, .int .i64 m.give, .int .i64 m.pl, .int .i64 m.ph, .int .i64 m.wl, .int .i64 m.wh, .int .i64 m.set, .int .i64 m.shrink, .int .i64 m.skin, .int .i64 m.fill, .int .i64 m.gap, .int .i64 m.deep] 25 rfl rfl _ Try.underlying25 rfl info25 ?_)
    refine (HPF _ _ _ HF.out ((HP.out.below C4.out.bel).mono C4.out.bel.size)).out.mono ?_
    rintro e w6 ⟨rfl, hb⟩
    have C5 := Lib.hid (C4.out.call hb)
    clear hb C4
    go_wp2_with (refine wpList_store_bs rfl 45 _ _ rfl C5.out 1 _ _ _ _ rfl rfl rfl info45 rfl (by simp [Value.oneCell']) ?_; intro w4 hC4)
    rw [HV.out]
    refine bodyPost_ret (v := .tuple #[.agg #[.int .i64 0, .int .i64 0, .int .i64 0, .int .i64 0], .int .i64 9]) (results_ct (fn := Try.f32) rfl _ _ _ _ _ _ _ _ rfl rfl (hC4.get 1 rfl) Try.underlying45 rfl info45) rfl ⟨rfl, hC4.bel⟩
  have hpb' : poursB m (endsL m false) plan = true := by simpa using hpb
  have hE0 : hollowE m plan = 0 := by rw [hEE, if_neg hnv, if_neg hpb]
  have HV := Lib.hid (hollowV_ok hE0)
  have HPF := fun w v1 v2 => hPo true w v1 v2 hpb'
  have hEnd : ∀ (hot : Bool), neverB (endsL m hot) = false → ∀ (w : World) (v1 v2 : Value), IntsIn .i64 w.heap.size w v1 (endsL m hot) → IntsIn .i64 w.heap.size w v2 plan → Hid (Calls Try.prog 44 #[.agg #[.int .i64 m.rings, .int .i64 m.give, .int .i64 m.pl, .int .i64 m.ph, .int .i64 m.wl, .int .i64 m.wh, .int .i64 m.set, .int .i64 m.shrink, .int .i64 m.skin, .int .i64 m.fill, .int .i64 m.gap, .int .i64 m.deep], v1, v2] w fun e w' => e = .returned (.tuple #[.int .i64 (holV m (endsL m hot) plan), .int .i64 (pourL (fall m (endsL m hot)) m.fill plan)]) ∧ Below w.heap.size w w') := fun hot hn w v1 v2 h1 h2 => by
    have := end_ref m hm (endsL m hot) plan (endsL_lenI hm hot) (hpo.order hm) hpo.len v1 v2 w h1 h2
    rw [hollow_is (fun i hi => by
      rw [endsL_length] at hi
      rw [endsL_getD m hot hi]
      exact ⟨never_not hn hi, (setAtF_bound m hot i).2⟩)] at this
    exact this
  have hEc := hEnd false (never_later (noLater_ends hm) hnv')
  have hEh := hEnd true hnv'
  clear hEE hck hpl hm hnv hnv' hpo hpb hpb' hPo hEnd hE0
  generalize (endsL m false).zip (endsL m true) = zz at *
  generalize holV m (endsL m false) plan = a1 at *
  generalize holV m (endsL m true) plan = a2 at *
  generalize pourL (fall m (endsL m false)) m.fill plan = q1 at *
  generalize pourL (fall m (endsL m true)) m.fill plan = q2 at *
  · go_enter Try.func32, Try.ntmps32
    go_wp2_with (refine wpList_load_bs rfl 25 _ rfl C0.out 0 w.heap.size #[.int .i64 m.rings, .int .i64 m.give, .int .i64 m.pl, .int .i64 m.ph, .int .i64 m.wl, .int .i64 m.wh, .int .i64 m.set, .int .i64 m.shrink, .int .i64 m.skin, .int .i64 m.fill, .int .i64 m.gap, .int .i64 m.deep] 25 rfl rfl _ Try.underlying25 rfl info25 ?_)
    refine (HC _).out.mono ?_
    rintro e w1 ⟨rfl, hb⟩
    have C1 := Lib.hid (C0.out.call hb)
    clear hb C0
    go_wp2_with (refine wpList_load_bs rfl 25 _ rfl C1.out 0 w.heap.size #[.int .i64 m.rings, .int .i64 m.give, .int .i64 m.pl, .int .i64 m.ph, .int .i64 m.wl, .int .i64 m.wh, .int .i64 m.set, .int .i64 m.shrink, .int .i64 m.skin, .int .i64 m.fill, .int .i64 m.gap, .int .i64 m.deep] 25 rfl rfl _ Try.underlying25 rfl info25 ?_)
    refine (hP _ _ ((HP.out.below C1.out.bel).mono C1.out.bel.size)).out.mono ?_
    rintro e w2 ⟨rfl, hb⟩
    have C2 := Lib.hid (C1.out.call hb)
    clear hb C1
    go_wp2_with (refine wpList_load_bs rfl 25 _ rfl C2.out 0 w.heap.size #[.int .i64 m.rings, .int .i64 m.give, .int .i64 m.pl, .int .i64 m.ph, .int .i64 m.wl, .int .i64 m.wh, .int .i64 m.set, .int .i64 m.shrink, .int .i64 m.skin, .int .i64 m.fill, .int .i64 m.gap, .int .i64 m.deep] 25 rfl rfl _ Try.underlying25 rfl info25 ?_)
    refine (HS _).out.mono ?_
    rintro e w3 ⟨v3, rfl, -, hb⟩
    have C3 := Lib.hid (C2.out.call hb)
    clear hb C2
    go_wp2_with (refine wpList_load_bs rfl 25 _ rfl C3.out 0 w.heap.size #[.int .i64 m.rings, .int .i64 m.give, .int .i64 m.pl, .int .i64 m.ph, .int .i64 m.wl, .int .i64 m.wh, .int .i64 m.set, .int .i64 m.shrink, .int .i64 m.skin, .int .i64 m.fill, .int .i64 m.gap, .int .i64 m.deep] 25 rfl rfl _ Try.underlying25 rfl info25 ?_)
    refine (HE _).out.mono ?_
    rintro e w5 ⟨v1, v2, rfl, hn1, hn2, hb⟩
    have HF := Lib.hid hn1
    have HH := Lib.hid hn2
    have C4 := Lib.hid (C3.out.call hb)
    clear hb C3 hn1 hn2
    go_wp2_with (refine wpList_load_bs rfl 25 _ rfl C4.out 0 w.heap.size #[.int .i64 m.rings, .int .i64 m.give, .int .i64 m.pl, .int .i64 m.ph, .int .i64 m.wl, .int .i64 m.wh, .int .i64 m.set, .int .i64 m.shrink, .int .i64 m.skin, .int .i64 m.fill, .int .i64 m.gap, .int .i64 m.deep] 25 rfl rfl _ Try.underlying25 rfl info25 ?_)
    refine (HPF _ _ _ HF.out ((HP.out.below C4.out.bel).mono C4.out.bel.size)).out.mono ?_
    rintro e w6 ⟨rfl, hb⟩
    have C5 := Lib.hid (C4.out.call hb)
    have HF := Lib.hid (HF.out.next hb)
    have HH := Lib.hid (HH.out.next hb)
    clear hb C4
    go_wp2_with (refine wpList_load_bs rfl 25 _ rfl C5.out 0 w.heap.size #[.int .i64 m.rings, .int .i64 m.give, .int .i64 m.pl, .int .i64 m.ph, .int .i64 m.wl, .int .i64 m.wh, .int .i64 m.set, .int .i64 m.shrink, .int .i64 m.skin, .int .i64 m.fill, .int .i64 m.gap, .int .i64 m.deep] 25 rfl rfl _ Try.underlying25 rfl info25 ?_)
    refine (hEc _ _ _ HF.out ((HP.out.below C5.out.bel).mono C5.out.bel.size)).out.mono ?_
    rintro e w7 ⟨rfl, hb⟩
    have C6 := Lib.hid (C5.out.call hb)
    have HH := Lib.hid (HH.out.next hb)
    clear hb C5 HF
    go_wp2_with (refine wpList_load_bs rfl 25 _ rfl C6.out 0 w.heap.size #[.int .i64 m.rings, .int .i64 m.give, .int .i64 m.pl, .int .i64 m.ph, .int .i64 m.wl, .int .i64 m.wh, .int .i64 m.set, .int .i64 m.shrink, .int .i64 m.skin, .int .i64 m.fill, .int .i64 m.gap, .int .i64 m.deep] 25 rfl rfl _ Try.underlying25 rfl info25 ?_)
    refine (hEh _ _ _ HH.out ((HP.out.below C6.out.bel).mono C6.out.bel.size)).out.mono ?_
    rintro e w8 ⟨rfl, hb⟩
    have C7 := Lib.hid (C6.out.call hb)
    clear hb C6 HH
    go_wp2_with (refine wpList_store_bs rfl 45 _ _ rfl C7.out 1 _ _ _ _ rfl rfl rfl info45 rfl (by simp [Value.oneCell']) ?_; intro w4 hC4)
    rw [HV.out]
    refine bodyPost_ret (v := .tuple #[.agg #[.int .i64 a1, .int .i64 a2, .int .i64 q2, .int .i64 q1], .int .i64 0]) (results_ct (fn := Try.f32) rfl _ _ _ _ _ _ _ _ rfl rfl (hC4.get 1 rfl) Try.underlying45 rfl info45) rfl ⟨rfl, hC4.bel⟩

end Go.Proofs.Ytafdagjdpnaddaa
