/- MouldEnd: the walk. -/
import Derived.Test.YtafdagjdpnaddaaQ1
import Derived.Test.YtafdagjdpnaddaaAW
import Derived.Test.YtafdagjdpnaddaaW26
import Derived.Test.YtafdagjdpnaddaaW25
namespace Go.Proofs.Ytafdagjdpnaddaa
open Go.RowKit
theorem hollowV_zero {m : Mou} {plan : List Int} (h : hollowE m plan ≠ 0) : hollowV m plan = ((0, 0), (0, 0), hollowE m plan) := by
  unfold hollowV
  rw [if_pos h]
theorem hollowV_ok {m : Mou} {plan : List Int} (h : hollowE m plan = 0) : hollowV m plan = ((holV m (endsL m false) plan, holV m (endsL m true) plan), (pourL (fall m (endsL m true)) m.fill plan, pourL (fall m (endsL m false)) m.fill plan), 0) := by
  unfold hollowV
  rw [if_neg (by simp [h])]
theorem pourL_bound {m : Mou} (hm : Valid m) {when : List Int} (hl : (when.length : Int) = m.rings) (plan : List Int) : 0 ≤ pourL (fall m when) m.fill plan ∧ pourL (fall m when) m.fill plan ≤ 24000 := by
  unfold pourL
  refine ⟨pourF_nonneg (by have := hm.f1; omega) (Int.le_refl _) (fun t _ => fall_nonneg hm hl t), pourF_step (by omega) (fun t _ => ?_)⟩
  exact (fall_bound hm hl t).2
theorem allTo_24 {m : Mou} (hm : Valid m) {k : Nat} (h : (k : Int) ≤ m.rings) : 0 ≤ allTo m k ∧ allTo m k ≤ 24000 := by
  have := allTo_bound hm k h
  have := hm.r8
  omega
set_option maxRecDepth 100000 in
set_option maxHeartbeats 16000000 in
theorem end_law (m : Mou) (pv : Value) (plan : List Int) (yv zv : Value) (yl zl : List Int) (w : World) (hp : IntsIn .i64 w.heap.size w pv plan) (hy : IntsIn .u16 w.heap.size w yv yl) (hz : IntsIn .u16 w.heap.size w zv zl) (hyr : ∀ x ∈ yl, 0 ≤ x ∧ x ≤ 65535) (hzr : ∀ x ∈ zl, 0 ≤ x ∧ x ≤ 65535) :
    Calls Try.prog 9 #[.agg #[.int .i64 m.rings, .int .i64 m.give, .int .i64 m.pl, .int .i64 m.ph, .int .i64 m.wl, .int .i64 m.wh, .int .i64 m.set, .int .i64 m.shrink, .int .i64 m.skin, .int .i64 m.fill, .int .i64 m.gap, .int .i64 m.deep], pv, .agg #[yv, zv]] w (fun e w' => e = .returned (.bool true) ∧ Below w.heap.size w w') := by
  have C0 := Lib.hid (((Bs.nil w).push _ rfl (.cells #[.int .i64 m.rings, .int .i64 m.give, .int .i64 m.pl, .int .i64 m.ph, .int .i64 m.wl, .int .i64 m.wh, .int .i64 m.set, .int .i64 m.shrink, .int .i64 m.skin, .int .i64 m.fill, .int .i64 m.gap, .int .i64 m.deep] 25)).push (w.heap.size + 1) (by simp) (.cells #[yv, zv] 58))
  have HY := Lib.hid hy
  have HZ := Lib.hid hz
  have HYR := Lib.hid hyr
  have HZR := Lib.hid hzr
  have HP := Lib.hid hp
  clear hy hz hyr hzr hp
  have HA : ∀ w, IntsIn .i64 w.heap.size w pv plan → Hid (Calls Try.prog 31 #[.agg #[.int .i64 m.rings, .int .i64 m.give, .int .i64 m.pl, .int .i64 m.ph, .int .i64 m.wl, .int .i64 m.wh, .int .i64 m.set, .int .i64 m.shrink, .int .i64 m.skin, .int .i64 m.fill, .int .i64 m.gap, .int .i64 m.deep], pv] w (RetHol (hollowV m plan) w)) := fun w h => hollow_any m plan pv w h
  by_cases hE : hollowE m plan = 0
  rotate_left
  · rw [hollowV_zero hE] at HA
    have hz : (hollowE m plan != 0) = true := by simpa using hE
    clear hE
    generalize hollowE m plan = E at *
    go_enter Try.func9, Try.ntmps9
    go_wp2_with (refine wpList_load_bs rfl 25 _ rfl C0.out 0 w.heap.size #[.int .i64 m.rings, .int .i64 m.give, .int .i64 m.pl, .int .i64 m.ph, .int .i64 m.wl, .int .i64 m.wh, .int .i64 m.set, .int .i64 m.shrink, .int .i64 m.skin, .int .i64 m.fill, .int .i64 m.gap, .int .i64 m.deep] 25 rfl rfl _ Try.underlying25 rfl info25 ?_)
    refine (HA _ ((HP.out.below C0.out.bel).mono C0.out.bel.size)).out.mono ?_
    rintro e w1 ⟨rfl, hb⟩
    have C1 := Lib.hid ((C0.out.call hb).push w1.heap.size rfl (.cells #[.int .i64 0, .int .i64 0, .int .i64 0, .int .i64 0] 45))
    have c2 := C1.out.cell 2 rfl
    clear hb C0
    go_wp2_with fail
    refine (awake_any _).mono ?_
    rintro e w4 ⟨rfl, hb⟩
    have HBel := Lib.hid (C1.out.call hb).bel
    clear hb C1 c2
    go_wp2
    go_ret
    exact ⟨rfl, HBel.out⟩
  rw [hollowV_ok hE] at HA
  obtain ⟨hck, hpo, hnev, hpb⟩ := hollowE_ok hE
  have hm := valid_of_check hck
  have HM := Lib.hid hm
  have HC : ∀ w, Hid (Calls Try.prog 19 #[.agg #[.int .i64 m.rings, .int .i64 m.give, .int .i64 m.pl, .int .i64 m.ph, .int .i64 m.wl, .int .i64 m.wh, .int .i64 m.set, .int .i64 m.shrink, .int .i64 m.skin, .int .i64 m.fill, .int .i64 m.gap, .int .i64 m.deep]] w fun e w' => e = .returned (.int .i64 0) ∧ Below w.heap.size w w') := fun w => by
    have := checkR_any m w
    rw [hck] at this
    exact this
  have hlen := hpo.len
  have hnc := when_cold hm yl zl
  have hnh := when_hot hm yl zl
  have hwl : ((truthWhen m yl zl).length : Int) = m.rings := by rw [truthWhen_len]; have := hm.r1; omega
  have hset : ∀ i, i < (truthWhen m yl zl).length → 0 ≤ (truthWhen m yl zl).getD i 0 ∧ (truthWhen m yl zl).getD i 0 ≤ 600 := fun i hi =>
    ⟨sets_all hnh hnev hi, (when_range m _ _ (by rw [truthWl, mapTo_len]; omega) (by unfold truthWhen at hi; rw [whenL_length] at hi; exact hi)).2⟩
  have hpo' := plan_ok.2 hpo
  have hP : ∀ (w : World) (v : Value), IntsIn .i64 w.heap.size w v plan → Hid (Calls Try.prog 43 #[.agg #[.int .i64 m.rings, .int .i64 m.give, .int .i64 m.pl, .int .i64 m.ph, .int .i64 m.wl, .int .i64 m.wh, .int .i64 m.set, .int .i64 m.shrink, .int .i64 m.skin, .int .i64 m.fill, .int .i64 m.gap, .int .i64 m.deep], v] w fun e w' => e = .returned (.int .i64 0) ∧ Below w.heap.size w w') := fun w v hv => by
    have := plan_any m (by have := hm.a1; omega) hm.a6 plan v w hv
    rw [hpo'] at this
    exact this
  have hEnd : ∀ (w : World) (v1 v2 : Value), IntsIn .i64 w.heap.size w v1 (truthWhen m yl zl) → IntsIn .i64 w.heap.size w v2 plan → Hid (Calls Try.prog 44 #[.agg #[.int .i64 m.rings, .int .i64 m.give, .int .i64 m.pl, .int .i64 m.ph, .int .i64 m.wl, .int .i64 m.wh, .int .i64 m.set, .int .i64 m.shrink, .int .i64 m.skin, .int .i64 m.fill, .int .i64 m.gap, .int .i64 m.deep], v1, v2] w fun e w' => e = .returned (.tuple #[.int .i64 (holV m (truthWhen m yl zl) plan), .int .i64 (pourL (fall m (truthWhen m yl zl)) m.fill plan)]) ∧ Below w.heap.size w w') := fun w v1 v2 h1 h2 => by
    have := end_ref m hm (truthWhen m yl zl) plan hwl (hpo.order hm) hlen v1 v2 w h1 h2
    rw [hollow_is hset] at this
    exact this
  have hPo : ∀ (w : World) (v1 v2 : Value), IntsIn .i64 w.heap.size w v1 (truthWhen m yl zl) → IntsIn .i64 w.heap.size w v2 plan → Hid (Calls Try.prog 46 #[.agg #[.int .i64 m.rings, .int .i64 m.give, .int .i64 m.pl, .int .i64 m.ph, .int .i64 m.wl, .int .i64 m.wh, .int .i64 m.set, .int .i64 m.shrink, .int .i64 m.skin, .int .i64 m.fill, .int .i64 m.gap, .int .i64 m.deep], v1, v2] w fun e w' => e = .returned (.bool true) ∧ Below w.heap.size w w') := fun w v1 v2 h1 h2 =>
    pours_r true m (truthWhen m yl zl) (by have := hm.r8; omega) plan (pours_later hnc hpb) v1 v2 w h1 h2
  have hq1 := hol_mono hm hnc hwl plan
  have hq2 := hol_mono hm hnh (endsL_lenI hm true) plan
  obtain ⟨r, hr⟩ : ∃ r : Nat, m.rings = r := ⟨m.rings.toNat, by have := hm.r1; omega⟩
  have hrn : (truthWhen m yl zl).length = r := by omega
  have hrc : (endsL m false).length = r := by have := endsL_lenI hm false; omega
  have hrh : (endsL m true).length = r := by have := endsL_lenI hm true; omega
  have s1 : holV m (truthWhen m yl zl) plan + pourL (fall m (truthWhen m yl zl)) m.fill plan = allTo m r := by unfold holV; rw [hrn]; omega
  have s2 : holV m (endsL m false) plan + pourL (fall m (endsL m false)) m.fill plan = allTo m r := by unfold holV; rw [hrc]; omega
  have s3 : holV m (endsL m true) plan + pourL (fall m (endsL m true)) m.fill plan = allTo m r := by unfold holV; rw [hrh]; omega
  have b1 := pourL_bound hm hwl plan
  have b2 := pourL_bound hm (endsL_lenI hm false) plan
  have b3 := pourL_bound hm (endsL_lenI hm true) plan
  have b4 := allTo_24 hm (k := r) (by omega)
  have when_use : ∀ (w : World) (v1 v2 : Value), IntsIn .i64 w.heap.size w v1 (truthPl m m.rings.toNat yl) → IntsIn .i64 w.heap.size w v2 (truthWl m 600 zl) → Calls Try.prog 40 #[.agg #[.int .i64 m.rings, .int .i64 m.give, .int .i64 m.pl, .int .i64 m.ph, .int .i64 m.wl, .int .i64 m.wh, .int .i64 m.set, .int .i64 m.shrink, .int .i64 m.skin, .int .i64 m.fill, .int .i64 m.gap, .int .i64 m.deep], .agg #[v1, v2]] w (RetI (truthWhen m yl zl) w) := fun w v1 v2 h1 h2 =>
    when_ref m hm.g1 hm.g5 v1 v2 _ _ w h1 h2 (by rw [truthPl, mapTo_len]; have := hm.r1; omega) (by rw [truthPl, mapTo_len]; have := hm.r8; omega) ((truth_fitsP hm yl).wide hm.p0 hm.p2) (by rw [truthWl, mapTo_len]; omega) ((truth_fitsW hm zl 600).wide hm.w0 hm.w2)
  have HTR : ∀ w : World, IntsIn .u16 w.heap.size w yv yl → IntsIn .u16 w.heap.size w zv zl → Hid (Calls Try.prog 38 #[.agg #[.int .i64 m.rings, .int .i64 m.give, .int .i64 m.pl, .int .i64 m.ph, .int .i64 m.wl, .int .i64 m.wh, .int .i64 m.set, .int .i64 m.shrink, .int .i64 m.skin, .int .i64 m.fill, .int .i64 m.gap, .int .i64 m.deep], .int .i64 600, .agg #[yv, zv]] w (RetT (truthPl m m.rings.toNat yl) (truthWl m 600 zl) w)) := fun w h1 h2 => truth_any m hm 600 (by omega) yv zv yl zl w h1 h2 HYR.out HZR.out
  have HSET : Hid (∀ i, i < r → 0 ≤ (truthWhen m yl zl).getD i 0) := fun i hi => (hset i (by omega)).1
  have HWN := Lib.hid hrn
  have HRR := Lib.hid hr
  generalize truthWhen m yl zl = wl at *
  generalize holV m wl plan = hol at *
  generalize pourL (fall m wl) m.fill plan = prd at *
  generalize holV m (endsL m false) plan = a1 at *
  generalize holV m (endsL m true) plan = a2 at *
  generalize pourL (fall m (endsL m false)) m.fill plan = p2 at *
  generalize pourL (fall m (endsL m true)) m.fill plan = p1 at *
  have hr1 : 1 ≤ r := by have := hm.r1; omega
  have hr8 : r ≤ 8 := by have := hm.r8; omega
  have wi1 : within hol a1 a2 = true := within_iff.2 ⟨hq1, hq2⟩
  have wi2 : within prd p1 p2 = true := within_iff.2 ⟨by omega, by omega⟩
  have e1 : (hol + prd == allTo m r) = true := by simpa using s1
  have e2 : (a1 + p2 == allTo m r) = true := by simpa using s2
  have e3 : (a2 + p1 == allTo m r) = true := by simpa using s3
  have t1 : -48000 ≤ hol + prd := by omega
  have t2 : hol + prd ≤ 48000 := by omega
  have t3 : -48000 ≤ a1 + p2 := by omega
  have t4 : a1 + p2 ≤ 48000 := by omega
  have t5 : -48000 ≤ a2 + p1 := by omega
  have t6 : a2 + p1 ≤ 48000 := by omega
  clear hset hwl hnc hnh hpo' hpo hpb hnev hE hck hm hrc hrh hrn hr s1 s2 s3 b1 b2 b3 b4 hq1 hq2
  go_enter Try.func9, Try.ntmps9
  go_wp2_with (refine wpList_load_bs rfl 25 _ rfl C0.out 0 w.heap.size #[.int .i64 m.rings, .int .i64 m.give, .int .i64 m.pl, .int .i64 m.ph, .int .i64 m.wl, .int .i64 m.wh, .int .i64 m.set, .int .i64 m.shrink, .int .i64 m.skin, .int .i64 m.fill, .int .i64 m.gap, .int .i64 m.deep] 25 rfl rfl _ Try.underlying25 rfl info25 ?_)
  refine (HA _ ((HP.out.below C0.out.bel).mono C0.out.bel.size)).out.mono ?_
  rintro e w1 ⟨rfl, hb⟩
  have C1 := Lib.hid ((C0.out.call hb).push w1.heap.size rfl (.cells #[.int .i64 a1, .int .i64 a2, .int .i64 p1, .int .i64 p2] 45))
  clear hb C0
  go_wp2_with (refine wpList_load_want rfl 25 _ rfl _ rfl _ _ _ _ (C1.out.get 0 rfl) Try.underlying25 rfl info25 ?_)
  refine (HC _).out.mono ?_
  rintro e w2 ⟨rfl, hb⟩
  have C2 := Lib.hid (C1.out.call hb)
  clear hb C1
  go_wp2_with (refine wpList_load_want rfl 25 _ rfl _ rfl _ _ _ _ (C2.out.get 0 rfl) Try.underlying25 rfl info25 ?_)
  refine (hP _ _ ((HP.out.below C2.out.bel).mono C2.out.bel.size)).out.mono ?_
  rintro e w2' ⟨rfl, hb⟩
  have C2 := Lib.hid (C2.out.call hb)
  clear hb
  go_wp2_with fail
  refine wp_region_inv1 (by kernel_rfl) (by kernel_rfl) [46, 47, 9] (fun D y w' => WhW w2' (truthPl m m.rings.toNat yl) (truthWl m 600 zl) (wl) (D 3) (D 4) (D 5) (y 46) (y 47) (y 9) w') (WhW.start _) ?FA ?hFA ?_
  case hFA =>
    intro y
    simp only [fill, List.foldl, Act.put, List.setIfInBounds_toArray, List.set]
    exact rfl
  apply obl_det
  case hrun =>
    intro D y wz hW hD R hR
    have HRR := Lib.hid hR
    clear hR
    have HW := Lib.hid hW
    clear hW hD
    refine wpList_load_want rfl 25 _ rfl _ rfl _ _ _ _ ((C2.out.call HW.out.bel).get 0 rfl) Try.underlying25 rfl info25 ?_
    go_simp
    exact HRR.out _ HW.out
  case hnp => rfl
  case hv => first | exact ⟨_, fun _ => rfl⟩ | exact ⟨undef, fun _ => rfl⟩
  apply obl_det
  case hrun =>
    intro D y wz hW hD R hR
    have HRR := Lib.hid hR
    clear hR
    have HW := Lib.hid hW
    clear hW hD
    refine wpList_load_want rfl 25 _ rfl _ rfl _ _ _ _ ((C2.out.call HW.out.bel).get 0 rfl) Try.underlying25 rfl info25 ?_
    go_simp
    exact HRR.out _ HW.out
  case hnp => rfl
  case hv => first | exact ⟨_, fun _ => rfl⟩ | exact ⟨undef, fun _ => rfl⟩
  apply obl_det
  case hrun =>
    intro D y wz hW hD R hR
    have HRR := Lib.hid hR
    clear hR
    have HW := Lib.hid hW
    clear hW hD
    refine wpList_load_want rfl 58 _ rfl _ rfl _ _ _ _ ((C2.out.call HW.out.bel).get 1 rfl) Try.underlying58 rfl info58 ?_
    go_simp
    exact HRR.out _ HW.out
  case hnp => rfl
  case hv => first | exact ⟨_, fun _ => rfl⟩ | exact ⟨undef, fun _ => rfl⟩
  apply obl_priv 46
  case hd => rfl
  case hp => rfl
  case hrun =>
    intro D y wz hW hD R hR
    have HRR := Lib.hid hR
    clear hR
    have HW := Lib.hid hW
    clear hW hD
    go_wp2_with fail
    refine ((HTR wz ((HY.out.below (C2.out.call HW.out.bel).bel).mono (C2.out.call HW.out.bel).bel.size) ((HZ.out.below (C2.out.call HW.out.bel).bel).mono (C2.out.call HW.out.bel).bel.size)).out).mono ?_
    rintro e w' ⟨v1, v2, rfl, hi1, hi2, hb⟩
    have HN := Lib.hid ((HW.out.next hb).put3 hi1 hi2)
    clear hb hi1 hi2
    go_wp2_with fail
    refine HRR.out _ _ ?_
    show WhW w2' (truthPl m m.rings.toNat yl) (truthWl m 600 zl) (wl) true (D 4) (D 5) _ (y 47) (y 9) _
    exact HN.out
  apply obl_priv 47
  case hd => rfl
  case hp => rfl
  case hrun =>
    intro D y wz hW hD R hR
    have HRR := Lib.hid hR
    clear hR
    have h5 : D 5 = false := hD.post _ 5 rfl (by kernel_rfl)
    have h3 : D 3 = true := hD.pre _ 3 rfl (by kernel_rfl)
    obtain ⟨v1, v2, e3, hv1, hv2⟩ := hW.t h3
    have HW := Lib.hid hW
    have H5 := Lib.hid h5
    have hwh := when_use wz v1 v2 hv1 hv2
    rw [← e3] at hwh
    have HWH := Lib.hid hwh
    clear hW hD h3 h5 hv1 hv2 hwh e3
    go_wp2_with fail
    refine HWH.out.mono ?_
    rintro e w' ⟨v, rfl, hi1, hb⟩
    have HN := Lib.hid ((HW.out.next hb).put4 H5.out hi1)
    clear hb hi1
    go_wp2_with fail
    refine HRR.out _ _ ?_
    show WhW w2' (truthPl m m.rings.toNat yl) (truthWl m 600 zl) (wl) (D 3) true (D 5) (y 46) _ (y 9) _
    exact HN.out
  apply obl_priv 9
  case hd => rfl
  case hp => rfl
  case hrun =>
    intro D y wz hW hD R hR
    have HRR := Lib.hid hR
    clear hR
    have HW := Lib.hid hW
    clear hW hD
    go_wp2
    refine HRR.out _ _ ?_
    show WhW w2' (truthPl m m.rings.toNat yl) (truthWl m 600 zl) (wl) (D 3) (D 4) true (y 46) (y 47) (y 47) _
    exact HW.out.put5
  apply obl_nil
  intro D y w8 hall hW
  have hn := hW.n (hall 4 (by decide))
  have ha := hW.a (hall 5 (by decide))
  have hbl := hW.bel
  clear hW hall
  rw [← ha] at hn

  have HN := Lib.hid hn
  have C3 := Lib.hid (C2.out.call hbl)
  clear hn ha hbl C2
  generalize y 9 = vw at *
  generalize y 46 = g35 at *
  generalize y 47 = g36 at *
  go_wp2_with (refine wpList_load_bs rfl 25 _ rfl C3.out 0 w.heap.size #[.int .i64 m.rings, .int .i64 m.give, .int .i64 m.pl, .int .i64 m.ph, .int .i64 m.wl, .int .i64 m.wh, .int .i64 m.set, .int .i64 m.shrink, .int .i64 m.skin, .int .i64 m.fill, .int .i64 m.gap, .int .i64 m.deep] 25 rfl rfl _ Try.underlying25 rfl info25 ?_)
  refine (hEnd _ _ _ HN.out ((HP.out.below C3.out.bel).mono C3.out.bel.size)).out.mono ?_
  rintro e w5 ⟨rfl, hb⟩
  have HN := Lib.hid (HN.out.next hb)
  have C5 : Hid (Bs w [(w.heap.size, .cells #[.int .i64 m.rings, .int .i64 m.give, .int .i64 m.pl, .int .i64 m.ph, .int .i64 m.wl, .int .i64 m.wh, .int .i64 m.set, .int .i64 m.shrink, .int .i64 m.skin, .int .i64 m.fill, .int .i64 m.gap, .int .i64 m.deep] 25), (w.heap.size + 1, .cells #[yv, zv] 58), (w1.heap.size, .cells #[.int .i64 a1, .int .i64 a2, .int .i64 p1, .int .i64 p2] 45)] w5) := C3.out.call hb
  clear hb C3
  obtain ⟨av, cv, ev, -⟩ := HN.out
  rw [HWN.out] at ev
  subst ev
  go_wp2_with fail
  go_loopw [12, 13] (fun sv iv wr => ∃ i : Nat, iv = .int .i64 i ∧ i ≤ r ∧ sv = .int .i64 (allTo m i) ∧ Bs w [(w.heap.size, .cells #[.int .i64 m.rings, .int .i64 m.give, .int .i64 m.pl, .int .i64 m.ph, .int .i64 m.wl, .int .i64 m.wh, .int .i64 m.set, .int .i64 m.shrink, .int .i64 m.skin, .int .i64 m.fill, .int .i64 m.gap, .int .i64 m.deep] 25), (w.heap.size + 1, .cells #[yv, zv] 58), (w1.heap.size, .cells #[.int .i64 a1, .int .i64 a2, .int .i64 p1, .int .i64 p2] 45)] wr ∧ IntsIn .i64 wr.heap.size wr (.slice av r cv) wl) (fun _ iv _ => r - (intOf iv).toNat)
  case atStart => exact ⟨0, rfl, by omega, rfl, C5.out, HN.out⟩
  case round =>
    obtain ⟨i, rfl, hi, rfl, hC, hI⟩ := hrel
    have CI := Lib.hid hC
    have HI := Lib.hid hI
    have c00 : wr.cell? ⟨w.heap.size, 0, none⟩ = some (.int .i64 r) := by
      rw [hC.cell 0 rfl, ← HRR.out]
      rfl
    have hA := allTo_24 HM.out (k := i) (by have := HRR.out; omega)
    have hA0 := hA.1
    have hA1 := hA.2
    clear hC hI C5 HN hA
    by_cases hir : i < r
    · have hri : (i : Int) < m.rings := by have := HRR.out; omega
      have hii : (i : Int) < (r : Int) := by omega
      have HS := fun w => Lib.hid (shr_any m HM.out i hri w)
      have hs0 := shrI_nonneg HM.out hri
      have hs1 := shrI_le HM.out i hri
      have HAL : Hid (allTo m (i + 1) = allTo m i + shrI m i) := rfl
      generalize shrI m i = sh at *
      go_wp2_with (refine wpList_load_bs rfl 25 _ rfl CI.out 0 w.heap.size #[.int .i64 m.rings, .int .i64 m.give, .int .i64 m.pl, .int .i64 m.ph, .int .i64 m.wl, .int .i64 m.wh, .int .i64 m.set, .int .i64 m.shrink, .int .i64 m.skin, .int .i64 m.fill, .int .i64 m.gap, .int .i64 m.deep] 25 rfl rfl _ Try.underlying25 rfl info25 ?_)
      refine (HS _).out.mono ?_
      rintro e w9 ⟨rfl, hb⟩
      have C9 := Lib.hid (CI.out.call hb)
      have H9 := Lib.hid (HI.out.next hb)
      obtain ⟨_, _, hva, -, hcc⟩ := H9.out
      simp only [Value.slice.injEq] at hva
      obtain ⟨rfl, -, rfl⟩ := hva
      obtain ⟨b2, off2, rfl, hbb2, hcell2⟩ := hcc.resolve_left (by intro h; have := HWN.out; rw [h] at this; simp at this; omega)
      have ck := hcell2 i (by rw [HWN.out]; exact hir)
      have hx := HSET.out i hir
      have hx' : decide (wl.getD i 0 < 0) = false := decide_eq_false (by omega)
      clear hb hcell2 hcc c00 CI HI
      generalize wl.getD i 0 = x at *
      go_wp2_with fail
      refine ⟨⟨i + 1, by push_cast; rfl, by omega, by rw [HAL.out], C9.out, H9.out⟩, ?_⟩
      simp [intOf]
      omega
    · obtain rfl : r = i := by omega
      generalize allTo m r = S at *
      go_wp2_with (refine wpList_load_bs rfl 25 _ rfl CI.out 0 w.heap.size #[.int .i64 m.rings, .int .i64 m.give, .int .i64 m.pl, .int .i64 m.ph, .int .i64 m.wl, .int .i64 m.wh, .int .i64 m.set, .int .i64 m.shrink, .int .i64 m.skin, .int .i64 m.fill, .int .i64 m.gap, .int .i64 m.deep] 25 rfl rfl _ Try.underlying25 rfl info25 ?_)
      refine (hPo _ _ _ HI.out ((HP.out.below CI.out.bel).mono CI.out.bel.size)).out.mono ?_
      rintro e w6 ⟨rfl, hb⟩
      have C6 := Lib.hid (CI.out.call hb)
      have c2 := C6.out.cell 2 rfl
      clear hb CI HI c00
      go_wp2_with fail
      refine (inside_r true hol a1 a2 wi1 _).mono ?_
      rintro e w7 ⟨rfl, hb⟩
      have C7 := Lib.hid (C6.out.call hb)
      clear hb C6 c2
      have c2 := C7.out.cell 2 rfl
      go_wp2_with fail
      refine (inside_r true prd p1 p2 wi2 _).mono ?_
      rintro e w8 ⟨rfl, hb⟩
      have C8 := Lib.hid (C7.out.call hb)
      clear hb C7 c2
      have c2 := C8.out.cell 2 rfl
      go_wp2_with fail
      refine (awake_any _).mono ?_
      rintro e w10 ⟨rfl, hb⟩
      have HBel := Lib.hid (C8.out.call hb).bel
      clear hb C8 c2
      go_wp2
      go_ret
      exact ⟨rfl, HBel.out⟩
end Go.Proofs.Ytafdagjdpnaddaa
