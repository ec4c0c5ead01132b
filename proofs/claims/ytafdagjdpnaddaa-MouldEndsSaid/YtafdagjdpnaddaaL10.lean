/- MouldEnds: the walk. -/
import Derived.Test.YtafdagjdpnaddaaW34
import Derived.Test.YtafdagjdpnaddaaAW
import Derived.Test.YtafdagjdpnaddaaW26
import Derived.Test.YtafdagjdpnaddaaW25
namespace Go.Proofs.Ytafdagjdpnaddaa
open Go.RowKit
theorem hollowV_zero {m : Mou} {plan : List Int} (h : hollowE m plan ≠ 0) : hollowV m plan = ((0, 0), (0, 0), hollowE m plan) := by
  unfold hollowV
  rw [if_pos h]
theorem hollowV_ok {m : Mou} {plan : List Int} (h : hollowE m plan = 0) : hollowV m plan = ((holV m (endsL m false) plan, holV m (endsL m true) plan), (pourL (fall m (endsL m true)) m.fill plan, pourL (fall m (endsL m false)) m.fill plan), 0) := by
  unfold hollowV
  rw [if_neg (by simp [h])]
def neverTo (l : List Int) (k : Nat) : Bool := (l.take k).any fun x => decide (x < 0)
theorem neverTo_succ {l : List Int} {k : Nat} (h : k < l.length) : neverTo l (k + 1) = (neverTo l k || decide (l.getD k 0 < 0)) := by
  unfold neverTo
  rw [List.take_succ_eq_append_getElem h, List.any_append]
  simp [List.getD, h]
theorem neverTo_all (l : List Int) : neverTo l l.length = neverB l := by
  unfold neverTo neverB
  rw [List.take_of_length_le (Nat.le_refl _)]
set_option maxRecDepth 100000 in
set_option maxHeartbeats 16000000 in
theorem ends_law (m : Mou) (pv : Value) (plan : List Int) (w : World) (hp : IntsIn .i64 w.heap.size w pv plan) :
    Calls Try.prog 10 #[.agg #[.int .i64 m.rings, .int .i64 m.give, .int .i64 m.pl, .int .i64 m.ph, .int .i64 m.wl, .int .i64 m.wh, .int .i64 m.set, .int .i64 m.shrink, .int .i64 m.skin, .int .i64 m.fill, .int .i64 m.gap, .int .i64 m.deep], pv] w (fun e w' => e = .returned (.bool true) ∧ Below w.heap.size w w') := by
  have C0 := Lib.hid ((Bs.nil w).push _ rfl (.cells #[.int .i64 m.rings, .int .i64 m.give, .int .i64 m.pl, .int .i64 m.ph, .int .i64 m.wl, .int .i64 m.wh, .int .i64 m.set, .int .i64 m.shrink, .int .i64 m.skin, .int .i64 m.fill, .int .i64 m.gap, .int .i64 m.deep] 25))
  have HP := Lib.hid hp
  clear hp
  have HA : ∀ w, IntsIn .i64 w.heap.size w pv plan → Hid (Calls Try.prog 31 #[.agg #[.int .i64 m.rings, .int .i64 m.give, .int .i64 m.pl, .int .i64 m.ph, .int .i64 m.wl, .int .i64 m.wh, .int .i64 m.set, .int .i64 m.shrink, .int .i64 m.skin, .int .i64 m.fill, .int .i64 m.gap, .int .i64 m.deep], pv] w (RetHol (hollowV m plan) w)) := fun w h => hollow_any m plan pv w h
  have HC : ∀ w, Hid (Calls Try.prog 19 #[.agg #[.int .i64 m.rings, .int .i64 m.give, .int .i64 m.pl, .int .i64 m.ph, .int .i64 m.wl, .int .i64 m.wh, .int .i64 m.set, .int .i64 m.shrink, .int .i64 m.skin, .int .i64 m.fill, .int .i64 m.gap, .int .i64 m.deep]] w fun e w' => e = .returned (.int .i64 (checkE m)) ∧ Below w.heap.size w w') := checkR_any m
  by_cases hck : checkE m = 0
  rotate_left
  · have hE : hollowE m plan = checkE m := by unfold hollowE; rw [if_pos hck]
    rw [hollowV_zero (by rw [hE]; exact hck), hE] at HA
    have hz : (checkE m != 0) = true := by simpa using hck
    clear hE hck
    generalize checkE m = E at *
    go_enter Try.func10, Try.ntmps10
    go_wp2_with (refine wpList_load_bs rfl 25 _ rfl C0.out 0 w.heap.size #[.int .i64 m.rings, .int .i64 m.give, .int .i64 m.pl, .int .i64 m.ph, .int .i64 m.wl, .int .i64 m.wh, .int .i64 m.set, .int .i64 m.shrink, .int .i64 m.skin, .int .i64 m.fill, .int .i64 m.gap, .int .i64 m.deep] 25 rfl rfl _ Try.underlying25 rfl info25 ?_)
    refine (HA _ ((HP.out.below C0.out.bel).mono C0.out.bel.size)).out.mono ?_
    rintro e w1 ⟨rfl, hb⟩
    have C1 := Lib.hid ((C0.out.call hb).push w1.heap.size rfl (.cells #[.int .i64 0, .int .i64 0, .int .i64 0, .int .i64 0] 45))
    clear hb C0
    go_wp2_with (refine wpList_load_want rfl 25 _ rfl _ rfl _ _ _ _ (C1.out.get 0 rfl) Try.underlying25 rfl info25 ?_)
    refine (HC _).out.mono ?_
    rintro e w2 ⟨rfl, hb⟩
    have C1 := Lib.hid (C1.out.call hb)
    clear hb
    have c1 := C1.out.cell 1 rfl
    go_wp2_with fail
    refine (awake_any _).mono ?_
    rintro e w4 ⟨rfl, hb⟩
    have HBel := Lib.hid (C1.out.call hb).bel
    clear hb C1 c1
    go_wp2
    go_ret
    exact ⟨rfl, HBel.out⟩
  have hm := valid_of_check hck
  have HM := Lib.hid hm
  have hP : ∀ (w : World) (v : Value), IntsIn .i64 w.heap.size w v plan → Hid (Calls Try.prog 43 #[.agg #[.int .i64 m.rings, .int .i64 m.give, .int .i64 m.pl, .int .i64 m.ph, .int .i64 m.wl, .int .i64 m.wh, .int .i64 m.set, .int .i64 m.shrink, .int .i64 m.skin, .int .i64 m.fill, .int .i64 m.gap, .int .i64 m.deep], v] w fun e w' => e = .returned (.int .i64 (planE m plan)) ∧ Below w.heap.size w w') := fun w v hv =>
    plan_any m (by have := hm.a1; omega) hm.a6 plan v w hv
  rw [hck] at HC
  by_cases hpl : planE m plan = 0
  rotate_left
  · have hE : hollowE m plan = planE m plan := by unfold hollowE; rw [if_neg (by simp [hck]), if_pos hpl]
    rw [hollowV_zero (by rw [hE]; exact hpl), hE] at HA
    have hz : (planE m plan != 0) = true := by simpa using hpl
    clear hE hck hpl hm HM
    generalize planE m plan = E at *
    go_enter Try.func10, Try.ntmps10
    go_wp2_with (refine wpList_load_bs rfl 25 _ rfl C0.out 0 w.heap.size #[.int .i64 m.rings, .int .i64 m.give, .int .i64 m.pl, .int .i64 m.ph, .int .i64 m.wl, .int .i64 m.wh, .int .i64 m.set, .int .i64 m.shrink, .int .i64 m.skin, .int .i64 m.fill, .int .i64 m.gap, .int .i64 m.deep] 25 rfl rfl _ Try.underlying25 rfl info25 ?_)
    refine (HA _ ((HP.out.below C0.out.bel).mono C0.out.bel.size)).out.mono ?_
    rintro e w1 ⟨rfl, hb⟩
    have C1 := Lib.hid ((C0.out.call hb).push w1.heap.size rfl (.cells #[.int .i64 0, .int .i64 0, .int .i64 0, .int .i64 0] 45))
    clear hb C0
    go_wp2_with (refine wpList_load_want rfl 25 _ rfl _ rfl _ _ _ _ (C1.out.get 0 rfl) Try.underlying25 rfl info25 ?_)
    refine (HC _).out.mono ?_
    rintro e w2 ⟨rfl, hb⟩
    have C1 := Lib.hid (C1.out.call hb)
    clear hb
    go_wp2_with (refine wpList_load_want rfl 25 _ rfl _ rfl _ _ _ _ (C1.out.get 0 rfl) Try.underlying25 rfl info25 ?_)
    refine (hP _ _ ((HP.out.below C1.out.bel).mono C1.out.bel.size)).out.mono ?_
    rintro e w3 ⟨rfl, hb⟩
    have C1 := Lib.hid (C1.out.call hb)
    clear hb
    have c1 := C1.out.cell 1 rfl
    go_wp2_with fail
    refine (awake_any _).mono ?_
    rintro e w4 ⟨rfl, hb⟩
    have HBel := Lib.hid (C1.out.call hb).bel
    clear hb C1 c1
    go_wp2
    go_ret
    exact ⟨rfl, HBel.out⟩
  rw [hpl] at hP
  have hpo := plan_ok.1 hpl
  have hEE : hollowE m plan = if neverB (endsL m true) = true then 9 else if poursB m (endsL m false) plan = false then 9 else 0 := by
    unfold hollowE
    rw [if_neg (by simp [hck]), if_neg (by simp [hpl])]
  obtain ⟨r, hr⟩ : ∃ r : Nat, m.rings = r := ⟨m.rings.toNat, by have := hm.r1; omega⟩
  have HRR := Lib.hid hr
  have hr1 : 1 ≤ r := by have := hm.r1; omega
  have hr8 : r ≤ 8 := by have := hm.r8; omega
  have HLC : Hid ((endsL m false).length = r) := by have := endsL_lenI hm false; unfold Hid; omega
  have HLH : Hid ((endsL m true).length = r) := by have := endsL_lenI hm true; unfold Hid; omega
  have hPo : ∀ (b : Bool) (w : World) (v1 v2 : Value), poursB m (endsL m false) plan = b → IntsIn .i64 w.heap.size w v1 (endsL m false) → IntsIn .i64 w.heap.size w v2 plan → Hid (Calls Try.prog 46 #[.agg #[.int .i64 m.rings, .int .i64 m.give, .int .i64 m.pl, .int .i64 m.ph, .int .i64 m.wl, .int .i64 m.wh, .int .i64 m.set, .int .i64 m.shrink, .int .i64 m.skin, .int .i64 m.fill, .int .i64 m.gap, .int .i64 m.deep], v1, v2] w fun e w' => e = .returned (.bool b) ∧ Below w.heap.size w w') := fun b w v1 v2 hb h1 h2 =>
    pours_r b m (endsL m false) (by rw [HLC.out]; omega) plan hb v1 v2 w h1 h2
  have hEnd : ∀ (hot : Bool), neverB (endsL m hot) = false → ∀ (w : World) (v1 v2 : Value), IntsIn .i64 w.heap.size w v1 (endsL m hot) → IntsIn .i64 w.heap.size w v2 plan → Hid (Calls Try.prog 44 #[.agg #[.int .i64 m.rings, .int .i64 m.give, .int .i64 m.pl, .int .i64 m.ph, .int .i64 m.wl, .int .i64 m.wh, .int .i64 m.set, .int .i64 m.shrink, .int .i64 m.skin, .int .i64 m.fill, .int .i64 m.gap, .int .i64 m.deep], v1, v2] w fun e w' => e = .returned (.tuple #[.int .i64 (holV m (endsL m hot) plan), .int .i64 (pourL (fall m (endsL m hot)) m.fill plan)]) ∧ Below w.heap.size w w') := fun hot hn w v1 v2 h1 h2 => by
    have := end_ref m hm (endsL m hot) plan (endsL_lenI hm hot) (hpo.order hm) hpo.len v1 v2 w h1 h2
    rw [hollow_is (fun i hi => by
      rw [endsL_length] at hi
      rw [endsL_getD m hot hi]
      exact ⟨never_not hn hi, (setAtF_bound m hot i).2⟩)] at this
    exact this
  have HEE := Lib.hid hEE
  clear hEE hck hpl hpo hm hr
  obtain ⟨⟨⟨a1, a2⟩, ⟨p1, p2⟩, E⟩, hX⟩ : ∃ X, hollowV m plan = X := ⟨_, rfl⟩
  have HX := Lib.hid hX
  rw [hX] at HA
  clear hX
  go_enter Try.func10, Try.ntmps10
  go_wp2_with (refine wpList_load_bs rfl 25 _ rfl C0.out 0 w.heap.size #[.int .i64 m.rings, .int .i64 m.give, .int .i64 m.pl, .int .i64 m.ph, .int .i64 m.wl, .int .i64 m.wh, .int .i64 m.set, .int .i64 m.shrink, .int .i64 m.skin, .int .i64 m.fill, .int .i64 m.gap, .int .i64 m.deep] 25 rfl rfl _ Try.underlying25 rfl info25 ?_)
  refine (HA _ ((HP.out.below C0.out.bel).mono C0.out.bel.size)).out.mono ?_
  rintro e w1 ⟨rfl, hb⟩
  have C1 := Lib.hid ((C0.out.call hb).push w1.heap.size rfl (.cells #[.int .i64 a1, .int .i64 a2, .int .i64 p1, .int .i64 p2] 45))
  clear hb C0
  go_wp2_with (refine wpList_load_want rfl 25 _ rfl _ rfl _ _ _ _ (C1.out.get 0 rfl) Try.underlying25 rfl info25 ?_)
  refine (HC _).out.mono ?_
  rintro e w2 ⟨rfl, hb⟩
  have C1 := Lib.hid (C1.out.call hb)
  clear hb
  go_wp2_with (refine wpList_load_want rfl 25 _ rfl _ rfl _ _ _ _ (C1.out.get 0 rfl) Try.underlying25 rfl info25 ?_)
  refine (hP _ _ ((HP.out.below C1.out.bel).mono C1.out.bel.size)).out.mono ?_
  rintro e w3 ⟨rfl, hb⟩
  have C1 := Lib.hid (C1.out.call hb)
  clear hb
  go_wp2_with fail
  refine wp_region_inv1 (by kernel_rfl) (by kernel_rfl) [42, 43, 46, 47, 7, 8] (fun D y w' => EnW w3 m (D 2) (D 3) (D 6) (D 7) (D 8) (D 9) (y 42) (y 43) (y 46) (y 47) (y 7) (y 8) w') (EnW.start _) ?FB ?hFB ?_
  case hFB =>
    intro y
    simp only [fill, List.foldl, Act.put, List.setIfInBounds_toArray, List.set]
    exact rfl
  apply obl_det
  case hrun =>
    intro D y wz hW hD R hR
    have HRR := Lib.hid hR
    clear hR
    have HW := Lib.hid hW
    clear hW hD
    refine wpList_load_want rfl 25 _ rfl _ rfl _ _ _ _ ((C1.out.call HW.out.bel).get 0 rfl) Try.underlying25 rfl info25 ?_
    go_simp
    exact HRR.out _ HW.out
  case hnp => rfl
  case hv => first | exact ⟨_, fun _ => rfl⟩ | exact ⟨undef, fun _ => rfl⟩
  apply obl_det
  case hrun =>
    intro D y wz hW hD R hR
    have HRR := Lib.hid hR
    clear hR
    have HW := Lib.hid hW
    clear hW hD
    refine wpList_load_want rfl 25 _ rfl _ rfl _ _ _ _ ((C1.out.call HW.out.bel).get 0 rfl) Try.underlying25 rfl info25 ?_
    go_simp
    exact HRR.out _ HW.out
  case hnp => rfl
  case hv => first | exact ⟨_, fun _ => rfl⟩ | exact ⟨undef, fun _ => rfl⟩
  apply obl_priv 42
  case hd => rfl
  case hp => rfl
  case hrun =>
    intro D y wz hW hD R hR
    have HRR := Lib.hid hR
    clear hR
    have HW := Lib.hid hW
    clear hW hD
    go_wp2_with fail
    refine (same_ref m HM.out false 600 (by omega) wz).mono ?_
    rintro e w' ⟨v1, v2, rfl, hi1, hi2, hb⟩
    have HN := Lib.hid ((HW.out.next hb).put1 hi1 hi2)
    clear hb hi1 hi2
    go_wp2_with fail
    refine HRR.out _ _ ?_
    show EnW w3 m true (D 3) (D 6) (D 7) (D 8) (D 9) _ (y 43) (y 46) (y 47) (y 7) (y 8) _
    exact HN.out
  apply obl_priv 43
  case hd => rfl
  case hp => rfl
  case hrun =>
    intro D y wz hW hD R hR
    have HRR := Lib.hid hR
    clear hR
    have h5 : D 8 = false := hD.post _ 8 rfl (by kernel_rfl)
    have h3 : D 2 = true := hD.pre _ 2 rfl (by kernel_rfl)
    obtain ⟨v1, v2, e3, hv1, hv2⟩ := hW.s1 h3
    have HW := Lib.hid hW
    have H5 := Lib.hid h5
    have hwh := when_side HM.out false wz v1 v2 hv1 hv2
    rw [← e3] at hwh
    have HWH := Lib.hid hwh
    clear hW hD h3 h5 hv1 hv2 hwh e3
    go_wp2_with fail
    refine HWH.out.mono ?_
    rintro e w' ⟨v, rfl, hi1, hb⟩
    have HN := Lib.hid ((HW.out.next hb).put2 H5.out hi1)
    clear hb hi1
    go_wp2_with fail
    refine HRR.out _ _ ?_
    show EnW w3 m (D 2) true (D 6) (D 7) (D 8) (D 9) (y 42) _ (y 46) (y 47) (y 7) (y 8) _
    exact HN.out
  apply obl_det
  case hrun =>
    intro D y wz hW hD R hR
    have HRR := Lib.hid hR
    clear hR
    have HW := Lib.hid hW
    clear hW hD
    refine wpList_load_want rfl 25 _ rfl _ rfl _ _ _ _ ((C1.out.call HW.out.bel).get 0 rfl) Try.underlying25 rfl info25 ?_
    go_simp
    exact HRR.out _ HW.out
  case hnp => rfl
  case hv => first | exact ⟨_, fun _ => rfl⟩ | exact ⟨undef, fun _ => rfl⟩
  apply obl_det
  case hrun =>
    intro D y wz hW hD R hR
    have HRR := Lib.hid hR
    clear hR
    have HW := Lib.hid hW
    clear hW hD
    refine wpList_load_want rfl 25 _ rfl _ rfl _ _ _ _ ((C1.out.call HW.out.bel).get 0 rfl) Try.underlying25 rfl info25 ?_
    go_simp
    exact HRR.out _ HW.out
  case hnp => rfl
  case hv => first | exact ⟨_, fun _ => rfl⟩ | exact ⟨undef, fun _ => rfl⟩
  apply obl_priv 46
  case hd => rfl
  case hp => rfl
  case hrun =>
    intro D y wz hW hD R hR
    have HRR := Lib.hid hR
    clear hR
    have HW := Lib.hid hW
    clear hW hD
    go_wp2_with fail
    refine (same_ref m HM.out true 600 (by omega) wz).mono ?_
    rintro e w' ⟨v1, v2, rfl, hi1, hi2, hb⟩
    have HN := Lib.hid ((HW.out.next hb).put3 hi1 hi2)
    clear hb hi1 hi2
    go_wp2_with fail
    refine HRR.out _ _ ?_
    show EnW w3 m (D 2) (D 3) true (D 7) (D 8) (D 9) (y 42) (y 43) _ (y 47) (y 7) (y 8) _
    exact HN.out
  apply obl_priv 47
  case hd => rfl
  case hp => rfl
  case hrun =>
    intro D y wz hW hD R hR
    have HRR := Lib.hid hR
    clear hR
    have h5 : D 9 = false := hD.post _ 9 rfl (by kernel_rfl)
    have h3 : D 6 = true := hD.pre _ 6 rfl (by kernel_rfl)
    obtain ⟨v1, v2, e3, hv1, hv2⟩ := hW.s2 h3
    have HW := Lib.hid hW
    have H5 := Lib.hid h5
    have hwh := when_side HM.out true wz v1 v2 hv1 hv2
    rw [← e3] at hwh
    have HWH := Lib.hid hwh
    clear hW hD h3 h5 hv1 hv2 hwh e3
    go_wp2_with fail
    refine HWH.out.mono ?_
    rintro e w' ⟨v, rfl, hi1, hb⟩
    have HN := Lib.hid ((HW.out.next hb).put4 H5.out hi1)
    clear hb hi1
    go_wp2_with fail
    refine HRR.out _ _ ?_
    show EnW w3 m (D 2) (D 3) (D 6) true (D 8) (D 9) (y 42) (y 43) (y 46) _ (y 7) (y 8) _
    exact HN.out
  apply obl_priv 7
  case hd => rfl
  case hp => rfl
  case hrun =>
    intro D y wz hW hD R hR
    have HRR := Lib.hid hR
    clear hR
    have HW := Lib.hid hW
    clear hW hD
    go_wp2
    refine HRR.out _ _ ?_
    show EnW w3 m (D 2) (D 3) (D 6) (D 7) true (D 9) (y 42) (y 43) (y 46) (y 47) (y 43) (y 8) _
    exact HW.out.put5
  apply obl_priv 8
  case hd => rfl
  case hp => rfl
  case hrun =>
    intro D y wz hW hD R hR
    have HRR := Lib.hid hR
    clear hR
    have HW := Lib.hid hW
    clear hW hD
    go_wp2
    refine HRR.out _ _ ?_
    show EnW w3 m (D 2) (D 3) (D 6) (D 7) (D 8) true (y 42) (y 43) (y 46) (y 47) (y 7) (y 47) _
    exact HW.out.put6
  apply obl_nil
  intro D y w8 hall hW
  have hn1 := hW.n1 (hall 3 (by decide))
  have ha1 := hW.a1 (hall 8 (by decide))
  have hn2 := hW.n2 (hall 7 (by decide))
  have ha2 := hW.a2 (hall 9 (by decide))
  have hbl := hW.bel
  clear hW hall
  rw [← ha1] at hn1
  rw [← ha2] at hn2
  clear ha1 ha2

  have HN1 := Lib.hid hn1
  have HN2 := Lib.hid hn2
  have C3 : Hid (Bs w [(w.heap.size, .cells #[.int .i64 m.rings, .int .i64 m.give, .int .i64 m.pl, .int .i64 m.ph, .int .i64 m.wl, .int .i64 m.wh, .int .i64 m.set, .int .i64 m.shrink, .int .i64 m.skin, .int .i64 m.fill, .int .i64 m.gap, .int .i64 m.deep] 25), (w1.heap.size, .cells #[.int .i64 a1, .int .i64 a2, .int .i64 p1, .int .i64 p2] 45)] w8) := C1.out.call hbl
  clear hn1 hn2 hbl C1
  generalize y 7 = vc at *
  generalize y 8 = vh at *
  generalize y 42 = g1 at *
  generalize y 43 = g2 at *
  generalize y 46 = g3 at *
  generalize y 47 = g4 at *
  obtain ⟨av, cv, ev, -⟩ := HN2.out
  rw [HLH.out] at ev
  subst ev
  go_wp2_with fail
  go_loopw [9, 10] (fun nv iv wr => ∃ i : Nat, iv = .int .i64 i ∧ i ≤ r ∧ nv = .bool (neverTo (endsL m true) i) ∧ Bs w [(w.heap.size, .cells #[.int .i64 m.rings, .int .i64 m.give, .int .i64 m.pl, .int .i64 m.ph, .int .i64 m.wl, .int .i64 m.wh, .int .i64 m.set, .int .i64 m.shrink, .int .i64 m.skin, .int .i64 m.fill, .int .i64 m.gap, .int .i64 m.deep] 25), (w1.heap.size, .cells #[.int .i64 a1, .int .i64 a2, .int .i64 p1, .int .i64 p2] 45)] wr ∧ IntsIn .i64 wr.heap.size wr (.slice av r cv) (endsL m true) ∧ IntsIn .i64 wr.heap.size wr vc (endsL m false)) (fun _ iv _ => r - (intOf iv).toNat)
  case atStart => exact ⟨0, rfl, by omega, rfl, C3.out, HN2.out, HN1.out⟩
  case round =>
    obtain ⟨i, rfl, hi, rfl, hC, hI, hI1⟩ := hrel
    have CI := Lib.hid hC
    have HI := Lib.hid hI
    have HI1 := Lib.hid hI1
    have c00 : wr.cell? ⟨w.heap.size, 0, none⟩ = some (.int .i64 r) := by
      rw [hC.cell 0 rfl, ← HRR.out]
      rfl
    clear hC hI hI1 C3 HN1 HN2
    by_cases hir : i < r
    · have hii : (i : Int) < (r : Int) := by omega
      have HNT := Lib.hid (neverTo_succ (l := endsL m true) (k := i) (by rw [HLH.out]; exact hir))
      obtain ⟨_, _, hva, -, hcc⟩ := HI.out
      simp only [Value.slice.injEq] at hva
      obtain ⟨rfl, -, rfl⟩ := hva
      obtain ⟨b2, off2, rfl, hbb2, hcell2⟩ := hcc.resolve_left (by intro h; have := HLH.out; rw [h] at this; simp at this; omega)
      have ck := hcell2 i (by rw [HLH.out]; exact hir)
      clear hcell2 hcc
      generalize (endsL m true).getD i 0 = x at *
      generalize neverTo (endsL m true) i = nv at *
      cases nv
      · by_cases hx : x < 0
        · have hx' : decide (x < 0) = true := decide_eq_true hx
          rw [hx', Bool.or_true] at HNT
          clear hx
          go_wp2_with fail
          refine ⟨⟨i + 1, by push_cast; rfl, by omega, by rw [HNT.out], CI.out, HI.out, HI1.out⟩, ?_⟩
          simp [intOf]
          omega
        · have hx' : decide (x < 0) = false := decide_eq_false hx
          rw [hx', Bool.or_false] at HNT
          clear hx
          go_wp2_with fail
          refine ⟨⟨i + 1, by push_cast; rfl, by omega, by rw [HNT.out], CI.out, HI.out, HI1.out⟩, ?_⟩
          simp [intOf]
          omega
      · rw [Bool.true_or] at HNT
        go_wp2_with fail
        refine ⟨⟨i + 1, by push_cast; rfl, by omega, by rw [HNT.out], CI.out, HI.out, HI1.out⟩, ?_⟩
        simp [intOf]
        omega
    obtain rfl : r = i := by omega
    have hna : neverTo (endsL m true) r = neverB (endsL m true) := by
      have := neverTo_all (endsL m true)
      rw [HLH.out] at this
      exact this
    rw [hna]
    clear hna
    by_cases hE : hollowE m plan = 0
    rotate_left
    · have h9 : E = 9 := by
        have h1 := HX.out
        rw [hollowV_zero hE] at h1
        simp only [Prod.mk.injEq] at h1
        rw [← h1.2.2]
        have := HEE.out
        rw [this] at hE ⊢
        split at hE
        · rename_i h; rw [if_pos h]
        · rename_i h; rw [if_neg h] at *
          split at hE
          · rename_i h; rw [if_pos h]
          · exact absurd rfl hE
      subst h9
      have HE := Lib.hid hE
      clear hE
      cases hnv : neverB (endsL m true)
      · have hpb : poursB m (endsL m false) plan = false := by
          have h1 := HE.out
          rw [HEE.out, hnv] at h1
          by_cases h : poursB m (endsL m false) plan = false
          · exact h
          · rw [if_neg (by simp), if_neg h] at h1
            exact absurd rfl h1
        have HPF := fun w v1 v2 => hPo false w v1 v2 hpb
        clear hpb hnv HE HEE
        go_wp2_with (refine wpList_load_want rfl 25 _ rfl _ rfl _ _ _ _ (CI.out.get 0 rfl) Try.underlying25 rfl info25 ?_)
        refine (HPF _ _ _ HI1.out ((HP.out.below CI.out.bel).mono CI.out.bel.size)).out.mono ?_
        rintro e w6 ⟨rfl, hb⟩
        have C6 := Lib.hid (CI.out.call hb)
        clear hb c00 CI
        go_wp2_with fail
        refine (awake_any _).mono ?_
        rintro e w4 ⟨rfl, hb⟩
        have HBel := Lib.hid (C6.out.call hb).bel
        clear hb C6
        go_wp2
        go_ret
        exact ⟨rfl, HBel.out⟩

      · clear hnv HE HEE
        have C6 := CI
        go_wp2_with fail
        refine (awake_any _).mono ?_
        rintro e w4 ⟨rfl, hb⟩
        have HBel := Lib.hid (C6.out.call hb).bel
        clear hb C6
        go_wp2
        go_ret
        exact ⟨rfl, HBel.out⟩

    have h1 := HX.out
    rw [hollowV_ok hE] at h1
    simp only [Prod.mk.injEq] at h1
    obtain ⟨⟨ha1, ha2⟩, ⟨hp1, hp2⟩, h0⟩ := h1
    subst h0
    obtain ⟨-, -, hnev, hpb⟩ := hollowE_ok hE
    have hEc := hEnd false (never_later (noLater_ends HM.out) hnev)
    have hEh := hEnd true hnev
    have HPF := fun w v1 v2 => hPo true w v1 v2 hpb
    rw [ha1] at hEc
    rw [ha2] at hEh
    rw [hnev]
    clear ha1 ha2 hp1 hp2 hnev hpb hE hEnd hPo HX HEE
    generalize pourL (fall m (endsL m false)) m.fill plan = q1 at *
    generalize pourL (fall m (endsL m true)) m.fill plan = q2 at *
    go_wp2_with (refine wpList_load_bs rfl 25 _ rfl CI.out 0 w.heap.size #[.int .i64 m.rings, .int .i64 m.give, .int .i64 m.pl, .int .i64 m.ph, .int .i64 m.wl, .int .i64 m.wh, .int .i64 m.set, .int .i64 m.shrink, .int .i64 m.skin, .int .i64 m.fill, .int .i64 m.gap, .int .i64 m.deep] 25 rfl rfl _ Try.underlying25 rfl info25 ?_)
    refine (hEc _ _ _ HI1.out ((HP.out.below CI.out.bel).mono CI.out.bel.size)).out.mono ?_
    rintro e w5 ⟨rfl, hb⟩
    have CI := Lib.hid (CI.out.call hb)
    have HI := Lib.hid (HI.out.next hb)
    have HI1 := Lib.hid (HI1.out.next hb)
    clear hb c00
    go_wp2_with (refine wpList_load_bs rfl 25 _ rfl CI.out 0 w.heap.size #[.int .i64 m.rings, .int .i64 m.give, .int .i64 m.pl, .int .i64 m.ph, .int .i64 m.wl, .int .i64 m.wh, .int .i64 m.set, .int .i64 m.shrink, .int .i64 m.skin, .int .i64 m.fill, .int .i64 m.gap, .int .i64 m.deep] 25 rfl rfl _ Try.underlying25 rfl info25 ?_)
    refine (hEh _ _ _ HI.out ((HP.out.below CI.out.bel).mono CI.out.bel.size)).out.mono ?_
    rintro e w6 ⟨rfl, hb⟩
    have CI := Lib.hid (CI.out.call hb)
    have HI1 := Lib.hid (HI1.out.next hb)
    clear hb HI
    go_wp2_with fail
    refine wp_region_inv0 (by kernel_rfl) (by kernel_rfl) (fun _ w' => Below w6.heap.size w6 w') (Below.refl _ _).drew ?_
    iterate 3
      (apply obl_det
       case hrun =>
         intro D y wz hW hD R hR
         have HRR := Lib.hid hR
         clear hR
         have HW := Lib.hid hW
         clear hW hD
         go_wp2
         exact HRR.out _ HW.out
       case hnp => rfl
       case hv => first | exact ⟨_, fun _ => rfl⟩ | exact ⟨undef, fun _ => rfl⟩)
    apply obl_det
    case hrun =>
      intro D y wz hW hD R hR
      have HRR := Lib.hid hR
      clear hR
      have HW := Lib.hid hW
      clear hW hD
      refine wpList_load_want rfl 25 _ rfl _ rfl _ _ _ _ ((CI.out.call HW.out).get 0 rfl) Try.underlying25 rfl info25 ?_
      go_simp
      exact HRR.out _ HW.out
    case hnp => rfl
    case hv => first | exact ⟨_, fun _ => rfl⟩ | exact ⟨undef, fun _ => rfl⟩
    iterate 2
      (apply obl_det
       case hrun =>
         intro D y wz hW hD R hR
         have HRR := Lib.hid hR
         clear hR
         have HW := Lib.hid hW
         clear hW hD
         go_wp2
         exact HRR.out _ HW.out
       case hnp => rfl
       case hv => first | exact ⟨_, fun _ => rfl⟩ | exact ⟨undef, fun _ => rfl⟩)
    apply obl_det
    case hrun =>
      intro D y wz hW hD R hR
      have HRR := Lib.hid hR
      clear hR
      have HW := Lib.hid hW
      clear hW hD
      go_wp2_with fail
      refine ((HPF _ _ _ (HI1.out.next HW.out) ((HP.out.below (CI.out.call HW.out).bel).mono (CI.out.call HW.out).bel.size)).out).mono ?_
      rintro e w' ⟨rfl, hb⟩
      have HW2 := Lib.hid (HW.out.trans (hb.mono HW.out.size))
      clear hb
      go_wp2_with fail
      exact HRR.out _ HW2.out
    case hnp => rfl
    case hv => first | exact ⟨_, fun _ => rfl⟩ | exact ⟨undef, fun _ => rfl⟩
    iterate 3
      (apply obl_det
       case hrun =>
         intro D y wz hW hD R hR
         have HRR := Lib.hid hR
         clear hR
         have HW := Lib.hid hW
         clear hW hD
         go_wp2
         exact HRR.out _ HW.out
       case hnp => rfl
       case hv => first | exact ⟨_, fun _ => rfl⟩ | exact ⟨undef, fun _ => rfl⟩)
    apply obl_det
    case hrun =>
      intro D y wz hW hD R hR
      have HRR := Lib.hid hR
      clear hR
      have HW := Lib.hid hW
      have c1 := (CI.out.call hW).cell 1 rfl
      clear hW hD
      go_wp2
      exact HRR.out _ HW.out
    case hnp => rfl
    case hv => first | exact ⟨_, fun _ => rfl⟩ | exact ⟨undef, fun _ => rfl⟩
    iterate 2
      (apply obl_det
       case hrun =>
         intro D y wz hW hD R hR
         have HRR := Lib.hid hR
         clear hR
         have HW := Lib.hid hW
         clear hW hD
         go_wp2
         exact HRR.out _ HW.out
       case hnp => rfl
       case hv => first | exact ⟨_, fun _ => rfl⟩ | exact ⟨undef, fun _ => rfl⟩)
    apply obl_det
    case hrun =>
      intro D y wz hW hD R hR
      have HRR := Lib.hid hR
      clear hR
      have HW := Lib.hid hW
      clear hW hD
      go_wp2_with fail
      refine (span36 a1 a2 _).mono ?_
      rintro e w' ⟨rfl, hb⟩
      have HW2 := Lib.hid (HW.out.trans (hb.mono HW.out.size))
      clear hb
      go_wp2_with fail
      exact HRR.out _ HW2.out
    case hnp => rfl
    case hv => first | exact ⟨_, fun _ => rfl⟩ | exact ⟨undef, fun _ => rfl⟩
    iterate 3
      (apply obl_det
       case hrun =>
         intro D y wz hW hD R hR
         have HRR := Lib.hid hR
         clear hR
         have HW := Lib.hid hW
         clear hW hD
         go_wp2
         exact HRR.out _ HW.out
       case hnp => rfl
       case hv => first | exact ⟨_, fun _ => rfl⟩ | exact ⟨undef, fun _ => rfl⟩)
    apply obl_det
    case hrun =>
      intro D y wz hW hD R hR
      have HRR := Lib.hid hR
      clear hR
      have HW := Lib.hid hW
      clear hW hD
      go_wp2_with fail
      refine (awake_any _).mono ?_
      rintro e w' ⟨rfl, hb⟩
      have HW2 := Lib.hid (HW.out.trans (hb.mono HW.out.size))
      clear hb
      go_wp2_with fail
      exact HRR.out _ HW2.out
    case hnp => rfl
    case hv => first | exact ⟨_, fun _ => rfl⟩ | exact ⟨undef, fun _ => rfl⟩
    iterate 2
      (apply obl_det
       case hrun =>
         intro D y wz hW hD R hR
         have HRR := Lib.hid hR
         clear hR
         have HW := Lib.hid hW
         clear hW hD
         go_wp2
         exact HRR.out _ HW.out
       case hnp => rfl
       case hv => first | exact ⟨_, fun _ => rfl⟩ | exact ⟨undef, fun _ => rfl⟩)
    apply obl_nil
    intro D y w8 hall hW
    clear hall

    have HBel := Lib.hid (CI.out.call hW).bel
    clear hW CI
    go_wp2
    go_ret
    exact ⟨rfl, HBel.out⟩
end Go.Proofs.Ytafdagjdpnaddaa
