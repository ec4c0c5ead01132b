/- stearinref05.Warm. -/
import Derived.Test.YtafdagjdpnaddaaW38
import Derived.Test.YtafdagjdpnaddaaW36
namespace Go.Proofs.Ytafdagjdpnaddaa
open Go.RowKit
theorem same_fits {m : Mou} (hm : Valid m) (hot : Bool) (n : Nat) : Fits2 m.pl m.ph (sameP m hot) ∧ Fits2 m.wl m.wh (sameW m hot n) := by
  have h1 := hm.pp
  have h2 := hm.ww
  constructor <;> intro i hi
  · unfold sameP at hi ⊢
    rw [List.length_replicate] at hi
    cases hot <;> simp only [List.getD_eq_getElem?_getD, List.getElem?_replicate, if_pos hi, Option.getD_some] <;> simp <;> omega
  · unfold sameW at hi ⊢
    rw [List.length_replicate] at hi
    cases hot <;> simp only [List.getD_eq_getElem?_getD, List.getElem?_replicate, if_pos hi, Option.getD_some] <;> simp <;> omega
theorem warmV_ok {m : Mou} (h : checkE m = 0) {N : Nat} (hN : N ≤ 600) : warmV m N = ((warmL m false N).zip (warmL m true N), 0) := by
  unfold warmV
  rw [if_neg (by simp [h]), if_neg (by simp [within]; omega), Int.toNat_natCast]
set_option maxRecDepth 100000 in
set_option maxHeartbeats 32000000 in
theorem warm_ref (m : Mou) (n : Int) (w : World) : Calls Try.prog 24 #[.agg #[.int .i64 m.rings, .int .i64 m.give, .int .i64 m.pl, .int .i64 m.ph, .int .i64 m.wl, .int .i64 m.wh, .int .i64 m.set, .int .i64 m.shrink, .int .i64 m.skin, .int .i64 m.fill, .int .i64 m.gap, .int .i64 m.deep], .int .i64 n] w (RetSpE (warmV m n).1 (warmV m n).2 w) := by
  have C0 := Lib.hid ((Bs.nil w).push _ rfl (.cells #[.int .i64 m.rings, .int .i64 m.give, .int .i64 m.pl, .int .i64 m.ph, .int .i64 m.wl, .int .i64 m.wh, .int .i64 m.set, .int .i64 m.shrink, .int .i64 m.skin, .int .i64 m.fill, .int .i64 m.gap, .int .i64 m.deep] 25))
  have HC : ∀ w, Hid (Calls Try.prog 19 #[.agg #[.int .i64 m.rings, .int .i64 m.give, .int .i64 m.pl, .int .i64 m.ph, .int .i64 m.wl, .int .i64 m.wh, .int .i64 m.set, .int .i64 m.shrink, .int .i64 m.skin, .int .i64 m.fill, .int .i64 m.gap, .int .i64 m.deep]] w fun e w' => e = .returned (.int .i64 (checkE m)) ∧ Below w.heap.size w w') := checkR_any m
  by_cases hc : checkE m = 0
  rotate_left
  · have HV : Hid (warmV m n = ([], checkE m)) := by unfold Hid warmV; rw [if_pos hc]
    have hz : (checkE m != 0) = true := by simpa using hc
    have hz2 : (checkE m == 0) = false := by simpa using hc
    clear hc
    generalize checkE m = E at *
    go_enter Try.func24, Try.ntmps24
    go_wp2_with (refine wpList_load_bs rfl 25 _ rfl C0.out 0 w.heap.size #[.int .i64 m.rings, .int .i64 m.give, .int .i64 m.pl, .int .i64 m.ph, .int .i64 m.wl, .int .i64 m.wh, .int .i64 m.set, .int .i64 m.shrink, .int .i64 m.skin, .int .i64 m.fill, .int .i64 m.gap, .int .i64 m.deep] 25 rfl rfl _ Try.underlying25 rfl info25 ?_)
    refine (HC _).out.mono ?_
    rintro e w1 ⟨rfl, hb⟩
    have C1 := Lib.hid (C0.out.call hb)
    clear hb C0
    go_wp2_with fail
    rw [HV.out]
    refine bodyPost_ret (v := .tuple #[.slice none 0 0, .int .i64 E]) ?_ rfl ⟨_, rfl, OwnSpans.nil _ _, C1.out.bel⟩
    rw [results_tmp2 (fn := Try.f24) rfl]
    go_simp
  rw [hc] at HC
  have HM := Lib.hid (valid_of_check hc)
  by_cases hw : within n 0 600 = true
  rotate_left
  · have hw' : within n 0 600 = false := by simpa using hw
    have HV : Hid (warmV m n = ([], 7)) := by
      unfold Hid warmV
      rw [if_neg (by simp [hc]), if_pos hw']
    have HIN := fun w => Lib.hid (in_r false n 0 600 hw' w)
    clear hw hw' hc
    go_enter Try.func24, Try.ntmps24
    go_wp2_with (refine wpList_load_bs rfl 25 _ rfl C0.out 0 w.heap.size #[.int .i64 m.rings, .int .i64 m.give, .int .i64 m.pl, .int .i64 m.ph, .int .i64 m.wl, .int .i64 m.wh, .int .i64 m.set, .int .i64 m.shrink, .int .i64 m.skin, .int .i64 m.fill, .int .i64 m.gap, .int .i64 m.deep] 25 rfl rfl _ Try.underlying25 rfl info25 ?_)
    refine (HC _).out.mono ?_
    rintro e w1 ⟨rfl, hb⟩
    have C1 := Lib.hid (C0.out.call hb)
    clear hb C0
    go_wp2_with fail
    refine (HIN _).out.mono ?_
    rintro e w2 ⟨rfl, rfl⟩
    go_wp2_with fail
    rw [HV.out]
    refine bodyPost_ret (v := .tuple #[.slice none 0 0, .int .i64 7]) ?_ rfl ⟨_, rfl, OwnSpans.nil _ _, C1.out.bel⟩
    rw [results_tmp2 (fn := Try.f24) rfl]
    go_simp
  obtain ⟨N, rfl⟩ : ∃ N : Nat, n = N := ⟨n.toNat, by have := within_iff.1 hw; omega⟩
  have hN6 : N ≤ 600 := by have := within_iff.1 hw; omega
  have HV := Lib.hid (warmV_ok hc hN6)
  have HIN := fun w => Lib.hid (in_r true N 0 600 hw w)
  obtain ⟨r, hr⟩ : ∃ r : Nat, m.rings = r := ⟨m.rings.toNat, by have := HM.out.r1; omega⟩
  have HRG := Lib.hid hr
  have hr1 : 1 ≤ r := by have := HM.out.r1; omega
  have hr8 : r ≤ 8 := by have := HM.out.r8; omega
  have hwl : ∀ hot, (warmL m hot N).length = r := fun hot => by
    unfold warmL
    rw [runL_length]
    simp [sameP]
    omega
  have HL0 : Hid ((warmL m false N).length = r) := hwl false
  have HL1 : Hid ((warmL m true N).length = r) := hwl true
  have HLZ : Hid (((warmL m false N).zip (warmL m true N)).length = r) := by unfold Hid; rw [List.length_zip, hwl, hwl]; simp
  have HCL : ∀ (hot : Bool) (w : World) (v1 v2 : Value), IntsIn .i64 w.heap.size w v1 (sameP m hot) → IntsIn .i64 w.heap.size w v2 (sameW m hot N) → Hid (Calls Try.prog 21 #[.agg #[.int .i64 m.rings, .int .i64 m.give, .int .i64 m.pl, .int .i64 m.ph, .int .i64 m.wl, .int .i64 m.wh, .int .i64 m.set, .int .i64 m.shrink, .int .i64 m.skin, .int .i64 m.fill, .int .i64 m.gap, .int .i64 m.deep], .agg #[v1, v2]] w (RetIE (warmL m hot N) 0 w)) := fun hot w v1 v2 h1 h2 => by
    have := cool_ref m v1 v2 _ _ w h1 h2
    rw [cool_ok HM.out (by simp [sameP]; omega) (same_fits HM.out hot N).1 (by unfold sameW; rw [List.length_replicate]; omega) (same_fits HM.out hot N).2] at this
    exact this
  clear hw hc hr hwl
  go_enter Try.func24, Try.ntmps24
  go_wp2_with (refine wpList_load_bs rfl 25 _ rfl C0.out 0 w.heap.size #[.int .i64 m.rings, .int .i64 m.give, .int .i64 m.pl, .int .i64 m.ph, .int .i64 m.wl, .int .i64 m.wh, .int .i64 m.set, .int .i64 m.shrink, .int .i64 m.skin, .int .i64 m.fill, .int .i64 m.gap, .int .i64 m.deep] 25 rfl rfl _ Try.underlying25 rfl info25 ?_)
  refine (HC _).out.mono ?_
  rintro e w1 ⟨rfl, hb⟩
  have C1 := Lib.hid (C0.out.call hb)
  clear hb C0
  go_wp2_with fail
  refine (HIN _).out.mono ?_
  rintro e w2 ⟨rfl, rfl⟩
  go_wp2_with fail
  refine wp_region_inv1 (by kernel_rfl) (by kernel_rfl) [29, 30, 25, 31, 32, 7, 8] (fun D y w' => CoW w1 (sameP m false) (sameW m false N) (warmL m false N) (D 3) (D 4) (D 5) (D 6) (D 7) (D 8) (D 9) (y 29) (y 30) (y 25) (y 31) (y 32) (y 7) (y 8) w') (CoW.start _) ?FC ?hFC ?_
  case hFC =>
    intro y
    simp only [fill, List.foldl, Act.put, List.setIfInBounds_toArray, List.set]
    exact rfl
  apply obl_det
  case hrun =>
    intro D y wz hW hD R hR
    have HRR := Lib.hid hR
    clear hR
    have HW := Lib.hid hW
    clear hW hD
    refine wpList_load_want rfl 25 _ rfl _ rfl _ _ _ _ ((C1.out.call HW.out.bel).get 0 rfl) Try.underlying25 rfl info25 ?_
    go_simp
    exact HRR.out _ HW.out
  case hnp => rfl
  case hv => first | exact ⟨_, fun _ => rfl⟩ | exact ⟨undef, fun _ => rfl⟩
  apply obl_det
  case hrun =>
    intro D y wz hW hD R hR
    have HRR := Lib.hid hR
    clear hR
    have HW := Lib.hid hW
    clear hW hD
    refine wpList_load_want rfl 25 _ rfl _ rfl _ _ _ _ ((C1.out.call HW.out.bel).get 0 rfl) Try.underlying25 rfl info25 ?_
    go_simp
    exact HRR.out _ HW.out
  case hnp => rfl
  case hv => first | exact ⟨_, fun _ => rfl⟩ | exact ⟨undef, fun _ => rfl⟩
  apply obl_det
  case hrun =>
    intro D y wz hW hD R hR
    have HRR := Lib.hid hR
    clear hR
    have HW := Lib.hid hW
    clear hW hD
    go_wp2
    exact HRR.out _ HW.out
  case hnp => rfl
  case hv => first | exact ⟨_, fun _ => rfl⟩ | exact ⟨undef, fun _ => rfl⟩
  apply obl_priv 29
  case hd => rfl
  case hp => rfl
  case hrun =>
    intro D y wz hW hD R hR
    have HRR := Lib.hid hR
    clear hR
    have HW := Lib.hid hW
    clear hW hD
    go_wp2_with fail
    refine (same_ref m HM.out false N hN6 wz).mono ?_
    rintro e w' ⟨v1, v2, rfl, hi1, hi2, hb⟩
    have HN := Lib.hid ((HW.out.next hb).put4 hi1 hi2)
    clear hb hi1 hi2
    go_wp2_with fail
    refine HRR.out _ _ ?_
    show CoW w1 (sameP m false) (sameW m false N) (warmL m false N) true (D 4) (D 5) (D 6) (D 7) (D 8) (D 9) _ (y 30) (y 25) (y 31) (y 32) (y 7) (y 8) _
    exact HN.out
  apply obl_priv 30
  case hd => rfl
  case hp => rfl
  case hrun =>
    intro D y wz hW hD R hR
    have HRR := Lib.hid hR
    clear hR
    obtain ⟨v1, v2, e3, hv1, hv2⟩ := hW.t (hD.pre _ 3 rfl (by kernel_rfl))
    have HW := Lib.hid hW
    have hwh := (HCL false wz v1 v2 hv1 hv2).out
    rw [← e3] at hwh
    have HWH := Lib.hid hwh
    clear hW hD hv1 hv2 hwh e3
    go_wp2_with fail
    refine HWH.out.mono ?_
    rintro e w' ⟨v, rfl, hi1, hb⟩
    have HN := Lib.hid ((HW.out.next hb).put5 (hi1))
    clear hb hi1
    go_wp2_with fail
    refine HRR.out _ _ ?_
    show CoW w1 (sameP m false) (sameW m false N) (warmL m false N) (D 3) true (D 5) (D 6) (D 7) (D 8) (D 9) (y 29) _ (y 25) (y 31) (y 32) (y 7) (y 8) _
    exact HN.out
  apply obl_priv 25
  case hd => rfl
  case hp => rfl
  case hrun =>
    intro D y wz hW hD R hR
    have HRR := Lib.hid hR
    clear hR
    refine wpList_mv rfl _ rfl (y 30) rfl ?_
    refine HRR.out (y 30) _ ?_
    exact hW.put6 (hD.pre _ 4 rfl (by kernel_rfl))
  apply obl_priv 31
  case hd => rfl
  case hp => rfl
  case hrun =>
    intro D y wz hW hD R hR
    have HRR := Lib.hid hR
    clear hR
    obtain ⟨v, e, hv⟩ := hW.m (hD.pre _ 5 rfl (by kernel_rfl))
    refine wpList_ex rfl _ 0 rfl _ e v rfl ?_
    refine HRR.out v _ ?_
    exact hW.put7 hv
  apply obl_priv 32
  case hd => rfl
  case hp => rfl
  case hrun =>
    intro D y wz hW hD R hR
    have HRR := Lib.hid hR
    clear hR
    obtain ⟨v, e, hv⟩ := hW.m (hD.pre _ 5 rfl (by kernel_rfl))
    refine wpList_ex rfl _ 1 rfl _ e (.int .i64 0) rfl ?_
    refine HRR.out (.int .i64 0) _ ?_
    exact hW.put8
  apply obl_priv 7
  case hd => rfl
  case hp => rfl
  case hrun =>
    intro D y wz hW hD R hR
    have HRR := Lib.hid hR
    clear hR
    refine wpList_as rfl _ rfl (y 31) rfl ?_
    refine HRR.out (y 31) _ ?_
    exact hW.put9 (hD.pre _ 6 rfl (by kernel_rfl))
  apply obl_priv 8
  case hd => rfl
  case hp => rfl
  case hrun =>
    intro D y wz hW hD R hR
    have HRR := Lib.hid hR
    clear hR
    refine wpList_as rfl _ rfl (y 32) rfl ?_
    refine HRR.out (y 32) _ ?_
    exact hW.put10 (hD.pre _ 7 rfl (by kernel_rfl))
  apply obl_nil
  intro D y w8 hall hW
  have hn := hW.a (hall 8 (by decide))
  have he := hW.b (hall 9 (by decide))
  have hbl := hW.bel
  clear hW hall

  have H10 := Lib.hid hn
  have C4 := Lib.hid (C1.out.call hbl)
  clear hn hbl C1
  generalize y 7 = v10 at *
  generalize y 8 = v11 at *
  generalize y 29 = g1 at *
  generalize y 30 = g2 at *
  generalize y 25 = g3 at *
  generalize y 31 = g4 at *
  generalize y 32 = g5 at *
  subst he
  go_wp2_with fail
  refine wp_region_inv1 (by kernel_rfl) (by kernel_rfl) [37, 38, 33, 39, 40, 9, 10] (fun D y w' => CoW w8 (sameP m true) (sameW m true N) (warmL m true N) (D 3) (D 4) (D 5) (D 6) (D 7) (D 8) (D 9) (y 37) (y 38) (y 33) (y 39) (y 40) (y 9) (y 10) w') (CoW.start _) ?FD ?hFD ?_
  case hFD =>
    intro y
    simp only [fill, List.foldl, Act.put, List.setIfInBounds_toArray, List.set]
    exact rfl
  apply obl_det
  case hrun =>
    intro D y wz hW hD R hR
    have HRR := Lib.hid hR
    clear hR
    have HW := Lib.hid hW
    clear hW hD
    refine wpList_load_want rfl 25 _ rfl _ rfl _ _ _ _ ((C4.out.call HW.out.bel).get 0 rfl) Try.underlying25 rfl info25 ?_
    go_simp
    exact HRR.out _ HW.out
  case hnp => rfl
  case hv => first | exact ⟨_, fun _ => rfl⟩ | exact ⟨undef, fun _ => rfl⟩
  apply obl_det
  case hrun =>
    intro D y wz hW hD R hR
    have HRR := Lib.hid hR
    clear hR
    have HW := Lib.hid hW
    clear hW hD
    refine wpList_load_want rfl 25 _ rfl _ rfl _ _ _ _ ((C4.out.call HW.out.bel).get 0 rfl) Try.underlying25 rfl info25 ?_
    go_simp
    exact HRR.out _ HW.out
  case hnp => rfl
  case hv => first | exact ⟨_, fun _ => rfl⟩ | exact ⟨undef, fun _ => rfl⟩
  apply obl_det
  case hrun =>
    intro D y wz hW hD R hR
    have HRR := Lib.hid hR
    clear hR
    have HW := Lib.hid hW
    clear hW hD
    go_wp2
    exact HRR.out _ HW.out
  case hnp => rfl
  case hv => first | exact ⟨_, fun _ => rfl⟩ | exact ⟨undef, fun _ => rfl⟩
  apply obl_priv 37
  case hd => rfl
  case hp => rfl
  case hrun =>
    intro D y wz hW hD R hR
    have HRR := Lib.hid hR
    clear hR
    have HW := Lib.hid hW
    clear hW hD
    go_wp2_with fail
    refine (same_ref m HM.out true N hN6 wz).mono ?_
    rintro e w' ⟨v1, v2, rfl, hi1, hi2, hb⟩
    have HN := Lib.hid ((HW.out.next hb).put4 hi1 hi2)
    clear hb hi1 hi2
    go_wp2_with fail
    refine HRR.out _ _ ?_
    show CoW w8 (sameP m true) (sameW m true N) (warmL m true N) true (D 4) (D 5) (D 6) (D 7) (D 8) (D 9) _ (y 38) (y 33) (y 39) (y 40) (y 9) (y 10) _
    exact HN.out
  apply obl_priv 38
  case hd => rfl
  case hp => rfl
  case hrun =>
    intro D y wz hW hD R hR
    have HRR := Lib.hid hR
    clear hR
    obtain ⟨v1, v2, e3, hv1, hv2⟩ := hW.t (hD.pre _ 3 rfl (by kernel_rfl))
    have HW := Lib.hid hW
    have hwh := (HCL true wz v1 v2 hv1 hv2).out
    rw [← e3] at hwh
    have HWH := Lib.hid hwh
    clear hW hD hv1 hv2 hwh e3
    go_wp2_with fail
    refine HWH.out.mono ?_
    rintro e w' ⟨v, rfl, hi1, hb⟩
    have HN := Lib.hid ((HW.out.next hb).put5 (hi1))
    clear hb hi1
    go_wp2_with fail
    refine HRR.out _ _ ?_
    show CoW w8 (sameP m true) (sameW m true N) (warmL m true N) (D 3) true (D 5) (D 6) (D 7) (D 8) (D 9) (y 37) _ (y 33) (y 39) (y 40) (y 9) (y 10) _
    exact HN.out
  apply obl_priv 33
  case hd => rfl
  case hp => rfl
  case hrun =>
    intro D y wz hW hD R hR
    have HRR := Lib.hid hR
    clear hR
    refine wpList_mv rfl _ rfl (y 38) rfl ?_
    refine HRR.out (y 38) _ ?_
    exact hW.put6 (hD.pre _ 4 rfl (by kernel_rfl))
  apply obl_priv 39
  case hd => rfl
  case hp => rfl
  case hrun =>
    intro D y wz hW hD R hR
    have HRR := Lib.hid hR
    clear hR
    obtain ⟨v, e, hv⟩ := hW.m (hD.pre _ 5 rfl (by kernel_rfl))
    refine wpList_ex rfl _ 0 rfl _ e v rfl ?_
    refine HRR.out v _ ?_
    exact hW.put7 hv
  apply obl_priv 40
  case hd => rfl
  case hp => rfl
  case hrun =>
    intro D y wz hW hD R hR
    have HRR := Lib.hid hR
    clear hR
    obtain ⟨v, e, hv⟩ := hW.m (hD.pre _ 5 rfl (by kernel_rfl))
    refine wpList_ex rfl _ 1 rfl _ e (.int .i64 0) rfl ?_
    refine HRR.out (.int .i64 0) _ ?_
    exact hW.put8
  apply obl_priv 9
  case hd => rfl
  case hp => rfl
  case hrun =>
    intro D y wz hW hD R hR
    have HRR := Lib.hid hR
    clear hR
    refine wpList_as rfl _ rfl (y 39) rfl ?_
    refine HRR.out (y 39) _ ?_
    exact hW.put9 (hD.pre _ 6 rfl (by kernel_rfl))
  apply obl_priv 10
  case hd => rfl
  case hp => rfl
  case hrun =>
    intro D y wz hW hD R hR
    have HRR := Lib.hid hR
    clear hR
    refine wpList_as rfl _ rfl (y 40) rfl ?_
    refine HRR.out (y 40) _ ?_
    exact hW.put10 (hD.pre _ 7 rfl (by kernel_rfl))
  apply obl_nil
  intro D y w9 hall hW
  have hn := hW.a (hall 8 (by decide))
  have he := hW.b (hall 9 (by decide))
  have hbl := hW.bel
  clear hW hall

  have H12 := Lib.hid hn
  have H10 := Lib.hid (H10.out.next hbl)
  have C5 := Lib.hid (C4.out.call hbl)
  clear hn hbl C4
  generalize y 9 = v12 at *
  generalize y 10 = v13 at *
  generalize y 37 = g6 at *
  generalize y 38 = g7 at *
  generalize y 33 = g8 at *
  generalize y 39 = g9 at *
  generalize y 40 = g10 at *
  subst he
  obtain ⟨a10, c10, ev, -, hrf⟩ := H10.out
  rw [HL0.out] at ev
  subst ev
  obtain ⟨a12, c12, ev, -, hrh⟩ := H12.out
  rw [HL1.out] at ev
  subst ev
  obtain ⟨bf, of', rfl, hbf, hcf⟩ := hrf.resolve_left (by intro h; have := HL0.out; rw [h] at this; simp at this; omega)
  obtain ⟨bh, oh, rfl, hbh, hch⟩ := hrh.resolve_left (by intro h; have := HL1.out; rw [h] at this; simp at this; omega)
  have KF := Lib.hid hcf
  have KH := Lib.hid hch
  clear hrf hrh hcf hch H10 H12
  go_wp2_with fail
  go_loopw [11, 12] (fun ov iv wr => ∃ (i : Nat) (a : Option Addr) (c : Nat), ov = .slice a i c ∧ iv = .int .i64 i ∧ i ≤ r ∧ wr.ownsRow w9.heap.size 23 2 (.slice a i c) i (spCells (((warmL m false N).zip (warmL m true N)).take i)) ∧ Below w9.heap.size w9 wr) (fun _ iv _ => r - (intOf iv).toNat)
  case atStart => exact ⟨0, none, 0, rfl, rfl, by omega, World.ownsRow_nil _ _ 23 2, Below.refl _ _⟩
  case round =>
    obtain ⟨i, a, c, rfl, rfl, hi, hO, hb⟩ := hrel
    have OK := Lib.hid hO
    have CB := Lib.hid hb
    have CI := Lib.hid (C5.out.call hb)
    have c00 : wr.cell? ⟨w.heap.size, 0, none⟩ = some (.int .i64 r) := by
      rw [CI.out.cell 0 rfl, ← HRG.out]
      rfl
    have hwr : w9.heap.size ≤ wr.heap.size := hb.size
    clear hO hb
    by_cases hir : i < r
    · have hii : (i : Int) < (r : Int) := by omega
      have kf : wr.cell? ⟨bf, of' + i, none⟩ = some (.int .i64 ((warmL m false N).getD i 0)) := (CB.out.cell (p := ⟨bf, of' + i, none⟩) hbf).trans (KF.out i (by rw [HL0.out]; exact hir))
      have kh : wr.cell? ⟨bh, oh + i, none⟩ = some (.int .i64 ((warmL m true N).getD i 0)) := (CB.out.cell (p := ⟨bh, oh + i, none⟩) hbh).trans (KH.out i (by rw [HL1.out]; exact hir))
      have HTK := Lib.hid (zip_take (warmL m false N) (warmL m true N) i (by rw [HL0.out]; exact hir) (by rw [HL1.out]; exact hir))
      generalize (warmL m true N).getD i 0 = xh at *
      generalize (warmL m false N).getD i 0 = xf at *
      go_wp2_with fail
      clear c00
      refine wp_region_inv1 (by kernel_rfl) (by kernel_rfl) [58, 11] (fun D y w' => AppW wr (w9.heap.size) 23 2 (.slice a i c) (i) (spCells (((warmL m false N).zip (warmL m true N)).take i)) [.int .i64 xf, .int .i64 xh] (D 10) (D 11) (D 12) (y 11) (y 58) w') ?_ ?F1 ?hF1 ?_
      · exact AppW.start OK.out hwr
      case hF1 =>
        intro y
        simp only [fill, List.foldl, Act.put, List.setIfInBounds_toArray, List.set]
        exact rfl
      apply obl_det
      case hrun =>
        intro D y wz hW hD R hR
        have HRR := Lib.hid hR
        clear hR
        have h15 : D 12 = false := hD.post _ 12 rfl (by kernel_rfl)
        refine wpList_mv rfl _ rfl (.slice a i c) (hW.old h15) ?_
        have HW := Lib.hid hW
        clear hW hD
        go_wp2
        exact HRR.out _ HW.out
      case hnp => rfl
      case hv => first | exact ⟨_, fun _ => rfl⟩ | exact ⟨undef, fun _ => rfl⟩
      iterate 9
        (apply obl_det
         case hrun =>
           intro D y wz hW hD R hR
           have HRR := Lib.hid hR
           clear hR
           have HW := Lib.hid hW
           have hc2 := (cellB hW.bel).1
           clear hW hD
           go_wp2
           exact HRR.out _ HW.out
         case hnp => rfl
         case hv => first | exact ⟨_, fun _ => rfl⟩ | exact ⟨undef, fun _ => rfl⟩)
      apply obl_det
      case hrun =>
        intro D y wz hW hD R hR
        have HRR := Lib.hid hR
        clear hR
        have h13 : D 10 = false := hD.not
        have h14 : D 11 = false := hD.post _ 11 rfl (by kernel_rfl)
        rw [h13, h14] at hW
        obtain ⟨hsz, hW2⟩ := hW.laid
        have HS := Lib.hid hsz
        have HW := Lib.hid hW2
        have H14 := Lib.hid h14
        clear hW hW2 hD hsz h13 h14
        go_wp2
        rw [HS.out]
        refine HRR.out _ ?_
        show AppW wr (w9.heap.size) 23 2 (.slice a i c) (i) (spCells (((warmL m false N).zip (warmL m true N)).take i)) [.int .i64 xf, .int .i64 xh] true (D 11) (D 12) (y 11) (y 58) _
        rw [H14.out]
        exact HW.out
      case hnp => rfl
      case hv => first | exact ⟨_, fun _ => rfl⟩ | exact ⟨undef, fun _ => rfl⟩
      apply obl_priv 58
      case hd => rfl
      case hp => rfl
      case hrun =>
        intro D y wz hW hD R hR
        have HRR := Lib.hid hR
        clear hR
        have h14 : D 11 = false := hD.not
        have h13 : D 10 = true := hD.pre _ 10 rfl (by kernel_rfl)
        have h15 : D 12 = false := hD.post _ 12 rfl (by kernel_rfl)
        rw [h13, h14] at hW
        have HW := Lib.hid hW
        obtain ⟨ho, -, hb⟩ := hW.row rfl
        have hbase := hW.hb
        have hsz := hW.bel.size
        clear hW hD
        obtain ⟨i0, hi0, hz0, hz1, hz2⟩ := info23x
        refine wpList_append_own _ rfl _ _ 34 rfl (w9.heap.size) 23 i0 (.agg #[.int .i64 0, .int .i64 0]) 2 16 Try.underlying34 hi0 hz0 hz1 hz2 rfl (by decide) _ _ _ rfl ho ⟨wr.heap.size, 0, none⟩ 1 1 [.int .i64 xf, .int .i64 xh] rfl rfl (cell_news _ _ _ _ (hb rfl)) (two_int _ _) (by unfold maxLen; omega) (by omega) (by omega) ?_
        intro v' w12 hown12 hgrow12 _
        have HW2 := Lib.hid (HW.out.got h15 hown12 hgrow12)
        go_wp2
        refine HRR.out v' _ ?_
        show AppW wr (w9.heap.size) 23 2 (.slice a i c) (i) (spCells (((warmL m false N).zip (warmL m true N)).take i)) [.int .i64 xf, .int .i64 xh] (D 10) true (D 12) (y 11) v' _
        rw [h13]
        exact HW2.out
      apply obl_priv 11
      case hd => rfl
      case hp => rfl
      case hrun =>
        intro D y wz hW hD R hR
        have HRR := Lib.hid hR
        clear hR
        have h14 : D 11 = true := hD.pre _ 11 rfl (by kernel_rfl)
        have HW := Lib.hid hW
        have H14 := Lib.hid h14
        clear hW hD h14
        go_wp2
        refine HRR.out _ _ ?_
        show AppW wr (w9.heap.size) 23 2 (.slice a i c) (i) (spCells (((warmL m false N).zip (warmL m true N)).take i)) [.int .i64 xf, .int .i64 xh] (D 10) (D 11) true (y 58) (y 58) _
        have h := HW.out
        rw [H14.out] at h ⊢
        exact h.assigned
      apply obl_nil
      intro D y w8 hall hW
      have h14 := hall 11 (by decide)
      have h15 := hall 12 (by decide)
      rw [h14, h15] at hW
      have hy := hW.put rfl
      have HO8 := Lib.hid (hW.new rfl)
      have C8 := Lib.hid hW.bel
      clear hW hall h14 h15
      rw [hy]
      clear hy
      generalize y 58 = yv at HO8 ⊢

      clear OK
      obtain ⟨a9, c9, rfl⟩ := ownsRow_slice1 HO8.out
      go_wp2_with fail
      refine ⟨⟨i + 1, a9, c9, rfl, by push_cast; rfl, by omega, ?_, CB.out.trans C8.out⟩, ?_⟩
      · rw [HTK.out, spCells_snoc]
        exact HO8.out
      · simp [intOf]
        omega
    · obtain rfl : r = i := by omega
      have HO : Hid (OwnSpans w.heap.size wr (.slice a r c) ((warmL m false N).zip (warmL m true N))) := by
        have h := OK.out
        rw [List.take_of_length_le (by rw [HLZ.out]; exact Nat.le_refl _)] at h
        refine OwnSpans.mono (base := w9.heap.size) ?_ C5.out.bel.size
        unfold OwnSpans
        rw [HLZ.out]
        exact h
      clear OK
      go_wp2_with fail
      rw [HV.out]
      refine bodyPost_ret (v := .tuple #[.slice a r c, .int .i64 0]) ?_ rfl ⟨_, rfl, HO.out, CI.out.bel⟩
      rw [results_tmp2 (fn := Try.f24) rfl]
      go_simp
end Go.Proofs.Ytafdagjdpnaddaa
