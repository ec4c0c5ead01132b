/- MouldTrue: the walk. -/
import Derived.Test.YtafdagjdpnaddaaW35
import Derived.Test.YtafdagjdpnaddaaAW
namespace Go.Proofs.Ytafdagjdpnaddaa
open Go.RowKit
theorem warmV_ok {m : Mou} (h : checkE m = 0) {N : Nat} (hN : N ≤ 600) : warmV m N = ((warmL m false N).zip (warmL m true N), 0) := by
  unfold warmV
  rw [if_neg (by simp [h]), if_neg (by simp [within]; omega), Int.toNat_natCast]
set_option maxRecDepth 100000 in
set_option maxHeartbeats 32000000 in
theorem true_law (m : Mou) (f : Int) (hf0 : 0 ≤ f) (hf6 : f ≤ 65535) (yv zv : Value) (yl zl : List Int) (w : World) (hy : IntsIn .u16 w.heap.size w yv yl) (hz : IntsIn .u16 w.heap.size w zv zl) (hyr : ∀ x ∈ yl, 0 ≤ x ∧ x ≤ 65535) (hzr : ∀ x ∈ zl, 0 ≤ x ∧ x ≤ 65535) :
    Calls Try.prog 7 #[.agg #[.int .i64 m.rings, .int .i64 m.give, .int .i64 m.pl, .int .i64 m.ph, .int .i64 m.wl, .int .i64 m.wh, .int .i64 m.set, .int .i64 m.shrink, .int .i64 m.skin, .int .i64 m.fill, .int .i64 m.gap, .int .i64 m.deep], .int .u16 f, .agg #[yv, zv]] w (fun e w' => e = .returned (.bool true) ∧ Below w.heap.size w w') := by
  have C0 := Lib.hid (((Bs.nil w).push _ rfl (.cells #[.int .i64 m.rings, .int .i64 m.give, .int .i64 m.pl, .int .i64 m.ph, .int .i64 m.wl, .int .i64 m.wh, .int .i64 m.set, .int .i64 m.shrink, .int .i64 m.skin, .int .i64 m.fill, .int .i64 m.gap, .int .i64 m.deep] 25)).push (w.heap.size + 1) (by simp) (.cells #[yv, zv] 58))
  have HY := Lib.hid hy
  have HZ := Lib.hid hz
  have HYR := Lib.hid hyr
  have HZR := Lib.hid hzr
  clear hy hz hyr hzr
  have hn0 : 0 ≤ f % 601 := by omega
  have hn6 : f % 601 ≤ 600 := by omega
  go_enter Try.func7, Try.ntmps7
  go_wp2_with (refine wpList_load_bs rfl 25 _ rfl C0.out 0 w.heap.size #[.int .i64 m.rings, .int .i64 m.give, .int .i64 m.pl, .int .i64 m.ph, .int .i64 m.wl, .int .i64 m.wh, .int .i64 m.set, .int .i64 m.shrink, .int .i64 m.skin, .int .i64 m.fill, .int .i64 m.gap, .int .i64 m.deep] 25 rfl rfl _ Try.underlying25 rfl info25 ?_)
  generalize f % 601 = z' at *
  obtain ⟨N, rfl⟩ : ∃ N : Nat, z' = N := ⟨z'.toNat, by omega⟩
  have hN6 : N ≤ 600 := by omega
  clear hn0 hn6 hf0 hf6
  by_cases hc : checkE m = 0
  rotate_left
  · have hv : warmV m N = ([], checkE m) := by unfold warmV; rw [if_pos hc]
    have hwc := fun w => warm_any m N w
    rw [hv] at hwc
    have HWC := Lib.hid hwc
    have HC : ∀ w, Hid (Calls Try.prog 19 #[.agg #[.int .i64 m.rings, .int .i64 m.give, .int .i64 m.pl, .int .i64 m.ph, .int .i64 m.wl, .int .i64 m.wh, .int .i64 m.set, .int .i64 m.shrink, .int .i64 m.skin, .int .i64 m.fill, .int .i64 m.gap, .int .i64 m.deep]] w fun e w' => e = .returned (.int .i64 (checkE m)) ∧ Below w.heap.size w w') := fun w => checkR_any m w
    have hz : (checkE m != 0) = true := by simpa using hc
    clear hc hv hwc
    generalize checkE m = E at *
    refine (HWC.out _).mono ?_
    rintro e w5 ⟨v, rfl, ho, hb⟩
    obtain ⟨a, c, rfl, -⟩ := ho.spans (by simp)
    have C5 := Lib.hid (C0.out.call hb)
    clear ho hb C0
    go_wp2_with (refine wpList_load_bs rfl 25 _ rfl C5.out 0 w.heap.size #[.int .i64 m.rings, .int .i64 m.give, .int .i64 m.pl, .int .i64 m.ph, .int .i64 m.wl, .int .i64 m.wh, .int .i64 m.set, .int .i64 m.shrink, .int .i64 m.skin, .int .i64 m.fill, .int .i64 m.gap, .int .i64 m.deep] 25 rfl rfl _ Try.underlying25 rfl info25 ?_)
    refine (HC _).out.mono ?_
    rintro e w6 ⟨rfl, hb⟩
    have C6 := Lib.hid (C5.out.call hb)
    clear hb C5
    go_wp2_with (refine wpList_load_bs rfl 25 _ rfl C6.out 0 w.heap.size #[.int .i64 m.rings, .int .i64 m.give, .int .i64 m.pl, .int .i64 m.ph, .int .i64 m.wl, .int .i64 m.wh, .int .i64 m.set, .int .i64 m.shrink, .int .i64 m.skin, .int .i64 m.fill, .int .i64 m.gap, .int .i64 m.deep] 25 rfl rfl _ Try.underlying25 rfl info25 ?_)
    refine (HC _).out.mono ?_
    rintro e w6 ⟨rfl, hb⟩
    have C6 := Lib.hid (C6.out.call hb)
    clear hb
    go_wp2_with fail
    refine (awake_any _).mono ?_
    rintro e w7 ⟨rfl, hb⟩
    have HBel := Lib.hid (C6.out.call hb).bel
    clear hb C6
    go_wp2
    go_ret
    exact ⟨rfl, HBel.out⟩
  have HCK := Lib.hid hc
  have HM := Lib.hid (valid_of_check hc)
  have HC : ∀ w, Hid (Calls Try.prog 19 #[.agg #[.int .i64 m.rings, .int .i64 m.give, .int .i64 m.pl, .int .i64 m.ph, .int .i64 m.wl, .int .i64 m.wh, .int .i64 m.set, .int .i64 m.shrink, .int .i64 m.skin, .int .i64 m.fill, .int .i64 m.gap, .int .i64 m.deep]] w fun e w' => e = .returned (.int .i64 0) ∧ Below w.heap.size w w') := fun w => by
    have := checkR_any m w
    rw [hc] at this
    exact this
  obtain ⟨r, hr⟩ : ∃ r : Nat, m.rings = r := ⟨m.rings.toNat, by have := HM.out.r1; omega⟩
  have HRR := Lib.hid hr
  have hr1 : 1 ≤ r := by have := HM.out.r1; omega
  have hr8 : r ≤ 8 := by have := HM.out.r8; omega
  have hwl : ∀ hot, (warmL m hot N).length = r := fun hot => by
    unfold warmL
    rw [runL_length]
    simp [sameP]
    omega
  have HWM : ∀ w, Hid (Calls Try.prog 23 #[.agg #[.int .i64 m.rings, .int .i64 m.give, .int .i64 m.pl, .int .i64 m.ph, .int .i64 m.wl, .int .i64 m.wh, .int .i64 m.set, .int .i64 m.shrink, .int .i64 m.skin, .int .i64 m.fill, .int .i64 m.gap, .int .i64 m.deep], .int .i64 N] w (RetSpE ((warmL m false N).zip (warmL m true N)) 0 w)) := fun w => by
    have := warm_any m N w
    rw [warmV_ok hc hN6] at this
    exact this
  have hpl : ((truthPl m m.rings.toNat yl).length : Int) = m.rings := by rw [truthPl, mapTo_len]; omega
  have HCL : ∀ (w : World) (v1 v2 : Value), IntsIn .i64 w.heap.size w v1 (truthPl m m.rings.toNat yl) → IntsIn .i64 w.heap.size w v2 (truthWl m N zl) → Hid (Calls Try.prog 20 #[.agg #[.int .i64 m.rings, .int .i64 m.give, .int .i64 m.pl, .int .i64 m.ph, .int .i64 m.wl, .int .i64 m.wh, .int .i64 m.set, .int .i64 m.shrink, .int .i64 m.skin, .int .i64 m.fill, .int .i64 m.gap, .int .i64 m.deep], .agg #[v1, v2]] w (RetLE (runL m.give (truthPl m m.rings.toNat yl) (truthWl m N zl)) 0 w)) := fun w v1 v2 h1 h2 => by
    have := cool_any m v1 v2 _ _ w h1 h2
    rw [cool_ok HM.out hpl (truth_fitsP HM.out yl) (by rw [truthWl, mapTo_len]; omega) (truth_fitsW HM.out zl N)] at this
    exact this
  have HTRn : ∀ w : World, IntsIn .u16 w.heap.size w yv yl → IntsIn .u16 w.heap.size w zv zl → Hid (Calls Try.prog 38 #[.agg #[.int .i64 m.rings, .int .i64 m.give, .int .i64 m.pl, .int .i64 m.ph, .int .i64 m.wl, .int .i64 m.wh, .int .i64 m.set, .int .i64 m.shrink, .int .i64 m.skin, .int .i64 m.fill, .int .i64 m.gap, .int .i64 m.deep], .int .i64 N, .agg #[yv, zv]] w (RetT (truthPl m m.rings.toNat yl) (truthWl m N zl) w)) := fun w h1 h2 => truth_any m HM.out N hN6 yv zv yl zl w h1 h2 HYR.out HZR.out
  have HLL : Hid ((runL m.give (truthPl m m.rings.toNat yl) (truthWl m N zl)).length = r) := by unfold Hid; rw [runL_length]; omega
  have HIN1 : Hid (∀ i, i < r → within ((runL m.give (truthPl m m.rings.toNat yl) (truthWl m N zl)).getD i 0) (((warmL m false N).zip (warmL m true N)).getD i (0, 0)).1 (((warmL m false N).zip (warmL m true N)).getD i (0, 0)).2 = true) := fun i hi => by
    rw [zip_getD (by rw [hwl]; exact hi) (by rw [hwl]; exact hi)]
    have g0 : 0 ≤ m.give := by have := HM.out.g1; omega
    have q1 := (runL_mono g0 HM.out.g5 _ _ _ _ (truth_lo HM.out yl zl N).1 (truth_lo HM.out yl zl N).2).2 i (by have := hwl false; unfold warmL at this; omega)
    have q2 := (runL_mono g0 HM.out.g5 _ _ _ _ (truth_hi HM.out yl zl N).1 (truth_hi HM.out yl zl N).2).2 i (by rw [HLL.out]; exact hi)
    exact within_iff.2 ⟨q1, q2⟩
  have HLS : Hid (((warmL m false N).zip (warmL m true N)).length = r) := by unfold Hid; rw [List.length_zip, hwl, hwl]; simp
  generalize (warmL m false N).zip (warmL m true N) = wsp at *
  generalize runL m.give (truthPl m m.rings.toNat yl) (truthWl m N zl) = ll at *
  clear hwl hpl hc hr
  refine (HWM _).out.mono ?_
  rintro e w1 ⟨v, rfl, ho, hb⟩
  have HS1 := Lib.hid (ho.spans (by rw [HLS.out]; omega))
  have C1 := Lib.hid (C0.out.call hb)
  clear ho hb C0
  go_wp2_with (refine wpList_load_bs rfl 25 _ rfl C1.out 0 w.heap.size #[.int .i64 m.rings, .int .i64 m.give, .int .i64 m.pl, .int .i64 m.ph, .int .i64 m.wl, .int .i64 m.wh, .int .i64 m.set, .int .i64 m.shrink, .int .i64 m.skin, .int .i64 m.fill, .int .i64 m.gap, .int .i64 m.deep] 25 rfl rfl _ Try.underlying25 rfl info25 ?_)
  refine (HC _).out.mono ?_
  rintro e w2 ⟨rfl, hb⟩
  have HS1 := Lib.hid (HS1.out.next hb)
  have C2 := Lib.hid (C1.out.call hb)
  clear hb C1 HC
  go_wp2_with fail
  refine wp_region_inv1 (by kernel_rfl) (by kernel_rfl) [45, 46, 40, 47, 48, 10, 11] (fun D y w' => CoW w2 (truthPl m m.rings.toNat yl) (truthWl m N zl) (ll) (D 4) (D 5) (D 6) (D 7) (D 8) (D 9) (D 10) (y 45) (y 46) (y 40) (y 47) (y 48) (y 10) (y 11) w') (CoW.start _) ?FC ?hFC ?_
  case hFC =>
    intro y
    simp only [fill, List.foldl, Act.put, List.setIfInBounds_toArray, List.set]
    exact rfl
  apply obl_det
  case hrun =>
    intro D y wz hW hD R hR
    have HRR := Lib.hid hR
    clear hR
    have HW := Lib.hid hW
    clear hW hD
    refine wpList_load_want rfl 25 _ rfl _ rfl _ _ _ _ ((C2.out.call HW.out.bel).get 0 rfl) Try.underlying25 rfl info25 ?_
    go_simp
    exact HRR.out _ HW.out
  case hnp => rfl
  case hv => first | exact ⟨_, fun _ => rfl⟩ | exact ⟨undef, fun _ => rfl⟩
  apply obl_det
  case hrun =>
    intro D y wz hW hD R hR
    have HRR := Lib.hid hR
    clear hR
    have HW := Lib.hid hW
    clear hW hD
    refine wpList_load_want rfl 25 _ rfl _ rfl _ _ _ _ ((C2.out.call HW.out.bel).get 0 rfl) Try.underlying25 rfl info25 ?_
    go_simp
    exact HRR.out _ HW.out
  case hnp => rfl
  case hv => first | exact ⟨_, fun _ => rfl⟩ | exact ⟨undef, fun _ => rfl⟩
  apply obl_det
  case hrun =>
    intro D y wz hW hD R hR
    have HRR := Lib.hid hR
    clear hR
    have HW := Lib.hid hW
    clear hW hD
    go_wp2
    exact HRR.out _ HW.out
  case hnp => rfl
  case hv => first | exact ⟨_, fun _ => rfl⟩ | exact ⟨undef, fun _ => rfl⟩
  apply obl_det
  case hrun =>
    intro D y wz hW hD R hR
    have HRR := Lib.hid hR
    clear hR
    have HW := Lib.hid hW
    clear hW hD
    refine wpList_load_want rfl 58 _ rfl _ rfl _ _ _ _ ((C2.out.call HW.out.bel).get 1 rfl) Try.underlying58 rfl info58 ?_
    go_simp
    exact HRR.out _ HW.out
  case hnp => rfl
  case hv => first | exact ⟨_, fun _ => rfl⟩ | exact ⟨undef, fun _ => rfl⟩
  apply obl_priv 45
  case hd => rfl
  case hp => rfl
  case hrun =>
    intro D y wz hW hD R hR
    have HRR := Lib.hid hR
    clear hR
    have HW := Lib.hid hW
    clear hW hD
    go_wp2_with fail
    refine ((HTRn wz ((HY.out.below (C2.out.call HW.out.bel).bel).mono (C2.out.call HW.out.bel).bel.size) ((HZ.out.below (C2.out.call HW.out.bel).bel).mono (C2.out.call HW.out.bel).bel.size)).out).mono ?_
    rintro e w' ⟨v1, v2, rfl, hi1, hi2, hb⟩
    have HN := Lib.hid ((HW.out.next hb).put4 hi1 hi2)
    clear hb hi1 hi2
    go_wp2_with fail
    refine HRR.out _ _ ?_
    show CoW w2 (truthPl m m.rings.toNat yl) (truthWl m N zl) (ll) true (D 5) (D 6) (D 7) (D 8) (D 9) (D 10) _ (y 46) (y 40) (y 47) (y 48) (y 10) (y 11) _
    exact HN.out
  apply obl_priv 46
  case hd => rfl
  case hp => rfl
  case hrun =>
    intro D y wz hW hD R hR
    have HRR := Lib.hid hR
    clear hR
    obtain ⟨v1, v2, e3, hv1, hv2⟩ := hW.t (hD.pre _ 4 rfl (by kernel_rfl))
    have HW := Lib.hid hW
    have hwh := (HCL wz v1 v2 hv1 hv2).out
    rw [← e3] at hwh
    have HWH := Lib.hid hwh
    clear hW hD hv1 hv2 hwh e3
    go_wp2_with fail
    refine HWH.out.mono ?_
    rintro e w' ⟨v, rfl, hi1, hb⟩
    have HN := Lib.hid ((HW.out.next hb).put5 (hi1.ints (by rw [HLL.out]; omega)))
    clear hb hi1
    go_wp2_with fail
    refine HRR.out _ _ ?_
    show CoW w2 (truthPl m m.rings.toNat yl) (truthWl m N zl) (ll) (D 4) true (D 6) (D 7) (D 8) (D 9) (D 10) (y 45) _ (y 40) (y 47) (y 48) (y 10) (y 11) _
    exact HN.out
  apply obl_priv 40
  case hd => rfl
  case hp => rfl
  case hrun =>
    intro D y wz hW hD R hR
    have HRR := Lib.hid hR
    clear hR
    refine wpList_mv rfl _ rfl (y 46) rfl ?_
    refine HRR.out (y 46) _ ?_
    exact hW.put6 (hD.pre _ 5 rfl (by kernel_rfl))
  apply obl_priv 47
  case hd => rfl
  case hp => rfl
  case hrun =>
    intro D y wz hW hD R hR
    have HRR := Lib.hid hR
    clear hR
    obtain ⟨v, e, hv⟩ := hW.m (hD.pre _ 6 rfl (by kernel_rfl))
    refine wpList_ex rfl _ 0 rfl _ e v rfl ?_
    refine HRR.out v _ ?_
    exact hW.put7 hv
  apply obl_priv 48
  case hd => rfl
  case hp => rfl
  case hrun =>
    intro D y wz hW hD R hR
    have HRR := Lib.hid hR
    clear hR
    obtain ⟨v, e, hv⟩ := hW.m (hD.pre _ 6 rfl (by kernel_rfl))
    refine wpList_ex rfl _ 1 rfl _ e (.int .i64 0) rfl ?_
    refine HRR.out (.int .i64 0) _ ?_
    exact hW.put8
  apply obl_priv 10
  case hd => rfl
  case hp => rfl
  case hrun =>
    intro D y wz hW hD R hR
    have HRR := Lib.hid hR
    clear hR
    refine wpList_as rfl _ rfl (y 47) rfl ?_
    refine HRR.out (y 47) _ ?_
    exact hW.put9 (hD.pre _ 7 rfl (by kernel_rfl))
  apply obl_priv 11
  case hd => rfl
  case hp => rfl
  case hrun =>
    intro D y wz hW hD R hR
    have HRR := Lib.hid hR
    clear hR
    refine wpList_as rfl _ rfl (y 48) rfl ?_
    refine HRR.out (y 48) _ ?_
    exact hW.put10 (hD.pre _ 8 rfl (by kernel_rfl))
  apply obl_nil
  intro D y w8 hall hW
  have hn := hW.a (hall 9 (by decide))
  have he := hW.b (hall 10 (by decide))
  have hbl := hW.bel
  clear hW hall

  have HI1 := Lib.hid hn
  have HS1 := Lib.hid (HS1.out.next hbl)
  have C3 := Lib.hid (C2.out.call hbl)
  clear hn hbl C2
  generalize y 10 = vl at *
  generalize y 11 = ve at *
  generalize y 45 = g1 at *
  generalize y 46 = g2 at *
  generalize y 40 = g3 at *
  generalize y 47 = g4 at *
  generalize y 48 = g5 at *
  subst he
  obtain ⟨iav, icv, ev, -⟩ := HI1.out
  rw [HLL.out] at ev
  subst ev
  obtain ⟨sav, scv, ev, -⟩ := HS1.out
  rw [HLS.out] at ev
  subst ev
  have hq : ((r : Int) != (r : Int)) = false := by simp
  have c00 : w8.cell? ⟨w.heap.size, 0, none⟩ = some (.int .i64 r) := by
    rw [C3.out.cell 0 rfl, ← HRR.out]
    rfl
  go_wp2_with fail
  clear c00 hq
  go_loopw [12] (fun iv wr => ∃ i : Nat, iv = .int .i64 i ∧ i ≤ r ∧ Below w8.heap.size w8 wr) (fun iv _ => r - (intOf iv).toNat)
  case atStart => exact ⟨0, rfl, by omega, Below.refl _ _⟩
  case round =>
    obtain ⟨i, rfl, hi, hb⟩ := hrel
    have CB := Lib.hid hb
    have CI := Lib.hid (C3.out.call hb)
    have c00 : wr.cell? ⟨w.heap.size, 0, none⟩ = some (.int .i64 r) := by
      rw [CI.out.cell 0 rfl, ← HRR.out]
      rfl
    clear hb
    by_cases hir : i < r
    · have hii : (i : Int) < (r : Int) := by omega
      obtain ⟨_, _, hva, -, hcc⟩ := HI1.out
      simp only [Value.slice.injEq] at hva
      obtain ⟨rfl, -, rfl⟩ := hva
      obtain ⟨b2, o2, rfl, hbb2, hcell2⟩ := hcc.resolve_left (by intro h; have := HLL.out; rw [h] at this; simp at this; omega)
      obtain ⟨_, _, hvb, -, -, hcs⟩ := HS1.out
      simp only [Value.slice.injEq] at hvb
      obtain ⟨rfl, -, rfl⟩ := hvb
      obtain ⟨b3, o3, rfl, hbb3, hcell3⟩ := hcs.resolve_left (by intro h; have := HLS.out; rw [h] at this; simp at this; omega)
      have K2 := Lib.hid (hcell2 i (by rw [HLL.out]; exact hir))
      have K3 := Lib.hid (hcell3 i (by rw [HLS.out]; exact hir))
      have HIN := Lib.hid (HIN1.out i hir)
      clear hcell2 hcc hcell3 hcs
      generalize ll.getD i 0 = x at *
      generalize ((wsp).getD i (0, 0)).1 = s1 at *
      generalize ((wsp).getD i (0, 0)).2 = s2 at *
      go_wp2_with fail
      refine wp_region_inv0 (by kernel_rfl) (by kernel_rfl) (fun _ w' => Below w8.heap.size w8 w') CB.out.drew ?_
      iterate 3
        (apply obl_det
         case hrun =>
           intro D y wz hW hD R hR
           have HRR := Lib.hid hR
           clear hR
           have HW := Lib.hid hW
           clear hW hD
           go_wp2
           exact HRR.out _ HW.out
         case hnp => rfl
         case hv => first | exact ⟨_, fun _ => rfl⟩ | exact ⟨undef, fun _ => rfl⟩)
      apply obl_det
      case hrun =>
        intro D y wz hW hD R hR
        have HRR := Lib.hid hR
        clear hR
        have HW := Lib.hid hW
        have k2 := (hW.cell (p := ⟨b2, o2 + i, none⟩) hbb2).trans K2.out
        clear hW hD
        go_wp2
        exact HRR.out _ HW.out
      case hnp => rfl
      case hv => first | exact ⟨_, fun _ => rfl⟩ | exact ⟨undef, fun _ => rfl⟩
      iterate 3
        (apply obl_det
         case hrun =>
           intro D y wz hW hD R hR
           have HRR := Lib.hid hR
           clear hR
           have HW := Lib.hid hW
           clear hW hD
           go_wp2
           exact HRR.out _ HW.out
         case hnp => rfl
         case hv => first | exact ⟨_, fun _ => rfl⟩ | exact ⟨undef, fun _ => rfl⟩)
      apply obl_det
      case hrun =>
        intro D y wz hW hD R hR
        have HRR := Lib.hid hR
        clear hR
        have HW := Lib.hid hW
        have k3 := (hW.cell (p := ⟨b3, o3 + i * 2, none⟩) hbb3).trans K3.out.1
        have k4 := (hW.cell (p := ⟨b3, o3 + i * 2 + 1, none⟩) hbb3).trans K3.out.2
        clear hW hD
        go_wp2
        exact HRR.out _ HW.out
      case hnp => rfl
      case hv => first | exact ⟨_, fun _ => rfl⟩ | exact ⟨undef, fun _ => rfl⟩
      apply obl_det
      case hrun =>
        intro D y wz hW hD R hR
        have HRR := Lib.hid hR
        clear hR
        have HW := Lib.hid hW
        clear hW hD
        go_wp2_with fail
        refine (inside_r true x s1 s2 HIN.out _).mono ?_
        rintro e w' ⟨rfl, hb⟩
        have HW2 := Lib.hid (HW.out.trans (hb.mono HW.out.size))
        clear hb
        go_wp2_with fail
        exact HRR.out _ HW2.out
      case hnp => rfl
      case hv => first | exact ⟨_, fun _ => rfl⟩ | exact ⟨undef, fun _ => rfl⟩
      apply obl_det
      case hrun =>
        intro D y wz hW hD R hR
        have HRR := Lib.hid hR
        clear hR
        have HW := Lib.hid hW
        clear hW hD
        go_wp2
        exact HRR.out _ HW.out
      case hnp => rfl
      case hv => first | exact ⟨_, fun _ => rfl⟩ | exact ⟨undef, fun _ => rfl⟩
      apply obl_nil
      intro D y w8 hall hW
      clear hall
      have HW8 := Lib.hid hW
      clear hW c00 CI CB
      go_wp2_with fail
      refine ⟨⟨i + 1, by push_cast; rfl, by omega, HW8.out⟩, ?_⟩
      simp [intOf]
      omega
    · obtain rfl : r = i := by omega
      clear C3
      have HN1 := HS1
      have HN2 := HI1
      clear HN1 HN2 HS1 HI1 CB
      go_wp2_with (refine wpList_load_bs rfl 25 _ rfl CI.out 0 w.heap.size #[.int .i64 m.rings, .int .i64 m.give, .int .i64 m.pl, .int .i64 m.ph, .int .i64 m.wl, .int .i64 m.wh, .int .i64 m.set, .int .i64 m.shrink, .int .i64 m.skin, .int .i64 m.fill, .int .i64 m.gap, .int .i64 m.deep] 25 rfl rfl _ Try.underlying25 rfl info25 ?_)
      by_cases hnv : neverB (endsL m true) = true
      · have hsv := setsV_never HCK.out hnv
        have hse := sets_any m wr
        rw [hsv] at hse
        refine hse.mono ?_
        rintro e w20 ⟨v, rfl, ho, hb⟩
        obtain ⟨a3, c3, rfl, -⟩ := ho.spans (by simp)
        have CI := Lib.hid (CI.out.call hb)
        clear hb ho hse hsv hnv c00
        go_wp2_with fail
        refine (awake_any _).mono ?_
        rintro e w14 ⟨rfl, hb⟩
        have HBel := Lib.hid (CI.out.call hb).bel
        clear hb CI
        go_wp2
        go_ret
        exact ⟨rfl, HBel.out⟩
      have hnv' : neverB (endsL m true) = false := by simpa using hnv
      have hse := sets_any m wr
      rw [setsV_ok HCK.out hnv'] at hse
      have HIN2 : Hid (∀ i, i < r → within ((truthWhen m yl zl).getD i 0) (((endsL m false).zip (endsL m true)).getD i (0, 0)).1 (((endsL m false).zip (endsL m true)).getD i (0, 0)).2 = true) := fun i hi => by
        have l1 := endsL_lenI HM.out false
        have l2 := endsL_lenI HM.out true
        have hrr := HRR.out
        rw [zip_getD (by omega) (by omega)]
        have n1 := (when_cold HM.out yl zl).2 i (by omega)
        have n2 := (when_hot HM.out yl zl).2 i (by rw [truthWhen_len]; omega)
        have s2 := never_not hnv' (i := i) (by omega)
        rw [← endsL_getD m true (by omega)] at s2
        have n3 := n2.2 s2
        have n4 := n1.2 n3.1
        exact within_iff.2 ⟨n4.2, n3.2⟩
      have HLS2 : Hid (((endsL m false).zip (endsL m true)).length = r) := by
        have l1 := endsL_lenI HM.out false
        have l2 := endsL_lenI HM.out true
        have hrr := HRR.out
        unfold Hid
        rw [List.length_zip]
        omega
      generalize (endsL m false).zip (endsL m true) = sl at *
      have HLW2 : Hid ((truthWhen m yl zl).length = r) := by unfold Hid; rw [truthWhen_len]; have := HRR.out; omega
      have when_use : ∀ (w : World) (v1 v2 : Value), IntsIn .i64 w.heap.size w v1 (truthPl m m.rings.toNat yl) → IntsIn .i64 w.heap.size w v2 (truthWl m 600 zl) → Calls Try.prog 40 #[.agg #[.int .i64 m.rings, .int .i64 m.give, .int .i64 m.pl, .int .i64 m.ph, .int .i64 m.wl, .int .i64 m.wh, .int .i64 m.set, .int .i64 m.shrink, .int .i64 m.skin, .int .i64 m.fill, .int .i64 m.gap, .int .i64 m.deep], .agg #[v1, v2]] w (RetI (truthWhen m yl zl) w) := fun w v1 v2 h1 h2 =>
        when_ref m HM.out.g1 HM.out.g5 v1 v2 _ _ w h1 h2 (by rw [truthPl, mapTo_len]; have := HM.out.r1; omega) (by rw [truthPl, mapTo_len]; have := HM.out.r8; omega) ((truth_fitsP HM.out yl).wide HM.out.p0 HM.out.p2) (by rw [truthWl, mapTo_len]; omega) ((truth_fitsW HM.out zl 600).wide HM.out.w0 HM.out.w2)
      have HTR6 : ∀ w : World, IntsIn .u16 w.heap.size w yv yl → IntsIn .u16 w.heap.size w zv zl → Hid (Calls Try.prog 38 #[.agg #[.int .i64 m.rings, .int .i64 m.give, .int .i64 m.pl, .int .i64 m.ph, .int .i64 m.wl, .int .i64 m.wh, .int .i64 m.set, .int .i64 m.shrink, .int .i64 m.skin, .int .i64 m.fill, .int .i64 m.gap, .int .i64 m.deep], .int .i64 600, .agg #[yv, zv]] w (RetT (truthPl m m.rings.toNat yl) (truthWl m 600 zl) w)) := fun w h1 h2 => truth_any m HM.out 600 (by omega) yv zv yl zl w h1 h2 HYR.out HZR.out
      generalize truthWhen m yl zl = wl at *
      clear hnv hnv'
      refine hse.mono ?_
      rintro e w20 ⟨v, rfl, ho, hb⟩
      have HS2 := Lib.hid (ho.spans (by rw [HLS2.out]; omega))
      have C20 := Lib.hid (CI.out.call hb)
      clear hb ho hse CI c00
      go_wp2_with fail
      refine wp_region_inv1 (by kernel_rfl) (by kernel_rfl) [105, 106, 14] (fun D y w' => WhW w20 (truthPl m m.rings.toNat yl) (truthWl m 600 zl) (wl) (D 3) (D 4) (D 5) (y 105) (y 106) (y 14) w') (WhW.start _) ?FW ?hFW ?_
      case hFW =>
        intro y
        simp only [fill, List.foldl, Act.put, List.setIfInBounds_toArray, List.set]
        exact rfl
      apply obl_det
      case hrun =>
        intro D y wz hW hD R hR
        have HRR := Lib.hid hR
        clear hR
        have HW := Lib.hid hW
        clear hW hD
        refine wpList_load_want rfl 25 _ rfl _ rfl _ _ _ _ ((C20.out.call HW.out.bel).get 0 rfl) Try.underlying25 rfl info25 ?_
        go_simp
        exact HRR.out _ HW.out
      case hnp => rfl
      case hv => first | exact ⟨_, fun _ => rfl⟩ | exact ⟨undef, fun _ => rfl⟩
      apply obl_det
      case hrun =>
        intro D y wz hW hD R hR
        have HRR := Lib.hid hR
        clear hR
        have HW := Lib.hid hW
        clear hW hD
        refine wpList_load_want rfl 25 _ rfl _ rfl _ _ _ _ ((C20.out.call HW.out.bel).get 0 rfl) Try.underlying25 rfl info25 ?_
        go_simp
        exact HRR.out _ HW.out
      case hnp => rfl
      case hv => first | exact ⟨_, fun _ => rfl⟩ | exact ⟨undef, fun _ => rfl⟩
      apply obl_det
      case hrun =>
        intro D y wz hW hD R hR
        have HRR := Lib.hid hR
        clear hR
        have HW := Lib.hid hW
        clear hW hD
        refine wpList_load_want rfl 58 _ rfl _ rfl _ _ _ _ ((C20.out.call HW.out.bel).get 1 rfl) Try.underlying58 rfl info58 ?_
        go_simp
        exact HRR.out _ HW.out
      case hnp => rfl
      case hv => first | exact ⟨_, fun _ => rfl⟩ | exact ⟨undef, fun _ => rfl⟩
      apply obl_priv 105
      case hd => rfl
      case hp => rfl
      case hrun =>
        intro D y wz hW hD R hR
        have HRR := Lib.hid hR
        clear hR
        have HW := Lib.hid hW
        clear hW hD
        go_wp2_with fail
        refine ((HTR6 wz ((HY.out.below (C20.out.call HW.out.bel).bel).mono (C20.out.call HW.out.bel).bel.size) ((HZ.out.below (C20.out.call HW.out.bel).bel).mono (C20.out.call HW.out.bel).bel.size)).out).mono ?_
        rintro e w' ⟨v1, v2, rfl, hi1, hi2, hb⟩
        have HN := Lib.hid ((HW.out.next hb).put3 hi1 hi2)
        clear hb hi1 hi2
        go_wp2_with fail
        refine HRR.out _ _ ?_
        show WhW w20 (truthPl m m.rings.toNat yl) (truthWl m 600 zl) (wl) true (D 4) (D 5) _ (y 106) (y 14) _
        exact HN.out
      apply obl_priv 106
      case hd => rfl
      case hp => rfl
      case hrun =>
        intro D y wz hW hD R hR
        have HRR := Lib.hid hR
        clear hR
        have h5 : D 5 = false := hD.post _ 5 rfl (by kernel_rfl)
        have h3 : D 3 = true := hD.pre _ 3 rfl (by kernel_rfl)
        obtain ⟨v1, v2, e3, hv1, hv2⟩ := hW.t h3
        have HW := Lib.hid hW
        have H5 := Lib.hid h5
        have hwh := when_use wz v1 v2 hv1 hv2
        rw [← e3] at hwh
        have HWH := Lib.hid hwh
        clear hW hD h3 h5 hv1 hv2 hwh e3
        go_wp2_with fail
        refine HWH.out.mono ?_
        rintro e w' ⟨v, rfl, hi1, hb⟩
        have HN := Lib.hid ((HW.out.next hb).put4 H5.out hi1)
        clear hb hi1
        go_wp2_with fail
        refine HRR.out _ _ ?_
        show WhW w20 (truthPl m m.rings.toNat yl) (truthWl m 600 zl) (wl) (D 3) true (D 5) (y 105) _ (y 14) _
        exact HN.out
      apply obl_priv 14
      case hd => rfl
      case hp => rfl
      case hrun =>
        intro D y wz hW hD R hR
        have HRR := Lib.hid hR
        clear hR
        have HW := Lib.hid hW
        clear hW hD
        go_wp2
        refine HRR.out _ _ ?_
        show WhW w20 (truthPl m m.rings.toNat yl) (truthWl m 600 zl) (wl) (D 3) (D 4) true (y 105) (y 106) (y 106) _
        exact HW.out.put5
      apply obl_nil
      intro D y w8 hall hW
      have hn := hW.n (hall 4 (by decide))
      have ha := hW.a (hall 5 (by decide))
      have hbl := hW.bel
      clear hW hall
      rw [← ha] at hn
      clear ha
      have HI2 := Lib.hid hn
      have HS2 := Lib.hid (HS2.out.next hbl)
      have C21 := Lib.hid (C20.out.call hbl)
      clear hn hbl C20
      generalize y 14 = vw at *
      generalize y 105 = g1 at *
      generalize y 106 = g2 at *
      obtain ⟨iav, icv, ev, -⟩ := HI2.out
      rw [HLW2.out] at ev
      subst ev
      obtain ⟨sav, scv, ev, -⟩ := HS2.out
      rw [HLS2.out] at ev
      subst ev
      have hq : ((r : Int) != (r : Int)) = false := by simp
      have c00 : w8.cell? ⟨w.heap.size, 0, none⟩ = some (.int .i64 r) := by
        rw [C21.out.cell 0 rfl, ← HRR.out]
        rfl
      go_wp2_with fail
      clear c00 hq
      go_loopw [15] (fun iv wr => ∃ i : Nat, iv = .int .i64 i ∧ i ≤ r ∧ Below w8.heap.size w8 wr) (fun iv _ => r - (intOf iv).toNat)
      case atStart => exact ⟨0, rfl, by omega, Below.refl _ _⟩
      case round =>
        obtain ⟨i, rfl, hi, hb⟩ := hrel
        have CB := Lib.hid hb
        have CI := Lib.hid (C21.out.call hb)
        have c00 : wr.cell? ⟨w.heap.size, 0, none⟩ = some (.int .i64 r) := by
          rw [CI.out.cell 0 rfl, ← HRR.out]
          rfl
        clear hb
        by_cases hir : i < r
        · have hii : (i : Int) < (r : Int) := by omega
          obtain ⟨_, _, hva, -, hcc⟩ := HI2.out
          simp only [Value.slice.injEq] at hva
          obtain ⟨rfl, -, rfl⟩ := hva
          obtain ⟨b2, o2, rfl, hbb2, hcell2⟩ := hcc.resolve_left (by intro h; have := HLW2.out; rw [h] at this; simp at this; omega)
          obtain ⟨_, _, hvb, -, -, hcs⟩ := HS2.out
          simp only [Value.slice.injEq] at hvb
          obtain ⟨rfl, -, rfl⟩ := hvb
          obtain ⟨b3, o3, rfl, hbb3, hcell3⟩ := hcs.resolve_left (by intro h; have := HLS2.out; rw [h] at this; simp at this; omega)
          have K2 := Lib.hid (hcell2 i (by rw [HLW2.out]; exact hir))
          have K3 := Lib.hid (hcell3 i (by rw [HLS2.out]; exact hir))
          have HIN := Lib.hid (HIN2.out i hir)
          clear hcell2 hcc hcell3 hcs
          generalize wl.getD i 0 = x at *
          generalize ((sl).getD i (0, 0)).1 = s1 at *
          generalize ((sl).getD i (0, 0)).2 = s2 at *
          go_wp2_with fail
          refine wp_region_inv0 (by kernel_rfl) (by kernel_rfl) (fun _ w' => Below w8.heap.size w8 w') CB.out.drew ?_
          iterate 3
            (apply obl_det
             case hrun =>
               intro D y wz hW hD R hR
               have HRR := Lib.hid hR
               clear hR
               have HW := Lib.hid hW
               clear hW hD
               go_wp2
               exact HRR.out _ HW.out
             case hnp => rfl
             case hv => first | exact ⟨_, fun _ => rfl⟩ | exact ⟨undef, fun _ => rfl⟩)
          apply obl_det
          case hrun =>
            intro D y wz hW hD R hR
            have HRR := Lib.hid hR
            clear hR
            have HW := Lib.hid hW
            have k2 := (hW.cell (p := ⟨b2, o2 + i, none⟩) hbb2).trans K2.out
            clear hW hD
            go_wp2
            exact HRR.out _ HW.out
          case hnp => rfl
          case hv => first | exact ⟨_, fun _ => rfl⟩ | exact ⟨undef, fun _ => rfl⟩
          iterate 3
            (apply obl_det
             case hrun =>
               intro D y wz hW hD R hR
               have HRR := Lib.hid hR
               clear hR
               have HW := Lib.hid hW
               clear hW hD
               go_wp2
               exact HRR.out _ HW.out
             case hnp => rfl
             case hv => first | exact ⟨_, fun _ => rfl⟩ | exact ⟨undef, fun _ => rfl⟩)
          apply obl_det
          case hrun =>
            intro D y wz hW hD R hR
            have HRR := Lib.hid hR
            clear hR
            have HW := Lib.hid hW
            have k3 := (hW.cell (p := ⟨b3, o3 + i * 2, none⟩) hbb3).trans K3.out.1
            have k4 := (hW.cell (p := ⟨b3, o3 + i * 2 + 1, none⟩) hbb3).trans K3.out.2
            clear hW hD
            go_wp2
            exact HRR.out _ HW.out
          case hnp => rfl
          case hv => first | exact ⟨_, fun _ => rfl⟩ | exact ⟨undef, fun _ => rfl⟩
          apply obl_det
          case hrun =>
            intro D y wz hW hD R hR
            have HRR := Lib.hid hR
            clear hR
            have HW := Lib.hid hW
            clear hW hD
            go_wp2_with fail
            refine (inside_r true x s1 s2 HIN.out _).mono ?_
            rintro e w' ⟨rfl, hb⟩
            have HW2 := Lib.hid (HW.out.trans (hb.mono HW.out.size))
            clear hb
            go_wp2_with fail
            exact HRR.out _ HW2.out
          case hnp => rfl
          case hv => first | exact ⟨_, fun _ => rfl⟩ | exact ⟨undef, fun _ => rfl⟩
          apply obl_det
          case hrun =>
            intro D y wz hW hD R hR
            have HRR := Lib.hid hR
            clear hR
            have HW := Lib.hid hW
            clear hW hD
            go_wp2
            exact HRR.out _ HW.out
          case hnp => rfl
          case hv => first | exact ⟨_, fun _ => rfl⟩ | exact ⟨undef, fun _ => rfl⟩
          apply obl_nil
          intro D y w8 hall hW
          clear hall
          have HW8 := Lib.hid hW
          clear hW c00 CI CB
          go_wp2_with fail
          refine ⟨⟨i + 1, by push_cast; rfl, by omega, HW8.out⟩, ?_⟩
          simp [intOf]
          omega
        · obtain rfl : r = i := by omega
          clear C21
          go_wp2_with fail
          refine (awake_any _).mono ?_
          rintro e w14 ⟨rfl, hb⟩
          have HBel := Lib.hid (CI.out.call hb).bel
          clear hb CI
          go_wp2
          go_ret
          exact ⟨rfl, HBel.out⟩
end Go.Proofs.Ytafdagjdpnaddaa
