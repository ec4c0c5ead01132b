/- stearinref05.ends, Sets, Skin. -/
import Derived.Test.YtafdagjdpnaddaaW34
namespace Go.Proofs.Ytafdagjdpnaddaa
open Go.RowKit
theorem two_int (x y : Int) : ∀ u ∈ [Value.int .i64 x, Value.int .i64 y], u.oneCell' = true := fun u hu => by
  simp at hu
  rcases hu with rfl | rfl <;> rfl
theorem info23x : ∃ i, Try.prog.info? 23 = some i ∧ i.zero = some (.agg #[.int .i64 0, .int .i64 0]) ∧ i.size = 2 ∧ i.bytes = 16 := by
  obtain ⟨i, h1, h2⟩ := Option.map_eq_some_iff.1 (show (Try.prog.info? 23).map (fun i => (i.zero, i.size, i.bytes)) = some (some (.agg #[.int .i64 0, .int .i64 0]), 2, 16) by kernel_rfl)
  simp only [Prod.mk.injEq] at h2
  exact ⟨i, h1, h2⟩
def RetEnds (m : Mou) (w : World) (e : Ending) (w' : World) : Prop := ∃ v1 v2, e = .returned (.tuple #[v1, v2]) ∧ IntsIn .i64 w'.heap.size w' v1 (endsL m false) ∧ IntsIn .i64 w'.heap.size w' v2 (endsL m true) ∧ Below w.heap.size w w'
set_option maxRecDepth 100000 in
set_option maxHeartbeats 16000000 in
theorem ends_ref (m : Mou) (hm : Valid m) (w : World) : Calls Try.prog 62 #[.agg #[.int .i64 m.rings, .int .i64 m.give, .int .i64 m.pl, .int .i64 m.ph, .int .i64 m.wl, .int .i64 m.wh, .int .i64 m.set, .int .i64 m.shrink, .int .i64 m.skin, .int .i64 m.fill, .int .i64 m.gap, .int .i64 m.deep]] w (RetEnds m w) := by
  have C0 := Lib.hid ((Bs.nil w).push _ rfl (.cells #[.int .i64 m.rings, .int .i64 m.give, .int .i64 m.pl, .int .i64 m.ph, .int .i64 m.wl, .int .i64 m.wh, .int .i64 m.set, .int .i64 m.shrink, .int .i64 m.skin, .int .i64 m.fill, .int .i64 m.gap, .int .i64 m.deep] 25))
  have HM := Lib.hid hm
  clear hm
  go_enter Try.func62, Try.ntmps62
  go_wp2_with fail
  generalize w.alloc (.cells #[.int .i64 m.rings, .int .i64 m.give, .int .i64 m.pl, .int .i64 m.ph, .int .i64 m.wl, .int .i64 m.wh, .int .i64 m.set, .int .i64 m.shrink, .int .i64 m.skin, .int .i64 m.fill, .int .i64 m.gap, .int .i64 m.deep] 25) = w1 at *
  refine wp_region_inv1 (by kernel_rfl) (by kernel_rfl) [6, 7, 10, 11, 2, 3] (fun D y w' => EnW w1 m (D 2) (D 3) (D 6) (D 7) (D 8) (D 9) (y 6) (y 7) (y 10) (y 11) (y 2) (y 3) w') (EnW.start _) ?FB ?hFB ?_
  case hFB =>
    intro y
    simp only [fill, List.foldl, Act.put, List.setIfInBounds_toArray, List.set]
    exact rfl
  apply obl_det
  case hrun =>
    intro D y wz hW hD R hR
    have HRR := Lib.hid hR
    clear hR
    have HW := Lib.hid hW
    clear hW hD
    refine wpList_load_want rfl 25 _ rfl _ rfl _ _ _ _ ((C0.out.call HW.out.bel).get 0 rfl) Try.underlying25 rfl info25 ?_
    go_simp
    exact HRR.out _ HW.out
  case hnp => rfl
  case hv => first | exact ⟨_, fun _ => rfl⟩ | exact ⟨undef, fun _ => rfl⟩
  apply obl_det
  case hrun =>
    intro D y wz hW hD R hR
    have HRR := Lib.hid hR
    clear hR
    have HW := Lib.hid hW
    clear hW hD
    refine wpList_load_want rfl 25 _ rfl _ rfl _ _ _ _ ((C0.out.call HW.out.bel).get 0 rfl) Try.underlying25 rfl info25 ?_
    go_simp
    exact HRR.out _ HW.out
  case hnp => rfl
  case hv => first | exact ⟨_, fun _ => rfl⟩ | exact ⟨undef, fun _ => rfl⟩
  apply obl_priv 6
  case hd => rfl
  case hp => rfl
  case hrun =>
    intro D y wz hW hD R hR
    have HRR := Lib.hid hR
    clear hR
    have HW := Lib.hid hW
    clear hW hD
    go_wp2_with fail
    refine (same_ref m HM.out false 600 (by omega) wz).mono ?_
    rintro e w' ⟨v1, v2, rfl, hi1, hi2, hb⟩
    have HN := Lib.hid ((HW.out.next hb).put1 hi1 hi2)
    clear hb hi1 hi2
    go_wp2_with fail
    refine HRR.out _ _ ?_
    show EnW w1 m true (D 3) (D 6) (D 7) (D 8) (D 9) _ (y 7) (y 10) (y 11) (y 2) (y 3) _
    exact HN.out
  apply obl_priv 7
  case hd => rfl
  case hp => rfl
  case hrun =>
    intro D y wz hW hD R hR
    have HRR := Lib.hid hR
    clear hR
    have h5 : D 8 = false := hD.post _ 8 rfl (by kernel_rfl)
    have h3 : D 2 = true := hD.pre _ 2 rfl (by kernel_rfl)
    obtain ⟨v1, v2, e3, hv1, hv2⟩ := hW.s1 h3
    have HW := Lib.hid hW
    have H5 := Lib.hid h5
    have hwh := when_side HM.out false wz v1 v2 hv1 hv2
    rw [← e3] at hwh
    have HWH := Lib.hid hwh
    clear hW hD h3 h5 hv1 hv2 hwh e3
    go_wp2_with fail
    refine HWH.out.mono ?_
    rintro e w' ⟨v, rfl, hi1, hb⟩
    have HN := Lib.hid ((HW.out.next hb).put2 H5.out hi1)
    clear hb hi1
    go_wp2_with fail
    refine HRR.out _ _ ?_
    show EnW w1 m (D 2) true (D 6) (D 7) (D 8) (D 9) (y 6) _ (y 10) (y 11) (y 2) (y 3) _
    exact HN.out
  apply obl_det
  case hrun =>
    intro D y wz hW hD R hR
    have HRR := Lib.hid hR
    clear hR
    have HW := Lib.hid hW
    clear hW hD
    refine wpList_load_want rfl 25 _ rfl _ rfl _ _ _ _ ((C0.out.call HW.out.bel).get 0 rfl) Try.underlying25 rfl info25 ?_
    go_simp
    exact HRR.out _ HW.out
  case hnp => rfl
  case hv => first | exact ⟨_, fun _ => rfl⟩ | exact ⟨undef, fun _ => rfl⟩
  apply obl_det
  case hrun =>
    intro D y wz hW hD R hR
    have HRR := Lib.hid hR
    clear hR
    have HW := Lib.hid hW
    clear hW hD
    refine wpList_load_want rfl 25 _ rfl _ rfl _ _ _ _ ((C0.out.call HW.out.bel).get 0 rfl) Try.underlying25 rfl info25 ?_
    go_simp
    exact HRR.out _ HW.out
  case hnp => rfl
  case hv => first | exact ⟨_, fun _ => rfl⟩ | exact ⟨undef, fun _ => rfl⟩
  apply obl_priv 10
  case hd => rfl
  case hp => rfl
  case hrun =>
    intro D y wz hW hD R hR
    have HRR := Lib.hid hR
    clear hR
    have HW := Lib.hid hW
    clear hW hD
    go_wp2_with fail
    refine (same_ref m HM.out true 600 (by omega) wz).mono ?_
    rintro e w' ⟨v1, v2, rfl, hi1, hi2, hb⟩
    have HN := Lib.hid ((HW.out.next hb).put3 hi1 hi2)
    clear hb hi1 hi2
    go_wp2_with fail
    refine HRR.out _ _ ?_
    show EnW w1 m (D 2) (D 3) true (D 7) (D 8) (D 9) (y 6) (y 7) _ (y 11) (y 2) (y 3) _
    exact HN.out
  apply obl_priv 11
  case hd => rfl
  case hp => rfl
  case hrun =>
    intro D y wz hW hD R hR
    have HRR := Lib.hid hR
    clear hR
    have h5 : D 9 = false := hD.post _ 9 rfl (by kernel_rfl)
    have h3 : D 6 = true := hD.pre _ 6 rfl (by kernel_rfl)
    obtain ⟨v1, v2, e3, hv1, hv2⟩ := hW.s2 h3
    have HW := Lib.hid hW
    have H5 := Lib.hid h5
    have hwh := when_side HM.out true wz v1 v2 hv1 hv2
    rw [← e3] at hwh
    have HWH := Lib.hid hwh
    clear hW hD h3 h5 hv1 hv2 hwh e3
    go_wp2_with fail
    refine HWH.out.mono ?_
    rintro e w' ⟨v, rfl, hi1, hb⟩
    have HN := Lib.hid ((HW.out.next hb).put4 H5.out hi1)
    clear hb hi1
    go_wp2_with fail
    refine HRR.out _ _ ?_
    show EnW w1 m (D 2) (D 3) (D 6) true (D 8) (D 9) (y 6) (y 7) (y 10) _ (y 2) (y 3) _
    exact HN.out
  apply obl_priv 2
  case hd => rfl
  case hp => rfl
  case hrun =>
    intro D y wz hW hD R hR
    have HRR := Lib.hid hR
    clear hR
    have HW := Lib.hid hW
    clear hW hD
    go_wp2
    refine HRR.out _ _ ?_
    show EnW w1 m (D 2) (D 3) (D 6) (D 7) true (D 9) (y 6) (y 7) (y 10) (y 11) (y 7) (y 3) _
    exact HW.out.put5
  apply obl_priv 3
  case hd => rfl
  case hp => rfl
  case hrun =>
    intro D y wz hW hD R hR
    have HRR := Lib.hid hR
    clear hR
    have HW := Lib.hid hW
    clear hW hD
    go_wp2
    refine HRR.out _ _ ?_
    show EnW w1 m (D 2) (D 3) (D 6) (D 7) (D 8) true (y 6) (y 7) (y 10) (y 11) (y 2) (y 11) _
    exact HW.out.put6
  apply obl_nil
  intro D y w8 hall hW
  have hn1 := hW.n1 (hall 3 (by decide))
  have ha1 := hW.a1 (hall 8 (by decide))
  have hn2 := hW.n2 (hall 7 (by decide))
  have ha2 := hW.a2 (hall 9 (by decide))
  have hbl := hW.bel
  clear hW hall
  rw [← ha1] at hn1
  rw [← ha2] at hn2
  clear ha1 ha2

  have HN1 := Lib.hid hn1
  have HN2 := Lib.hid hn2
  have HBL := Lib.hid (C0.out.call hbl).bel
  clear hn1 hn2 hbl C0
  go_wp2_with fail
  refine bodyPost_ret (v := .tuple #[y 2, y 3]) ?_ rfl ⟨_, _, rfl, HN1.out, HN2.out, HBL.out⟩
  rw [results_tmp2 (fn := Try.f62) rfl]
  go_simp
set_option maxRecDepth 100000 in
set_option maxHeartbeats 16000000 in
theorem sets_ref (m : Mou) (w : World) : Calls Try.prog 28 #[.agg #[.int .i64 m.rings, .int .i64 m.give, .int .i64 m.pl, .int .i64 m.ph, .int .i64 m.wl, .int .i64 m.wh, .int .i64 m.set, .int .i64 m.shrink, .int .i64 m.skin, .int .i64 m.fill, .int .i64 m.gap, .int .i64 m.deep]] w (RetSpE (setsV m).1 (setsV m).2 w) := by
  have C0 := Lib.hid ((Bs.nil w).push _ rfl (.cells #[.int .i64 m.rings, .int .i64 m.give, .int .i64 m.pl, .int .i64 m.ph, .int .i64 m.wl, .int .i64 m.wh, .int .i64 m.set, .int .i64 m.shrink, .int .i64 m.skin, .int .i64 m.fill, .int .i64 m.gap, .int .i64 m.deep] 25))
  have HC : ∀ w, Hid (Calls Try.prog 19 #[.agg #[.int .i64 m.rings, .int .i64 m.give, .int .i64 m.pl, .int .i64 m.ph, .int .i64 m.wl, .int .i64 m.wh, .int .i64 m.set, .int .i64 m.shrink, .int .i64 m.skin, .int .i64 m.fill, .int .i64 m.gap, .int .i64 m.deep]] w fun e w' => e = .returned (.int .i64 (checkE m)) ∧ Below w.heap.size w w') := checkR_any m
  by_cases hc : checkE m = 0
  rotate_left
  · rw [setsV_bad hc]
    have hz : (checkE m != 0) = true := by simpa using hc
    clear hc
    generalize checkE m = E at *
    go_enter Try.func28, Try.ntmps28
    go_wp2_with (refine wpList_load_bs rfl 25 _ rfl C0.out 0 w.heap.size #[.int .i64 m.rings, .int .i64 m.give, .int .i64 m.pl, .int .i64 m.ph, .int .i64 m.wl, .int .i64 m.wh, .int .i64 m.set, .int .i64 m.shrink, .int .i64 m.skin, .int .i64 m.fill, .int .i64 m.gap, .int .i64 m.deep] 25 rfl rfl _ Try.underlying25 rfl info25 ?_)
    refine (HC _).out.mono ?_
    rintro e w1 ⟨rfl, hb⟩
    have HBL := Lib.hid (C0.out.call hb).bel
    clear hb C0
    go_wp2_with fail
    refine bodyPost_ret (v := .tuple #[.slice none 0 0, .int .i64 E]) ?_ rfl ⟨_, rfl, OwnSpans.nil _ _, HBL.out⟩
    rw [results_tmp2 (fn := Try.f28) rfl]
    go_simp
  have hm := valid_of_check hc
  have HM := Lib.hid hm
  have HCK := Lib.hid hc
  rw [hc] at HC
  have HE : ∀ w, Hid (Calls Try.prog 62 #[.agg #[.int .i64 m.rings, .int .i64 m.give, .int .i64 m.pl, .int .i64 m.ph, .int .i64 m.wl, .int .i64 m.wh, .int .i64 m.set, .int .i64 m.shrink, .int .i64 m.skin, .int .i64 m.fill, .int .i64 m.gap, .int .i64 m.deep]] w (RetEnds m w)) := ends_ref m hm
  obtain ⟨r, hr⟩ : ∃ r : Nat, m.rings = r := ⟨m.rings.toNat, by have := hm.r1; omega⟩
  have HRG := Lib.hid hr
  have hr1 : 1 ≤ r := by have := hm.r1; omega
  have hr8 : r ≤ 8 := by have := hm.r8; omega
  have HLF : Hid ((endsL m false).length = r) := by have := endsL_lenI hm false; unfold Hid; omega
  have HLH : Hid ((endsL m true).length = r) := by have := endsL_lenI hm true; unfold Hid; omega
  have HLZ : Hid (((endsL m false).zip (endsL m true)).length = r) := by unfold Hid; rw [List.length_zip, HLF.out, HLH.out]; simp
  clear hc hm hr
  go_enter Try.func28, Try.ntmps28
  go_wp2_with (refine wpList_load_bs rfl 25 _ rfl C0.out 0 w.heap.size #[.int .i64 m.rings, .int .i64 m.give, .int .i64 m.pl, .int .i64 m.ph, .int .i64 m.wl, .int .i64 m.wh, .int .i64 m.set, .int .i64 m.shrink, .int .i64 m.skin, .int .i64 m.fill, .int .i64 m.gap, .int .i64 m.deep] 25 rfl rfl _ Try.underlying25 rfl info25 ?_)
  refine (HC _).out.mono ?_
  rintro e w1 ⟨rfl, hb⟩
  have C1 := Lib.hid (C0.out.call hb)
  clear hb C0
  go_wp2_with (refine wpList_load_bs rfl 25 _ rfl C1.out 0 w.heap.size #[.int .i64 m.rings, .int .i64 m.give, .int .i64 m.pl, .int .i64 m.ph, .int .i64 m.wl, .int .i64 m.wh, .int .i64 m.set, .int .i64 m.shrink, .int .i64 m.skin, .int .i64 m.fill, .int .i64 m.gap, .int .i64 m.deep] 25 rfl rfl _ Try.underlying25 rfl info25 ?_)
  refine (HE _).out.mono ?_
  rintro e w2 ⟨v1, v2, rfl, hn1, hn2, hb⟩
  have HF := Lib.hid hn1
  have HH := Lib.hid hn2
  have C2 := Lib.hid (C1.out.call hb)
  clear hb C1 hn1 hn2
  obtain ⟨a14, c14, ev, -, hrf⟩ := HF.out
  rw [HLF.out] at ev
  subst ev
  obtain ⟨a15, c15, ev, -, hrh⟩ := HH.out
  rw [HLH.out] at ev
  subst ev
  obtain ⟨bf, of', rfl, hbf, hcf⟩ := hrf.resolve_left (by intro h; have := HLF.out; rw [h] at this; simp at this; omega)
  obtain ⟨bh, oh, rfl, hbh, hch⟩ := hrh.resolve_left (by intro h; have := HLH.out; rw [h] at this; simp at this; omega)
  have KF := Lib.hid hcf
  have KH := Lib.hid hch
  clear hrf hrh hcf hch HF HH
  go_wp2_with fail
  go_loopw [7, 8] (fun ov iv wr => ∃ (i : Nat) (a : Option Addr) (c : Nat), ov = .slice a i c ∧ iv = .int .i64 i ∧ i ≤ r ∧ (∀ j, j < i → 0 ≤ (endsL m true).getD j 0) ∧ wr.ownsRow w2.heap.size 23 2 (.slice a i c) i (spCells (((endsL m false).zip (endsL m true)).take i)) ∧ Below w2.heap.size w2 wr) (fun _ iv _ => r - (intOf iv).toNat)
  case atStart => exact ⟨0, none, 0, rfl, rfl, by omega, fun j hj => by omega, World.ownsRow_nil _ _ 23 2, Below.refl _ _⟩
  case round =>
    obtain ⟨i, a, c, rfl, rfl, hi, hall, hO, hb⟩ := hrel
    have OK := Lib.hid hO
    have CB := Lib.hid hb
    have CI := Lib.hid (C2.out.call hb)
    have HALL := Lib.hid hall
    have c00 : wr.cell? ⟨w.heap.size, 0, none⟩ = some (.int .i64 r) := by
      rw [CI.out.cell 0 rfl, ← HRG.out]
      rfl
    have hwr : w2.heap.size ≤ wr.heap.size := hb.size
    clear hO hb hall
    by_cases hir : i < r
    · have hii : (i : Int) < (r : Int) := by omega
      have kf : wr.cell? ⟨bf, of' + i, none⟩ = some (.int .i64 ((endsL m false).getD i 0)) := (CB.out.cell (p := ⟨bf, of' + i, none⟩) hbf).trans (KF.out i (by rw [HLF.out]; exact hir))
      have kh : wr.cell? ⟨bh, oh + i, none⟩ = some (.int .i64 ((endsL m true).getD i 0)) := (CB.out.cell (p := ⟨bh, oh + i, none⟩) hbh).trans (KH.out i (by rw [HLH.out]; exact hir))
      have HTK : Hid (((endsL m false).zip (endsL m true)).take (i + 1) = ((endsL m false).zip (endsL m true)).take i ++ [((endsL m false).getD i 0, (endsL m true).getD i 0)]) := by
        unfold Hid
        rw [List.take_succ_eq_append_getElem (by rw [HLZ.out]; exact hir)]
        have h := zip_getD (a := endsL m false) (b := endsL m true) (i := i) (by rw [HLF.out]; exact hir) (by rw [HLH.out]; exact hir)
        rw [← h]
        simp [List.getD, HLZ.out, hir]
      have HX : Hid (∃ x, (endsL m true).getD i 0 = x) := ⟨_, rfl⟩
      by_cases hx : (endsL m true).getD i 0 < 0
      · have hnv : neverB (endsL m true) = true := by
          unfold neverB
          rw [List.any_eq_true]
          refine ⟨(endsL m true).getD i 0, getD_mem (by rw [HLH.out]; exact hir), by simpa using hx⟩
        have HV := Lib.hid (setsV_never HCK.out hnv)
        have hx' : decide ((endsL m true).getD i 0 < 0) = true := decide_eq_true hx
        clear hnv hx HX HTK HALL
        generalize (endsL m true).getD i 0 = xh at *
        go_wp2_with fail
        refine bodyPost_ret (v := .tuple #[.slice none 0 0, .int .i64 9]) ?_ rfl ⟨_, by rw [HV.out], by rw [HV.out]; exact OwnSpans.nil _ _, CI.out.bel⟩
        rw [results_tmp2 (fn := Try.f28) rfl]
        go_simp
      have hx' : decide ((endsL m true).getD i 0 < 0) = false := decide_eq_false hx
      have HALL2 : Hid (∀ j, j < i + 1 → 0 ≤ (endsL m true).getD j 0) := fun j hj => by
        by_cases hji : j < i
        · exact HALL.out j hji
        · obtain rfl : j = i := by omega
          omega
      clear hx HX HALL
      generalize (endsL m true).getD i 0 = xh at *
      generalize (endsL m false).getD i 0 = xf at *
      go_wp2_with fail
      clear c00 hx'
      refine wp_region_inv1 (by kernel_rfl) (by kernel_rfl) [41, 7] (fun D y w' => AppW wr (w2.heap.size) 23 2 (.slice a i c) (i) (spCells (((endsL m false).zip (endsL m true)).take i)) [.int .i64 xf, .int .i64 xh] (D 10) (D 11) (D 12) (y 7) (y 41) w') ?_ ?F1 ?hF1 ?_
      · exact AppW.start OK.out hwr
      case hF1 =>
        intro y
        simp only [fill, List.foldl, Act.put, List.setIfInBounds_toArray, List.set]
        exact rfl
      apply obl_det
      case hrun =>
        intro D y wz hW hD R hR
        have HRR := Lib.hid hR
        clear hR
        have h15 : D 12 = false := hD.post _ 12 rfl (by kernel_rfl)
        refine wpList_mv rfl _ rfl (.slice a i c) (hW.old h15) ?_
        have HW := Lib.hid hW
        clear hW hD
        go_wp2
        exact HRR.out _ HW.out
      case hnp => rfl
      case hv => first | exact ⟨_, fun _ => rfl⟩ | exact ⟨undef, fun _ => rfl⟩
      iterate 9
        (apply obl_det
         case hrun =>
           intro D y wz hW hD R hR
           have HRR := Lib.hid hR
           clear hR
           have HW := Lib.hid hW
           have hc2 := (cellB hW.bel).1
           clear hW hD
           go_wp2
           exact HRR.out _ HW.out
         case hnp => rfl
         case hv => first | exact ⟨_, fun _ => rfl⟩ | exact ⟨undef, fun _ => rfl⟩)
      apply obl_det
      case hrun =>
        intro D y wz hW hD R hR
        have HRR := Lib.hid hR
        clear hR
        have h13 : D 10 = false := hD.not
        have h14 : D 11 = false := hD.post _ 11 rfl (by kernel_rfl)
        rw [h13, h14] at hW
        obtain ⟨hsz, hW2⟩ := hW.laid
        have HS := Lib.hid hsz
        have HW := Lib.hid hW2
        have H14 := Lib.hid h14
        clear hW hW2 hD hsz h13 h14
        go_wp2
        rw [HS.out]
        refine HRR.out _ ?_
        show AppW wr (w2.heap.size) 23 2 (.slice a i c) (i) (spCells (((endsL m false).zip (endsL m true)).take i)) [.int .i64 xf, .int .i64 xh] true (D 11) (D 12) (y 7) (y 41) _
        rw [H14.out]
        exact HW.out
      case hnp => rfl
      case hv => first | exact ⟨_, fun _ => rfl⟩ | exact ⟨undef, fun _ => rfl⟩
      apply obl_priv 41
      case hd => rfl
      case hp => rfl
      case hrun =>
        intro D y wz hW hD R hR
        have HRR := Lib.hid hR
        clear hR
        have h14 : D 11 = false := hD.not
        have h13 : D 10 = true := hD.pre _ 10 rfl (by kernel_rfl)
        have h15 : D 12 = false := hD.post _ 12 rfl (by kernel_rfl)
        rw [h13, h14] at hW
        have HW := Lib.hid hW
        obtain ⟨ho, -, hb⟩ := hW.row rfl
        have hbase := hW.hb
        have hsz := hW.bel.size
        clear hW hD
        obtain ⟨i0, hi0, hz0, hz1, hz2⟩ := info23x
        refine wpList_append_own _ rfl _ _ 34 rfl (w2.heap.size) 23 i0 (.agg #[.int .i64 0, .int .i64 0]) 2 16 Try.underlying34 hi0 hz0 hz1 hz2 rfl (by decide) _ _ _ rfl ho ⟨wr.heap.size, 0, none⟩ 1 1 [.int .i64 xf, .int .i64 xh] rfl rfl (cell_news _ _ _ _ (hb rfl)) (two_int _ _) (by unfold maxLen; omega) (by omega) (by omega) ?_
        intro v' w12 hown12 hgrow12 _
        have HW2 := Lib.hid (HW.out.got h15 hown12 hgrow12)
        go_wp2
        refine HRR.out v' _ ?_
        show AppW wr (w2.heap.size) 23 2 (.slice a i c) (i) (spCells (((endsL m false).zip (endsL m true)).take i)) [.int .i64 xf, .int .i64 xh] (D 10) true (D 12) (y 7) v' _
        rw [h13]
        exact HW2.out
      apply obl_priv 7
      case hd => rfl
      case hp => rfl
      case hrun =>
        intro D y wz hW hD R hR
        have HRR := Lib.hid hR
        clear hR
        have h14 : D 11 = true := hD.pre _ 11 rfl (by kernel_rfl)
        have HW := Lib.hid hW
        have H14 := Lib.hid h14
        clear hW hD h14
        go_wp2
        refine HRR.out _ _ ?_
        show AppW wr (w2.heap.size) 23 2 (.slice a i c) (i) (spCells (((endsL m false).zip (endsL m true)).take i)) [.int .i64 xf, .int .i64 xh] (D 10) (D 11) true (y 41) (y 41) _
        have h := HW.out
        rw [H14.out] at h ⊢
        exact h.assigned
      apply obl_nil
      intro D y w8 hall hW
      have h14 := hall 11 (by decide)
      have h15 := hall 12 (by decide)
      rw [h14, h15] at hW
      have hy := hW.put rfl
      have HO8 := Lib.hid (hW.new rfl)
      have C8 := Lib.hid hW.bel
      clear hW hall h14 h15
      rw [hy]
      clear hy
      generalize y 41 = yv at HO8 ⊢

      clear OK
      obtain ⟨a9, c9, rfl⟩ := ownsRow_slice1 HO8.out
      go_wp2_with fail
      refine ⟨⟨i + 1, a9, c9, rfl, by push_cast; rfl, by omega, HALL2.out, ?_, CB.out.trans C8.out⟩, ?_⟩
      · rw [HTK.out, spCells_snoc]
        exact HO8.out
      · simp [intOf]
        omega
    · obtain rfl : r = i := by omega
      have hnv : neverB (endsL m true) = false := by
        unfold neverB
        rw [List.any_eq_false]
        intro x hx
        obtain ⟨j, hj, rfl⟩ := List.mem_iff_getElem.1 hx
        have h := HALL.out j (by rw [← HLH.out]; exact hj)
        simp only [List.getD_eq_getElem?_getD, List.getElem?_eq_getElem hj, Option.getD_some] at h
        simp
        omega
      have HV := Lib.hid (setsV_ok HCK.out hnv)
      have HO : Hid (OwnSpans w.heap.size wr (.slice a r c) ((endsL m false).zip (endsL m true))) := by
        have h := OK.out
        rw [List.take_of_length_le (by rw [HLZ.out]; exact Nat.le_refl _)] at h
        refine OwnSpans.mono (base := w2.heap.size) ?_ C2.out.bel.size
        unfold OwnSpans
        rw [HLZ.out]
        exact h
      clear hnv HALL OK
      go_wp2_with fail
      refine bodyPost_ret (v := .tuple #[.slice a r c, .int .i64 0]) ?_ rfl ⟨_, by rw [HV.out], by rw [HV.out]; exact HO.out, CI.out.bel⟩
      rw [results_tmp2 (fn := Try.f28) rfl]
      go_simp
set_option maxRecDepth 100000 in
set_option maxHeartbeats 16000000 in
theorem skin_ref (m : Mou) (n : Int) (w : World) : Calls Try.prog 30 #[.agg #[.int .i64 m.rings, .int .i64 m.give, .int .i64 m.pl, .int .i64 m.ph, .int .i64 m.wl, .int .i64 m.wh, .int .i64 m.set, .int .i64 m.shrink, .int .i64 m.skin, .int .i64 m.fill, .int .i64 m.gap, .int .i64 m.deep], .int .i64 n] w (RetSkin (skinV m n) w) := by
  have C0 : Hid (Bs w [(w.heap.size, .cells #[.int .i64 m.rings, .int .i64 m.give, .int .i64 m.pl, .int .i64 m.ph, .int .i64 m.wl, .int .i64 m.wh, .int .i64 m.set, .int .i64 m.shrink, .int .i64 m.skin, .int .i64 m.fill, .int .i64 m.gap, .int .i64 m.deep] 25), (w.heap.size + 1, .cells #[.int .i64 0, .int .i64 0] 23)] _) := ((Bs.nil w).push _ rfl (.cells #[.int .i64 m.rings, .int .i64 m.give, .int .i64 m.pl, .int .i64 m.ph, .int .i64 m.wl, .int .i64 m.wh, .int .i64 m.set, .int .i64 m.shrink, .int .i64 m.skin, .int .i64 m.fill, .int .i64 m.gap, .int .i64 m.deep] 25)).push (w.heap.size + 1) (by simp) (.cells #[.int .i64 0, .int .i64 0] 23)
  have HC : ∀ w, Hid (Calls Try.prog 19 #[.agg #[.int .i64 m.rings, .int .i64 m.give, .int .i64 m.pl, .int .i64 m.ph, .int .i64 m.wl, .int .i64 m.wh, .int .i64 m.set, .int .i64 m.shrink, .int .i64 m.skin, .int .i64 m.fill, .int .i64 m.gap, .int .i64 m.deep]] w fun e w' => e = .returned (.int .i64 (checkE m)) ∧ Below w.heap.size w w') := checkR_any m
  by_cases hc : checkE m = 0
  rotate_left
  · have HV : Hid (skinV m n = ((0, 0), checkE m)) := by unfold Hid skinV; rw [if_pos hc]
    have hz : (checkE m != 0) = true := by simpa using hc
    have hz2 : (checkE m == 0) = false := by simpa using hc
    clear hc
    generalize checkE m = E at *
    go_enter Try.func30, Try.ntmps30
    go_wp2_with (refine wpList_load_bs rfl 25 _ rfl C0.out 0 w.heap.size #[.int .i64 m.rings, .int .i64 m.give, .int .i64 m.pl, .int .i64 m.ph, .int .i64 m.wl, .int .i64 m.wh, .int .i64 m.set, .int .i64 m.shrink, .int .i64 m.skin, .int .i64 m.fill, .int .i64 m.gap, .int .i64 m.deep] 25 rfl rfl _ Try.underlying25 rfl info25 ?_)
    refine (HC _).out.mono ?_
    rintro e w1 ⟨rfl, hb⟩
    have C1 := Lib.hid (C0.out.call hb)
    clear hb C0
    go_wp2_with (refine wpList_store_bs rfl 23 _ _ rfl C1.out 1 _ _ _ _ rfl rfl rfl info23 rfl (by simp [Value.oneCell']) ?_; intro w4 hC4)
    rw [HV.out]
    refine bodyPost_ret (v := .tuple #[.agg #[.int .i64 0, .int .i64 0], .int .i64 E]) (results_ct (fn := Try.f30) rfl _ _ _ _ _ _ _ _ rfl rfl (hC4.get 1 rfl) Try.underlying23 rfl info23) rfl ⟨rfl, hC4.bel⟩
  have hm := valid_of_check hc
  have HM := Lib.hid hm
  have HCK := Lib.hid hc
  rw [hc] at HC
  by_cases hw : within n 0 600 = true
  rotate_left
  · have hw' : within n 0 600 = false := by simpa using hw
    have HV : Hid (skinV m n = ((0, 0), 7)) := by
      unfold Hid skinV
      rw [if_neg (by simp [hc]), if_pos hw']
    have HIN := fun w => Lib.hid (in_r false n 0 600 hw' w)
    clear hw hw' hc
    go_enter Try.func30, Try.ntmps30
    go_wp2_with (refine wpList_load_bs rfl 25 _ rfl C0.out 0 w.heap.size #[.int .i64 m.rings, .int .i64 m.give, .int .i64 m.pl, .int .i64 m.ph, .int .i64 m.wl, .int .i64 m.wh, .int .i64 m.set, .int .i64 m.shrink, .int .i64 m.skin, .int .i64 m.fill, .int .i64 m.gap, .int .i64 m.deep] 25 rfl rfl _ Try.underlying25 rfl info25 ?_)
    refine (HC _).out.mono ?_
    rintro e w1 ⟨rfl, hb⟩
    have C1 := Lib.hid (C0.out.call hb)
    clear hb C0
    go_wp2_with fail
    refine (HIN _).out.mono ?_
    rintro e w2 ⟨rfl, rfl⟩
    go_wp2_with (refine wpList_store_bs rfl 23 _ _ rfl C1.out 1 _ _ _ _ rfl rfl rfl info23 rfl (by simp [Value.oneCell']) ?_; intro w4 hC4)
    rw [HV.out]
    refine bodyPost_ret (v := .tuple #[.agg #[.int .i64 0, .int .i64 0], .int .i64 7]) (results_ct (fn := Try.f30) rfl _ _ _ _ _ _ _ _ rfl rfl (hC4.get 1 rfl) Try.underlying23 rfl info23) rfl ⟨rfl, hC4.bel⟩
  have HV : Hid (skinV m n = ((((skinN (endsL m true) n : Nat) : Int), ((skinN (endsL m false) n : Nat) : Int)), 0)) := by
    unfold Hid skinV
    rw [if_neg (by simp [hc]), if_neg (by simp [hw])]
  have HIN := fun w => Lib.hid (in_r true n 0 600 hw w)
  have HE : ∀ w, Hid (Calls Try.prog 62 #[.agg #[.int .i64 m.rings, .int .i64 m.give, .int .i64 m.pl, .int .i64 m.ph, .int .i64 m.wl, .int .i64 m.wh, .int .i64 m.set, .int .i64 m.shrink, .int .i64 m.skin, .int .i64 m.fill, .int .i64 m.gap, .int .i64 m.deep]] w (RetEnds m w)) := ends_ref m hm
  have HST : ∀ (hot : Bool) (w : World) (v : Value), IntsIn .i64 w.heap.size w v (endsL m hot) → Hid (Calls Try.prog 42 #[v, .int .i64 n] w fun e w' => e = .returned (.int .i64 (skinN (endsL m hot) n)) ∧ w = w') := fun hot w v h =>
    set_any (endsL m hot) (by have := endsL_lenI hm hot; have := hm.r8; omega) n v w h
  clear hw hc hm
  go_enter Try.func30, Try.ntmps30
  go_wp2_with (refine wpList_load_bs rfl 25 _ rfl C0.out 0 w.heap.size #[.int .i64 m.rings, .int .i64 m.give, .int .i64 m.pl, .int .i64 m.ph, .int .i64 m.wl, .int .i64 m.wh, .int .i64 m.set, .int .i64 m.shrink, .int .i64 m.skin, .int .i64 m.fill, .int .i64 m.gap, .int .i64 m.deep] 25 rfl rfl _ Try.underlying25 rfl info25 ?_)
  refine (HC _).out.mono ?_
  rintro e w1 ⟨rfl, hb⟩
  have C1 := Lib.hid (C0.out.call hb)
  clear hb C0
  go_wp2_with fail
  refine (HIN _).out.mono ?_
  rintro e w2 ⟨rfl, rfl⟩
  go_wp2_with (refine wpList_load_bs rfl 25 _ rfl C1.out 0 w.heap.size #[.int .i64 m.rings, .int .i64 m.give, .int .i64 m.pl, .int .i64 m.ph, .int .i64 m.wl, .int .i64 m.wh, .int .i64 m.set, .int .i64 m.shrink, .int .i64 m.skin, .int .i64 m.fill, .int .i64 m.gap, .int .i64 m.deep] 25 rfl rfl _ Try.underlying25 rfl info25 ?_)
  refine (HE _).out.mono ?_
  rintro e w2 ⟨v1, v2, rfl, hn1, hn2, hb⟩
  have HF := Lib.hid hn1
  have HH := Lib.hid hn2
  have C2 := Lib.hid (C1.out.call hb)
  clear hb C1 hn1 hn2
  go_wp2_with fail
  refine (HST true _ _ HH.out).out.mono ?_
  rintro e w3 ⟨rfl, rfl⟩
  go_wp2_with fail
  refine (HST false _ _ HF.out).out.mono ?_
  rintro e w3 ⟨rfl, rfl⟩
  generalize ((skinN (endsL m true) n : Nat) : Int) = ka at *
  generalize ((skinN (endsL m false) n : Nat) : Int) = kb at *
  go_wp2_with (refine wpList_store_bs rfl 23 _ _ rfl C2.out 1 _ _ _ _ rfl rfl rfl info23 rfl (by simp [Value.oneCell']) ?_; intro w4 hC4)
  rw [HV.out]
  refine bodyPost_ret (v := .tuple #[.agg #[.int .i64 ka, .int .i64 kb], .int .i64 0]) (results_ct (fn := Try.f30) rfl _ _ _ _ _ _ _ _ rfl rfl (hC4.get 1 rfl) Try.underlying23 rfl info23) rfl ⟨rfl, hC4.bel⟩
end Go.Proofs.Ytafdagjdpnaddaa
