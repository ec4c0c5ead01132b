/- MouldSound: the walk. -/
import Derived.Test.YtafdagjdpnaddaaW33
import Derived.Test.YtafdagjdpnaddaaW26
import Derived.Test.YtafdagjdpnaddaaW25
namespace Go.Proofs.Ytafdagjdpnaddaa
open Go.RowKit
theorem fewV_zero {m : Mou} (h : (fewV m).2 ≠ 0) : (fewV m).1 = [] := by
  by_cases hc : checkE m = 0
  · rcases fewE_cases hc with h1 | h1
    · exact absurd h1 h
    · rw [h1]
  · rw [fewV_bad hc]
set_option maxRecDepth 100000 in
set_option maxHeartbeats 16000000 in
theorem sound_law (m : Mou) (yv zv : Value) (yl zl : List Int) (w : World) (hy : IntsIn .u16 w.heap.size w yv yl) (hz : IntsIn .u16 w.heap.size w zv zl) (hyr : ∀ x ∈ yl, 0 ≤ x ∧ x ≤ 65535) (hzr : ∀ x ∈ zl, 0 ≤ x ∧ x ≤ 65535) :
    Calls Try.prog 11 #[.agg #[.int .i64 m.rings, .int .i64 m.give, .int .i64 m.pl, .int .i64 m.ph, .int .i64 m.wl, .int .i64 m.wh, .int .i64 m.set, .int .i64 m.shrink, .int .i64 m.skin, .int .i64 m.fill, .int .i64 m.gap, .int .i64 m.deep], .agg #[yv, zv]] w (fun e w' => e = .returned (.bool true) ∧ Below w.heap.size w w') := by
  have C0 := Lib.hid (((Bs.nil w).push _ rfl (.cells #[.int .i64 m.rings, .int .i64 m.give, .int .i64 m.pl, .int .i64 m.ph, .int .i64 m.wl, .int .i64 m.wh, .int .i64 m.set, .int .i64 m.shrink, .int .i64 m.skin, .int .i64 m.fill, .int .i64 m.gap, .int .i64 m.deep] 25)).push (w.heap.size + 1) (by simp) (.cells #[yv, zv] 58))
  have HY := Lib.hid hy
  have HZ := Lib.hid hz
  have HYR := Lib.hid hyr
  have HZR := Lib.hid hzr
  clear hy hz hyr hzr
  have HF : ∀ w, Hid (Calls Try.prog 33 #[.agg #[.int .i64 m.rings, .int .i64 m.give, .int .i64 m.pl, .int .i64 m.ph, .int .i64 m.wl, .int .i64 m.wh, .int .i64 m.set, .int .i64 m.shrink, .int .i64 m.skin, .int .i64 m.fill, .int .i64 m.gap, .int .i64 m.deep]] w (RetLE (fewV m).1 (fewV m).2 w)) := fun w => few_any m w
  by_cases hE : (fewV m).2 = 0
  rotate_left
  · rw [fewV_zero hE] at HF
    have hz : ((fewV m).2 != 0) = true := by simpa using hE
    clear hE
    generalize (fewV m).2 = E at *
    go_enter Try.func11, Try.ntmps11
    go_wp2_with (refine wpList_load_bs rfl 25 _ rfl C0.out 0 w.heap.size #[.int .i64 m.rings, .int .i64 m.give, .int .i64 m.pl, .int .i64 m.ph, .int .i64 m.wl, .int .i64 m.wh, .int .i64 m.set, .int .i64 m.shrink, .int .i64 m.skin, .int .i64 m.fill, .int .i64 m.gap, .int .i64 m.deep] 25 rfl rfl _ Try.underlying25 rfl info25 ?_)
    refine (HF _).out.mono ?_
    rintro e w1 ⟨v, rfl, ho, hb⟩
    obtain ⟨a, c, e1, -⟩ := ho.ints (by simp)
    subst e1
    have C1 := Lib.hid (C0.out.call hb)
    clear hb C0 ho
    go_wp2_with fail
    refine (awake_any _).mono ?_
    rintro e w4 ⟨rfl, hb⟩
    have HBel := Lib.hid (C1.out.call hb).bel
    clear hb C1
    go_wp2
    go_ret
    exact ⟨rfl, HBel.out⟩
  obtain ⟨n, hfv, hpo, hpb, hdeep, hck, hnev⟩ := few_ok hE
  rw [hfv] at HF
  have hm := valid_of_check hck
  have HM := Lib.hid hm
  have HC : ∀ w, Hid (Calls Try.prog 19 #[.agg #[.int .i64 m.rings, .int .i64 m.give, .int .i64 m.pl, .int .i64 m.ph, .int .i64 m.wl, .int .i64 m.wh, .int .i64 m.set, .int .i64 m.shrink, .int .i64 m.skin, .int .i64 m.fill, .int .i64 m.gap, .int .i64 m.deep]] w fun e w' => e = .returned (.int .i64 0) ∧ Below w.heap.size w w') := fun w => by
    have := checkR_any m w
    rw [hck] at this
    exact this
  have hlen := hpo.len
  have hnc := when_cold hm yl zl
  have hnh := when_hot hm yl zl
  have hwl : ((truthWhen m yl zl).length : Int) = m.rings := by rw [truthWhen_len]; have := hm.r1; omega
  have hset : ∀ i, i < (truthWhen m yl zl).length → 0 ≤ (truthWhen m yl zl).getD i 0 ∧ (truthWhen m yl zl).getD i 0 ≤ 600 := fun i hi =>
    ⟨sets_all hnh hnev hi, (when_range m _ _ (by rw [truthWl, mapTo_len]; omega) (by unfold truthWhen at hi; rw [whenL_length] at hi; exact hi)).2⟩
  have hpo' := plan_ok.2 hpo
  generalize lateP (lastM m (endsL m false)) m.gap n = plan at *
  have hP : ∀ (w : World) (v : Value), IntsIn .i64 w.heap.size w v plan → Hid (Calls Try.prog 43 #[.agg #[.int .i64 m.rings, .int .i64 m.give, .int .i64 m.pl, .int .i64 m.ph, .int .i64 m.wl, .int .i64 m.wh, .int .i64 m.set, .int .i64 m.shrink, .int .i64 m.skin, .int .i64 m.fill, .int .i64 m.gap, .int .i64 m.deep], v] w fun e w' => e = .returned (.int .i64 0) ∧ Below w.heap.size w w') := fun w v hv => by
    have := plan_any m (by have := hm.a1; omega) hm.a6 plan v w hv
    rw [hpo'] at this
    exact this
  have hEnd : ∀ (w : World) (v1 v2 : Value), IntsIn .i64 w.heap.size w v1 (truthWhen m yl zl) → IntsIn .i64 w.heap.size w v2 plan → Hid (Calls Try.prog 44 #[.agg #[.int .i64 m.rings, .int .i64 m.give, .int .i64 m.pl, .int .i64 m.ph, .int .i64 m.wl, .int .i64 m.wh, .int .i64 m.set, .int .i64 m.shrink, .int .i64 m.skin, .int .i64 m.fill, .int .i64 m.gap, .int .i64 m.deep], v1, v2] w fun e w' => e = .returned (.tuple #[.int .i64 (holV m (truthWhen m yl zl) plan), .int .i64 (pourL (fall m (truthWhen m yl zl)) m.fill plan)]) ∧ Below w.heap.size w w') := fun w v1 v2 h1 h2 => by
    have := end_ref m hm (truthWhen m yl zl) plan hwl (hpo.order hm) hlen v1 v2 w h1 h2
    rw [hollow_is hset] at this
    exact this
  have hPo : ∀ (w : World) (v1 v2 : Value), IntsIn .i64 w.heap.size w v1 (truthWhen m yl zl) → IntsIn .i64 w.heap.size w v2 plan → Hid (Calls Try.prog 46 #[.agg #[.int .i64 m.rings, .int .i64 m.give, .int .i64 m.pl, .int .i64 m.ph, .int .i64 m.wl, .int .i64 m.wh, .int .i64 m.set, .int .i64 m.shrink, .int .i64 m.skin, .int .i64 m.fill, .int .i64 m.gap, .int .i64 m.deep], v1, v2] w fun e w' => e = .returned (.bool true) ∧ Below w.heap.size w w') := fun w v1 v2 h1 h2 =>
    pours_r true m (truthWhen m yl zl) (by have := hm.r8; omega) plan (pours_later hnc hpb) v1 v2 w h1 h2
  have hhol : holV m (truthWhen m yl zl) plan ≤ m.deep := by
    have := hol_mono hm hnh (endsL_lenI hm true) plan
    omega
  have when_use : ∀ (w : World) (v1 v2 : Value), IntsIn .i64 w.heap.size w v1 (truthPl m m.rings.toNat yl) → IntsIn .i64 w.heap.size w v2 (truthWl m 600 zl) → Calls Try.prog 40 #[.agg #[.int .i64 m.rings, .int .i64 m.give, .int .i64 m.pl, .int .i64 m.ph, .int .i64 m.wl, .int .i64 m.wh, .int .i64 m.set, .int .i64 m.shrink, .int .i64 m.skin, .int .i64 m.fill, .int .i64 m.gap, .int .i64 m.deep], .agg #[v1, v2]] w (RetI (truthWhen m yl zl) w) := fun w v1 v2 h1 h2 =>
    when_ref m hm.g1 hm.g5 v1 v2 _ _ w h1 h2 (by rw [truthPl, mapTo_len]; have := hm.r1; omega) (by rw [truthPl, mapTo_len]; have := hm.r8; omega) ((truth_fitsP hm yl).wide hm.p0 hm.p2) (by rw [truthWl, mapTo_len]; omega) ((truth_fitsW hm zl 600).wide hm.w0 hm.w2)
  have HTR : ∀ w : World, IntsIn .u16 w.heap.size w yv yl → IntsIn .u16 w.heap.size w zv zl → Hid (Calls Try.prog 38 #[.agg #[.int .i64 m.rings, .int .i64 m.give, .int .i64 m.pl, .int .i64 m.ph, .int .i64 m.wl, .int .i64 m.wh, .int .i64 m.set, .int .i64 m.shrink, .int .i64 m.skin, .int .i64 m.fill, .int .i64 m.gap, .int .i64 m.deep], .int .i64 600, .agg #[yv, zv]] w (RetT (truthPl m m.rings.toNat yl) (truthWl m 600 zl) w)) := fun w h1 h2 => truth_any m hm 600 (by omega) yv zv yl zl w h1 h2 HYR.out HZR.out
  generalize truthWhen m yl zl = wl at *
  generalize holV m wl plan = hol at *
  generalize pourL (fall m wl) m.fill plan = prd at *
  clear hset hwl hnc hnh hpo' hpo hpb hnev hdeep hfv hE hck hm
  go_enter Try.func11, Try.ntmps11
  go_wp2_with (refine wpList_load_bs rfl 25 _ rfl C0.out 0 w.heap.size #[.int .i64 m.rings, .int .i64 m.give, .int .i64 m.pl, .int .i64 m.ph, .int .i64 m.wl, .int .i64 m.wh, .int .i64 m.set, .int .i64 m.shrink, .int .i64 m.skin, .int .i64 m.fill, .int .i64 m.gap, .int .i64 m.deep] 25 rfl rfl _ Try.underlying25 rfl info25 ?_)
  refine (HF _).out.mono ?_
  rintro e w1 ⟨v, rfl, ho, hb⟩
  have HPL := Lib.hid (ho.ints (by omega))
  have C1 := Lib.hid (C0.out.call hb)
  clear hb C0 ho
  go_wp2_with (refine wpList_load_want rfl 25 _ rfl _ rfl _ _ _ _ (C1.out.get 0 rfl) Try.underlying25 rfl info25 ?_)
  refine (HC _).out.mono ?_
  rintro e w2 ⟨rfl, hb⟩
  have HPL := Lib.hid (HPL.out.next hb)
  have C2 := Lib.hid (C1.out.call hb)
  clear hb C1
  go_wp2_with fail
  refine wp_region_inv1 (by kernel_rfl) (by kernel_rfl) [35, 36, 7] (fun D y w' => WhW w2 (truthPl m m.rings.toNat yl) (truthWl m 600 zl) (wl) (D 3) (D 4) (D 5) (y 35) (y 36) (y 7) w') (WhW.start _) ?FA ?hFA ?_
  case hFA =>
    intro y
    simp only [fill, List.foldl, Act.put, List.setIfInBounds_toArray, List.set]
    exact rfl
  apply obl_det
  case hrun =>
    intro D y wz hW hD R hR
    have HRR := Lib.hid hR
    clear hR
    have HW := Lib.hid hW
    clear hW hD
    refine wpList_load_want rfl 25 _ rfl _ rfl _ _ _ _ ((C2.out.call HW.out.bel).get 0 rfl) Try.underlying25 rfl info25 ?_
    go_simp
    exact HRR.out _ HW.out
  case hnp => rfl
  case hv => first | exact ⟨_, fun _ => rfl⟩ | exact ⟨undef, fun _ => rfl⟩
  apply obl_det
  case hrun =>
    intro D y wz hW hD R hR
    have HRR := Lib.hid hR
    clear hR
    have HW := Lib.hid hW
    clear hW hD
    refine wpList_load_want rfl 25 _ rfl _ rfl _ _ _ _ ((C2.out.call HW.out.bel).get 0 rfl) Try.underlying25 rfl info25 ?_
    go_simp
    exact HRR.out _ HW.out
  case hnp => rfl
  case hv => first | exact ⟨_, fun _ => rfl⟩ | exact ⟨undef, fun _ => rfl⟩
  apply obl_det
  case hrun =>
    intro D y wz hW hD R hR
    have HRR := Lib.hid hR
    clear hR
    have HW := Lib.hid hW
    clear hW hD
    refine wpList_load_want rfl 58 _ rfl _ rfl _ _ _ _ ((C2.out.call HW.out.bel).get 1 rfl) Try.underlying58 rfl info58 ?_
    go_simp
    exact HRR.out _ HW.out
  case hnp => rfl
  case hv => first | exact ⟨_, fun _ => rfl⟩ | exact ⟨undef, fun _ => rfl⟩
  apply obl_priv 35
  case hd => rfl
  case hp => rfl
  case hrun =>
    intro D y wz hW hD R hR
    have HRR := Lib.hid hR
    clear hR
    have HW := Lib.hid hW
    clear hW hD
    go_wp2_with fail
    refine ((HTR wz ((HY.out.below (C2.out.call HW.out.bel).bel).mono (C2.out.call HW.out.bel).bel.size) ((HZ.out.below (C2.out.call HW.out.bel).bel).mono (C2.out.call HW.out.bel).bel.size)).out).mono ?_
    rintro e w' ⟨v1, v2, rfl, hi1, hi2, hb⟩
    have HN := Lib.hid ((HW.out.next hb).put3 hi1 hi2)
    clear hb hi1 hi2
    go_wp2_with fail
    refine HRR.out _ _ ?_
    show WhW w2 (truthPl m m.rings.toNat yl) (truthWl m 600 zl) (wl) true (D 4) (D 5) _ (y 36) (y 7) _
    exact HN.out
  apply obl_priv 36
  case hd => rfl
  case hp => rfl
  case hrun =>
    intro D y wz hW hD R hR
    have HRR := Lib.hid hR
    clear hR
    have h5 : D 5 = false := hD.post _ 5 rfl (by kernel_rfl)
    have h3 : D 3 = true := hD.pre _ 3 rfl (by kernel_rfl)
    obtain ⟨v1, v2, e3, hv1, hv2⟩ := hW.t h3
    have HW := Lib.hid hW
    have H5 := Lib.hid h5
    have hwh := when_use wz v1 v2 hv1 hv2
    rw [← e3] at hwh
    have HWH := Lib.hid hwh
    clear hW hD h3 h5 hv1 hv2 hwh e3
    go_wp2_with fail
    refine HWH.out.mono ?_
    rintro e w' ⟨v, rfl, hi1, hb⟩
    have HN := Lib.hid ((HW.out.next hb).put4 H5.out hi1)
    clear hb hi1
    go_wp2_with fail
    refine HRR.out _ _ ?_
    show WhW w2 (truthPl m m.rings.toNat yl) (truthWl m 600 zl) (wl) (D 3) true (D 5) (y 35) _ (y 7) _
    exact HN.out
  apply obl_priv 7
  case hd => rfl
  case hp => rfl
  case hrun =>
    intro D y wz hW hD R hR
    have HRR := Lib.hid hR
    clear hR
    have HW := Lib.hid hW
    clear hW hD
    go_wp2
    refine HRR.out _ _ ?_
    show WhW w2 (truthPl m m.rings.toNat yl) (truthWl m 600 zl) (wl) (D 3) (D 4) true (y 35) (y 36) (y 36) _
    exact HW.out.put5
  apply obl_nil
  intro D y w8 hall hW
  have hn := hW.n (hall 4 (by decide))
  have ha := hW.a (hall 5 (by decide))
  have hbl := hW.bel
  clear hW hall
  rw [← ha] at hn

  have HN := Lib.hid hn
  have HPL := Lib.hid (HPL.out.next hbl)
  have C3 := Lib.hid (C2.out.call hbl)
  clear hn ha hbl C2
  generalize y 7 = vw at *
  generalize y 35 = g35 at *
  generalize y 36 = g36 at *
  go_wp2_with (refine wpList_load_bs rfl 25 _ rfl C3.out 0 w.heap.size #[.int .i64 m.rings, .int .i64 m.give, .int .i64 m.pl, .int .i64 m.ph, .int .i64 m.wl, .int .i64 m.wh, .int .i64 m.set, .int .i64 m.shrink, .int .i64 m.skin, .int .i64 m.fill, .int .i64 m.gap, .int .i64 m.deep] 25 rfl rfl _ Try.underlying25 rfl info25 ?_)
  refine (hP _ _ HPL.out).out.mono ?_
  rintro e w4 ⟨rfl, hb⟩
  have HN := Lib.hid (HN.out.next hb)
  have HPL := Lib.hid (HPL.out.next hb)
  have C4 := Lib.hid (C3.out.call hb)
  clear hb C3
  go_wp2_with (refine wpList_load_bs rfl 25 _ rfl C4.out 0 w.heap.size #[.int .i64 m.rings, .int .i64 m.give, .int .i64 m.pl, .int .i64 m.ph, .int .i64 m.wl, .int .i64 m.wh, .int .i64 m.set, .int .i64 m.shrink, .int .i64 m.skin, .int .i64 m.fill, .int .i64 m.gap, .int .i64 m.deep] 25 rfl rfl _ Try.underlying25 rfl info25 ?_)
  refine (hEnd _ _ _ HN.out HPL.out).out.mono ?_
  rintro e w5 ⟨rfl, hb⟩
  have HN := Lib.hid (HN.out.next hb)
  have HPL := Lib.hid (HPL.out.next hb)
  have C5 := Lib.hid (C4.out.call hb)
  clear hb C4
  go_wp2_with (refine wpList_load_bs rfl 25 _ rfl C5.out 0 w.heap.size #[.int .i64 m.rings, .int .i64 m.give, .int .i64 m.pl, .int .i64 m.ph, .int .i64 m.wl, .int .i64 m.wh, .int .i64 m.set, .int .i64 m.shrink, .int .i64 m.skin, .int .i64 m.fill, .int .i64 m.gap, .int .i64 m.deep] 25 rfl rfl _ Try.underlying25 rfl info25 ?_)
  refine (hPo _ _ _ HN.out HPL.out).out.mono ?_
  rintro e w6 ⟨rfl, hb⟩
  have C6 := Lib.hid (C5.out.call hb)
  have c0 := C6.out.cell 0 rfl
  clear hb C5 HN HPL
  go_wp2_with fail
  refine (awake_any _).mono ?_
  rintro e w7 ⟨rfl, hb⟩
  have HBel := Lib.hid (C6.out.call hb).bel
  clear hb C6 c0
  go_wp2
  go_ret
  exact ⟨rfl, HBel.out⟩
end Go.Proofs.Ytafdagjdpnaddaa
