/- MouldFewest: the walk. -/
import Derived.Test.YtafdagjdpnaddaaAW
import Derived.Test.YtafdagjdpnaddaaB2
import Derived.Test.YtafdagjdpnaddaaP12
namespace Go.Proofs.Ytafdagjdpnaddaa
open Go.RowKit
theorem hollowV_zero {m : Mou} {plan : List Int} (h : hollowE m plan ≠ 0) : hollowV m plan = ((0, 0), (0, 0), hollowE m plan) := by
  unfold hollowV
  rw [if_pos h]
set_option maxRecDepth 100000 in
set_option maxHeartbeats 16000000 in
theorem fewest_law (m : Mou) (pv : Value) (plan : List Int) (w : World) (hp : IntsIn .i64 w.heap.size w pv plan) :
    Calls Try.prog 12 #[.agg #[.int .i64 m.rings, .int .i64 m.give, .int .i64 m.pl, .int .i64 m.ph, .int .i64 m.wl, .int .i64 m.wh, .int .i64 m.set, .int .i64 m.shrink, .int .i64 m.skin, .int .i64 m.fill, .int .i64 m.gap, .int .i64 m.deep], pv] w (fun e w' => e = .returned (.bool true) ∧ Below w.heap.size w w') := by
  have C0 := Lib.hid ((Bs.nil w).push _ rfl (.cells #[.int .i64 m.rings, .int .i64 m.give, .int .i64 m.pl, .int .i64 m.ph, .int .i64 m.wl, .int .i64 m.wh, .int .i64 m.set, .int .i64 m.shrink, .int .i64 m.skin, .int .i64 m.fill, .int .i64 m.gap, .int .i64 m.deep] 25))
  have HP := Lib.hid hp
  clear hp
  have HF : ∀ w, Hid (Calls Try.prog 33 #[.agg #[.int .i64 m.rings, .int .i64 m.give, .int .i64 m.pl, .int .i64 m.ph, .int .i64 m.wl, .int .i64 m.wh, .int .i64 m.set, .int .i64 m.shrink, .int .i64 m.skin, .int .i64 m.fill, .int .i64 m.gap, .int .i64 m.deep]] w (RetLE (fewV m).1 (fewV m).2 w)) := fun w => few_any m w
  have HA : ∀ w, IntsIn .i64 w.heap.size w pv plan → Hid (Calls Try.prog 31 #[.agg #[.int .i64 m.rings, .int .i64 m.give, .int .i64 m.pl, .int .i64 m.ph, .int .i64 m.wl, .int .i64 m.wh, .int .i64 m.set, .int .i64 m.shrink, .int .i64 m.skin, .int .i64 m.fill, .int .i64 m.gap, .int .i64 m.deep], pv] w (RetHol (hollowV m plan) w)) := fun w h => hollow_any m plan pv w h
  have HC : ∀ w, Hid (Calls Try.prog 19 #[.agg #[.int .i64 m.rings, .int .i64 m.give, .int .i64 m.pl, .int .i64 m.ph, .int .i64 m.wl, .int .i64 m.wh, .int .i64 m.set, .int .i64 m.shrink, .int .i64 m.skin, .int .i64 m.fill, .int .i64 m.gap, .int .i64 m.deep]] w fun e w' => e = .returned (.int .i64 (checkE m)) ∧ Below w.heap.size w w') := fun w => checkR_any m w
  by_cases hc : checkE m = 0
  rotate_left
  · have hv1 : fewV m = ([], checkE m) := fewV_bad hc
    have hv2 : hollowE m plan = checkE m := by unfold hollowE; rw [if_pos hc]
    have hv3 : hollowV m plan = ((0, 0), (0, 0), checkE m) := by rw [hollowV_zero (by rw [hv2]; exact hc), hv2]
    rw [hv1] at HF
    rw [hv3] at HA
    have hz : (checkE m != 0) = true := by simpa using hc
    clear hv1 hv2 hv3 hc
    generalize checkE m = E at *
    go_enter Try.func12, Try.ntmps12
    go_wp2_with (refine wpList_load_bs rfl 25 _ rfl C0.out 0 w.heap.size #[.int .i64 m.rings, .int .i64 m.give, .int .i64 m.pl, .int .i64 m.ph, .int .i64 m.wl, .int .i64 m.wh, .int .i64 m.set, .int .i64 m.shrink, .int .i64 m.skin, .int .i64 m.fill, .int .i64 m.gap, .int .i64 m.deep] 25 rfl rfl _ Try.underlying25 rfl info25 ?_)
    refine (HF _).out.mono ?_
    rintro e w1 ⟨v, rfl, -, hb⟩
    have C1 := Lib.hid (C0.out.call hb)
    clear hb C0
    go_wp2_with (refine wpList_load_bs rfl 25 _ rfl C1.out 0 w.heap.size #[.int .i64 m.rings, .int .i64 m.give, .int .i64 m.pl, .int .i64 m.ph, .int .i64 m.wl, .int .i64 m.wh, .int .i64 m.set, .int .i64 m.shrink, .int .i64 m.skin, .int .i64 m.fill, .int .i64 m.gap, .int .i64 m.deep] 25 rfl rfl _ Try.underlying25 rfl info25 ?_)
    refine (HA _ ((HP.out.below C1.out.bel).mono C1.out.bel.size)).out.mono ?_
    rintro e w2 ⟨rfl, hb⟩
    have C2 := Lib.hid ((C1.out.call hb).push w2.heap.size rfl (.cells #[.int .i64 0, .int .i64 0, .int .i64 0, .int .i64 0] 45))
    clear hb C1
    go_wp2_with (refine wpList_load_bs rfl 25 _ rfl C2.out 0 w.heap.size #[.int .i64 m.rings, .int .i64 m.give, .int .i64 m.pl, .int .i64 m.ph, .int .i64 m.wl, .int .i64 m.wh, .int .i64 m.set, .int .i64 m.shrink, .int .i64 m.skin, .int .i64 m.fill, .int .i64 m.gap, .int .i64 m.deep] 25 rfl rfl _ Try.underlying25 rfl info25 ?_)
    refine (HC _).out.mono ?_
    rintro e w3 ⟨rfl, hb⟩
    have C3 := Lib.hid (C2.out.call hb)
    clear hb C2
    go_wp2_with fail
    refine (awake_any _).mono ?_
    rintro e w4 ⟨rfl, hb⟩
    have HBel := Lib.hid (C3.out.call hb).bel
    clear hb C3
    go_wp2
    go_ret
    exact ⟨rfl, HBel.out⟩
  have HM := Lib.hid (valid_of_check hc)
  rw [hc] at HC
  by_cases hE : hollowE m plan = 0
  rotate_left
  · have hv := hollowV_zero hE
    rw [hv] at HA
    have q1 : (hollowE m plan == 0) = false := by simpa using hE
    have q2 : (hollowE m plan != 0) = true := by simpa using hE
    clear hE hv
    generalize hollowE m plan = E at *
    have hcs := fewE_cases hc
    clear hc
    have hfe : (fewV m).2 = 0 ∨ (fewV m).2 = 9 := by
      rcases hcs with h | h
      · exact .inl h
      · rw [h]; exact .inr rfl
    clear hcs
    generalize fewV m = F at *
    obtain ⟨fl, fe⟩ := F
    simp only at hfe
    go_enter Try.func12, Try.ntmps12
    go_wp2_with (refine wpList_load_bs rfl 25 _ rfl C0.out 0 w.heap.size #[.int .i64 m.rings, .int .i64 m.give, .int .i64 m.pl, .int .i64 m.ph, .int .i64 m.wl, .int .i64 m.wh, .int .i64 m.set, .int .i64 m.shrink, .int .i64 m.skin, .int .i64 m.fill, .int .i64 m.gap, .int .i64 m.deep] 25 rfl rfl _ Try.underlying25 rfl info25 ?_)
    refine (HF _).out.mono ?_
    rintro e w1 ⟨v, rfl, -, hb⟩
    have C1 := Lib.hid (C0.out.call hb)
    clear hb C0
    go_wp2_with (refine wpList_load_bs rfl 25 _ rfl C1.out 0 w.heap.size #[.int .i64 m.rings, .int .i64 m.give, .int .i64 m.pl, .int .i64 m.ph, .int .i64 m.wl, .int .i64 m.wh, .int .i64 m.set, .int .i64 m.shrink, .int .i64 m.skin, .int .i64 m.fill, .int .i64 m.gap, .int .i64 m.deep] 25 rfl rfl _ Try.underlying25 rfl info25 ?_)
    refine (HA _ ((HP.out.below C1.out.bel).mono C1.out.bel.size)).out.mono ?_
    rintro e w2 ⟨rfl, hb⟩
    have C2 := Lib.hid ((C1.out.call hb).push w2.heap.size rfl (.cells #[.int .i64 0, .int .i64 0, .int .i64 0, .int .i64 0] 45))
    clear hb C1
    go_wp2_with (refine wpList_load_bs rfl 25 _ rfl C2.out 0 w.heap.size #[.int .i64 m.rings, .int .i64 m.give, .int .i64 m.pl, .int .i64 m.ph, .int .i64 m.wl, .int .i64 m.wh, .int .i64 m.set, .int .i64 m.shrink, .int .i64 m.skin, .int .i64 m.fill, .int .i64 m.gap, .int .i64 m.deep] 25 rfl rfl _ Try.underlying25 rfl info25 ?_)
    refine (HC _).out.mono ?_
    rintro e w3 ⟨rfl, hb⟩
    have C3 := Lib.hid (C2.out.call hb)
    have k1 := C3.out.cell 1 rfl
    clear hb C2 HF HA HC
    rcases hfe with rfl | rfl
    all_goals
      go_wp2_with fail
      refine (awake_any _).mono ?_
      rintro e w4 ⟨rfl, hb⟩
      have HBel := Lib.hid (C3.out.call hb).bel
      clear hb C3 k1
      go_wp2
      go_ret
      exact ⟨rfl, HBel.out⟩
  have hv : hollowV m plan = ((holV m (endsL m false) plan, holV m (endsL m true) plan), (pourL (fall m (endsL m true)) m.fill plan, pourL (fall m (endsL m false)) m.fill plan), 0) := by
    unfold hollowV
    rw [if_neg (by simp [hE])]
  rw [hv] at HA
  clear hv
  by_cases hd : holV m (endsL m true) plan ≤ m.deep
  rotate_left
  · have q1 : m.deep < holV m (endsL m true) plan := by omega
    clear hE hd
    have hcs := fewE_cases hc
    clear hc
    have hfe : (fewV m).2 = 0 ∨ (fewV m).2 = 9 := by
      rcases hcs with h | h
      · exact .inl h
      · rw [h]; exact .inr rfl
    clear hcs
    generalize fewV m = F at *
    generalize holV m (endsL m false) plan = a1 at *
    generalize holV m (endsL m true) plan = a2 at *
    generalize pourL (fall m (endsL m true)) m.fill plan = a3 at *
    generalize pourL (fall m (endsL m false)) m.fill plan = a4 at *
    obtain ⟨fl, fe⟩ := F
    simp only at hfe
    go_enter Try.func12, Try.ntmps12
    go_wp2_with (refine wpList_load_bs rfl 25 _ rfl C0.out 0 w.heap.size #[.int .i64 m.rings, .int .i64 m.give, .int .i64 m.pl, .int .i64 m.ph, .int .i64 m.wl, .int .i64 m.wh, .int .i64 m.set, .int .i64 m.shrink, .int .i64 m.skin, .int .i64 m.fill, .int .i64 m.gap, .int .i64 m.deep] 25 rfl rfl _ Try.underlying25 rfl info25 ?_)
    refine (HF _).out.mono ?_
    rintro e w1 ⟨v, rfl, -, hb⟩
    have C1 := Lib.hid (C0.out.call hb)
    clear hb C0
    go_wp2_with (refine wpList_load_bs rfl 25 _ rfl C1.out 0 w.heap.size #[.int .i64 m.rings, .int .i64 m.give, .int .i64 m.pl, .int .i64 m.ph, .int .i64 m.wl, .int .i64 m.wh, .int .i64 m.set, .int .i64 m.shrink, .int .i64 m.skin, .int .i64 m.fill, .int .i64 m.gap, .int .i64 m.deep] 25 rfl rfl _ Try.underlying25 rfl info25 ?_)
    refine (HA _ ((HP.out.below C1.out.bel).mono C1.out.bel.size)).out.mono ?_
    rintro e w2 ⟨rfl, hb⟩
    have C2 := Lib.hid ((C1.out.call hb).push w2.heap.size rfl (.cells #[.int .i64 a1, .int .i64 a2, .int .i64 a3, .int .i64 a4] 45))
    clear hb C1
    go_wp2_with (refine wpList_load_bs rfl 25 _ rfl C2.out 0 w.heap.size #[.int .i64 m.rings, .int .i64 m.give, .int .i64 m.pl, .int .i64 m.ph, .int .i64 m.wl, .int .i64 m.wh, .int .i64 m.set, .int .i64 m.shrink, .int .i64 m.skin, .int .i64 m.fill, .int .i64 m.gap, .int .i64 m.deep] 25 rfl rfl _ Try.underlying25 rfl info25 ?_)
    refine (HC _).out.mono ?_
    rintro e w3 ⟨rfl, hb⟩
    have C3 := Lib.hid (C2.out.call hb)
    have k0 := C3.out.cell 0 rfl
    have k1 := C3.out.cell 1 rfl
    clear hb C2 HF HA HC
    rcases hfe with rfl | rfl
    all_goals
      go_wp2_with fail
      refine (awake_any _).mono ?_
      rintro e w4 ⟨rfl, hb⟩
      have HBel := Lib.hid (C3.out.call hb).bel
      clear hb C3 k0 k1
      go_wp2
      go_ret
      exact ⟨rfl, HBel.out⟩
  obtain ⟨n, hfv, hn, hlast⟩ := sound_few HM.out hE hd
  rw [hfv] at HF
  have hpl := (hollowE_ok hE).2.1.len
  clear hfv hE hc
  have hll : (lateP (lastM m (endsL m false)) m.gap n).length = n := lateP_length _ _ _
  generalize lateP (lastM m (endsL m false)) m.gap n = bl at *
  generalize holV m (endsL m false) plan = a1 at *
  generalize holV m (endsL m true) plan = a2 at *
  generalize pourL (fall m (endsL m true)) m.fill plan = a3 at *
  generalize pourL (fall m (endsL m false)) m.fill plan = a4 at *
  have q1 : ¬ m.deep < a2 := by omega
  clear hd
  have HLL := Lib.hid hll
  clear hll
  go_enter Try.func12, Try.ntmps12
  go_wp2_with (refine wpList_load_bs rfl 25 _ rfl C0.out 0 w.heap.size #[.int .i64 m.rings, .int .i64 m.give, .int .i64 m.pl, .int .i64 m.ph, .int .i64 m.wl, .int .i64 m.wh, .int .i64 m.set, .int .i64 m.shrink, .int .i64 m.skin, .int .i64 m.fill, .int .i64 m.gap, .int .i64 m.deep] 25 rfl rfl _ Try.underlying25 rfl info25 ?_)
  refine (HF _).out.mono ?_
  rintro e w1 ⟨v, rfl, ho, hb⟩
  have HI := Lib.hid (ho.ints (by rw [HLL.out]; omega))
  have C1 := Lib.hid (C0.out.call hb)
  clear hb C0 ho
  go_wp2_with (refine wpList_load_bs rfl 25 _ rfl C1.out 0 w.heap.size #[.int .i64 m.rings, .int .i64 m.give, .int .i64 m.pl, .int .i64 m.ph, .int .i64 m.wl, .int .i64 m.wh, .int .i64 m.set, .int .i64 m.shrink, .int .i64 m.skin, .int .i64 m.fill, .int .i64 m.gap, .int .i64 m.deep] 25 rfl rfl _ Try.underlying25 rfl info25 ?_)
  refine (HA _ ((HP.out.below C1.out.bel).mono C1.out.bel.size)).out.mono ?_
  rintro e w2 ⟨rfl, hb⟩
  have hb2 := hb.alloc hb.size (.cells #[.int .i64 a1, .int .i64 a2, .int .i64 a3, .int .i64 a4] 45)
  have HI := Lib.hid (HI.out.next hb2)
  have C2 := Lib.hid ((C1.out.call hb).push w2.heap.size rfl (.cells #[.int .i64 a1, .int .i64 a2, .int .i64 a3, .int .i64 a4] 45))
  clear hb hb2 C1
  go_wp2_with (refine wpList_load_bs rfl 25 _ rfl C2.out 0 w.heap.size #[.int .i64 m.rings, .int .i64 m.give, .int .i64 m.pl, .int .i64 m.ph, .int .i64 m.wl, .int .i64 m.wh, .int .i64 m.set, .int .i64 m.shrink, .int .i64 m.skin, .int .i64 m.fill, .int .i64 m.gap, .int .i64 m.deep] 25 rfl rfl _ Try.underlying25 rfl info25 ?_)
  refine (HC _).out.mono ?_
  rintro e w3 ⟨rfl, hb⟩
  have HI := Lib.hid (HI.out.next hb)
  have C3 := Lib.hid (C2.out.call hb)
  have k0 := C3.out.cell 0 rfl
  have k1 := C3.out.cell 1 rfl
  have HP3 := Lib.hid ((HP.out.below C3.out.bel).mono C3.out.bel.size)
  clear hb C2 HF HA HC HP
  obtain ⟨ab, cb, e1, -, hrow1⟩ := HI.out
  obtain ⟨ap, cp, e2, -, hrow2⟩ := HP3.out
  rw [HLL.out] at e1 hrow1
  subst e1
  subst e2
  have HR1 := Lib.hid hrow1
  have HR2 := Lib.hid hrow2
  clear hrow1 hrow2 HI HP3
  obtain ⟨L, hL⟩ : ∃ L, plan.length = L := ⟨_, rfl⟩
  have HPL := Lib.hid hL
  rw [hL] at hn hlast hpl HR2 ⊢
  clear hL
  have HLA := Lib.hid hlast
  clear hlast
  by_cases hlt : n < L
  · go_wp2_with fail
    clear k0 k1
    refine wp_region_inv0 (by kernel_rfl) (by kernel_rfl) (fun _ w' => Below w3.heap.size w3 w') (Below.refl _ _).drew ?_
    iterate 32
      (apply obl_det
       case hrun =>
         intro D y wz hW hD R hR
         have HRR := Lib.hid hR
         clear hR
         have HW := Lib.hid hW
         clear hW hD
         go_wp2
         exact HRR.out _ HW.out
       case hnp => rfl
       case hv => first | exact ⟨_, fun _ => rfl⟩ | exact ⟨undef, fun _ => rfl⟩)
    apply obl_det
    case hrun =>
      intro D y wz hW hD R hR
      have HRR := Lib.hid hR
      clear hR
      have HW := Lib.hid hW
      clear hW hD
      go_wp2_with fail
      refine (awake_any _).mono ?_
      rintro e w' ⟨rfl, hb⟩
      have HW2 := Lib.hid (HW.out.trans (hb.mono HW.out.size))
      clear hb
      go_wp2_with fail
      exact HRR.out _ HW2.out
    case hnp => rfl
    case hv => first | exact ⟨_, fun _ => rfl⟩ | exact ⟨undef, fun _ => rfl⟩
    iterate 2
      (apply obl_det
       case hrun =>
         intro D y wz hW hD R hR
         have HRR := Lib.hid hR
         clear hR
         have HW := Lib.hid hW
         clear hW hD
         go_wp2
         exact HRR.out _ HW.out
       case hnp => rfl
       case hv => first | exact ⟨_, fun _ => rfl⟩ | exact ⟨undef, fun _ => rfl⟩)
    apply obl_nil
    intro D y w8 hall hW
    clear hall
    have HBel := Lib.hid (C3.out.call hW).bel
    clear hW C3
    go_wp2
    go_ret
    exact ⟨rfl, HBel.out⟩
  obtain rfl : n = L := by omega
  by_cases h0 : n = 0
  · subst h0
    go_wp2_with fail
    clear k0 k1
    refine wp_region_inv0 (by kernel_rfl) (by kernel_rfl) (fun _ w' => Below w3.heap.size w3 w') (Below.refl _ _).drew ?_
    iterate 32
      (apply obl_det
       case hrun =>
         intro D y wz hW hD R hR
         have HRR := Lib.hid hR
         clear hR
         have HW := Lib.hid hW
         clear hW hD
         go_wp2
         exact HRR.out _ HW.out
       case hnp => rfl
       case hv => first | exact ⟨_, fun _ => rfl⟩ | exact ⟨undef, fun _ => rfl⟩)
    apply obl_det
    case hrun =>
      intro D y wz hW hD R hR
      have HRR := Lib.hid hR
      clear hR
      have HW := Lib.hid hW
      clear hW hD
      go_wp2_with fail
      refine (awake_any _).mono ?_
      rintro e w' ⟨rfl, hb⟩
      have HW2 := Lib.hid (HW.out.trans (hb.mono HW.out.size))
      clear hb
      go_wp2_with fail
      exact HRR.out _ HW2.out
    case hnp => rfl
    case hv => first | exact ⟨_, fun _ => rfl⟩ | exact ⟨undef, fun _ => rfl⟩
    iterate 2
      (apply obl_det
       case hrun =>
         intro D y wz hW hD R hR
         have HRR := Lib.hid hR
         clear hR
         have HW := Lib.hid hW
         clear hW hD
         go_wp2
         exact HRR.out _ HW.out
       case hnp => rfl
       case hv => first | exact ⟨_, fun _ => rfl⟩ | exact ⟨undef, fun _ => rfl⟩)
    apply obl_nil
    intro D y w8 hall hW
    clear hall
    have HBel := Lib.hid (C3.out.call hW).bel
    clear hW C3
    go_wp2
    go_ret
    exact ⟨rfl, HBel.out⟩
  obtain ⟨n', rfl⟩ : ∃ n', n = n' + 1 := ⟨n - 1, by omega⟩
  obtain ⟨b, o, rfl, hbb, hc1⟩ := HR1.out.resolve_left (by intro h; have := HLL.out; rw [h] at this; simp at this)
  obtain ⟨b2, o2, rfl, hbb2, hc2⟩ := HR2.out.resolve_left (by intro h; have := HPL.out; rw [h] at this; simp at this)
  have h1 : w3.cell? ⟨b, o + n', none⟩ = some (.int .i64 (bl.getD n' 0)) := hc1 n' (by omega)
  have h2 : w3.cell? ⟨b2, o2 + n', none⟩ = some (.int .i64 (plan.getD n' 0)) := hc2 n' (by omega)
  have hge : plan.getD n' 0 ≤ bl.getD n' 0 := by
    have := HLA.out rfl (by omega)
    simpa using this
  generalize bl.getD n' 0 = z1 at *
  generalize plan.getD n' 0 = z2 at *
  have H1 := Lib.hid h1
  have H2 := Lib.hid h2
  clear h1 h2 hc1 hc2 h0 hlt hn HLA HR1 HR2 HLL HPL
  have hq0 : (((n' + 1 : Nat) : Int) == 0) = false := by simp; omega
  have hq1 : ((n' + 1 : Nat) : Int) - 1 = (n' : Int) := by omega
  go_wp2_with fail
  clear k0 k1
  refine wp_region_inv0 (by kernel_rfl) (by kernel_rfl) (fun _ w' => Below w3.heap.size w3 w') (Below.refl _ _).drew ?_
  iterate 22
    (apply obl_det
     case hrun =>
       intro D y wz hW hD R hR
       have HRR := Lib.hid hR
       clear hR
       have HW := Lib.hid hW
       clear hW hD
       go_wp2
       exact HRR.out _ HW.out
     case hnp => rfl
     case hv => first | exact ⟨_, fun _ => rfl⟩ | exact ⟨undef, fun _ => rfl⟩)
  apply obl_det
  case hrun =>
    intro D y wz hW hD R hR
    have HRR := Lib.hid hR
    clear hR
    have HW := Lib.hid hW
    have h1 := (hW.cell (p := ⟨b, o + n', none⟩) hbb).trans H1.out
    have h2 := (hW.cell (p := ⟨b2, o2 + n', none⟩) hbb2).trans H2.out
    clear hW hD
    go_wp2
    exact HRR.out _ HW.out
  case hnp => rfl
  case hv => first | exact ⟨_, fun _ => rfl⟩ | exact ⟨undef, fun _ => rfl⟩
  iterate 4
    (apply obl_det
     case hrun =>
       intro D y wz hW hD R hR
       have HRR := Lib.hid hR
       clear hR
       have HW := Lib.hid hW
       clear hW hD
       go_wp2
       exact HRR.out _ HW.out
     case hnp => rfl
     case hv => first | exact ⟨_, fun _ => rfl⟩ | exact ⟨undef, fun _ => rfl⟩)
  apply obl_det
  case hrun =>
    intro D y wz hW hD R hR
    have HRR := Lib.hid hR
    clear hR
    have HW := Lib.hid hW
    have h1 := (hW.cell (p := ⟨b, o + n', none⟩) hbb).trans H1.out
    have h2 := (hW.cell (p := ⟨b2, o2 + n', none⟩) hbb2).trans H2.out
    clear hW hD
    go_wp2
    exact HRR.out _ HW.out
  case hnp => rfl
  case hv => first | exact ⟨_, fun _ => rfl⟩ | exact ⟨undef, fun _ => rfl⟩
  iterate 4
    (apply obl_det
     case hrun =>
       intro D y wz hW hD R hR
       have HRR := Lib.hid hR
       clear hR
       have HW := Lib.hid hW
       clear hW hD
       go_wp2
       exact HRR.out _ HW.out
     case hnp => rfl
     case hv => first | exact ⟨_, fun _ => rfl⟩ | exact ⟨undef, fun _ => rfl⟩)
  apply obl_det
  case hrun =>
    intro D y wz hW hD R hR
    have HRR := Lib.hid hR
    clear hR
    have HW := Lib.hid hW
    clear hW hD
    go_wp2_with fail
    refine (awake_any _).mono ?_
    rintro e w' ⟨rfl, hb⟩
    have HW2 := Lib.hid (HW.out.trans (hb.mono HW.out.size))
    clear hb
    go_wp2_with fail
    exact HRR.out _ HW2.out
  case hnp => rfl
  case hv => first | exact ⟨_, fun _ => rfl⟩ | exact ⟨undef, fun _ => rfl⟩
  iterate 2
    (apply obl_det
     case hrun =>
       intro D y wz hW hD R hR
       have HRR := Lib.hid hR
       clear hR
       have HW := Lib.hid hW
       clear hW hD
       go_wp2
       exact HRR.out _ HW.out
     case hnp => rfl
     case hv => first | exact ⟨_, fun _ => rfl⟩ | exact ⟨undef, fun _ => rfl⟩)
  apply obl_nil
  intro D y w8 hall hW
  clear hall
  have HBel := Lib.hid (C3.out.call hW).bel
  clear hW C3
  go_wp2
  go_ret
  exact ⟨rfl, HBel.out⟩
end Go.Proofs.Ytafdagjdpnaddaa
