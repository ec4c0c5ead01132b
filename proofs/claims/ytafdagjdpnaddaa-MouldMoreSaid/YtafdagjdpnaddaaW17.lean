/- mould.Sets, mould.Skin. -/
import Derived.Test.YtafdagjdpnaddaaP4
import Derived.Test.YtafdagjdpnaddaaW14
namespace Go.Proofs.Ytafdagjdpnaddaa
open Go.RowKit
theorem setsV_bad {m : Mou} (h : checkE m ≠ 0) : setsV m = ([], checkE m) := by
  have : setsE m = checkE m := by unfold setsE; rw [if_pos h]
  unfold setsV; rw [if_neg (by rw [this]; exact h), this]
theorem setsV_never {m : Mou} (h : checkE m = 0) (hn : neverB (endsL m true) = true) : setsV m = ([], 9) := by
  have : setsE m = 9 := by unfold setsE; rw [if_neg (by simp [h]), if_pos hn]
  unfold setsV; rw [if_neg (by rw [this]; simp), this]
theorem setsV_ok {m : Mou} (h : checkE m = 0) (hn : neverB (endsL m true) = false) : setsV m = ((endsL m false).zip (endsL m true), 0) := by
  have : setsE m = 0 := by unfold setsE; rw [if_neg (by simp [h]), if_neg (by simp [hn])]
  unfold setsV; rw [if_pos this]
set_option maxRecDepth 100000 in
set_option maxHeartbeats 8000000 in
theorem sets_any (m : Mou) (w : World) : Calls Try.prog 27 #[.agg #[.int .i64 m.rings, .int .i64 m.give, .int .i64 m.pl, .int .i64 m.ph, .int .i64 m.wl, .int .i64 m.wh, .int .i64 m.set, .int .i64 m.shrink, .int .i64 m.skin, .int .i64 m.fill, .int .i64 m.gap, .int .i64 m.deep]] w (RetSpE (setsV m).1 (setsV m).2 w) := by
  have C0 := Lib.hid ((Bs.nil w).push _ rfl (.cells #[.int .i64 m.rings, .int .i64 m.give, .int .i64 m.pl, .int .i64 m.ph, .int .i64 m.wl, .int .i64 m.wh, .int .i64 m.set, .int .i64 m.shrink, .int .i64 m.skin, .int .i64 m.fill, .int .i64 m.gap, .int .i64 m.deep] 25))
  by_cases h : checkE m = 0
  rotate_left
  · have HV := Lib.hid (setsV_bad h)
    have hc := fun w => open_bad m h w
    have HC := Lib.hid hc
    have hz : (checkE m != 0) = true := by simpa using h
    clear h hc
    generalize checkE m = E at *
    go_enter Try.func27, Try.ntmps27
    go_wp2_with fail
    refine (HC.out _).mono ?_
    rintro e w1 ⟨rfl, hbw⟩
    have C1 := Lib.hid (C0.out.call hbw)
    clear hbw C0
    unfold zero14
    go_wp2_with fail
    go_ret2
    rw [HV.out]
    exact ⟨_, rfl, OwnSpans.nil _ _, C1.out.bel.alloc C1.out.bel.size _⟩
  have HM := Lib.hid (valid_of_check h)
  obtain ⟨r, hr⟩ : ∃ r : Nat, m.rings = r := ⟨m.rings.toNat, by have := HM.out.r1; omega⟩
  have HR := Lib.hid hr
  have hr1 : 1 ≤ r := by have := HM.out.r1; omega
  have hr8 : r ≤ 8 := by have := HM.out.r8; omega
  have hc := fun w => open_good m h w
  have HC := Lib.hid hc
  have HL1 : Hid ((whenP m false).length = r) := by unfold Hid; rw [whenP_length, hr, Int.toNat_natCast]
  have HL2 : Hid ((whenP m true).length = r) := by unfold Hid; rw [whenP_length, hr, Int.toNat_natCast]
  have hmx := max_never (m := m) HM.out.r1 true
  rw [hr, Int.toNat_natCast] at hmx
  have HMX := Lib.hid hmx
  have H := Lib.hid h
  clear hmx hc h hr
  go_enter Try.func27, Try.ntmps27
  go_wp2_with fail
  refine (HC.out _).mono ?_
  rintro e w1 ⟨v1, v2, rfl, hf1, hf2, hbw⟩
  have C1 := Lib.hid (C0.out.call hbw)
  have HI1 := Lib.hid (hf1.ints (by rw [HL1.out]; omega))
  have HI2 := Lib.hid (hf2.ints (by rw [HL2.out]; omega))
  obtain ⟨g1, n1, e1, rfl, -, -⟩ := hf1
  obtain ⟨g2, n2, e2, rfl, -, -⟩ := hf2
  obtain rfl : n1 = r := e1.trans HL1.out
  obtain rfl : n2 = n1 := e2.trans HL2.out
  clear e1 e2
  have CB := Lib.hid ((Below.refl w1.heap.size w1).alloc (Nat.le_refl _) (.cells #[.int .i64 m.rings, .int .i64 m.give, .int .i64 m.pl, .int .i64 m.ph, .int .i64 m.wl, .int .i64 m.wh, .int .i64 m.set, .int .i64 m.shrink, .int .i64 m.skin, .int .i64 m.fill, .int .i64 m.gap, .int .i64 m.deep, .slice (some ⟨g1, 0, none⟩) n2 n2, .slice (some ⟨g2, 0, none⟩) n2 n2] 102))
  clear hbw C0
  go_wp2_with fail
  refine (max_any (whenP m true) _ _ _ (HI2.out.next CB.out) n2 HL2.out (by omega)).mono ?_
  rintro e w2 ⟨rfl, rfl⟩
  obtain ⟨mx, hmx⟩ : ∃ x, maxTo (whenP m true) n2 = x := ⟨_, rfl⟩
  rw [hmx] at HMX ⊢
  clear hmx
  have hbel := C1.out.bel
  have HBEL := Lib.hid (hbel.trans (CB.out.mono hbel.size))
  clear hbel
  by_cases hx : mx = 601
  · have HV := Lib.hid (setsV_never H.out (HMX.out.1 hx))
    have hz : (mx == 601) = true := by simpa using hx
    clear hx
    go_wp2_with fail
    go_ret2
    rw [HV.out]
    exact ⟨_, rfl, OwnSpans.nil _ _, HBEL.out⟩
  have hnv : neverB (endsL m true) = false := by
    cases hn : neverB (endsL m true) with
    | false => rfl
    | true => exact absurd (HMX.out.2 hn) hx
  have HV := Lib.hid (setsV_ok H.out hnv)
  have HW1 := Lib.hid (whenP_ok (never_cold HM.out hnv))
  have HW2 := Lib.hid (whenP_ok hnv)
  have hz : (mx == 601) = false := by simpa using hx
  clear hx hnv
  go_wp2_with fail
  refine (joined_any (whenP m false) (whenP m true) (by rw [HL1.out, HL2.out]) (by rw [HL1.out]; omega) _ _ _ (HI1.out.next CB.out) (HI2.out.next CB.out)).mono ?_
  rintro e w3 ⟨v, rfl, hos, hbw⟩
  have HOS := Lib.hid hos
  have HBW := Lib.hid hbw
  clear hos hbw
  go_wp2_with fail
  go_ret2
  rw [HV.out]
  have hw := HOS.out
  rw [HW1.out, HW2.out] at hw
  exact ⟨v, rfl, hw.mono HBEL.out.size, HBEL.out.trans (HBW.out.mono HBEL.out.size)⟩
def RetSkin (x : (Int × Int) × Int) (w : World) (e : Ending) (w' : World) : Prop := e = .returned (.tuple #[.agg #[.int .i64 x.1.1, .int .i64 x.1.2], .int .i64 x.2]) ∧ Below w.heap.size w w'
set_option maxRecDepth 100000 in
set_option maxHeartbeats 8000000 in
theorem skinM_any (m : Mou) (n : Int) (w : World) : Calls Try.prog 29 #[.agg #[.int .i64 m.rings, .int .i64 m.give, .int .i64 m.pl, .int .i64 m.ph, .int .i64 m.wl, .int .i64 m.wh, .int .i64 m.set, .int .i64 m.shrink, .int .i64 m.skin, .int .i64 m.fill, .int .i64 m.gap, .int .i64 m.deep], .int .i64 n] w (RetSkin (skinV m n) w) := by
  have C0 := Lib.hid (((Bs.nil w).push _ rfl (.cells #[.int .i64 m.rings, .int .i64 m.give, .int .i64 m.pl, .int .i64 m.ph, .int .i64 m.wl, .int .i64 m.wh, .int .i64 m.set, .int .i64 m.shrink, .int .i64 m.skin, .int .i64 m.fill, .int .i64 m.gap, .int .i64 m.deep] 25)).push (w.heap.size + 1) (by simp) (.cells #[.int .i64 0, .int .i64 0] 23))
  by_cases h : checkE m = 0
  rotate_left
  · have HV : Hid (skinV m n = ((0, 0), checkE m)) := by unfold Hid skinV; rw [if_pos h]
    have hc := fun w => open_bad m h w
    have HC := Lib.hid hc
    have hz : (checkE m != 0) = true := by simpa using h
    clear h hc
    generalize checkE m = E at *
    go_enter Try.func29, Try.ntmps29
    go_wp2_with fail
    refine (HC.out _).mono ?_
    rintro e w1 ⟨rfl, hbw⟩
    have C1 := Lib.hid ((C0.out.call hbw).alloc (.cells zero14 102))
    clear hbw C0
    unfold zero14
    go_wp2_with (refine wpList_store_bs rfl 23 _ _ rfl C1.out 1 _ _ _ _ rfl rfl rfl info23 rfl (by simp [Value.oneCell']) ?_; intro w2 hC2)
    rw [HV.out]
    refine bodyPost_ret (v := .tuple #[.agg #[.int .i64 0, .int .i64 0], .int .i64 E]) (results_ct (fn := Try.f29) rfl _ _ _ _ _ _ _ _ rfl rfl (hC2.get 1 rfl) Try.underlying23 rfl info23) rfl ⟨rfl, hC2.bel⟩
  have HM := Lib.hid (valid_of_check h)
  obtain ⟨r, hr⟩ : ∃ r : Nat, m.rings = r := ⟨m.rings.toNat, by have := HM.out.r1; omega⟩
  have HR := Lib.hid hr
  have hr1 : 1 ≤ r := by have := HM.out.r1; omega
  have hr8 : r ≤ 8 := by have := HM.out.r8; omega
  have hc := fun w => open_good m h w
  have HC := Lib.hid hc
  have HL1 : Hid ((whenP m false).length = r) := by unfold Hid; rw [whenP_length, hr, Int.toNat_natCast]
  have HL2 : Hid ((whenP m true).length = r) := by unfold Hid; rw [whenP_length, hr, Int.toNat_natCast]
  have H := Lib.hid h
  obtain ⟨b, hb⟩ : ∃ b, outB 0 600 [n] = b := ⟨_, rfl⟩
  have HB := Lib.hid hb
  clear hc h hr hb
  go_enter Try.func29, Try.ntmps29
  go_wp2_with fail
  refine (HC.out _).mono ?_
  rintro e w1 ⟨v1, v2, rfl, hf1, hf2, hbw⟩
  have C1 := Lib.hid (C0.out.call hbw)
  have HI1 := Lib.hid (hf1.ints (by rw [HL1.out]; omega))
  have HI2 := Lib.hid (hf2.ints (by rw [HL2.out]; omega))
  obtain ⟨g1, n1, e1, rfl, -, -⟩ := hf1
  obtain ⟨g2, n2, e2, rfl, -, -⟩ := hf2
  obtain rfl : n1 = r := e1.trans HL1.out
  obtain rfl : n2 = n1 := e2.trans HL2.out
  clear e1 e2
  have C2 := Lib.hid (C1.out.push w1.heap.size rfl (.cells #[.int .i64 m.rings, .int .i64 m.give, .int .i64 m.pl, .int .i64 m.ph, .int .i64 m.wl, .int .i64 m.wh, .int .i64 m.set, .int .i64 m.shrink, .int .i64 m.skin, .int .i64 m.fill, .int .i64 m.gap, .int .i64 m.deep, .slice (some ⟨g1, 0, none⟩) n2 n2, .slice (some ⟨g2, 0, none⟩) n2 n2] 102))
  have CB := Lib.hid ((Below.refl w1.heap.size w1).alloc (Nat.le_refl _) (.cells #[.int .i64 m.rings, .int .i64 m.give, .int .i64 m.pl, .int .i64 m.ph, .int .i64 m.wl, .int .i64 m.wh, .int .i64 m.set, .int .i64 m.shrink, .int .i64 m.skin, .int .i64 m.fill, .int .i64 m.gap, .int .i64 m.deep, .slice (some ⟨g1, 0, none⟩) n2 n2, .slice (some ⟨g2, 0, none⟩) n2 n2] 102))
  clear hbw C0
  go_wp2_with fail
  refine (out_r b 0 600 [n] HB.out _ _ (intsIn_new' (w1.alloc (.cells #[.int .i64 m.rings, .int .i64 m.give, .int .i64 m.pl, .int .i64 m.ph, .int .i64 m.wl, .int .i64 m.wh, .int .i64 m.set, .int .i64 m.shrink, .int .i64 m.skin, .int .i64 m.fill, .int .i64 m.gap, .int .i64 m.deep, .slice (some ⟨g1, 0, none⟩) n2 n2, .slice (some ⟨g2, 0, none⟩) n2 n2] 102)) (w1.heap.size + 1) (by simp) [n] (by simp) 1 rfl 1)).mono ?_
  rintro e w2 ⟨rfl, hbw⟩
  have hb2 : Below w1.heap.size w1 w2 := (CB.out.alloc (by simp) _).trans (hbw.mono (by simp; omega))
  have HB2 := Lib.hid hb2
  have C3 := Lib.hid ((C2.out.alloc _).call hbw)
  clear hbw hb2 C2 C1
  cases b
  rotate_left
  · have HV : Hid (skinV m n = ((0, 0), 7)) := by
      unfold Hid skinV
      have := HB.out
      rw [out_one] at this
      rw [if_neg (by simp [H.out]), if_pos (by simpa using this)]
    go_wp2_with (refine wpList_store_bs rfl 23 _ _ rfl C3.out 1 _ _ _ _ rfl rfl rfl info23 rfl (by simp [Value.oneCell']) ?_; intro w4 hC4)
    rw [HV.out]
    refine bodyPost_ret (v := .tuple #[.agg #[.int .i64 0, .int .i64 0], .int .i64 7]) (results_ct (fn := Try.f29) rfl _ _ _ _ _ _ _ _ rfl rfl (hC4.get 1 rfl) Try.underlying23 rfl info23) rfl ⟨rfl, hC4.bel⟩
  have hwn : within n 0 600 = true := by
    have := HB.out
    rw [out_one] at this
    simpa using this
  have hn6 := within_iff.1 hwn
  have HV : Hid (skinV m n = (((skinN (endsL m true) n : Int), (skinN (endsL m false) n : Int)), 0)) := by
    unfold Hid skinV
    rw [if_neg (by simp [H.out]), if_neg (by simp [hwn])]
  have HS1 := Lib.hid (skin_eq m false hn6.2)
  have HS2 := Lib.hid (skin_eq m true hn6.2)
  clear hwn hn6
  go_wp2_with fail
  refine wp_region_inv0 (by kernel_rfl) (by kernel_rfl) (fun D w' => Bs w ([] ++ [(w.heap.size, .cells #[.int .i64 m.rings, .int .i64 m.give, .int .i64 m.pl, .int .i64 m.ph, .int .i64 m.wl, .int .i64 m.wh, .int .i64 m.set, .int .i64 m.shrink, .int .i64 m.skin, .int .i64 m.fill, .int .i64 m.gap, .int .i64 m.deep] 25)] ++ [(w.heap.size + 1, .cells (if D 9 = true then #[.int .i64 (skinN (endsL m true) n : Int), .int .i64 (skinN (endsL m false) n : Int)] else #[.int .i64 0, .int .i64 0]) 23)] ++ [(w1.heap.size, .cells #[.int .i64 m.rings, .int .i64 m.give, .int .i64 m.pl, .int .i64 m.ph, .int .i64 m.wl, .int .i64 m.wh, .int .i64 m.set, .int .i64 m.shrink, .int .i64 m.skin, .int .i64 m.fill, .int .i64 m.gap, .int .i64 m.deep, .slice (some ⟨g1, 0, none⟩) n2 n2, .slice (some ⟨g2, 0, none⟩) n2 n2] 102)]) w' ∧ (D 9 = false → Below w1.heap.size w1 w')) ⟨C3.out.drew, fun _ => HB2.out.drew⟩ ?_
  iterate 3
    (apply obl_det
     case hrun =>
       intro D y wz hW hD R hR
       have HRR := Lib.hid hR
       clear hR
       have HW := Lib.hid hW
       have c2 := hW.1.cell 2 rfl
       clear hW hD
       go_wp2
       exact HRR.out _ HW.out
     case hnp => rfl
     case hv => first | exact ⟨_, fun _ => rfl⟩ | exact ⟨undef, fun _ => rfl⟩)
  apply obl_det
  case hrun =>
    intro D y wz hW hD R hR
    have HRR := Lib.hid hR
    clear hR
    have HW := Lib.hid hW
    have hd := hD.post _ 9 rfl (by kernel_rfl)
    have HBZ := Lib.hid (hW.2 hd)
    clear hW hD
    clear hd
    go_wp2_with fail
    refine (skin_any (whenP m true) n (by rw [HL2.out]; omega) _ _ (HI2.out.next HBZ.out)).mono ?_
    rintro e w' ⟨rfl, rfl⟩
    rw [HS2.out]
    go_wp2_with fail
    exact HRR.out _ HW.out
  case hnp => rfl
  case hv => first | exact ⟨_, fun _ => rfl⟩ | exact ⟨undef, fun _ => rfl⟩
  iterate 3
    (apply obl_det
     case hrun =>
       intro D y wz hW hD R hR
       have HRR := Lib.hid hR
       clear hR
       have HW := Lib.hid hW
       have c2 := hW.1.cell 2 rfl
       clear hW hD
       go_wp2
       exact HRR.out _ HW.out
     case hnp => rfl
     case hv => first | exact ⟨_, fun _ => rfl⟩ | exact ⟨undef, fun _ => rfl⟩)
  apply obl_det
  case hrun =>
    intro D y wz hW hD R hR
    have HRR := Lib.hid hR
    clear hR
    have HW := Lib.hid hW
    have hd := hD.post _ 9 rfl (by kernel_rfl)
    have HBZ := Lib.hid (hW.2 hd)
    clear hW hD
    clear hd
    go_wp2_with fail
    refine (skin_any (whenP m false) n (by rw [HL1.out]; omega) _ _ (HI1.out.next HBZ.out)).mono ?_
    rintro e w' ⟨rfl, rfl⟩
    rw [HS1.out]
    go_wp2_with fail
    exact HRR.out _ HW.out
  case hnp => rfl
  case hv => first | exact ⟨_, fun _ => rfl⟩ | exact ⟨undef, fun _ => rfl⟩
  apply obl_det
  case hrun =>
    intro D y wz hW hD R hR
    have HRR := Lib.hid hR
    clear hR
    have HW := Lib.hid hW
    have hd := hD.post _ 9 rfl (by kernel_rfl)
    have HD9 := Lib.hid hd
    have HBZ := Lib.hid (hW.2 hd)
    clear hW hD
    clear hd
    go_wp2_with fail
    refine (span_any _ _ _).mono ?_
    rintro e w' ⟨rfl, hbw⟩
    go_wp2_with fail
    exact HRR.out _ ⟨HW.out.1.call hbw, fun _ => HBZ.out.trans (hbw.mono HBZ.out.size)⟩
  case hnp => rfl
  case hv => first | exact ⟨_, fun _ => rfl⟩ | exact ⟨undef, fun _ => rfl⟩
  apply obl_det
  case hrun =>
    intro D y wz hW hD R hR
    have HRR := Lib.hid hR
    clear hR
    have hd9 : D 9 = false := hD.not
    have hB := hW.1
    rw [hd9, if_neg (by simp)] at hB
    have HBB := Lib.hid hB
    clear hB hd9
    have HW := Lib.hid hW
    have c2 := hW.1.cell 2 rfl
    clear hW hD
    refine wpList_store_bs rfl 23 _ _ rfl HBB.out 1 _ #[.int .i64 (skinN (endsL m true) n : Int), .int .i64 (skinN (endsL m false) n : Int)] _ _ rfl rfl rfl info23 rfl (by simp [Value.oneCell']) ?_
    intro w9 hC9
    have HC9 := Lib.hid hC9
    clear hC9
    go_wp2
    exact HRR.out _ ⟨HC9.out, fun h => (by cases h)⟩
  case hnp => rfl
  case hv => first | exact ⟨_, fun _ => rfl⟩ | exact ⟨undef, fun _ => rfl⟩
  apply obl_det
  case hrun =>
    intro D y wz hW hD R hR
    have HRR := Lib.hid hR
    clear hR
    have HW := Lib.hid hW
    have c2 := hW.1.cell 2 rfl
    clear hW hD
    go_wp2
    exact HRR.out _ HW.out
  case hnp => rfl
  case hv => first | exact ⟨_, fun _ => rfl⟩ | exact ⟨undef, fun _ => rfl⟩
  apply obl_nil
  intro D y w8 hall hW
  have h9 := hall 9 (by decide)
  have hB := hW.1
  rw [h9, if_pos rfl] at hB
  have HB9 := Lib.hid hB
  clear hW hB hall h9 D y
  go_wp2_with fail
  rw [HV.out]
  refine bodyPost_ret (v := .tuple #[.agg #[.int .i64 (skinN (endsL m true) n : Int), .int .i64 (skinN (endsL m false) n : Int)], .int .i64 0]) (results_ct (fn := Try.f29) rfl _ _ _ _ _ _ _ _ rfl rfl (HB9.out.get 1 rfl) Try.underlying23 rfl info23) rfl ⟨rfl, HB9.out.bel⟩
end Go.Proofs.Ytafdagjdpnaddaa
