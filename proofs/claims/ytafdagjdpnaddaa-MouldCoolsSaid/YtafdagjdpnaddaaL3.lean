/- MouldCools: the walk. -/
import Derived.Test.YtafdagjdpnaddaaW40
import Derived.Test.YtafdagjdpnaddaaAW
namespace Go.Proofs.Ytafdagjdpnaddaa
open Go.RowKit
theorem warm_len (m : Mou) (n : Int) : (warmV m n).1.length ≤ 8 := by
  unfold warmV
  by_cases h : checkE m ≠ 0
  · rw [if_pos h]; simp
  rw [if_neg h]
  by_cases h2 : within n 0 600 = false
  · rw [if_pos h2]; simp
  rw [if_neg h2]
  have := (valid_of_check (by simpa using h : checkE m = 0)).r8
  simp only [List.length_zip, warmL, runL_length, sameP, List.length_replicate]
  omega
theorem cool_len (m : Mou) (p ws : List Int) : (coolV m p ws).1.length ≤ 8 := by
  unfold coolV
  by_cases h : checkE m ≠ 0
  · rw [if_pos h]; simp
  rw [if_neg h]
  by_cases h2 : truthE m p ws ≠ 0
  · rw [if_pos h2]; simp
  rw [if_neg h2]
  have h1 := (truth_fits (by simpa using h2 : truthE m p ws = 0)).1
  have := (valid_of_check (by simpa using h : checkE m = 0)).r8
  simp only [runL_length]
  omega
set_option maxRecDepth 100000 in
set_option maxHeartbeats 16000000 in
theorem cools_law (m : Mou) (pv wv : Value) (p ws : List Int) (n : Int) (w : World) (hp : IntsIn .i64 w.heap.size w pv p) (hw : IntsIn .i64 w.heap.size w wv ws) : Calls Try.prog 3 #[.agg #[.int .i64 m.rings, .int .i64 m.give, .int .i64 m.pl, .int .i64 m.ph, .int .i64 m.wl, .int .i64 m.wh, .int .i64 m.set, .int .i64 m.shrink, .int .i64 m.skin, .int .i64 m.fill, .int .i64 m.gap, .int .i64 m.deep], .agg #[pv, wv], .int .i64 n] w (fun e w' => e = .returned (.bool true) ∧ Below w.heap.size w w') := by
  have C0 : Hid (Bs w [(w.heap.size, .cells #[.int .i64 m.rings, .int .i64 m.give, .int .i64 m.pl, .int .i64 m.ph, .int .i64 m.wl, .int .i64 m.wh, .int .i64 m.set, .int .i64 m.shrink, .int .i64 m.skin, .int .i64 m.fill, .int .i64 m.gap, .int .i64 m.deep] 25), (w.heap.size + 1, .cells #[pv, wv] 28)] _) := ((Bs.nil w).push _ rfl (.cells #[.int .i64 m.rings, .int .i64 m.give, .int .i64 m.pl, .int .i64 m.ph, .int .i64 m.wl, .int .i64 m.wh, .int .i64 m.set, .int .i64 m.shrink, .int .i64 m.skin, .int .i64 m.fill, .int .i64 m.gap, .int .i64 m.deep] 25)).push (w.heap.size + 1) (by simp) (.cells #[pv, wv] 28)
  have HP := Lib.hid hp
  have HW0 := Lib.hid hw
  clear hp hw
  have H0 := fun w => Lib.hid (check_any m w)
  have H0' := fun w => Lib.hid (checkR_any m w)
  have H1 := fun w h1 h2 => Lib.hid (cool_any m pv wv p ws w h1 h2)
  have H2 := fun w h1 h2 => Lib.hid (cool_ref m pv wv p ws w h1 h2)
  have H3 := fun w => Lib.hid (warm_any m n w)
  have H4 := fun w => Lib.hid (warm_ref m n w)
  have HL := Lib.hid (warm_len m n)
  have HL2 := Lib.hid (cool_len m p ws)
  generalize warmV m n = S at *
  generalize coolV m p ws = K at *
  obtain ⟨sl, se⟩ := S
  obtain ⟨kl, ke⟩ := K
  generalize checkE m = E at *
  have hq : (se == se) = true := by simp
  have hq2 : (ke != ke) = false := by simp
  have hq3 : (E != E) = false := by simp
  go_enter Try.func3, Try.ntmps3
  go_wp2_with fail
  refine wp_region_inv0 (by kernel_rfl) (by kernel_rfl) (fun _ w' => Bs w [(w.heap.size, .cells #[.int .i64 m.rings, .int .i64 m.give, .int .i64 m.pl, .int .i64 m.ph, .int .i64 m.wl, .int .i64 m.wh, .int .i64 m.set, .int .i64 m.shrink, .int .i64 m.skin, .int .i64 m.fill, .int .i64 m.gap, .int .i64 m.deep] 25), (w.heap.size + 1, .cells #[pv, wv] 28)] w') C0.out.drew ?_
  apply obl_det
  case hrun =>
    intro D y wz hW hD R hR
    have HRR := Lib.hid hR
    clear hR
    have HW := Lib.hid hW
    clear hW hD
    refine wpList_load_want rfl 25 _ rfl _ rfl _ _ _ _ (HW.out.get 0 rfl) Try.underlying25 rfl info25 ?_
    go_simp
    exact HRR.out _ HW.out
  case hnp => rfl
  case hv => first | exact ⟨_, fun _ => rfl⟩ | exact ⟨undef, fun _ => rfl⟩
  apply obl_det
  case hrun =>
    intro D y wz hW hD R hR
    have HRR := Lib.hid hR
    clear hR
    have HW := Lib.hid hW
    clear hW hD
    go_wp2_with fail
    refine ((H0 _).out).mono ?_
    rintro e w' ⟨rfl, hb⟩
    have HW2 := Lib.hid (HW.out.call hb)
    clear hb
    go_wp2_with fail
    exact HRR.out _ HW2.out
  case hnp => rfl
  case hv => first | exact ⟨_, fun _ => rfl⟩ | exact ⟨undef, fun _ => rfl⟩
  apply obl_det
  case hrun =>
    intro D y wz hW hD R hR
    have HRR := Lib.hid hR
    clear hR
    have HW := Lib.hid hW
    clear hW hD
    refine wpList_load_want rfl 25 _ rfl _ rfl _ _ _ _ (HW.out.get 0 rfl) Try.underlying25 rfl info25 ?_
    go_simp
    exact HRR.out _ HW.out
  case hnp => rfl
  case hv => first | exact ⟨_, fun _ => rfl⟩ | exact ⟨undef, fun _ => rfl⟩
  apply obl_det
  case hrun =>
    intro D y wz hW hD R hR
    have HRR := Lib.hid hR
    clear hR
    have HW := Lib.hid hW
    clear hW hD
    go_wp2_with fail
    refine ((H0' _).out).mono ?_
    rintro e w' ⟨rfl, hb⟩
    have HW2 := Lib.hid (HW.out.call hb)
    clear hb
    go_wp2_with fail
    exact HRR.out _ HW2.out
  case hnp => rfl
  case hv => first | exact ⟨_, fun _ => rfl⟩ | exact ⟨undef, fun _ => rfl⟩
  apply obl_det
  case hrun =>
    intro D y wz hW hD R hR
    have HRR := Lib.hid hR
    clear hR
    have HW := Lib.hid hW
    clear hW hD
    go_wp2
    exact HRR.out _ HW.out
  case hnp => rfl
  case hv => first | exact ⟨_, fun _ => rfl⟩ | exact ⟨undef, fun _ => rfl⟩
  apply obl_nil
  intro D y w8 hall hW
  clear hall

  have C1 := Lib.hid hW
  clear hW C0
  rename_i w8
  go_wp2_with (first | refine wpList_load_bs rfl 25 _ rfl C1.out 0 w.heap.size #[.int .i64 m.rings, .int .i64 m.give, .int .i64 m.pl, .int .i64 m.ph, .int .i64 m.wl, .int .i64 m.wh, .int .i64 m.set, .int .i64 m.shrink, .int .i64 m.skin, .int .i64 m.fill, .int .i64 m.gap, .int .i64 m.deep] 25 rfl rfl _ Try.underlying25 rfl info25 ?_ | refine wpList_load_bs rfl 28 _ rfl C1.out 1 (w.heap.size + 1) #[pv, wv] 28 rfl rfl _ Try.underlying28 rfl info28 ?_)
  refine (H1 _ ((HP.out.below C1.out.bel).mono C1.out.bel.size) ((HW0.out.below C1.out.bel).mono C1.out.bel.size)).out.mono ?_
  rintro e w1 ⟨v1, rfl, ho, hb⟩
  have HS1 := Lib.hid (ho.ints (by have := HL2.out; omega))
  have C2 := Lib.hid (C1.out.call hb)
  clear ho hb C1
  go_wp2_with (first | refine wpList_load_bs rfl 25 _ rfl C2.out 0 w.heap.size #[.int .i64 m.rings, .int .i64 m.give, .int .i64 m.pl, .int .i64 m.ph, .int .i64 m.wl, .int .i64 m.wh, .int .i64 m.set, .int .i64 m.shrink, .int .i64 m.skin, .int .i64 m.fill, .int .i64 m.gap, .int .i64 m.deep] 25 rfl rfl _ Try.underlying25 rfl info25 ?_ | refine wpList_load_bs rfl 28 _ rfl C2.out 1 (w.heap.size + 1) #[pv, wv] 28 rfl rfl _ Try.underlying28 rfl info28 ?_)
  refine (H2 _ ((HP.out.below C2.out.bel).mono C2.out.bel.size) ((HW0.out.below C2.out.bel).mono C2.out.bel.size)).out.mono ?_
  rintro e w2 ⟨v2, rfl, hi2, hb⟩
  have HS2 := Lib.hid hi2
  have HS1 := Lib.hid (HS1.out.next hb)
  have C3 := Lib.hid (C2.out.call hb)
  clear hi2 hb C2
  go_wp2_with fail
  refine (ints_same kl v1 v2 w2 HS1.out HS2.out).mono ?_
  rintro e w3 ⟨rfl, hb⟩
  have C4 := Lib.hid (C3.out.call hb)
  clear hb C3 HS1 HS2
  go_wp2_with (refine wpList_load_bs rfl 25 _ rfl C4.out 0 w.heap.size #[.int .i64 m.rings, .int .i64 m.give, .int .i64 m.pl, .int .i64 m.ph, .int .i64 m.wl, .int .i64 m.wh, .int .i64 m.set, .int .i64 m.shrink, .int .i64 m.skin, .int .i64 m.fill, .int .i64 m.gap, .int .i64 m.deep] 25 rfl rfl _ Try.underlying25 rfl info25 ?_)
  refine (H3 _).out.mono ?_
  rintro e w4 ⟨v3, rfl, ho, hb⟩
  have HS1 := Lib.hid (ho.spans (by have := HL.out; omega))
  have C5 := Lib.hid (C4.out.call hb)
  clear ho hb C4
  go_wp2_with (refine wpList_load_bs rfl 25 _ rfl C5.out 0 w.heap.size #[.int .i64 m.rings, .int .i64 m.give, .int .i64 m.pl, .int .i64 m.ph, .int .i64 m.wl, .int .i64 m.wh, .int .i64 m.set, .int .i64 m.shrink, .int .i64 m.skin, .int .i64 m.fill, .int .i64 m.gap, .int .i64 m.deep] 25 rfl rfl _ Try.underlying25 rfl info25 ?_)
  refine (H4 _).out.mono ?_
  rintro e w5 ⟨v4, rfl, ho, hb⟩
  have HS2 := Lib.hid (ho.spans (by have := HL.out; omega))
  have HS1 := Lib.hid (HS1.out.next hb)
  have C6 := Lib.hid (C5.out.call hb)
  clear ho hb C5
  go_wp2_with fail
  refine (spans_same sl v3 v4 w5 HS1.out HS2.out).mono ?_
  rintro e w6 ⟨rfl, hb⟩
  have C7 := Lib.hid (C6.out.call hb)
  clear hb C6 HS1 HS2
  go_wp2_with fail
  refine (awake_any _).mono ?_
  rintro e w14 ⟨rfl, hb⟩
  have HBel := Lib.hid (C7.out.call hb).bel
  clear hb C7
  go_wp2
  go_ret
  exact ⟨rfl, HBel.out⟩
end Go.Proofs.Ytafdagjdpnaddaa
