/- MouldSkin: the walk. -/
import Derived.Test.YtafdagjdpnaddaaAW
namespace Go.Proofs.Ytafdagjdpnaddaa
open Go.RowKit
set_option maxRecDepth 100000 in
set_option maxHeartbeats 8000000 in
theorem skin_law (m : Mou) (y : Int) (h0 : 0 ≤ y) (h6 : y ≤ 65535) (w : World) : Calls Try.prog 17 #[.agg #[.int .i64 m.rings, .int .i64 m.give, .int .i64 m.pl, .int .i64 m.ph, .int .i64 m.wl, .int .i64 m.wh, .int .i64 m.set, .int .i64 m.shrink, .int .i64 m.skin, .int .i64 m.fill, .int .i64 m.gap, .int .i64 m.deep], .int .u16 y] w (fun e w' => e = .returned (.bool true) ∧ Below w.heap.size w w') := by
  have C0 := Lib.hid ((Bs.nil w).push _ rfl (.cells #[.int .i64 m.rings, .int .i64 m.give, .int .i64 m.pl, .int .i64 m.ph, .int .i64 m.wl, .int .i64 m.wh, .int .i64 m.set, .int .i64 m.shrink, .int .i64 m.skin, .int .i64 m.fill, .int .i64 m.gap, .int .i64 m.deep] 25))
  have hn0 : 0 ≤ y % 600 := by omega
  have hn6 : y % 600 ≤ 599 := by omega
  by_cases h : checkE m = 0
  rotate_left
  · have hv : ∀ n, skinV m n = ((0, 0), checkE m) := fun n => by unfold skinV; rw [if_pos h]
    have HS : ∀ n w, Hid (Calls Try.prog 29 #[.agg #[.int .i64 m.rings, .int .i64 m.give, .int .i64 m.pl, .int .i64 m.ph, .int .i64 m.wl, .int .i64 m.wh, .int .i64 m.set, .int .i64 m.shrink, .int .i64 m.skin, .int .i64 m.fill, .int .i64 m.gap, .int .i64 m.deep], .int .i64 n] w (RetSkin ((0, 0), checkE m) w)) := fun n w => by
      have := skinM_any m n w
      rw [hv] at this
      exact this
    have HC : ∀ w, Hid (Calls Try.prog 19 #[.agg #[.int .i64 m.rings, .int .i64 m.give, .int .i64 m.pl, .int .i64 m.ph, .int .i64 m.wl, .int .i64 m.wh, .int .i64 m.set, .int .i64 m.shrink, .int .i64 m.skin, .int .i64 m.fill, .int .i64 m.gap, .int .i64 m.deep]] w fun e w' => e = .returned (.int .i64 (checkE m)) ∧ Below w.heap.size w w') := checkR_any m
    have hz : (checkE m != 0) = true := by simpa using h
    clear h hv
    generalize checkE m = E at *
    go_enter Try.func17, Try.ntmps17
    go_wp2_with fail
    refine (HS _ _).out.mono ?_
    rintro e w1 ⟨rfl, hb⟩
    have C1 := Lib.hid ((C0.out.call hb).push w1.heap.size rfl (.cells #[.int .i64 0, .int .i64 0] 23))
    clear hb C0
    go_wp2_with (refine wpList_load_bs rfl 25 _ rfl C1.out 0 _ _ _ rfl rfl _ Try.underlying25 rfl info25 ?_)
    refine (HS _ _).out.mono ?_
    rintro e w2 ⟨rfl, hb⟩
    have C2 := Lib.hid ((C1.out.call hb).push w2.heap.size rfl (.cells #[.int .i64 0, .int .i64 0] 23))
    clear hb C1
    go_wp2_with (refine wpList_load_bs rfl 25 _ rfl C2.out 0 _ _ _ rfl rfl _ Try.underlying25 rfl info25 ?_)
    refine (HC _).out.mono ?_
    rintro e w3 ⟨rfl, hb⟩
    have C3 := Lib.hid (C2.out.call hb)
    clear hb C2
    go_wp2_with fail
    refine wp_region_inv0 (by kernel_rfl) (by kernel_rfl) (fun _ w' => Bs w ([(w.heap.size, .cells #[.int .i64 m.rings, .int .i64 m.give, .int .i64 m.pl, .int .i64 m.ph, .int .i64 m.wl, .int .i64 m.wh, .int .i64 m.set, .int .i64 m.shrink, .int .i64 m.skin, .int .i64 m.fill, .int .i64 m.gap, .int .i64 m.deep] 25)] ++ [(w1.heap.size, .cells #[.int .i64 0, .int .i64 0] 23)] ++ [(w2.heap.size, .cells #[.int .i64 0, .int .i64 0] 23)]) w') C3.out.drew ?_
    iterate 8
      (apply obl_det
       case hrun =>
        intro D y wz hW hD R hR
        have HRR := Lib.hid hR
        clear hR
        have HW := Lib.hid hW
        clear hW hD
        go_wp2
        exact HRR.out _ HW.out
       case hnp => rfl
       case hv => first | exact ⟨_, fun _ => rfl⟩ | exact ⟨undef, fun _ => rfl⟩)
    apply obl_det
    case hrun =>
      intro D y wz hW hD R hR
      have HRR := Lib.hid hR
      clear hR
      have HW := Lib.hid hW
      clear hW hD
      refine wpList_load_want rfl 23 _ rfl _ rfl _ _ _ _ (HW.out.get 1 rfl) Try.underlying23 rfl info23 ?_
      go_simp
      exact HRR.out _ HW.out
    case hnp => rfl
    case hv => first | exact ⟨_, fun _ => rfl⟩ | exact ⟨undef, fun _ => rfl⟩
    apply obl_det
    case hrun =>
      intro D y wz hW hD R hR
      have HRR := Lib.hid hR
      clear hR
      have HW := Lib.hid hW
      clear hW hD
      go_wp2_with fail
      refine (span36 0 0 _).mono ?_
      rintro e w' ⟨rfl, hb⟩
      have HW2 := Lib.hid (HW.out.call hb)
      clear hb
      go_wp2_with fail
      exact HRR.out _ HW2.out
    case hnp => rfl
    case hv => first | exact ⟨_, fun _ => rfl⟩ | exact ⟨undef, fun _ => rfl⟩
    iterate 3
      (apply obl_det
       case hrun =>
        intro D y wz hW hD R hR
        have HRR := Lib.hid hR
        clear hR
        have HW := Lib.hid hW
        clear hW hD
        go_wp2
        exact HRR.out _ HW.out
       case hnp => rfl
       case hv => first | exact ⟨_, fun _ => rfl⟩ | exact ⟨undef, fun _ => rfl⟩)
    apply obl_det
    case hrun =>
      intro D y wz hW hD R hR
      have HRR := Lib.hid hR
      clear hR
      have HW := Lib.hid hW
      clear hW hD
      go_wp2_with fail
      refine (awake_any _).mono ?_
      rintro e w' ⟨rfl, hb⟩
      have HW2 := Lib.hid (HW.out.call hb)
      clear hb
      go_wp2_with fail
      exact HRR.out _ HW2.out
    case hnp => rfl
    case hv => first | exact ⟨_, fun _ => rfl⟩ | exact ⟨undef, fun _ => rfl⟩
    iterate 2
      (apply obl_det
       case hrun =>
        intro D y wz hW hD R hR
        have HRR := Lib.hid hR
        clear hR
        have HW := Lib.hid hW
        clear hW hD
        go_wp2
        exact HRR.out _ HW.out
       case hnp => rfl
       case hv => first | exact ⟨_, fun _ => rfl⟩ | exact ⟨undef, fun _ => rfl⟩)
    apply obl_nil
    intro D y w8 hall hW
    have HBel := Lib.hid hW.bel
    clear hW hall
    go_wp2
    go_ret
    exact ⟨rfl, HBel.out⟩
  have HM := Lib.hid (valid_of_check h)
  have hv : ∀ n : Int, 0 ≤ n → n ≤ 600 → skinV m n = ((((skinN (endsL m true) n : Nat) : Int), ((skinN (endsL m false) n : Nat) : Int)), 0) := fun n h1 h2 => by
    unfold skinV
    rw [if_neg (by simp [h]), if_neg (by simp [within]; omega)]
  have HS : ∀ n w, 0 ≤ n → n ≤ 600 → Hid (Calls Try.prog 29 #[.agg #[.int .i64 m.rings, .int .i64 m.give, .int .i64 m.pl, .int .i64 m.ph, .int .i64 m.wl, .int .i64 m.wh, .int .i64 m.set, .int .i64 m.shrink, .int .i64 m.skin, .int .i64 m.fill, .int .i64 m.gap, .int .i64 m.deep], .int .i64 n] w (RetSkin ((((skinN (endsL m true) n : Nat) : Int), ((skinN (endsL m false) n : Nat) : Int)), 0) w)) := fun n w h1 h2 => by
    have := skinM_any m n w
    rw [hv n h1 h2] at this
    exact this
  have HC : ∀ w, Hid (Calls Try.prog 19 #[.agg #[.int .i64 m.rings, .int .i64 m.give, .int .i64 m.pl, .int .i64 m.ph, .int .i64 m.wl, .int .i64 m.wh, .int .i64 m.set, .int .i64 m.shrink, .int .i64 m.skin, .int .i64 m.fill, .int .i64 m.gap, .int .i64 m.deep]] w fun e w' => e = .returned (.int .i64 0) ∧ Below w.heap.size w w') := fun w => by
    have := checkR_any m w
    rw [h] at this
    exact this
  obtain ⟨a, ha⟩ : ∃ a : Int, ((skinN (endsL m true) (y % 600) : Nat) : Int) = a := ⟨_, rfl⟩
  obtain ⟨b, hb⟩ : ∃ a : Int, ((skinN (endsL m false) (y % 600) : Nat) : Int) = a := ⟨_, rfl⟩
  obtain ⟨c, hc⟩ : ∃ a : Int, ((skinN (endsL m true) (y % 600 + 1) : Nat) : Int) = a := ⟨_, rfl⟩
  obtain ⟨d, hd⟩ : ∃ a : Int, ((skinN (endsL m false) (y % 600 + 1) : Nat) : Int) = a := ⟨_, rfl⟩
  have hac : a ≤ c := by have := skin_grows (when := endsL m true) (show y % 600 ≤ y % 600 + 1 by omega); omega
  have hbd : b ≤ d := by have := skin_grows (when := endsL m false) (show y % 600 ≤ y % 600 + 1 by omega); omega
  have hab : a ≤ b := by have := skin_mono (noLater_ends HM.out) (y % 600); omega
  have ha0 : 0 ≤ a := by omega
  have hdr : d ≤ m.rings := by
    have := skin_le (endsL m false) (y % 600 + 1)
    rw [endsL_length] at this
    have := HM.out.r1
    omega
  have H1 : ∀ w, Hid (Calls Try.prog 29 #[.agg #[.int .i64 m.rings, .int .i64 m.give, .int .i64 m.pl, .int .i64 m.ph, .int .i64 m.wl, .int .i64 m.wh, .int .i64 m.set, .int .i64 m.shrink, .int .i64 m.skin, .int .i64 m.fill, .int .i64 m.gap, .int .i64 m.deep], .int .i64 (y % 600)] w (RetSkin ((a, b), 0) w)) := fun w => by
    have := (HS (y % 600) w (by omega) (by omega)).out
    rw [ha, hb] at this
    exact this
  have H2 : ∀ w, Hid (Calls Try.prog 29 #[.agg #[.int .i64 m.rings, .int .i64 m.give, .int .i64 m.pl, .int .i64 m.ph, .int .i64 m.wl, .int .i64 m.wh, .int .i64 m.set, .int .i64 m.shrink, .int .i64 m.skin, .int .i64 m.fill, .int .i64 m.gap, .int .i64 m.deep], .int .i64 (y % 600 + 1)] w (RetSkin ((c, d), 0) w)) := fun w => by
    have := (HS (y % 600 + 1) w (by omega) (by omega)).out
    rw [hc, hd] at this
    exact this
  clear ha hb hc hd HS hv h
  go_enter Try.func17, Try.ntmps17
  go_wp2_with fail
  refine (H1 _).out.mono ?_
  rintro e w1 ⟨rfl, hb⟩
  have C1 := Lib.hid ((C0.out.call hb).push w1.heap.size rfl (.cells #[.int .i64 a, .int .i64 b] 23))
  clear hb C0
  go_wp2_with (refine wpList_load_bs rfl 25 _ rfl C1.out 0 _ _ _ rfl rfl _ Try.underlying25 rfl info25 ?_)
  refine (H2 _).out.mono ?_
  rintro e w2 ⟨rfl, hb⟩
  have C2 := Lib.hid ((C1.out.call hb).push w2.heap.size rfl (.cells #[.int .i64 c, .int .i64 d] 23))
  clear hb C1
  go_wp2_with (refine wpList_load_bs rfl 25 _ rfl C2.out 0 _ _ _ rfl rfl _ Try.underlying25 rfl info25 ?_)
  refine (HC _).out.mono ?_
  rintro e w3 ⟨rfl, hb⟩
  have C3 := Lib.hid (C2.out.call hb)
  clear hb C2
  have c0 := C3.out.cell 0 rfl
  have c1 := C3.out.cell 1 rfl
  have c2 := C3.out.cell 2 rfl
  go_wp2_with fail
  refine (awake_any _).mono ?_
  rintro e w4 ⟨rfl, hb⟩
  have HBel := Lib.hid (C3.out.call hb).bel
  clear hb C3 c0 c1 c2
  go_wp2
  go_ret
  exact ⟨rfl, HBel.out⟩
end Go.Proofs.Ytafdagjdpnaddaa
