/- The reference's check of a season. -/
import Derived.Test.YtddapabmfecidaaW9
namespace Go.Proofs.Ytddapabmfecidaa
open Go.RowKit

set_option maxRecDepth 100000 in
set_option maxHeartbeats 8000000 in
/-- stearinref10.Check -/
theorem refCheck_any (s : Sea) (vs : Value) (w : World) (hv : StosIn w.heap.size w vs s.stores) :
    Calls Try.prog 43 #[.agg #[.int .i64 s.bend, .int .i64 s.days, .int .i64 s.jump, .int .i64 s.times, .int .i64 s.move, vs]] w
      fun e w' => e = .returned (.tuple #[.int .i64 (checkV s).1, .int .i64 (checkV s).2.1, .int .i64 (checkV s).2.2]) ∧ Below w.heap.size w w' := by
  obtain ⟨be, d, jm, t, mv, l⟩ := s
  simp only at hv
  have HV := Lib.hid hv
  obtain ⟨a, c, rfl, hl, hlc, -⟩ := hv
  obtain ⟨r1, hr1⟩ : ∃ r, inB be 0 60 = r := ⟨_, rfl⟩
  obtain ⟨r2, hr2⟩ : ∃ r, inB jm 0 60 = r := ⟨_, rfl⟩
  obtain ⟨r3, hr3⟩ : ∃ r, inB d 1 8 = r := ⟨_, rfl⟩
  obtain ⟨r4, hr4⟩ : ∃ r, inB t 1 8 = r := ⟨_, rfl⟩
  obtain ⟨r5, hr5⟩ : ∃ r, inB mv 0 100000 = r := ⟨_, rfl⟩
  obtain ⟨r6, hr6⟩ : ∃ r, inB (l.length : Int) 1 3 = r := ⟨_, rfl⟩
  have HE : Hid (checkV ⟨be, d, jm, t, mv, l⟩ = if !r1 || (!r2 || (!r3 || (!r4 || !r5))) then (1, 0, 7) else if !r6 then (2, 0, 3) else if (stosE l).2 = 0 then (0, 0, 0) else (2, (stosE l).1, (stosE l).2)) := by
    unfold Hid checkV headE; rw [← hr1, ← hr2, ← hr3, ← hr4, ← hr5, ← hr6]; simp only [inB_out, Bool.not_not, outB, List.any_cons, List.any_nil, Bool.or_false, Bool.or_assoc]
  have HR1 := Lib.hid hr1
  have HR2 := Lib.hid hr2
  have HR3 := Lib.hid hr3
  have HR4 := Lib.hid hr4
  have HR5 := Lib.hid hr5
  have HR6 := Lib.hid hr6
  clear hr1 hr2 hr3 hr4 hr5 hr6
  simp only
  have C0 : Hid (CW w ((w.alloc (.cells #[.int .i64 be, .int .i64 d, .int .i64 jm, .int .i64 t, .int .i64 mv, .slice a l.length c] 31)).alloc (.cells #[.int .i64 be, .int .i64 d, .int .i64 jm, .int .i64 t] 28)) #[.int .i64 be, .int .i64 d, .int .i64 jm, .int .i64 t, .int .i64 mv, .slice a l.length c] #[.int .i64 be, .int .i64 d, .int .i64 jm, .int .i64 t]) := CW.mk2 w _ _
  cases r1
  · go_enter Try.func43, Try.ntmps43
    go_wp2_with fail
    refine (in_r _ _ _ _ _ HR1.out).mono ?_
    rintro e w' ⟨rfl, rfl⟩
    go_wp2_with fail
    go_ret3
    exact ⟨by rw [HE.out]; rfl, C0.out.bel⟩
  · skip
    cases r2
    · go_enter Try.func43, Try.ntmps43
      go_wp2_with fail
      refine (in_r _ _ _ _ _ HR1.out).mono ?_
      rintro e w' ⟨rfl, rfl⟩
      go_wp2_with fail
      refine (in_r _ _ _ _ _ HR2.out).mono ?_
      rintro e w' ⟨rfl, rfl⟩
      go_wp2_with fail
      go_ret3
      exact ⟨by rw [HE.out]; rfl, C0.out.bel⟩
    · skip
      cases r3
      · go_enter Try.func43, Try.ntmps43
        go_wp2_with fail
        refine (in_r _ _ _ _ _ HR1.out).mono ?_
        rintro e w' ⟨rfl, rfl⟩
        go_wp2_with fail
        refine (in_r _ _ _ _ _ HR2.out).mono ?_
        rintro e w' ⟨rfl, rfl⟩
        go_wp2_with fail
        refine (in_r _ _ _ _ _ HR3.out).mono ?_
        rintro e w' ⟨rfl, rfl⟩
        go_wp2_with fail
        go_ret3
        exact ⟨by rw [HE.out]; rfl, C0.out.bel⟩
      · skip
        cases r4
        · go_enter Try.func43, Try.ntmps43
          go_wp2_with fail
          refine (in_r _ _ _ _ _ HR1.out).mono ?_
          rintro e w' ⟨rfl, rfl⟩
          go_wp2_with fail
          refine (in_r _ _ _ _ _ HR2.out).mono ?_
          rintro e w' ⟨rfl, rfl⟩
          go_wp2_with fail
          refine (in_r _ _ _ _ _ HR3.out).mono ?_
          rintro e w' ⟨rfl, rfl⟩
          go_wp2_with fail
          refine (in_r _ _ _ _ _ HR4.out).mono ?_
          rintro e w' ⟨rfl, rfl⟩
          go_wp2_with fail
          go_ret3
          exact ⟨by rw [HE.out]; rfl, C0.out.bel⟩
        · skip
          cases r5
          · go_enter Try.func43, Try.ntmps43
            go_wp2_with fail
            refine (in_r _ _ _ _ _ HR1.out).mono ?_
            rintro e w' ⟨rfl, rfl⟩
            go_wp2_with fail
            refine (in_r _ _ _ _ _ HR2.out).mono ?_
            rintro e w' ⟨rfl, rfl⟩
            go_wp2_with fail
            refine (in_r _ _ _ _ _ HR3.out).mono ?_
            rintro e w' ⟨rfl, rfl⟩
            go_wp2_with fail
            refine (in_r _ _ _ _ _ HR4.out).mono ?_
            rintro e w' ⟨rfl, rfl⟩
            go_wp2_with fail
            refine (in_r _ _ _ _ _ HR5.out).mono ?_
            rintro e w' ⟨rfl, rfl⟩
            go_wp2_with fail
            go_ret3
            exact ⟨by rw [HE.out]; rfl, C0.out.bel⟩
          · skip
            cases r6
            · go_enter Try.func43, Try.ntmps43
              go_wp2_with fail
              refine (in_r _ _ _ _ _ HR1.out).mono ?_
              rintro e w' ⟨rfl, rfl⟩
              go_wp2_with fail
              refine (in_r _ _ _ _ _ HR2.out).mono ?_
              rintro e w' ⟨rfl, rfl⟩
              go_wp2_with fail
              refine (in_r _ _ _ _ _ HR3.out).mono ?_
              rintro e w' ⟨rfl, rfl⟩
              go_wp2_with fail
              refine (in_r _ _ _ _ _ HR4.out).mono ?_
              rintro e w' ⟨rfl, rfl⟩
              go_wp2_with fail
              refine (in_r _ _ _ _ _ HR5.out).mono ?_
              rintro e w' ⟨rfl, rfl⟩
              go_wp2_with fail
              refine (in_r _ _ _ _ _ HR6.out).mono ?_
              rintro e w' ⟨rfl, rfl⟩
              go_wp2_with fail
              go_ret3
              exact ⟨by rw [HE.out]; rfl, C0.out.bel⟩
            · go_enter Try.func43, Try.ntmps43
              go_wp2_with fail
              refine (in_r _ _ _ _ _ HR1.out).mono ?_
              rintro e w' ⟨rfl, rfl⟩
              go_wp2_with fail
              refine (in_r _ _ _ _ _ HR2.out).mono ?_
              rintro e w' ⟨rfl, rfl⟩
              go_wp2_with fail
              refine (in_r _ _ _ _ _ HR3.out).mono ?_
              rintro e w' ⟨rfl, rfl⟩
              go_wp2_with fail
              refine (in_r _ _ _ _ _ HR4.out).mono ?_
              rintro e w' ⟨rfl, rfl⟩
              go_wp2_with fail
              refine (in_r _ _ _ _ _ HR5.out).mono ?_
              rintro e w' ⟨rfl, rfl⟩
              go_wp2_with fail
              refine (in_r _ _ _ _ _ HR6.out).mono ?_
              rintro e w' ⟨rfl, rfl⟩
              go_wp2_with fail
              go_loopw [6] (fun i wr => ∃ k : Nat, k ≤ l.length ∧ i = .int .i64 k ∧ CW w wr #[.int .i64 be, .int .i64 d, .int .i64 jm, .int .i64 t, .int .i64 mv, .slice a l.length c] #[.int .i64 be, .int .i64 d, .int .i64 jm, .int .i64 t] ∧ stosE l = findE (((List.range l.length).map (stoE l)).drop k) k) (fun i _ => l.length - (intOf i).toNat)
              case atStart => exact ⟨0, by omega, rfl, C0.out, rfl⟩
              case round =>
                obtain ⟨k, hk, rfl, hc, hf⟩ := hrel
                have HF := Lib.hid hf
                have HC := Lib.hid hc
                have cs := fun i => cell_of_row wr _ i _ _ _ hc.b0
                clear hf hc
                by_cases hlt : k < l.length
                · have HD := Lib.hid (stos_drop l k hlt k)
                  obtain ⟨e, he⟩ : ∃ e, stoE l k = e := ⟨_, rfl⟩
                  rw [he] at HD
                  have HEE := Lib.hid he
                  clear he
                  by_cases hz : e = 0
                  · subst hz
                    go_wp2_with fail
                    refine (refStore_any l _ k be d jm t mv _ ((HV.out.below HC.out.bel).mono HC.out.bel.size) hlt).mono ?_
                    rw [HEE.out]
                    rintro e w' ⟨rfl, hbw⟩
                    go_wp2_with fail
                    go_roundw
                    case rel => exact ⟨k + 1, by omega, by go_num, HC.out.call hbw, by rw [HF.out, HD.out]; rfl⟩
                    case measure => simp [intOf]; omega
                  · have hz1 : (e != 0) = true := by simpa using hz
                    have hz2 : (e == 0) = false := by simpa using hz
                    have HZ := Lib.hid hz
                    clear hz
                    go_wp2_with fail
                    refine (refStore_any l _ k be d jm t mv _ ((HV.out.below HC.out.bel).mono HC.out.bel.size) hlt).mono ?_
                    rw [HEE.out]
                    rintro e w' ⟨rfl, hbw⟩
                    go_wp2_with fail
                    go_ret3
                    exact ⟨by rw [HE.out, HF.out, HD.out]; simp only [if_neg HZ.out]; rfl, (HC.out.call hbw).bel⟩
                · have : k = l.length := by omega
                  subst this
                  have HZ : Hid (stosE l = (0, 0)) := by unfold Hid; rw [HF.out, List.drop_of_length_le (by simp)]; rfl
                  go_wp2_with fail
                  go_ret3
                  exact ⟨by rw [HE.out, HZ.out]; rfl, HC.out.bel⟩
end Go.Proofs.Ytddapabmfecidaa
