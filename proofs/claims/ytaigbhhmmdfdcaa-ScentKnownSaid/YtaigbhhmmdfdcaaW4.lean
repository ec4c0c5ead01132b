/- scent.thing. -/
import Derived.Test.YtaigbhhmmdfdcaaW3
namespace Go.Proofs.Ytaigbhhmmdfdcaa
open Go.RowKit
set_option maxRecDepth 100000 in
set_option maxHeartbeats 8000000 in
/-- scent.thing -/
theorem thing_any (l : List Thing) (i : Nat) (hi : i < l.length) (v : Value) (w : World) (hv : ThingsIn w.heap.size w v l) :
    Calls Try.prog 53 #[v, .int .i64 i] w fun e w' => e = .returned (.int .i64 (thingE (l.take i) (l.getD i default))) ∧ Below w.heap.size w w' := by
  obtain ⟨b, o, c, rfl, hlc, hbB, hc1, hc2, hc3, hc4, hc5, hsz⟩ := hv.at hi
  have HL := Lib.hid hv.len
  have HT := Lib.hid (hv.take i (by omega))
  have HE : Hid (thingE (l.take i) (l.getD i default) = if nameB (l.getD i default).name = false then 6 else if (l.take i).any (fun y => sameN (l.getD i default).name y.name) then 5 else if outOne 0 2 (l.getD i default).kind then 2
    else if outOne 0 1000000 (l.getD i default).limit || outOne 0 (weakM (l.getD i default)) (l.getD i default).weak || outOne 0 (fadeM (l.getD i default)) (l.getD i default).fade then 7 else 0) := rfl
  generalize thingE (l.take i) (l.getD i default) = E at *
  generalize l.getD i default = x at *
  generalize l.take i = t at *
  generalize l.length = n at *
  clear hv
  obtain ⟨nm, kd, lm, wk, fd⟩ := x
  simp only [rdThing] at hc1 hc2 hc3 hc4 hc5 hsz
  simp only at HE
  have HN := fun w => Lib.hid (name_any nm w hsz)
  obtain ⟨r1, hr1⟩ : ∃ r, nameB nm = r := ⟨_, rfl⟩
  obtain ⟨r2, hr2⟩ : ∃ r, t.any (fun y => sameN nm y.name) = r := ⟨_, rfl⟩
  obtain ⟨r4, hr4⟩ : ∃ r, outOne 0 1000000 lm = r := ⟨_, rfl⟩
  rw [hr1, hr2, hr4] at HE
  simp only [hr1] at HN
  have HR2 := Lib.hid hr2
  have HR4 := Lib.hid hr4
  clear hr1 hr2 hr4
  by_cases hk0 : kd = 0
  · subst hk0
    have e1 : weakM ⟨nm, 0, lm, wk, fd⟩ = 100 := rfl
    have e2 : fadeM ⟨nm, 0, lm, wk, fd⟩ = 0 := rfl
    rw [e1, e2] at HE
    clear e1 e2
    have C0 := Lib.hid ((Bs.nil w).push _ rfl (.cells #[.string nm, .int .i64 (0), .int .i64 lm, .int .i64 wk, .int .i64 fd] 62))
    have hcN := C0.out.cell 0 rfl 0
    obtain ⟨r3, hr3⟩ : ∃ r, outOne 0 2 (0) = r := ⟨_, rfl⟩
    obtain ⟨r5, hr5⟩ : ∃ r, outOne 0 (100) wk = r := ⟨_, rfl⟩
    obtain ⟨r6, hr6⟩ : ∃ r, outOne 0 (0) fd = r := ⟨_, rfl⟩
    rw [hr3, hr5, hr6] at HE
    have HR3 := Lib.hid hr3
    have HR5 := Lib.hid hr5
    have HR6 := Lib.hid hr6
    clear hr3 hr5 hr6
    have HH := Lib.hid hbB
    clear hbB
    go_enter Try.func53, Try.ntmps53
    go_wp2_with fail
    refine (HN _).out.mono ?_
    rintro e w1 ⟨rfl, hb1⟩
    have C1 := Lib.hid (C0.out.call hb1)
    clear hb1 hcN hc1 hc2 hc3 hc4 hc5
    cases r1
    · go_wp2_with fail
      go_ret
      exact ⟨ret_int (by rw [HE.out]; rfl), C1.out.bel⟩
    have HS := Lib.hid (C1.out.lt 0 rfl)
    go_wp2_with fail
    refine (hasThing_any (some ⟨w.heap.size, 0, none⟩) r2 t (fun y => sameN nm y.name) _ w1 ((HT.out.below C1.out.bel).mono C1.out.bel.size) (fun k W _ hW => same88 _ _ nm W ((hW.cell (p := ⟨w.heap.size, 0, none⟩) HS.out).trans (C1.out.cell 0 rfl 0)) (Nat.lt_of_lt_of_le HS.out hW.size) _ rfl) HR2.out).mono ?_
    rintro e w2 ⟨rfl, hb1⟩
    have C2 := Lib.hid (C1.out.call hb1)
    clear hb1 C1 HS
    cases r2
    case true =>
      go_wp2_with fail
      go_ret
      exact ⟨ret_int (by rw [HE.out]; rfl), C2.out.bel⟩
    have hcK := C2.out.cell 0 rfl 1
    have C2A := Lib.hid (C2.out.push _ rfl (.cells #[.int .i64 (0)] 3))
    go_wp2_with fail
    refine (out_one r3 0 2 _ HR3.out _ _ (C2A.out.get 1 rfl)).mono ?_
    rintro e w3 ⟨rfl, hb1⟩
    have C3 := Lib.hid ((C2A.out.call hb1).sub [(w.heap.size, .cells #[.string nm, .int .i64 (0), .int .i64 lm, .int .i64 wk, .int .i64 fd] 62)] (by simp))
    clear hb1 C2 C2A hcK
    cases r3
    case true =>
      go_wp2_with fail
      go_ret
      exact ⟨ret_int (by rw [HE.out]; rfl), C3.out.bel⟩
    have hcL := C3.out.cell 0 rfl 2
    have C3A := Lib.hid (C3.out.push _ rfl (.cells #[.int .i64 lm] 3))
    go_wp2_with fail
    refine (out_one r4 0 1000000 _ HR4.out _ _ (C3A.out.get 1 rfl)).mono ?_
    rintro e w4 ⟨rfl, hb1⟩
    have C4 := Lib.hid ((C3A.out.call hb1).sub [(w.heap.size, .cells #[.string nm, .int .i64 (0), .int .i64 lm, .int .i64 wk, .int .i64 fd] 62)] (by simp))
    clear hb1 C3 C3A hcL
    cases r4
    case true =>
      go_wp2_with fail
      go_ret
      exact ⟨ret_int (by rw [HE.out]; rfl), C4.out.bel⟩
    have hcW := C4.out.cell 0 rfl 3
    have C4A := Lib.hid (C4.out.push _ rfl (.cells #[.int .i64 wk] 3))
    go_wp2_with fail
    refine (out_one r5 0 (100) _ HR5.out _ _ (C4A.out.get 1 rfl)).mono ?_
    rintro e w5 ⟨rfl, hb1⟩
    have C5 := Lib.hid ((C4A.out.call hb1).sub [(w.heap.size, .cells #[.string nm, .int .i64 (0), .int .i64 lm, .int .i64 wk, .int .i64 fd] 62)] (by simp))
    clear hb1 C4 C4A hcW
    cases r5
    case true =>
      go_wp2_with fail
      go_ret
      exact ⟨ret_int (by rw [HE.out]; rfl), C5.out.bel⟩
    have hcF := C5.out.cell 0 rfl 4
    have C5A := Lib.hid (C5.out.push _ rfl (.cells #[.int .i64 fd] 3))
    go_wp2_with fail
    refine (out_one r6 0 (0) _ HR6.out _ _ (C5A.out.get 1 rfl)).mono ?_
    rintro e w6 ⟨rfl, hb1⟩
    have C6 := Lib.hid (C5A.out.call hb1)
    clear hb1 C5 C5A hcF
    cases r6
    all_goals
      go_wp2_with fail
      go_ret
      exact ⟨ret_int (by rw [HE.out]; rfl), C6.out.bel⟩
  by_cases hk1 : kd = 1
  · subst hk1
    have e1 : weakM ⟨nm, 1, lm, wk, fd⟩ = 0 := rfl
    have e2 : fadeM ⟨nm, 1, lm, wk, fd⟩ = 1000 := rfl
    rw [e1, e2] at HE
    clear e1 e2 hk0
    have C0 := Lib.hid ((Bs.nil w).push _ rfl (.cells #[.string nm, .int .i64 (1), .int .i64 lm, .int .i64 wk, .int .i64 fd] 62))
    have hcN := C0.out.cell 0 rfl 0
    obtain ⟨r3, hr3⟩ : ∃ r, outOne 0 2 (1) = r := ⟨_, rfl⟩
    obtain ⟨r5, hr5⟩ : ∃ r, outOne 0 (0) wk = r := ⟨_, rfl⟩
    obtain ⟨r6, hr6⟩ : ∃ r, outOne 0 (1000) fd = r := ⟨_, rfl⟩
    rw [hr3, hr5, hr6] at HE
    have HR3 := Lib.hid hr3
    have HR5 := Lib.hid hr5
    have HR6 := Lib.hid hr6
    clear hr3 hr5 hr6
    have HH := Lib.hid hbB
    clear hbB
    go_enter Try.func53, Try.ntmps53
    go_wp2_with fail
    refine (HN _).out.mono ?_
    rintro e w1 ⟨rfl, hb1⟩
    have C1 := Lib.hid (C0.out.call hb1)
    clear hb1 hcN hc1 hc2 hc3 hc4 hc5
    cases r1
    · go_wp2_with fail
      go_ret
      exact ⟨ret_int (by rw [HE.out]; rfl), C1.out.bel⟩
    have HS := Lib.hid (C1.out.lt 0 rfl)
    go_wp2_with fail
    refine (hasThing_any (some ⟨w.heap.size, 0, none⟩) r2 t (fun y => sameN nm y.name) _ w1 ((HT.out.below C1.out.bel).mono C1.out.bel.size) (fun k W _ hW => same88 _ _ nm W ((hW.cell (p := ⟨w.heap.size, 0, none⟩) HS.out).trans (C1.out.cell 0 rfl 0)) (Nat.lt_of_lt_of_le HS.out hW.size) _ rfl) HR2.out).mono ?_
    rintro e w2 ⟨rfl, hb1⟩
    have C2 := Lib.hid (C1.out.call hb1)
    clear hb1 C1 HS
    cases r2
    case true =>
      go_wp2_with fail
      go_ret
      exact ⟨ret_int (by rw [HE.out]; rfl), C2.out.bel⟩
    have hcK := C2.out.cell 0 rfl 1
    have C2A := Lib.hid (C2.out.push _ rfl (.cells #[.int .i64 (1)] 3))
    go_wp2_with fail
    refine (out_one r3 0 2 _ HR3.out _ _ (C2A.out.get 1 rfl)).mono ?_
    rintro e w3 ⟨rfl, hb1⟩
    have C3 := Lib.hid ((C2A.out.call hb1).sub [(w.heap.size, .cells #[.string nm, .int .i64 (1), .int .i64 lm, .int .i64 wk, .int .i64 fd] 62)] (by simp))
    clear hb1 C2 C2A hcK
    cases r3
    case true =>
      go_wp2_with fail
      go_ret
      exact ⟨ret_int (by rw [HE.out]; rfl), C3.out.bel⟩
    have hcL := C3.out.cell 0 rfl 2
    have C3A := Lib.hid (C3.out.push _ rfl (.cells #[.int .i64 lm] 3))
    go_wp2_with fail
    refine (out_one r4 0 1000000 _ HR4.out _ _ (C3A.out.get 1 rfl)).mono ?_
    rintro e w4 ⟨rfl, hb1⟩
    have C4 := Lib.hid ((C3A.out.call hb1).sub [(w.heap.size, .cells #[.string nm, .int .i64 (1), .int .i64 lm, .int .i64 wk, .int .i64 fd] 62)] (by simp))
    clear hb1 C3 C3A hcL
    cases r4
    case true =>
      go_wp2_with fail
      go_ret
      exact ⟨ret_int (by rw [HE.out]; rfl), C4.out.bel⟩
    have hcW := C4.out.cell 0 rfl 3
    have C4A := Lib.hid (C4.out.push _ rfl (.cells #[.int .i64 wk] 3))
    go_wp2_with fail
    refine (out_one r5 0 (0) _ HR5.out _ _ (C4A.out.get 1 rfl)).mono ?_
    rintro e w5 ⟨rfl, hb1⟩
    have C5 := Lib.hid ((C4A.out.call hb1).sub [(w.heap.size, .cells #[.string nm, .int .i64 (1), .int .i64 lm, .int .i64 wk, .int .i64 fd] 62)] (by simp))
    clear hb1 C4 C4A hcW
    cases r5
    case true =>
      go_wp2_with fail
      go_ret
      exact ⟨ret_int (by rw [HE.out]; rfl), C5.out.bel⟩
    have hcF := C5.out.cell 0 rfl 4
    have C5A := Lib.hid (C5.out.push _ rfl (.cells #[.int .i64 fd] 3))
    go_wp2_with fail
    refine (out_one r6 0 (1000) _ HR6.out _ _ (C5A.out.get 1 rfl)).mono ?_
    rintro e w6 ⟨rfl, hb1⟩
    have C6 := Lib.hid (C5A.out.call hb1)
    clear hb1 C5 C5A hcF
    cases r6
    all_goals
      go_wp2_with fail
      go_ret
      exact ⟨ret_int (by rw [HE.out]; rfl), C6.out.bel⟩
  have e1 : weakM ⟨nm, kd, lm, wk, fd⟩ = 0 := by simp [weakM, hk0]
  have e2 : fadeM ⟨nm, kd, lm, wk, fd⟩ = 0 := by simp [fadeM, hk1]
  rw [e1, e2] at HE
  clear e1 e2
  have hq0 : (kd == 0) = false := by simpa using hk0
  have hq1 : (kd == 1) = false := by simpa using hk1
  clear hk0 hk1
  have C0 := Lib.hid ((Bs.nil w).push _ rfl (.cells #[.string nm, .int .i64 (kd), .int .i64 lm, .int .i64 wk, .int .i64 fd] 62))
  have hcN := C0.out.cell 0 rfl 0
  obtain ⟨r3, hr3⟩ : ∃ r, outOne 0 2 (kd) = r := ⟨_, rfl⟩
  obtain ⟨r5, hr5⟩ : ∃ r, outOne 0 (0) wk = r := ⟨_, rfl⟩
  obtain ⟨r6, hr6⟩ : ∃ r, outOne 0 (0) fd = r := ⟨_, rfl⟩
  rw [hr3, hr5, hr6] at HE
  have HR3 := Lib.hid hr3
  have HR5 := Lib.hid hr5
  have HR6 := Lib.hid hr6
  clear hr3 hr5 hr6
  have HH := Lib.hid hbB
  clear hbB
  go_enter Try.func53, Try.ntmps53
  go_wp2_with fail
  refine (HN _).out.mono ?_
  rintro e w1 ⟨rfl, hb1⟩
  have C1 := Lib.hid (C0.out.call hb1)
  clear hb1 hcN hc1 hc2 hc3 hc4 hc5
  cases r1
  · go_wp2_with fail
    go_ret
    exact ⟨ret_int (by rw [HE.out]; rfl), C1.out.bel⟩
  have HS := Lib.hid (C1.out.lt 0 rfl)
  go_wp2_with fail
  refine (hasThing_any (some ⟨w.heap.size, 0, none⟩) r2 t (fun y => sameN nm y.name) _ w1 ((HT.out.below C1.out.bel).mono C1.out.bel.size) (fun k W _ hW => same88 _ _ nm W ((hW.cell (p := ⟨w.heap.size, 0, none⟩) HS.out).trans (C1.out.cell 0 rfl 0)) (Nat.lt_of_lt_of_le HS.out hW.size) _ rfl) HR2.out).mono ?_
  rintro e w2 ⟨rfl, hb1⟩
  have C2 := Lib.hid (C1.out.call hb1)
  clear hb1 C1 HS
  cases r2
  case true =>
    go_wp2_with fail
    go_ret
    exact ⟨ret_int (by rw [HE.out]; rfl), C2.out.bel⟩
  have hcK := C2.out.cell 0 rfl 1
  have C2A := Lib.hid (C2.out.push _ rfl (.cells #[.int .i64 (kd)] 3))
  go_wp2_with fail
  refine (out_one r3 0 2 _ HR3.out _ _ (C2A.out.get 1 rfl)).mono ?_
  rintro e w3 ⟨rfl, hb1⟩
  have C3 := Lib.hid ((C2A.out.call hb1).sub [(w.heap.size, .cells #[.string nm, .int .i64 (kd), .int .i64 lm, .int .i64 wk, .int .i64 fd] 62)] (by simp))
  clear hb1 C2 C2A hcK
  cases r3
  case true =>
    go_wp2_with fail
    go_ret
    exact ⟨ret_int (by rw [HE.out]; rfl), C3.out.bel⟩
  have hcL := C3.out.cell 0 rfl 2
  have C3A := Lib.hid (C3.out.push _ rfl (.cells #[.int .i64 lm] 3))
  go_wp2_with fail
  refine (out_one r4 0 1000000 _ HR4.out _ _ (C3A.out.get 1 rfl)).mono ?_
  rintro e w4 ⟨rfl, hb1⟩
  have C4 := Lib.hid ((C3A.out.call hb1).sub [(w.heap.size, .cells #[.string nm, .int .i64 (kd), .int .i64 lm, .int .i64 wk, .int .i64 fd] 62)] (by simp))
  clear hb1 C3 C3A hcL
  cases r4
  case true =>
    go_wp2_with fail
    go_ret
    exact ⟨ret_int (by rw [HE.out]; rfl), C4.out.bel⟩
  have hcW := C4.out.cell 0 rfl 3
  have C4A := Lib.hid (C4.out.push _ rfl (.cells #[.int .i64 wk] 3))
  go_wp2_with fail
  refine (out_one r5 0 (0) _ HR5.out _ _ (C4A.out.get 1 rfl)).mono ?_
  rintro e w5 ⟨rfl, hb1⟩
  have C5 := Lib.hid ((C4A.out.call hb1).sub [(w.heap.size, .cells #[.string nm, .int .i64 (kd), .int .i64 lm, .int .i64 wk, .int .i64 fd] 62)] (by simp))
  clear hb1 C4 C4A hcW
  cases r5
  case true =>
    go_wp2_with fail
    go_ret
    exact ⟨ret_int (by rw [HE.out]; rfl), C5.out.bel⟩
  have hcF := C5.out.cell 0 rfl 4
  have C5A := Lib.hid (C5.out.push _ rfl (.cells #[.int .i64 fd] 3))
  go_wp2_with fail
  refine (out_one r6 0 (0) _ HR6.out _ _ (C5A.out.get 1 rfl)).mono ?_
  rintro e w6 ⟨rfl, hb1⟩
  have C6 := Lib.hid (C5A.out.call hb1)
  clear hb1 C5 C5A hcF
  cases r6
  all_goals
    go_wp2_with fail
    go_ret
    exact ⟨ret_int (by rw [HE.out]; rfl), C6.out.bel⟩
end Go.Proofs.Ytaigbhhmmdfdcaa
