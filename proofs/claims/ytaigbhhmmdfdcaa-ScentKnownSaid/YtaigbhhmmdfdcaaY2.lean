/- stearinref07: Spans, thing, grams. -/
import Derived.Test.YtaigbhhmmdfdcaaY1
namespace Go.Proofs.Ytaigbhhmmdfdcaa
open Go.RowKit
theorem spansE_snoc (m : Int) (l : List (Int × Int)) (p : Int × Int) : spansE m (l ++ [p]) = if spanE m p = 7 ∨ spansE m l = 0 then spanE m p else spansE m l := by
  unfold spansE spanE
  rw [List.any_append, List.any_append]
  cases h1 : l.any (fun p => outB 0 m [p.1, p.2]) <;> cases h2 : l.any (fun p => decide (p.2 < p.1)) <;> cases h3 : outB 0 m [p.1, p.2] <;> by_cases h4 : p.2 < p.1 <;> simp [h3, h4]
theorem take_snoc {α : Type} (l : List α) (k : Nat) (hk : k < l.length) (d : α) : l.take (k + 1) = l.take k ++ [l.getD k d] := by
  rw [List.take_add_one, List.getElem?_eq_getElem hk]
  simp [List.getD, hk]
set_option maxHeartbeats 4000000 in
/-- Spans -/
theorem spans_ref (l : List (Int × Int)) (m : Int) (v : Value) (w : World) (hv : SpansIn w.heap.size w v l) :
    Calls Try.prog 63 #[v, .int .i64 m] w fun e w' => e = .returned (.int .i64 (spansE m l)) ∧ Below w.heap.size w w' := by
  have HV := Lib.hid hv
  obtain ⟨a, c, rfl, -, hl⟩ := sl_shape hv
  have HE : Hid (∀ n, l.length = n → spansE m (l.take n) = spansE m l) := fun n hn => by subst hn; rw [List.take_length]
  have HS : Hid (∀ k, k < l.length → spansE m (l.take (k + 1)) = if spanE m (l.getD k default) = 7 ∨ spansE m (l.take k) = 0 then spanE m (l.getD k default) else spansE m (l.take k)) := fun k hk => by rw [take_snoc l k hk default, spansE_snoc]
  clear hv
  obtain ⟨n, hn⟩ : ∃ n, l.length = n := ⟨_, rfl⟩
  have HN := Lib.hid hn
  rw [hn] at HV hl HS ⊢
  clear hn
  go_enter Try.func63, Try.ntmps63
  go_wp2_with fail
  go_loopw [5, 6] (fun ev iv wr => ∃ k : Nat, ev = .int .i64 (spansE m (l.take k)) ∧ iv = .int .i64 k ∧ k ≤ n ∧ Below w.heap.size w wr) (fun _ iv _ => n - (intOf iv).toNat)
  case atStart => exact ⟨0, rfl, rfl, by omega, Below.refl _ _⟩
  case round =>
    obtain ⟨k, rfl, rfl, hk, hb⟩ := hrel
    have CB := Lib.hid hb
    clear hb
    by_cases hlt : k < n
    · obtain ⟨b, o, rfl, hbb, hc1, hc2⟩ := HV.out.at' (i := k) (by rw [HN.out]; exact hlt)
      have h1 := (CB.out.cell (p := ⟨b, o + k * 2, none⟩) hbb).trans hc1
      have h2 := (CB.out.cell (p := ⟨b, o + k * 2 + 1, none⟩) hbb).trans hc2
      have HS := Lib.hid (HS.out k hlt)
      have HX := fun w => Lib.hid (span_ref (l.getD k default) m w)
      clear hc1 hc2
      generalize spansE m (l.take k) = s at *
      generalize l.getD k default = p at *
      generalize spanE m p = E at *
      go_wp2_with fail
      refine (HX _).out.mono ?_
      rintro e w1 ⟨rfl, hb⟩
      have CB := Lib.hid (CB.out.trans (hb.mono CB.out.size))
      clear hb h1 h2
      by_cases h7 : E = 7
      · subst h7
        go_wp2_with fail
        refine ⟨⟨k + 1, by rw [HS.out]; simp, by push_cast; rfl, by omega, CB.out⟩, ?_⟩
        simp [intOf]; omega
      · have h7b : (E == 7) = false := by simpa using h7
        have H7 := Lib.hid h7
        clear h7
        by_cases h0 : s = 0
        · subst h0
          go_wp2_with fail
          refine ⟨⟨k + 1, by rw [HS.out]; simp, by push_cast; rfl, by omega, CB.out⟩, ?_⟩
          simp [intOf]; omega
        · have h0b : (s == 0) = false := by simpa using h0
          have H0 := Lib.hid h0
          clear h0
          go_wp2_with fail
          refine ⟨⟨k + 1, by rw [HS.out]; simp [H7.out, H0.out], by push_cast; rfl, by omega, CB.out⟩, ?_⟩
          simp [intOf]; omega
    · obtain rfl : n = k := by omega
      have HE := Lib.hid (HE.out _ HN.out)
      go_wp2_with fail
      go_ret
      exact ⟨ret_int HE.out, CB.out⟩
/-- A thing's error but its name. -/
def thingE2 (x : Thing) : Int := if outOne 0 2 x.kind then 2 else if outOne 0 1000000 x.limit || outOne 0 (weakM x) x.weak || outOne 0 (fadeM x) x.fade then 7 else 0
theorem thingE_two (bef : List Thing) (x : Thing) : thingE bef x = if namedE (bef.map (·.name)) x.name = 0 then thingE2 x else namedE (bef.map (·.name)) x.name := by
  unfold thingE namedE thingE2
  rw [List.any_map]
  cases h1 : nameB x.name
  · simp
  · cases h2 : (bef.any fun y => sameN x.name y.name)
    · simp [Function.comp_def, h2]
    · simp [Function.comp_def, h2]
theorem thingE2_plain (x : Thing) : thingE2 x = if inB x.kind 0 2 = false then 2 else if inB x.limit 0 1000000 = false ∨ inB x.weak 0 100 = false ∨ inB x.fade 0 1000 = false ∨ (0 < x.weak ∧ x.kind ≠ 0) ∨ (0 < x.fade ∧ x.kind ≠ 1) then 7 else 0 := by
  unfold thingE2
  simp only [inB_out]
  cases h0 : outOne 0 2 x.kind
  case true => simp
  have e : (outOne 0 1000000 x.limit || outOne 0 (weakM x) x.weak || outOne 0 (fadeM x) x.fade) = decide (((!outOne 0 1000000 x.limit) = false ∨ (!outOne 0 100 x.weak) = false ∨ (!outOne 0 1000 x.fade) = false ∨ (0 < x.weak ∧ x.kind ≠ 0) ∨ (0 < x.fade ∧ x.kind ≠ 1))) := by
    rw [Bool.eq_iff_iff]
    unfold outOne weakM fadeM
    simp only [Bool.or_eq_true, decide_eq_true_eq, Bool.not_eq_false', ne_eq]
    by_cases hk : x.kind = 0
    · rw [if_pos hk, if_neg (by omega)]
      omega
    · by_cases hk1 : x.kind = 1
      · rw [if_neg hk, if_pos hk1]
        omega
      · rw [if_neg hk, if_neg hk1]
        omega
  rw [e]
  simp
set_option maxHeartbeats 4000000 in
theorem thing_ref (x : Thing) (w : World) : Calls Try.prog 62 #[.agg #[.string x.name, .int .i64 x.kind, .int .i64 x.limit, .int .i64 x.weak, .int .i64 x.fade]] w
    fun e w' => e = .returned (.int .i64 (thingE2 x)) ∧ Below w.heap.size w w' := by
  have HE := Lib.hid (thingE2_plain x)
  obtain ⟨nm, kd, li, we, fa⟩ := x
  have C0 := Lib.hid ((Bs.nil w).push _ rfl (.cells #[.string nm, .int .i64 kd, .int .i64 li, .int .i64 we, .int .i64 fa] 62))
  generalize thingE2 ⟨nm, kd, li, we, fa⟩ = E at *
  simp only at HE ⊢
  obtain ⟨r0, hr0⟩ : ∃ r, inB kd 0 2 = r := ⟨_, rfl⟩
  obtain ⟨r1, hr1⟩ : ∃ r, inB li 0 1000000 = r := ⟨_, rfl⟩
  obtain ⟨r2, hr2⟩ : ∃ r, inB we 0 100 = r := ⟨_, rfl⟩
  obtain ⟨r3, hr3⟩ : ∃ r, inB fa 0 1000 = r := ⟨_, rfl⟩
  rw [hr0, hr1, hr2, hr3] at HE
  have HR0 := Lib.hid hr0
  have HR1 := Lib.hid hr1
  have HR2 := Lib.hid hr2
  have HR3 := Lib.hid hr3
  clear hr0 hr1 hr2 hr3
  go_enter Try.func62, Try.ntmps62
  go_wp2_with fail
  refine (in_r r0 _ _ _ _ HR0.out).mono ?_
  rintro e w' ⟨rfl, rfl⟩
  cases r0
  · go_wp2_with fail
    go_ret
    exact ⟨ret_int (by rw [HE.out]; simp), C0.out.bel⟩
  go_wp2_with fail
  refine (in_r r1 _ _ _ _ HR1.out).mono ?_
  rintro e w' ⟨rfl, rfl⟩
  cases r1
  · go_wp2_with fail
    go_ret
    exact ⟨ret_int (by rw [HE.out]; simp), C0.out.bel⟩
  go_wp2_with fail
  refine (in_r r2 _ _ _ _ HR2.out).mono ?_
  rintro e w' ⟨rfl, rfl⟩
  cases r2
  · go_wp2_with fail
    go_ret
    exact ⟨ret_int (by rw [HE.out]; simp), C0.out.bel⟩
  go_wp2_with fail
  refine (in_r r3 _ _ _ _ HR3.out).mono ?_
  rintro e w' ⟨rfl, rfl⟩
  cases r3
  · go_wp2_with fail
    go_ret
    exact ⟨ret_int (by rw [HE.out]; simp), C0.out.bel⟩
  by_cases hw : 0 < we <;> by_cases hk0 : kd = 0 <;> by_cases hf : 0 < fa <;> by_cases hk1 : kd = 1
  all_goals
    first
    | (exfalso; omega)
    | (first | (have h1 : (kd != 0) = true := by simpa using hk0) | (have h1 : (kd != 0) = false := by simpa using hk0)
       first | (have h2 : (kd != 1) = true := by simpa using hk1) | (have h2 : (kd != 1) = false := by simpa using hk1)
       have H := Lib.hid (And.intro hk0 hk1)
       clear hk0 hk1
       go_wp2_with fail
       all_goals
         go_ret
         exact ⟨ret_int (by rw [HE.out]; have := H.out; simp [hw, hf, this] <;> omega), C0.out.bel⟩)
set_option maxHeartbeats 2000000 in
theorem grams_ref (r : Bool) (l : List Int) (v : Value) (w : World) (hv : IntsIn .i64 w.heap.size w v l) (hr : outB 0 100000 l = r) :
    Calls Try.prog 102 #[v] w fun e w' => e = .returned (.bool (!r)) ∧ w = w' := by
  obtain ⟨a, c, rfl, hl, hv⟩ := hv
  have HV := Lib.hid hv
  have HR := Lib.hid hr
  have HD : Hid (∀ k, k < l.length → outB 0 100000 (l.drop k) = (!inB (l.getD k 0) 0 100000 || outB 0 100000 (l.drop (k + 1)))) := fun k hk => by rw [outB_cons 0 100000 l k hk, inB_out, Bool.not_not]
  clear hv hr
  obtain ⟨n, hn⟩ : ∃ n, l.length = n := ⟨_, rfl⟩
  have HN := Lib.hid hn
  rw [hn] at HV HD hl ⊢
  clear hn
  go_enter Try.func102, Try.ntmps102
  go_wp2_with fail
  go_loopw [3] (fun iv wr => ∃ k : Nat, iv = .int .i64 k ∧ k ≤ n ∧ outB 0 100000 (l.drop k) = r ∧ w = wr) (fun iv _ => n - (intOf iv).toNat)
  case atStart => exact ⟨0, rfl, by omega, HR.out, rfl⟩
  case round =>
    obtain ⟨k, rfl, hk, hq, rfl⟩ := hrel
    have HQ := Lib.hid hq
    clear hq
    by_cases hlt : k < n
    · obtain ⟨b, o, rfl, hbb, hc⟩ := HV.out.resolve_left (by intro h; have := HN.out; rw [h] at this; simp at this; omega)
      have h1 := hc k hlt
      have HD := Lib.hid (HD.out k hlt)
      generalize l.getD k 0 = x at *
      clear hc
      obtain ⟨r1, hr1⟩ : ∃ r, inB x 0 100000 = r := ⟨_, rfl⟩
      have HR1 := Lib.hid hr1
      clear hr1
      go_wp2_with fail
      refine (in_r r1 _ _ _ _ HR1.out).mono ?_
      rintro e w' ⟨rfl, rfl⟩
      have HQ := Lib.hid HQ.out
      cases r1
      · have e : r = true := by rw [← HQ.out, HD.out, HR1.out]; rfl
        subst e
        go_wp2_with fail
        go_ret
        exact ⟨rfl, rfl⟩
      · have HQ2 : Hid (outB 0 100000 (l.drop (k + 1)) = r) := by unfold Hid; rw [← HQ.out, HD.out, HR1.out]; rfl
        go_wp2_with fail
        refine ⟨⟨k + 1, by push_cast; rfl, by omega, HQ2.out, trivial⟩, ?_⟩
        simp [intOf]
        omega
    · obtain rfl : n = k := by omega
      have e : r = false := by rw [← HQ.out, List.drop_of_length_le (Nat.le_of_eq HN.out)]; rfl
      subst e
      go_wp2_with fail
      go_ret
      exact ⟨rfl, rfl⟩
end Go.Proofs.Ytaigbhhmmdfdcaa
