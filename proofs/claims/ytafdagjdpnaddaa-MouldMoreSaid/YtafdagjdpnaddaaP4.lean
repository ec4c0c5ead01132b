/- Plain: what the program keeps of when rings set, and what the reference does. -/
import Derived.Test.YtafdagjdpnaddaaW16
import Derived.Test.YtafdagjdpnaddaaW8
namespace Go.Proofs.Ytafdagjdpnaddaa
theorem endsL_eq (m : Mou) (hot : Bool) : endsL m hot = (List.range m.rings.toNat).map (setAtF m hot) := by
  unfold endsL whenL
  have hl : (sameP m hot).length = m.rings.toNat := by simp [sameP]
  have hw : (sameW m hot 600).length = 600 := List.length_replicate
  rw [hl, hw]
  apply List.map_congr_left
  intro i _
  unfold whenI setAtF
  refine firstTo_congr (fun k hk => ?_)
  unfold setsAt setP warmL sameW
  rw [List.take_replicate, Nat.min_eq_left (by omega)]
theorem endsL_length (m : Mou) (hot : Bool) : (endsL m hot).length = m.rings.toNat := by rw [endsL_eq]; simp
theorem endsL_getD (m : Mou) (hot : Bool) {i : Nat} (h : i < m.rings.toNat) : (endsL m hot).getD i 0 = setAtF m hot i := by rw [endsL_eq]; simp [List.getD, h]
theorem whenP_length (m : Mou) (hot : Bool) : (whenP m hot).length = m.rings.toNat := by simp [whenP]
theorem whenP_getD (m : Mou) (hot : Bool) {i : Nat} (h : i < m.rings.toNat) : (whenP m hot).getD i 0 = setAtE m hot i := by simp [whenP, List.getD, h]
theorem setAtF_bound (m : Mou) (hot : Bool) (i : Nat) : -1 ≤ setAtF m hot i ∧ setAtF m hot i ≤ 600 := by
  have := firstTo_bound (setP m hot i) 601
  unfold setAtF
  omega
theorem setAtE_eq (m : Mou) (hot : Bool) (i : Nat) : setAtE m hot i = if setAtF m hot i < 0 then 601 else setAtF m hot i := rfl
theorem setAtE_bound (m : Mou) (hot : Bool) (i : Nat) : 0 ≤ setAtE m hot i ∧ setAtE m hot i ≤ 601 := by
  have := setAtF_bound m hot i
  rw [setAtE_eq]
  split <;> omega
theorem never_iff (m : Mou) (hot : Bool) : neverB (endsL m hot) = true ↔ ∃ i, i < m.rings.toNat ∧ setAtF m hot i < 0 := by
  unfold neverB
  rw [endsL_eq, List.any_map]
  simp [List.any_eq_true, Function.comp]
theorem never_not {m : Mou} {hot : Bool} (h : neverB (endsL m hot) = false) {i : Nat} (hi : i < m.rings.toNat) : 0 ≤ setAtF m hot i := by
  rcases Int.lt_or_le (setAtF m hot i) 0 with h0 | h0
  · have := (never_iff m hot).2 ⟨i, hi, h0⟩
    rw [h] at this; cases this
  · exact h0
theorem whenP_ok {m : Mou} {hot : Bool} (h : neverB (endsL m hot) = false) : whenP m hot = endsL m hot := by
  rw [endsL_eq]
  unfold whenP
  apply List.map_congr_left
  intro i hi
  rw [setAtE_eq, if_neg (by have := never_not h (List.mem_range.1 hi); omega)]
theorem maxTo_601 {l : List Int} : ∀ {k : Nat}, 1 ≤ k → (∀ i, i < k → l.getD i 0 ≤ 601) → (maxTo l k = 601 ↔ ∃ i, i < k ∧ l.getD i 0 = 601) ∧ maxTo l k ≤ 601
  | 0, h, _ => by omega
  | k + 1, _, hb => by
    by_cases hk : k = 0
    · subst hk
      have := hb 0 (by omega)
      simp only [maxTo]
      refine ⟨⟨fun h => ⟨0, by omega, by omega⟩, fun ⟨i, hi, he⟩ => ?_⟩, by omega⟩
      obtain rfl : i = 0 := by omega
      omega
    · obtain ⟨h1, h2⟩ := maxTo_601 (l := l) (k := k) (by omega) (fun i hi => hb i (by omega))
      have h3 := hb k (by omega)
      simp only [maxTo]
      refine ⟨⟨fun h => ?_, fun ⟨i, hi, he⟩ => ?_⟩, by omega⟩
      · by_cases hm : maxTo l k = 601
        · obtain ⟨i, hi, he⟩ := h1.1 hm
          exact ⟨i, by omega, he⟩
        · exact ⟨k, by omega, by omega⟩
      · by_cases hik : i < k
        · have := h1.2 ⟨i, hik, he⟩
          omega
        · obtain rfl : i = k := by omega
          omega
theorem max_never {m : Mou} (h1 : 1 ≤ m.rings) (hot : Bool) : maxTo (whenP m hot) m.rings.toNat = 601 ↔ neverB (endsL m hot) = true := by
  rw [(maxTo_601 (l := whenP m hot) (k := m.rings.toNat) (by omega) (fun i hi => by rw [whenP_getD m hot hi]; exact (setAtE_bound m hot i).2)).1, never_iff]
  constructor
  · rintro ⟨i, hi, he⟩
    rw [whenP_getD m hot hi, setAtE_eq] at he
    refine ⟨i, hi, ?_⟩
    have := setAtF_bound m hot i
    by_cases h : setAtF m hot i < 0
    · exact h
    · rw [if_neg h] at he; omega
  · rintro ⟨i, hi, he⟩
    exact ⟨i, hi, by rw [whenP_getD m hot hi, setAtE_eq, if_pos he]⟩
theorem maxTo_range {m : Mou} (h1 : 1 ≤ m.rings) (hot : Bool) : maxTo (whenP m hot) m.rings.toNat ≤ 601 :=
  (maxTo_601 (l := whenP m hot) (k := m.rings.toNat) (by omega) (fun i hi => by rw [whenP_getD m hot hi]; exact (setAtE_bound m hot i).2)).2
theorem leTo_count (l : List Int) (n : Int) : ∀ k, k ≤ l.length → leTo l n k = (l.take k).countP (fun x => decide (x ≤ n))
  | 0, _ => by simp [leTo]
  | k + 1, h => by
    rw [List.take_succ_eq_append_getElem (by omega), List.countP_append, ← leTo_count l n k (by omega)]
    have e : l.getD k 0 = l[k] := by simp [List.getD, show k < l.length by omega]
    simp only [leTo, e, List.countP_cons, List.countP_nil, decide_eq_true_eq]
    omega
theorem skinP_count (l : List Int) (n : Int) : skinP l n = l.countP (fun x => decide (x ≤ n)) := by
  unfold skinP
  rw [leTo_count l n l.length (Nat.le_refl _), List.take_of_length_le (Nat.le_refl _)]
/-- The skin, as the program and as the reference count it. -/
theorem skin_eq (m : Mou) (hot : Bool) {n : Int} (h : n ≤ 600) : skinP (whenP m hot) n = skinN (endsL m hot) n := by
  rw [skinP_count, endsL_eq]
  unfold skinN whenP
  rw [List.countP_map, List.countP_map]
  apply List.countP_congr
  intro i _
  have := setAtF_bound m hot i
  simp only [Function.comp, skinB, Bool.and_eq_true, decide_eq_true_eq]
  rw [setAtE_eq]
  split <;> omega
theorem noLater_ends {m : Mou} (hm : Valid m) : NoLater (endsL m false) (endsL m true) := by
  refine whenL_mono hm ⟨by simp [sameP], fun i hi => ?_⟩ ⟨by unfold sameW; rw [List.length_replicate, List.length_replicate], fun i hi => ?_⟩
  · simp only [sameP, List.length_replicate] at hi
    simp only [sameP, List.getD_eq_getElem?_getD, List.getElem?_replicate, if_pos hi, Option.getD_some]
    exact hm.pp
  · simp only [sameW, List.length_replicate] at hi
    simp only [sameW, List.getD_eq_getElem?_getD, List.getElem?_replicate, if_pos hi, Option.getD_some]
    exact hm.ww
theorem never_cold {m : Mou} (hm : Valid m) (h : neverB (endsL m true) = false) : neverB (endsL m false) = false := by
  cases hc : neverB (endsL m false) with
  | false => rfl
  | true =>
    obtain ⟨i, hi, h0⟩ := (never_iff m false).1 hc
    have h1 := never_not h hi
    have h2 := ((noLater_ends hm).2 i (by rw [endsL_length]; exact hi)).2 (by rw [endsL_getD m true hi]; exact h1)
    rw [endsL_getD m false hi] at h2
    omega
end Go.Proofs.Ytafdagjdpnaddaa
