/- Made, plainly. -/
import Derived.Test.YtaigbhhmmdfdcaaW23
namespace Go.Proofs.Ytaigbhhmmdfdcaa
open Go.RowKit
/-- The micrograms while Made adds: what is added, the lots, what comes back; and whether a number is wrong. -/
def mL (s : Shop) (b : Bat) (x : Tru) : Nat → List Int
  | 0 => addTo 1000 x.added (List.replicate s.things.length 0) s.things.length
  | i + 1 => addTo (b.grams.getD i 0) (x.lots.getD i []) (mL s b x i) s.things.length
def bL (s : Shop) (b : Bat) (x : Tru) : Nat → Bool
  | 0 => false || badTo (fun t => b.added.getD t (0, 0)) x.added s.things.length
  | i + 1 => bL s b x i || badTo (fun t => (s.lots.getD i default).parts.getD t (0, 0)) (x.lots.getD i []) s.things.length
def mB (s : Shop) (b : Bat) (x : Tru) : Nat → List Int
  | 0 => mL s b x s.lots.length
  | i + 1 => addTo (b.back.getD i 0) (x.back.getD i []) (mB s b x i) s.things.length
def bB (s : Shop) (l : List Bat) (b : Bat) (x : Tru) : Nat → Bool
  | 0 => bL s b x s.lots.length
  | i + 1 => bB s l b x i || badTo (parV s l i) (x.back.getD i []) s.things.length
theorem mL_length (s : Shop) (b : Bat) (x : Tru) : ∀ i, (mL s b x i).length = s.things.length
  | 0 => by simp [mL, addTo_length]
  | i + 1 => by simp [mL, addTo_length, mL_length s b x i]
theorem mB_length (s : Shop) (b : Bat) (x : Tru) : ∀ i, (mB s b x i).length = s.things.length
  | 0 => mL_length s b x _
  | i + 1 => by simp [mB, addTo_length, mB_length s b x i]
theorem w64 (n : Int) (h : -9223372036854775808 ≤ n ∧ n ≤ 9223372036854775807) : wrap64 n = n := by unfold wrap64; omega
theorem addTo_get {times : Int} {ns m : List Int} : ∀ {k : Nat}, (∀ i, i < k → 0 ≤ times * ns.getD i 0 ∧ times * ns.getD i 0 ≤ 100000000000000 ∧ 0 ≤ m.getD i 0 ∧ m.getD i 0 ≤ 100000000000000) → k ≤ m.length →
    ∀ t, t < m.length → (addTo times ns m k).getD t 0 = if t < k then m.getD t 0 + times * ns.getD t 0 else m.getD t 0
  | 0, _, _, t, _ => by simp [addTo]
  | k + 1, h, hk, t, ht => by
    have ih := addTo_get (k := k) (fun i hi => h i (by omega)) (by omega)
    have hl := addTo_length times ns m k
    have hb := h k (by omega)
    have e0 := ih k (by omega)
    rw [if_neg (by omega)] at e0
    unfold addTo
    rw [List.getD_eq_getElem?_getD, List.getElem?_set]
    by_cases htk : k = t
    · subst htk
      rw [if_pos rfl, if_pos (by omega), if_pos (by omega), e0, w64 (times * ns.getD k 0) (by omega), w64 _ (by omega)]
      rfl
    · rw [if_neg htk, ← List.getD_eq_getElem?_getD, ih t ht]
      by_cases h2 : t < k
      · rw [if_pos h2, if_pos (by omega)]
      · rw [if_neg h2, if_neg (by omega)]
theorem bL_eq (s : Shop) (b : Bat) (x : Tru) : ∀ i, bL s b x i = (badTo (fun t => b.added.getD t (0, 0)) x.added s.things.length || (List.range i).any fun j => badTo (fun t => (s.lots.getD j default).parts.getD t (0, 0)) (x.lots.getD j []) s.things.length)
  | 0 => by simp [bL]
  | i + 1 => by rw [List.range_succ, List.any_append]; simp [bL, bL_eq s b x i, Bool.or_assoc]
theorem bB_eq (s : Shop) (l : List Bat) (b : Bat) (x : Tru) : ∀ i, bB s l b x i = (bL s b x s.lots.length || (List.range i).any fun j => badTo (parV s l j) (x.back.getD j []) s.things.length)
  | 0 => by simp [bB]
  | i + 1 => by rw [List.range_succ, List.any_append]; simp [bB, bB_eq s l b x i, Bool.or_assoc]
theorem badTo_true {fs : Nat → Int × Int} {ns : List Int} {k : Nat} : badTo fs ns k = true ↔ ∃ t, t < k ∧ outOne (fs t).1 (fs t).2 (ns.getD t 0) = true := by
  unfold badTo
  rw [List.any_eq_true]
  constructor
  · rintro ⟨t, h1, h2⟩
    exact ⟨t, List.mem_range.1 h1, h2⟩
  · rintro ⟨t, h1, h2⟩
    exact ⟨t, List.mem_range.2 h1, h2⟩
theorem badTo_false {fs : Nat → Int × Int} {ns : List Int} {k : Nat} (h : badTo fs ns k = false) {t : Nat} (ht : t < k) : (fs t).1 ≤ ns.getD t 0 ∧ ns.getD t 0 ≤ (fs t).2 := by
  refine outOne_false.1 ?_
  cases hq : outOne (fs t).1 (fs t).2 (ns.getD t 0) with
  | false => rfl
  | true =>
    have := badTo_true.2 ⟨t, ht, hq⟩
    rw [h] at this
    cases this
theorem truthIn_true {s : Shop} {l : List Bat} {b : Bat} {x : Tru} {t : Nat} : truthIn s l (rangesV s l) b x t = true ↔ outOne (b.added.getD t (0, 0)).1 (b.added.getD t (0, 0)).2 (x.added.getD t 0) = false ∧
    (∀ i, i < s.lots.length → outOne ((s.lots.getD i default).parts.getD t (0, 0)).1 ((s.lots.getD i default).parts.getD t (0, 0)).2 ((x.lots.getD i []).getD t 0) = false) ∧
    (∀ i, i < b.back.length → outOne (parV s l i t).1 (parV s l i t).2 ((x.back.getD i []).getD t 0) = false) := by
  unfold truthIn
  rw [Bool.and_eq_true, Bool.and_eq_true, List.all_eq_true, List.all_eq_true]
  simp only [List.mem_range, Bool.not_eq_true', and_assoc]
  exact Iff.rfl
theorem bB_true {s : Shop} {l : List Bat} {b : Bat} {x : Tru} : bB s l b x b.back.length = true ↔ ¬ ∀ t, t < s.things.length → truthIn s l (rangesV s l) b x t = true := by
  rw [bB_eq, bL_eq, Bool.or_eq_true, Bool.or_eq_true, List.any_eq_true, List.any_eq_true]
  simp only [badTo_true, List.mem_range]
  constructor
  · rintro ((⟨t, h1, h2⟩ | ⟨j, hj, t, h1, h2⟩) | ⟨j, hj, t, h1, h2⟩) hall
    · rw [(truthIn_true.1 (hall t h1)).1] at h2; cases h2
    · rw [(truthIn_true.1 (hall t h1)).2.1 j hj] at h2; cases h2
    · rw [(truthIn_true.1 (hall t h1)).2.2 j hj] at h2; cases h2
  · intro h
    refine Classical.byContradiction fun hn => h fun t ht => truthIn_true.2 ⟨?_, fun i hi => ?_, fun i hi => ?_⟩
    · cases hq : outOne (b.added.getD t (0, 0)).1 (b.added.getD t (0, 0)).2 (x.added.getD t 0) with
      | false => rfl
      | true => exact absurd (.inl (.inl ⟨t, ht, hq⟩)) hn
    · cases hq : outOne ((s.lots.getD i default).parts.getD t (0, 0)).1 ((s.lots.getD i default).parts.getD t (0, 0)).2 ((x.lots.getD i []).getD t 0) with
      | false => rfl
      | true => exact absurd (.inl (.inr ⟨i, hi, t, ht, hq⟩)) hn
    · cases hq : outOne (parV s l i t).1 (parV s l i t).2 ((x.back.getD i []).getD t 0) with
      | false => rfl
      | true => exact absurd (.inr ⟨i, hi, t, ht, hq⟩) hn
theorem made_bad {s : Shop} {l : List Bat} {k : Nat} (x : Tru) : bB s l (l.getD k default) x (l.getD k default).back.length = !((List.range s.things.length).all (truthIn s l (rangesV s l) (l.getD k default) x)) := by
  rw [Bool.eq_iff_iff, bB_true, Bool.not_eq_true', Bool.eq_false_iff, ne_eq, List.all_eq_true]
  simp only [List.mem_range]
theorem made_good {s : Shop} {l : List Bat} (hs : AllOk s l) {k : Nat} (hk : k < l.length) (x : Tru) (h : bB s l (l.getD k default) x (l.getD k default).back.length = false) :
    mB s (l.getD k default) x (l.getD k default).back.length = (List.range s.things.length).map (madeT s (l.getD k default) x) := by
  have hb := bat_ok0 (batchE_zero (hs.pre k hk)).1
  have hall : ∀ t, t < s.things.length → truthIn s l (rangesV s l) (l.getD k default) x t = true := by
    refine Classical.byContradiction fun hn => ?_
    have := bB_true.2 hn
    rw [h] at this
    cases this
  have hA : ∀ t, t < s.things.length → 0 ≤ 1000 * x.added.getD t 0 ∧ 1000 * x.added.getD t 0 ≤ 10000000000 := fun t ht => by
    have h1 := outOne_false.1 (truthIn_true.1 (hall t ht)).1
    have h2 := hb.add t
    omega
  have hL : ∀ t, t < s.things.length → ∀ i, i < s.lots.length → 0 ≤ (l.getD k default).grams.getD i 0 * (x.lots.getD i []).getD t 0 ∧ (l.getD k default).grams.getD i 0 * (x.lots.getD i []).getD t 0 ≤ 100000000000 := fun t ht i hi => by
    have h1 := outOne_false.1 ((truthIn_true.1 (hall t ht)).2.1 i hi)
    have h2 := hs.sh.part i hi t
    have := mul_bound (hb.gram i) (show 0 ≤ (x.lots.getD i []).getD t 0 ∧ (x.lots.getD i []).getD t 0 ≤ 1000000 by omega)
    omega
  have hB : ∀ t, t < s.things.length → ∀ i, i < (l.getD k default).back.length → 0 ≤ (l.getD k default).back.getD i 0 * (x.back.getD i []).getD t 0 ∧ (l.getD k default).back.getD i 0 * (x.back.getD i []).getD t 0 ≤ 100000000000 := fun t ht i hi => by
    have h1 := outOne_false.1 ((truthIn_true.1 (hall t ht)).2.2 i hi)
    have h3 := hb.blen
    have h2 := par_ok hs.sh hs.l6 (fun j hj => hs.pre j (by omega)) (Nat.le_of_lt hk) (show i < k by omega) t
    have := mul_bound (hb.back i) (show 0 ≤ (x.back.getD i []).getD t 0 ∧ (x.back.getD i []).getD t 0 ≤ 1000000 by omega)
    omega
  have h6 := hs.sh.nl6
  have hk6 := hs.l6
  have hbl := hb.blen
  have ML : ∀ i, i ≤ s.lots.length → ∀ t, t < s.things.length → (mL s (l.getD k default) x i).getD t 0 = 1000 * x.added.getD t 0 + dot (fun j => (l.getD k default).grams.getD j 0 * (x.lots.getD j []).getD t 0) i := by
    intro i
    induction i with
    | zero =>
      intro _ t ht
      unfold mL
      have hz : ∀ q, q < s.things.length → (List.replicate s.things.length (0 : Int)).getD q 0 = 0 := fun q hq => by simp [List.getD_eq_getElem?_getD, hq]
      rw [addTo_get (fun q hq => ⟨(hA q hq).1, by have := (hA q hq).2; omega, by rw [hz q hq]; omega, by rw [hz q hq]; omega⟩) (by simp) t (by simpa using ht), if_pos ht, hz t ht]
      simp [dot]
    | succ i ih =>
      intro hi t ht
      have ih := ih (by omega)
      unfold mL
      rw [addTo_get (fun q hq => ?_) (by rw [mL_length]; exact Nat.le_refl _) t (by rw [mL_length]; exact ht), if_pos ht, ih t ht]
      · simp only [dot]; omega
      · have h1 := hL q hq i (by omega)
        have h2 := dot_bound (fun j => (l.getD k default).grams.getD j 0 * (x.lots.getD j []).getD q 0) 100000000000 i (fun j hj => hL q hq j (by omega))
        have h3 := hA q hq
        rw [ih q hq]
        omega
  have MB : ∀ i, i ≤ (l.getD k default).back.length → ∀ t, t < s.things.length → (mB s (l.getD k default) x i).getD t 0 = 1000 * x.added.getD t 0 + dot (fun j => (l.getD k default).grams.getD j 0 * (x.lots.getD j []).getD t 0) s.lots.length + dot (fun j => (l.getD k default).back.getD j 0 * (x.back.getD j []).getD t 0) i := by
    intro i
    induction i with
    | zero =>
      intro _ t ht
      unfold mB
      rw [ML _ (Nat.le_refl _) t ht]
      simp [dot]
    | succ i ih =>
      intro hi t ht
      have ih := ih (by omega)
      unfold mB
      rw [addTo_get (fun q hq => ?_) (by rw [mB_length]; exact Nat.le_refl _) t (by rw [mB_length]; exact ht), if_pos ht, ih t ht]
      · simp only [dot]; omega
      · have h1 := hB q hq i (by omega)
        have h2 := dot_bound (fun j => (l.getD k default).grams.getD j 0 * (x.lots.getD j []).getD q 0) 100000000000 s.lots.length (fun j hj => hL q hq j hj)
        have h4 := dot_bound (fun j => (l.getD k default).back.getD j 0 * (x.back.getD j []).getD q 0) 100000000000 i (fun j hj => hB q hq j (by omega))
        have h3 := hA q hq
        rw [ih q hq]
        omega
  apply List.ext_getElem
  · rw [mB_length, List.length_map, List.length_range]
  · intro t h1 h2
    have ht : t < s.things.length := by rw [mB_length] at h1; exact h1
    have := MB _ (Nat.le_refl _) t ht
    rw [List.getD_eq_getElem?_getD, List.getElem?_eq_getElem h1] at this
    simp only [List.getElem_map, List.getElem_range]
    exact this
end Go.Proofs.Ytaigbhhmmdfdcaa
