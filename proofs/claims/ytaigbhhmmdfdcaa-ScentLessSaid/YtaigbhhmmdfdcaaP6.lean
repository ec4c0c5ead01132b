/- Plain facts for the laws: valid shops and batches; the first batches of a list. -/
import Derived.Test.YtaigbhhmmdfdcaaK1
namespace Go.Proofs.Ytaigbhhmmdfdcaa
structure AllGood (s : Shop) (l : List Bat) : Prop where
  sh : ShopOk s
  n1 : 1 ≤ l.length
  n6 : l.length ≤ 6
  pre : Prefix s l l.length
theorem batches_zero {s : Shop} {l : List Bat} : batchesE s l = 0 ↔ checkE s = 0 ∧ (1 ≤ l.length ∧ l.length ≤ 6) ∧ Prefix s l l.length := by
  unfold batchesE
  by_cases h : checkE s = 0
  · rw [if_neg (by simp [h])]
    cases ho : outOne 1 6 (l.length : Int)
    · have := outOne_false.1 ho
      simp only [Bool.false_eq_true, if_false, h, true_and]
      rw [show (findE (batchEs s l) 0).2 = 0 ↔ ∀ k, k < l.length → batchE s l k = 0 from map_range_zero]
      constructor
      · intro hh; exact ⟨⟨by omega, by omega⟩, hh⟩
      · intro hh; exact hh.2
    · simp only [if_true, h, true_and]
      constructor
      · intro hh; cases hh
      · intro hh
        have : outOne 1 6 (l.length : Int) = false := outOne_false.2 (by omega)
        rw [ho] at this; cases this
  · rw [if_pos h]
    constructor
    · intro hh; exact absurd hh h
    · intro hh; exact absurd hh.1 h
theorem all_good {s : Shop} {l : List Bat} (h : batchesE s l = 0) : AllGood s l := by
  obtain ⟨h1, h2, h3⟩ := batches_zero.1 h
  exact ⟨shop_ok h1, h2.1, h2.2, h3⟩
theorem batchE_congr {s : Shop} {l m : List Bat} {k : Nat} (h : ∀ j, j ≤ k → l.getD j default = m.getD j default) : batchE s l k = batchE s m k := by
  have hw : ∀ i, i ≤ k → weightV (l.getD i default) = weightV (m.getD i default) := fun i hi => by rw [h i hi]
  have ht : ∀ i, takenV l i (k + 1) = takenV m i (k + 1) := fun i => dot_congr fun j hj => by rw [h j (by omega)]
  have ho : overB l k k = overB m k k := by
    unfold overB
    rw [Bool.eq_iff_iff, List.any_eq_true, List.any_eq_true]
    constructor
    · rintro ⟨x, hx, hy⟩
      have := List.mem_range.1 hx
      exact ⟨x, hx, by rw [← hw x (by omega), ← ht]; exact hy⟩
    · rintro ⟨x, hx, hy⟩
      have := List.mem_range.1 hx
      exact ⟨x, hx, by rw [hw x (by omega), ht]; exact hy⟩
  unfold batchE batchE0
  rw [h k (Nat.le_refl _), ho]
theorem rowsV_congr {s : Shop} {l m : List Bat} : ∀ {k : Nat}, (∀ j, j < k → l.getD j default = m.getD j default) → (∀ j, j < k → (m.getD j default).back.length ≤ j) → rowsV s l k = rowsV s m k
  | 0, _, _ => rfl
  | k + 1, h, hb => by
    have ih := rowsV_congr (s := s) (k := k) (fun j hj => h j (by omega)) (fun j hj => hb j (by omega))
    have hb := hb k (by omega)
    simp only [rowsV]
    rw [ih, h k (by omega)]
    congr 2
    unfold rowV
    apply List.map_congr_left
    intro t _
    unfold cellV
    have e : ∀ e, cellS s l (rowsV s m k) (m.getD k default) t e = cellS s m (rowsV s m k) (m.getD k default) t e := fun e => by
      unfold cellS
      congr 1
      refine dot_congr fun i hi => ?_
      unfold backT
      rw [h i (by omega)]
    rw [e, e]
theorem rowsV_take (s : Shop) (l : List Bat) (n : Nat) : ∀ k, n ≤ k → (rowsV s l k).take n = rowsV s l n
  | 0, h => by
    obtain rfl : n = 0 := by omega
    rfl
  | k + 1, h => by
    by_cases he : n = k + 1
    · subst he
      rw [List.take_of_length_le (by rw [rowsV_length]; omega)]
    · rw [rowsV, List.take_append_of_le_length (by rw [rowsV_length]; omega), rowsV_take s l n k (by omega)]
theorem take_getD {α : Type} (l : List α) (n j : Nat) (h : j < n) (d : α) : (l.take n).getD j d = l.getD j d := by
  rw [List.getD_eq_getElem?_getD, List.getD_eq_getElem?_getD, List.getElem?_take, if_pos h]
theorem first_ok {s : Shop} {l : List Bat} (h : batchesE s l = 0) {n : Nat} (h1 : 1 ≤ n) (hn : n ≤ l.length) : batchesE s (l.take n) = 0 := by
  obtain ⟨a, b, c⟩ := batches_zero.1 h
  have hl : (l.take n).length = n := by simp; omega
  refine batches_zero.2 ⟨a, by rw [hl]; omega, ?_⟩
  rw [hl]
  intro k hk
  rw [batchE_congr (m := l) fun j hj => take_getD l n j (by omega) _]
  exact c k (by omega)
theorem first_ranges {s : Shop} {l : List Bat} (h : batchesE s l = 0) {n : Nat} (hn : n ≤ l.length) : rangesV s (l.take n) = (rangesV s l).take n := by
  obtain ⟨a, b, c⟩ := batches_zero.1 h
  have hl : (l.take n).length = n := by simp; omega
  unfold rangesV
  rw [hl, rowsV_take s l n _ hn]
  exact rowsV_congr (fun j hj => take_getD l n j hj _) fun j hj => (bat_ok0 (batchE_zero (c j (by omega))).1).blen
theorem first_content {s : Shop} {l : List Bat} (h : batchesE s l = 0) {n : Nat} (h1 : 1 ≤ n) (hn : n ≤ l.length) : contentV s (l.take n) = (contentV s l).take n := by
  unfold contentV
  rw [if_neg (by rw [first_ok h h1 hn]; simp), if_neg (by rw [h]; simp), first_ranges h hn]
theorem content_bad {s : Shop} {l : List Bat} (h : batchesE s l ≠ 0) : contentV s l = [] := by unfold contentV; rw [if_pos h]
theorem content_len {s : Shop} {l : List Bat} (h : batchesE s l = 0) : (contentV s l).length = l.length := by
  unfold contentV; rw [if_neg (by rw [h]; simp)]; exact rowsV_length s l _
end Go.Proofs.Ytaigbhhmmdfdcaa
