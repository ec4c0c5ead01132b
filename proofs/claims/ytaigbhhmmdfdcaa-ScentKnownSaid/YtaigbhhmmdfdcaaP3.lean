/- Plain facts: what is taken of a batch. -/
import Derived.Test.YtaigbhhmmdfdcaaP2
namespace Go.Proofs.Ytaigbhhmmdfdcaa
theorem back_bound {s : Shop} {l : List Bat} {k : Nat} (hp : Prefix s l k) {m : Nat} (hm : m < k) (i : Nat) : 0 ≤ (l.getD m default).back.getD i 0 ∧ (l.getD m default).back.getD i 0 ≤ 100000 :=
  (bat_ok0 (batchE_zero (hp m hm)).1).back i
theorem taken_nonneg {s : Shop} {l : List Bat} {k : Nat} (hp : Prefix s l k) (i : Nat) : 0 ≤ takenV l i k ∧ takenV l i k ≤ k * 100000 :=
  dot_bound _ 100000 k fun _ hm => back_bound hp hm i
theorem back_none {l : List Bat} {m : Nat} {i : Nat} (hi : (l.getD m default).back.length ≤ i) : (l.getD m default).back.getD i 0 = 0 := by
  rw [List.getD_eq_getElem?_getD, List.getElem?_eq_none hi]; rfl
theorem dot_zero {f : Nat → Int} : ∀ {n}, (∀ i, i < n → f i = 0) → dot f n = 0
  | 0, _ => rfl
  | n + 1, h => by simp only [dot]; rw [dot_zero (fun i hi => h i (by omega)), h n (by omega)]; rfl
/-- Of a batch is not taken more than it weighs. -/
theorem taken_le {s : Shop} (hs : ShopOk s) {l : List Bat} (hl : l.length ≤ 6) {k : Nat} (hp : Prefix s l k) (hk : k ≤ l.length) {i : Nat} (hi : i < k) : takenV l i k ≤ weightV (l.getD i default) := by
  obtain ⟨m, rfl⟩ : ∃ m, k = m + 1 := ⟨k - 1, by omega⟩
  by_cases him : i < m
  · have h := (batchE_zero (hp m (by omega))).2.2
    unfold overB at h
    have := List.any_eq_false.1 h i (List.mem_range.2 him)
    simpa using this
  · obtain rfl : i = m := by omega
    have h0 : takenV l i (i + 1) = 0 := dot_zero fun j hj => back_none (by have := (bat_ok0 (batchE_zero (hp j hj)).1).blen; omega)
    rw [h0]
    have := hp.pos hs hl hk hi
    omega
theorem over_all {s : Shop} (hs : ShopOk s) {l : List Bat} (hl : l.length ≤ 6) {k : Nat} (hp : Prefix s l k) (hk : k < l.length) (hb : BatOk0 s l k) : overB l k (l.getD k default).back.length = overB l k k := by
  have hbl := hb.blen
  unfold overB
  rw [Bool.eq_iff_iff]
  simp only [List.any_eq_true, List.mem_range, decide_eq_true_eq]
  constructor
  · rintro ⟨i, hi, h⟩
    exact ⟨i, by omega, h⟩
  · rintro ⟨i, hi, h⟩
    refine ⟨i, ?_, h⟩
    by_cases hc : i < (l.getD k default).back.length
    · exact hc
    · exfalso
      have h1 : takenV l i (k + 1) = takenV l i k + (l.getD k default).back.getD i 0 := rfl
      rw [back_none (by omega)] at h1
      have := taken_le hs hl hp (by omega) hi
      omega
end Go.Proofs.Ytaigbhhmmdfdcaa
