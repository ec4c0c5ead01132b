/- Plain facts: the first of some, what is above a limit. -/
import Derived.Test.YtaigbhhmmdfdcaaP3
namespace Go.Proofs.Ytaigbhhmmdfdcaa
theorem firstOf_some {f : Nat → Bool} {t : Nat} (h0 : firstOf f t = none) (ht : f t = true) : ∀ {n : Nat}, t < n → firstOf f n = some t
  | 0, h => by omega
  | n + 1, h => by
    by_cases hn : t = n
    · subst hn; simp [firstOf, h0, ht]
    · simp [firstOf, firstOf_some h0 ht (show t < n by omega)]
theorem firstOf_none {f : Nat → Bool} : ∀ {n : Nat}, firstOf f n = none ↔ ∀ i, i < n → f i = false
  | 0 => by simp [firstOf]
  | n + 1 => by
    have ih := firstOf_none (f := f) (n := n)
    constructor
    · intro h i hi
      unfold firstOf at h
      cases hq : firstOf f n with
      | some j => simp [hq] at h
      | none =>
        simp only [hq] at h
        by_cases hin : i = n
        · subst hin
          by_cases hf : f i = true
          · simp [hf] at h
          · simpa using hf
        · exact ih.1 hq i (by omega)
    · intro h
      have := ih.2 (fun i hi => h i (by omega))
      simp [firstOf, this, h n (by omega)]
theorem firstOf_spec {f : Nat → Bool} : ∀ {n t : Nat}, firstOf f n = some t → t < n ∧ f t = true ∧ ∀ i, i < t → f i = false
  | 0, t, h => by simp [firstOf] at h
  | n + 1, t, h => by
    unfold firstOf at h
    cases hq : firstOf f n with
    | some j =>
      simp only [hq, Option.some.injEq] at h
      subst h
      have := firstOf_spec hq
      exact ⟨by omega, this.2⟩
    | none =>
      simp only [hq] at h
      by_cases hf : f n = true
      · simp only [hf, if_true, Option.some.injEq] at h
        subst h
        exact ⟨by omega, hf, fun i hi => firstOf_none.1 hq i hi⟩
      · simp [hf] at h
theorem keepsTo_next {s : Shop} {l : List Bat} {k : Nat} (h : keepsTo s l k = (-1, -1)) (hk : keepsT s l k = none) : keepsTo s l (k + 1) = (-1, -1) := by
  simp [keepsTo, h, hk]
theorem keepsTo_found {s : Shop} {l : List Bat} {k t : Nat} (h : keepsTo s l k = (-1, -1)) (hk : keepsT s l k = some t) : ∀ {n : Nat}, k < n → keepsTo s l n = ((k : Int), (t : Int))
  | 0, hn => by omega
  | n + 1, hn => by
    by_cases hkn : k = n
    · subst hkn; simp [keepsTo, h, hk]
    · have ih := keepsTo_found h hk (show k < n by omega)
      unfold keepsTo
      rw [ih, if_neg (by simp only; omega)]
/-- A batch of nothing is above no limit. -/
theorem keepsT_zero {s : Shop} (hs : ShopOk s) {l : List Bat} {k : Nat} (hw : 0 ≤ weightV (l.getD k default)) (h : ∀ t, t < 5 → (micV s l k t).2 = 0) : keepsT s l k = none := by
  unfold keepsT
  rw [firstOf_none]
  intro t ht
  have h5 := hs.nt5
  have h1 := h t (by omega)
  have h2 := hs.limit t ht
  unfold micV at h1
  unfold aboveB
  rw [h1]
  have := Int.mul_nonneg h2.1 hw
  exact decide_eq_false (by omega)
end Go.Proofs.Ytaigbhhmmdfdcaa
