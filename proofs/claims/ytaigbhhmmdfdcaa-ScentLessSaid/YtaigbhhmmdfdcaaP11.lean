/- What Keeps says, in any truth. -/
import Derived.Test.YtaigbhhmmdfdcaaP10
namespace Go.Proofs.Ytaigbhhmmdfdcaa
theorem keepsTo_spec (s : Shop) (l : List Bat) : ∀ n, (keepsTo s l n = (-1, -1) ∧ ∀ k, k < n → keepsT s l k = none) ∨ ∃ b t, b < n ∧ keepsT s l b = some t ∧ keepsTo s l n = ((b : Int), (t : Int))
  | 0 => .inl ⟨rfl, fun k hk => by omega⟩
  | n + 1 => by
    rcases keepsTo_spec s l n with ⟨h1, h2⟩ | ⟨b, t, hb, h1, h2⟩
    · cases hq : keepsT s l n with
      | none =>
        refine .inl ⟨keepsTo_next h1 hq, fun k hk => ?_⟩
        by_cases hkn : k = n
        · subst hkn; exact hq
        · exact h2 k (by omega)
      | some t => exact .inr ⟨n, t, by omega, hq, keepsTo_found h1 hq (by omega)⟩
    · refine .inr ⟨b, t, by omega, h1, ?_⟩
      unfold keepsTo
      rw [h2, if_neg (by simp only; omega)]
theorem keepsT_none {s : Shop} {l : List Bat} {k t : Nat} (h : keepsT s l k = none) (ht : t < s.things.length) : (micV s l k t).2 ≤ (s.things.getD t default).limit * weightV (l.getD k default) := by
  have := firstOf_none.1 h t ht
  unfold aboveB at this
  have := of_decide_eq_false this
  exact Int.not_lt.1 this
theorem keepsT_some {s : Shop} {l : List Bat} {k t : Nat} (h : keepsT s l k = some t) : t < s.things.length ∧ (s.things.getD t default).limit * weightV (l.getD k default) < (micV s l k t).2 := by
  have := firstOf_spec h
  exact ⟨this.1, of_decide_eq_true this.2.1⟩
/-- What the law on limits needs: no batch is named, or one is. -/
theorem keeps_cases {s : Shop} {l : List Bat} (hz : batchesE s l = 0) :
    (keepsV s l = (-1, -1, 0) ∧ ∀ k, k < l.length → ∀ t, t < s.things.length → (micV s l k t).2 ≤ (s.things.getD t default).limit * weightV (l.getD k default)) ∨
    ∃ b t : Nat, b < l.length ∧ t < s.things.length ∧ keepsV s l = ((b : Int), (t : Int), 0) ∧ (s.things.getD t default).limit * weightV (l.getD b default) < (micV s l b t).2 := by
  have hk : keepsV s l = ((keepsTo s l l.length).1, (keepsTo s l l.length).2, 0) := by
    unfold keepsV; rw [if_neg (by simp [hz])]
  rcases keepsTo_spec s l l.length with ⟨h1, h2⟩ | ⟨b, t, hb, h1, h2⟩
  · refine .inl ⟨by rw [hk, h1], fun k hk t ht => keepsT_none (h2 k hk) ht⟩
  · obtain ⟨h3, h4⟩ := keepsT_some h1
    exact .inr ⟨b, t, hb, h3, by rw [hk, h2], h4⟩
end Go.Proofs.Ytaigbhhmmdfdcaa
