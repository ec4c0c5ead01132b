/- Rows of the call's own: what stays, what reads. -/
import Derived.Test.YtaigbhhmmdfdcaaW8
import Derived.Great.BuildSlice
import Derived.OwnWalk
import Derived.Deep.AppendLies
namespace Go.Proofs.Ytaigbhhmmdfdcaa
open Go.RowKit
section
variable {w w' : World} {base : Nat} {v : Value} {n sz : Nat} {e : TypeId} {xs : List Value}
theorem ownsRow_slice (h : w.ownsRow base e sz v n xs) : ∃ a c, v = .slice a n c := by
  rcases h.2 with ⟨rfl, h0⟩ | ⟨g, cap, cur, rfl, _⟩
  · exact ⟨none, 0, by rw [h0]⟩
  · exact ⟨_, _, rfl⟩
theorem ownsRow.below (h : w.ownsRow base e sz v n xs) (hb : Below w.heap.size w w') : w'.ownsRow base e sz v n xs := by
  refine ⟨h.1, ?_⟩
  rcases h.2 with h0 | ⟨g, cap, cur, rfl, h1, h2, h3⟩
  · exact .inl h0
  · exact .inr ⟨g, cap, cur, rfl, h1, block_keep h2 hb, h3⟩
/-- A block of another type is turned. -/
theorem ownsRow.but (h : w.ownsRow base e sz v n xs) {g : Nat} (hb : But g w w') {cs : Array Value} {t : TypeId} (hg : w.heap[g]? = some (.cells cs t)) (hne : t ≠ e) : w'.ownsRow base e sz v n xs := by
  refine ⟨h.1, ?_⟩
  rcases h.2 with h0 | ⟨b, cap, cur, rfl, h1, h2, h3⟩
  · exact .inl h0
  · refine .inr ⟨b, cap, cur, rfl, h1, (hb.block b (block_lt h2) ?_).trans h2, h3⟩
    rintro rfl
    rw [hg] at h2
    cases h2
    exact hne rfl
theorem ownsRow.le {base' : Nat} (h : w.ownsRow base e sz v n xs) (hb : base' ≤ base) : w.ownsRow base' e sz v n xs := by
  refine ⟨h.1, ?_⟩
  rcases h.2 with h0 | ⟨b, cap, cur, rfl, h1, h2, h3⟩
  · exact .inl h0
  · exact .inr ⟨b, cap, cur, rfl, by omega, h2, h3⟩
/-- What an append leaves as it was. -/
theorem grown_keep (h : w.ownsRow base e sz v n xs) (hg : w.grownBy w' v.ownBlock) {k : Nat} {cs : Array Value} {t : TypeId} (hk : w.heap[k]? = some (.cells cs t)) (hne : t ≠ e) : w'.heap[k]? = some (.cells cs t) := by
  have hlt := block_lt hk
  have hb : Below k w (w) := Below.refl _ _
  rcases h.2 with ⟨rfl, -⟩ | ⟨b, cap, cur, rfl, h1, h2, -⟩
  · exact (hg.block k hlt (by simp [Value.ownBlock])).trans hk
  · refine (hg.block k hlt ?_).trans hk
    rintro e1
    simp only [Value.ownBlock, Option.some.injEq] at e1
    subst e1
    rw [hk] at h2
    cases h2
    exact hne rfl
theorem grown_below (h : w.ownsRow base e sz v n xs) (hg : w.grownBy w' v.ownBlock) {B : Nat} (h1 : B ≤ base) (h2 : B ≤ w.heap.size) : Below B w w' :=
  (Below.refl B w).grown hg h2 (fun k e => Nat.le_trans h1 ((World.ownsRow.lt h k e).1))
/-- A cell of a row. -/
theorem ownsRow_cell {a : Option Addr} {c : Nat} (h : w.ownsRow base e 1 (.slice a n c) n xs) {i : Nat} (hi : i < n) : ∃ b, a = some ⟨b, 0, none⟩ ∧ b < w.heap.size ∧ n ≤ c ∧ w.cell? ⟨b, i, none⟩ = xs[i]? := by
  rcases h.2 with ⟨e1, h0⟩ | ⟨b, cap, cur, e1, h1, h2, h3, h4, h5, h6⟩
  · omega
  · cases e1
    refine ⟨b, rfl, block_lt h2, h3, ?_⟩
    rw [cell_of_row w b i _ _ _ h2, ← h6, List.getElem?_take, if_pos (by omega), ← Array.getElem?_toList]
end
end Go.Proofs.Ytaigbhhmmdfdcaa
