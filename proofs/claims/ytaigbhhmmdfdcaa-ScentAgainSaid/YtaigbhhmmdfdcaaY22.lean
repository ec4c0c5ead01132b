/- Lists of ints in a row of its own; what the laws build. -/
import Derived.Test.YtaigbhhmmdfdcaaY21
namespace Go.Proofs.Ytaigbhhmmdfdcaa
open Go.RowKit
/-- A row of lists of ints. -/
structure OwnLists (base : Nat) (w : World) (v : Value) (n : Nat) (us : List Value) (f : Nat → List Int) : Prop where
  len : us.length = n
  row : w.ownsRow base 36 1 v n us
  each : ∀ i, i < n → OwnInts base w (us.getD i .nilFunc) (f i)
theorem OwnLists.call {base : Nat} {w w' : World} {v : Value} {n : Nat} {us : List Value} {f : Nat → List Int} (h : OwnLists base w v n us f) (hb : Below w.heap.size w w') : OwnLists base w' v n us f :=
  ⟨h.len, ownsRow.below h.row hb, fun i hi => ownsRow.below (h.each i hi) hb⟩
theorem OwnLists.more {base : Nat} {w w' : World} {v v' u : Value} {n : Nat} {us : List Value} {f : Nat → List Int} (h : OwnLists base w v n us f) (hu : OwnInts base w u (f n)) (hown : w'.ownsRow base 36 1 v' (n + 1) (us ++ [u])) (hg : w.grownBy w' v.ownBlock) :
    OwnLists base w' v' (n + 1) (us ++ [u]) f := by
  refine ⟨by simp [h.len], hown, fun i hi => ?_⟩
  by_cases hin : i < n
  · have e : (us ++ [u]).getD i .nilFunc = us.getD i .nilFunc := by
      rw [List.getD_eq_getElem?_getD, List.getElem?_append_left (by rw [h.len]; exact hin), List.getD_eq_getElem?_getD]
    rw [e]
    exact ownsRow.grown2 (h.each i hin) h.row hg (by decide)
  · obtain rfl : i = n := by omega
    have e : (us ++ [u]).getD i .nilFunc = u := by
      rw [List.getD_eq_getElem?_getD, List.getElem?_append_right (by rw [h.len]; exact Nat.le_refl _), h.len, Nat.sub_self]
      rfl
    rw [e]
    exact ownsRow.grown2 hu h.row hg (by decide)
theorem OwnLists.lists {base : Nat} {w : World} {v : Value} {n : Nat} {us : List Value} {f : Nat → List Int} (h : OwnLists base w v n us f) (hn : n ≤ 1000) (hf : ∀ i, i < n → (f i).length ≤ 1000) (l : List (List Int)) (hl : l.length = n) (he : ∀ i, i < n → l.getD i [] = f i) : IntsLIn w.heap.size w v l := by
  subst hl
  obtain ⟨_, h2⟩ := h.row
  rcases h2 with ⟨rfl, h0⟩ | ⟨g, cap, cur, rfl, hb, hg, hnn, hm, hc, ht⟩
  · have : l = [] := List.eq_nil_of_length_eq_zero h0
    subst this
    exact ⟨none, 0, rfl, by simp, by simp, .inl rfl⟩
  · refine ⟨_, cap, rfl, by omega, hnn, .inr ⟨g, 0, rfl, block_lt hg, fun i hi => ⟨us.getD i .nilFunc, ?_, ?_⟩⟩⟩
    · have e : (cur.toList.take (l.length * 1))[i]? = us[i]? := by rw [ht]
      rw [List.getElem?_take, if_pos (by omega)] at e
      show w.cell? ⟨g, 0 + i * 1, none⟩ = _
      rw [cell_of_row w g _ _ _ _ hg, Nat.zero_add, Nat.mul_one, ← Array.getElem?_toList, e, List.getD_eq_getElem?_getD, List.getElem?_eq_getElem (by rw [h.len]; exact hi)]
      rfl
    · have := (h.each i hi).ints (by have := hf i hi; omega)
      rw [← he i hi] at this
      exact this
theorem OwnLists.but {base : Nat} {w w' : World} {v : Value} {n : Nat} {us : List Value} {f : Nat → List Int} (h : OwnLists base w v n us f) {g : Nat} (hb : But g w w') {cs : Array Value} {t : TypeId} (hg : w.heap[g]? = some (.cells cs t)) (h1 : t ≠ 36) (h2 : t ≠ 3) : OwnLists base w' v n us f :=
  ⟨h.len, ownsRow.but h.row hb hg h1, fun i hi => ownsRow.but (h.each i hi) hb hg h2⟩
/-- Blocks stay where a row of another type grows. -/
theorem Bs.grown {w0 w w' : World} {l : List (Nat × Obj)} {base sz n : Nat} {e : TypeId} {v : Value} {xs : List Value} (h : Bs w0 l w) (ho : w.ownsRow base e sz v n xs) (hg : w.grownBy w' v.ownBlock) (hb : w0.heap.size ≤ base) (hl : ∀ p ∈ l, ∃ cs t, p.2 = .cells cs t ∧ t ≠ e) : Bs w0 l w' := by
  refine ⟨fun p hp => ?_, h.inc, h.ge, h.bel.trans (grown_below ho hg hb h.bel.size)⟩
  obtain ⟨cs, t, e1, e2⟩ := hl p hp
  have h1 := h.get' p hp
  rw [e1] at h1 ⊢
  exact grown_keep ho hg h1 e2
end Go.Proofs.Ytaigbhhmmdfdcaa
