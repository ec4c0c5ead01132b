/- A list of blocks that are known, in a world that grows. -/
import Derived.Test.YtaigbhhmmdfdcaaBase
namespace Go.Proofs.Ytaigbhhmmdfdcaa
open Go.RowKit
structure Bs (w : World) (l : List (Nat × Obj)) (wr : World) : Prop where
  get' : ∀ p ∈ l, wr.heap[p.1]? = some p.2
  inc : (l.map Prod.fst).Pairwise (· < ·)
  ge : ∀ p ∈ l, w.heap.size ≤ p.1
  bel : Below w.heap.size w wr
section
variable {w wr w' : World} {l : List (Nat × Obj)}
theorem Bs.nil (w : World) : Bs w [] w := ⟨by simp, by simp, by simp, Below.refl _ _⟩
theorem Bs.get (h : Bs w l wr) (i : Nat) {b : Nat} {o : Obj} (hi : l[i]? = some (b, o)) : wr.heap[b]? = some o := h.get' _ (List.mem_of_getElem? hi)
theorem Bs.lt (h : Bs w l wr) (i : Nat) {b : Nat} {o : Obj} (hi : l[i]? = some (b, o)) : b < wr.heap.size := block_lt (h.get i hi)
theorem Bs.le (h : Bs w l wr) (i : Nat) {b : Nat} {o : Obj} (hi : l[i]? = some (b, o)) : w.heap.size ≤ b := h.ge _ (List.mem_of_getElem? hi)
theorem Bs.call (h : Bs w l wr) (hb : Below wr.heap.size wr w') : Bs w l w' :=
  ⟨fun p hp => block_keep (h.get' p hp) hb, h.inc, h.ge, h.bel.trans (hb.mono h.bel.size)⟩
theorem Bs.alloc (h : Bs w l wr) (o : Obj) : Bs w l (wr.alloc o) := h.call ((Below.refl _ _).alloc (Nat.le_refl _) o)
theorem Bs.drew (h : Bs w l wr) : Bs w l wr.drew := h.call (Below.refl _ _).drew
theorem Bs.drewN (h : Bs w l wr) (n : Nat) : Bs w l (wr.drewN n) := h.call (below_drewN (Below.refl _ _) n)
theorem Bs.push (h : Bs w l wr) (n : Nat) (hn : wr.heap.size = n) (o : Obj) : Bs w (l ++ [(n, o)]) (wr.alloc o) := by
  subst hn
  have h' := h.alloc o
  refine ⟨?_, ?_, ?_, h'.bel⟩
  · intro p hp
    rcases List.mem_append.1 hp with hp | hp
    · exact h'.get' p hp
    · simp only [List.mem_singleton] at hp
      subst hp
      exact heap_alloc_new wr o
  · rw [List.map_append, List.pairwise_append]
    refine ⟨h.inc, by simp, ?_⟩
    intro a ha b hb
    simp only [List.mem_map] at ha hb
    obtain ⟨p, hp, rfl⟩ := ha
    obtain ⟨q, hq, rfl⟩ := hb
    simp only [List.mem_singleton] at hq
    subst hq
    exact block_lt (h.get' p hp)
  · intro p hp
    rcases List.mem_append.1 hp with hp | hp
    · exact h.ge p hp
    · simp only [List.mem_singleton] at hp
      subst hp
      exact h.bel.size
theorem Bs.other (h : Bs w l wr) (i : Nat) {b : Nat} {o : Obj} (hi : l[i]? = some (b, o)) {j : Nat} (hj : j ≠ i) {p : Nat × Obj} (hp : l[j]? = some p) : p.1 ≠ b := by
  have hi' : (l.map Prod.fst)[i]? = some b := by simp [hi]
  have hj' : (l.map Prod.fst)[j]? = some p.1 := by simp [hp]
  obtain ⟨hil, hie⟩ := List.getElem?_eq_some_iff.1 hi'
  obtain ⟨hjl, hje⟩ := List.getElem?_eq_some_iff.1 hj'
  have := List.pairwise_iff_getElem.1 h.inc
  by_cases hlt : j < i
  · have := this j i hjl hil hlt; omega
  · have := this i j hil hjl (by omega); omega
/-- One of the blocks is written. -/
theorem Bs.put (h : Bs w l wr) (i : Nat) {b : Nat} {o o' : Obj} (hi : l[i]? = some (b, o)) (hk : ∀ k, k ≠ b → w'.heap[k]? = wr.heap[k]?) (hb : w'.heap[b]? = some o') (hB : Below w.heap.size w w') : Bs w (l.set i (b, o')) w' := by
  refine ⟨?_, ?_, ?_, hB⟩
  · intro p hp
    obtain ⟨j, hj⟩ := List.mem_iff_getElem?.1 hp
    by_cases hji : j = i
    · subst hji
      have hlt : j < l.length := (List.getElem?_eq_some_iff.1 hi).1
      rw [List.getElem?_set_self hlt] at hj
      cases hj
      exact hb
    · rw [List.getElem?_set_ne (Ne.symm hji)] at hj
      rw [hk _ (h.other i hi hji hj)]
      exact h.get' p (List.mem_of_getElem? hj)
  · have : (l.set i (b, o')).map Prod.fst = l.map Prod.fst := by
      rw [List.map_set]
      apply List.ext_getElem?
      intro j
      by_cases hji : j = i
      · subst hji
        have hlt : j < (l.map Prod.fst).length := by simpa using (List.getElem?_eq_some_iff.1 hi).1
        rw [List.getElem?_set_self hlt]
        simp [hi]
      · rw [List.getElem?_set_ne (Ne.symm hji)]
    rw [this]
    exact h.inc
  · intro p hp
    obtain ⟨j, hj⟩ := List.mem_iff_getElem?.1 hp
    by_cases hji : j = i
    · subst hji
      have hlt : j < l.length := (List.getElem?_eq_some_iff.1 hi).1
      rw [List.getElem?_set_self hlt] at hj
      cases hj
      exact h.le j hi
    · rw [List.getElem?_set_ne (Ne.symm hji)] at hj
      exact h.ge p (List.mem_of_getElem? hj)
theorem Bs.setCell (h : Bs w l wr) (i : Nat) {b : Nat} {cs : Array Value} {t : TypeId} (hi : l[i]? = some (b, .cells cs t)) (j : Nat) (v : Value) :
    Bs w (l.set i (b, .cells (cs.setIfInBounds j v) t)) (wr.setCell ⟨b, j, none⟩ v) :=
  h.put i hi (fun _ hk => heap_setCell_other _ _ _ _ hk) (heap_setCell_same wr b j cs t v (h.get i hi)) (h.bel.setCell (p := ⟨b, j, none⟩) (h.le i hi) v)
theorem Bs.setRow (h : Bs w l wr) (i : Nat) {b : Nat} {cs : Array Value} {t : TypeId} (hi : l[i]? = some (b, .cells cs t)) (cs' : Array Value) :
    Bs w (l.set i (b, .cells cs' t)) (wr.setRow b cs') :=
  h.put i hi (fun k hk => setRow_other wr b k cs' hk) (setRow_heap _ _ _ _ _ _ (h.get i hi)) (below_setRow h.bel (h.le i hi) cs')
/-- The blocks of the callee's own: a caller's world reads on. -/
theorem Bs.sub (h : Bs w l wr) (m : List (Nat × Obj)) (hs : m.Sublist l) : Bs w m wr :=
  ⟨fun p hp => h.get' p (hs.subset hp), h.inc.sublist (hs.map _), fun p hp => h.ge p (hs.subset hp), h.bel⟩
theorem Bs.cell (h : Bs w l wr) (i : Nat) {b : Nat} {cs : Array Value} {t : TypeId} (hi : l[i]? = some (b, .cells cs t)) (j : Nat) : wr.cell? ⟨b, j, none⟩ = cs[j]? := cell_of_row wr b j _ _ _ (h.get i hi)
theorem Bs.free (h : Bs w l wr) (i : Nat) {b : Nat} {cs : Array Value} {t : TypeId} (hi : l[i]? = some (b, .cells cs t)) (j : Nat) : wr.frozen? ⟨b, j, none⟩ = false := frozen_of_row wr b j _ _ (h.get i hi)
end
end Go.Proofs.Ytaigbhhmmdfdcaa
