/- The marks that ranges over a function leave behind, one for each. -/
import Derived.Test.YtaigbhhmmdfdcaaW25
namespace Go.Proofs.Ytaigbhhmmdfdcaa
open Go.RowKit Go.Shelf
/-- Each mark has a block of its own, from B on, that holds nothing to run. -/
def MarksOk (B : Nat) : List Deferred → World → Prop
  | [], _ => True
  | d :: ds, w => (∃ D, d = { target := .collected D, args := #[] } ∧ B ≤ D ∧ w.heap[D]? = some (.deferred (some [])) ∧ ∀ e ∈ ds, e ≠ d) ∧ MarksOk B ds w
/-- What the leaving keeps: all cells. -/
structure CellsKeep (B : Nat) (w w' : World) : Prop where
  bel : Below B w w'
  cells : ∀ (k : Nat) (cs : Array Value) (t : TypeId) (fr : Nat × Nat), w.heap[k]? = some (Obj.cells cs t fr) → w'.heap[k]? = some (Obj.cells cs t fr)
theorem CellsKeep.refl (B : Nat) (w : World) : CellsKeep B w w := ⟨Below.refl _ _, fun _ _ _ _ h => h⟩
theorem CellsKeep.trans {B : Nat} {a b c : World} (h : CellsKeep B a b) (k : CellsKeep B b c) : CellsKeep B a c := ⟨h.bel.trans k.bel, fun i cs t fr hi => k.cells i cs t fr (h.cells i cs t fr hi)⟩
theorem CellsKeep.take {B D : Nat} {w : World} (hB : B ≤ D) (h : w.heap[D]? = some (.deferred (some []))) (o : Obj) : CellsKeep B w (w.putObj D o) := by
  refine ⟨below_turn hB w o, fun k cs t fr hk => ?_⟩
  have : k ≠ D := by rintro rfl; rw [h] at hk; cases hk
  exact (World.putObj_heap_other this).trans hk
theorem MarksOk.keep {B : Nat} {w w' : World} : ∀ {ds : List Deferred}, MarksOk B ds w → (∀ d ∈ ds, ∀ D, d = { target := .collected D, args := #[] } → w.heap[D]? = some (.deferred (some [])) → w'.heap[D]? = some (.deferred (some []))) → MarksOk B ds w'
  | [], _, _ => trivial
  | d :: ds, h, hk => by
    obtain ⟨⟨D, h1, h2, h3, h4⟩, h5⟩ := h
    exact ⟨⟨D, h1, h2, hk d (by simp) D h1 h3, h4⟩, MarksOk.keep h5 (fun e he => hk e (by simp [he]))⟩
theorem leaves_marks {F : Fence} {n : Nat} {P : Program} {fn : Func} {tmps : Array Value} {R : Ending → World → Prop} {B : Nat} : ∀ {ds : List Deferred} {w : World}, MarksOk B ds w →
    (∀ w', CellsKeep B w w' → LeavesInM F n P fn tmps R [] .returning w') → LeavesInM F n P fn tmps R ds .returning w
  | [], w, _, h => h w (CellsKeep.refl _ _)
  | d :: ds, w, hm, h => by
    obtain ⟨⟨D, rfl, h2, h3, h4⟩, h5⟩ := hm
    refine ⟨by simp, .inl ⟨D, _, rfl, run_takeDeferred h3, ?_⟩⟩
    have hck := CellsKeep.take h2 h3 (.deferred none)
    refine leaves_marks (B := B) (h5.keep fun e he D' he' hD' => ?_) (fun w' hw' => h w' (hck.trans hw'))
    have hne : D' ≠ D := by
      rintro rfl
      exact h4 e he he'
    exact (World.putObj_heap_other hne).trans hD'
/-- A further mark. -/
theorem MarksOk.more {B : Nat} {ds : List Deferred} {w w' : World} {D : Nat} (h : MarksOk B ds w) (hD : w'.heap[D]? = some (.deferred (some []))) (hB : B ≤ D) (hlt : w.heap.size ≤ D) (hk : ∀ (k : Nat) (o : Obj), w.heap[k]? = some o → o.isCells = false → w'.heap[k]? = some o) : MarksOk B ({ target := .collected D, args := #[] } :: ds) w' := by
  have lt : ∀ {ds : List Deferred}, MarksOk B ds w → ∀ e ∈ ds, ∃ D', e = { target := .collected D', args := #[] } ∧ D' < w.heap.size := by
    intro ds
    induction ds with
    | nil => intro _ e he; simp at he
    | cons d ds ih =>
      intro h e he
      obtain ⟨⟨D', h1, h2, h3, h4⟩, h5⟩ := h
      rcases List.mem_cons.1 he with rfl | he
      · exact ⟨D', h1, block_lt h3⟩
      · exact ih h5 e he
  refine ⟨⟨D, rfl, hB, hD, fun e he => ?_⟩, h.keep fun e he D' he' hD' => hk _ _ hD' rfl⟩
  obtain ⟨D', rfl, hlt'⟩ := lt h e he
  intro heq
  injection heq with h1
  injection h1 with h2
  omega
end Go.Proofs.Ytaigbhhmmdfdcaa
