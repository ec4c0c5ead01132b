/- A range over an iterator that writes a row of its own between the rounds, and hands that row out. -/
import Derived.RangeFuncNested
import Derived.RangeFuncBound
import Derived.RangeFuncCalls
import Derived.RangeFuncLeaves
import Derived.Shelf.Abstract
import Derived.Shelf.RegionOpen
import Derived.WalkKit
import Derived.OwnWalkIn
import Derived.TacticsInMore
import Derived.LoopNIn
import Derived.LoopIn
import Derived.Test.YtohglbfeahofhaaGreatG1
namespace Go.Proofs.YtohglbfeahofhaaGreat
open Go.RowKit
/-- What stays where new blocks come and the row r turns. -/
def StabR (r : Nat) (J : World → Prop) : Prop := ∀ W W', J W → But r W W' → J W'
/-- What stays where a loop's record turns. -/
def TurnyR (B : Nat) (J : World → Prop) : Prop := ∀ W l o o', B ≤ l → J W → W.heap[l]? = some o → o.isCells = false → J (W.putObj l o')
/-- The iterator's contract: it hands out its row r, which reads as x; whatever the caller holds that does not name r. -/
def IterGives3 {α : Type} (F : Fence) (n : Nat) (P : Program) (g : Nat) (lb : Array Value) (T : TypeId) (row : α → Array Value) (encs : Nat → α → Array Value) (Kp : World → World → Prop) (S Sp : List α → Prop) (N : Nat) (w : World) : Prop :=
  ∀ (l : Nat) (J Jx : Nat → List α → World → Prop) (W : World), Below w.heap.size w W → (∀ r s, W.heap.size ≤ r → StabR r (J r s)) → (∀ r s, W.heap.size ≤ r → StabR r (Jx r s)) →
    (∀ r pre x W1, W.heap.size ≤ r → J r pre W1 → pre.length < N → W.heap.size ≤ W1.heap.size → W1.heap[r]? = some (.cells (row x) T) → YieldAt F (n - 1) P l (encs r x) W1 fun e W' =>
      (e = .returned (.bool true) ∧ J r (pre ++ [x]) W' ∧ Kp W1 W') ∨ (e = .returned (.bool false) ∧ Jx r (pre ++ [x]) W')) →
    (∀ r, W.heap.size ≤ r → J r [] W) →
    CallsIn F n P g (#[.func (.yield l) #[] #[]] ++ lb) W fun e W' => (∃ v, e = .returned v) ∧ ((∃ r xs, W.heap.size ≤ r ∧ S xs ∧ J r xs W') ∨ (∃ r pre, W.heap.size ≤ r ∧ Sp pre ∧ Jx r pre W'))
section
variable {P : Program} {F : Fence} {n : Nat}
theorem wpIn_range_row {α : Type} {g : Operand} {ps : Array Tmp} {assign body : Code} {Q : Exit → Act → World → Prop} {a : Act} {w : World}
    (hro : F.round = none) (h1 : 1 ≤ n) {gf : Nat} {lb : Array Value} (hg : a.eval g = .func (.func gf) #[] lb) (hFg : F.fn gf) (eg : ∀ args w, (callFunc gf args).run P w = .ok (.enter gf args) w)
    {T : TypeId} {row : α → Array Value} {encs : Nat → α → Array Value} {Kp : World → World → Prop} {S Sp : List α → Prop} {N : Nat} (hseq : IterGives3 F (n - 1) P gf lb T row encs Kp S Sp N w)
    (hKt : ∀ {A B C : World}, Kp A B → Kp B C → Kp A C) (hKb : ∀ (W : World) (l : Nat) (o o' : Obj), w.heap.size ≤ l → W.heap[l]? = some o → o.isCells = false → Kp W (W.putObj l o')) (hps : ∀ r x, (encs r x).size = ps.size)
    (I : Nat → List α → World → Prop) (Ix : Nat → Code → List α → World → Prop) (hI : ∀ r s, w.heap.size ≤ r → StabR r (I r s)) (hIx : ∀ r c s, w.heap.size ≤ r → StabR r (Ix r c s)) (tI : ∀ r s, TurnyR w.heap.size (I r s)) (tIx : ∀ r c s, TurnyR w.heap.size (Ix r c s)) (h0 : ∀ r, w.heap.size ≤ r → I r [] w)
    (Ax : Nat → α → Act → World → Prop) (hAx : ∀ r x a' W l o o', Ax r x a' W → w.heap.size ≤ l → W.heap[l]? = some o → o.isCells = false → Ax r x a' (W.putObj l o'))
    (hassign : ∀ (l r : Nat) (pre : List α) (x : α) (W : World) (K : Act → World → Prop), w.heap.size ≤ r → I r pre W → w.heap.size ≤ W.heap.size → W.heap[r]? = some (.cells (row x) T) → (∀ a' W', KeepsFrom w.heap.size W W' → Kp W W' → I r pre W' → Ax r x a' W' → K a' W') →
      assign.wpIn (F.inRound l) (n - 1 - 1) P (Exit.then K (fun _ _ _ => False)) { tmps := (ps.zip (encs r x)).foldl (fun t (p, v) => t.setIfInBounds p v) a.tmps, defers := [] } W)
    (hbody : ∀ (l r : Nat) (pre : List α) (x : α) (a' : Act) (W : World), w.heap.size ≤ r → w.heap.size ≤ W.heap.size → I r pre W → Ax r x a' W → pre.length < N → body.wpIn (F.inRound l) (n - 1 - 1) P (ownPostG w.heap.size Kp (I r) (Ix r) (pre ++ [x]) W) a' W)
    (hdone : ∀ (D r : Nat) (xs : List α) (W : World), w.heap.size ≤ D → w.heap.size ≤ r → S xs → I r xs W → W.heap[D]? = some (.deferred (some [])) → Q .normal { a with defers := { target := .collected D, args := #[] } :: a.defers } W)
    (hstop : ∀ (D r : Nat) (c : Code) (pre : List α) (W : World), w.heap.size ≤ D → w.heap.size ≤ r → Sp pre → Ix r c pre W → W.heap[D]? = some (.deferred (some [])) → c.wpIn F n P Q { a with defers := { target := .collected D, args := #[] } :: a.defers } W) :
    (Code.rangeFunc g ps assign body).wpIn F n P Q a w := by
  refine wpIn_rangeFunc fun fn hfn => ?_
  rw [hro]
  -- the record of the loop, in its states
  let R : LoopState → Option Code → Obj := fun st pe => .loop { state := st, pending := pe, fn, tmps := a.tmps, params := ps, assign, body, defers := w.heap.size }
  let B := w.heap.size
  let W1 := (w.alloc (.deferred (some []))).alloc (R .ready none)
  have z1 : W1.heap.size = B + 2 := by simp [W1, B]
  have b1 : Below B w W1 := ((Below.refl B w).alloc (Nat.le_refl _) _).alloc (by simp [B]) _
  have d1 : W1.heap[B]? = some (.deferred (some [])) := (Below.heap_alloc _ _ _ (by simp [B])).trans (World.alloc_heap_new w _)
  have l1 : W1.heap[B + 1]? = some (R .ready none) := by
    have := World.alloc_heap_new (w.alloc (.deferred (some []))) (R .ready none)
    rwa [World.size_alloc] at this
  refine ⟨B + 1, [{ target := .collected B, args := #[] }], W1, { target := .fn (.func gf) lb, args := #[.func (.yield (B + 1)) #[] #[]] }, W1, gf, #[.func (.yield (B + 1)) #[] #[]] ++ lb, W1,
    run_enterLoop_outer _ _ _ _ _, ?_, ?_, ?_, fun _ => h1, ?_⟩
  · simp only [resolve, hg]
    simp [go_sem]
  · intro f' hf'
    simp [Target.leads] at hf'
    subst hf'
    exact hFg
  · simp [invoke, go_sem, eg]
  have firm2 : ∀ (r : Nat) (J : World → Prop) (st : LoopState) (pe : Option Code), W1.heap.size ≤ r → StabR r J → StabR r (fun W => J W ∧ W.heap[B + 1]? = some (R st pe) ∧ W.heap[B]? = some (.deferred (some []))) := by
    intro r J st pe hr hJ W W' hW hb
    exact ⟨hJ W W' hW.1 hb, (hb.block _ (Array.getElem?_eq_some_iff.1 hW.2.1).1 (by omega)).trans hW.2.1, (hb.block _ (Array.getElem?_eq_some_iff.1 hW.2.2).1 (by omega)).trans hW.2.2⟩
  have b1b : ∀ r, But r w W1 := fun r => ⟨b1.os, b1.tape, b1.output, b1.size, fun k hk _ => b1.block k hk⟩
  refine (hseq (B + 1) (fun r pre W => I r pre W ∧ W.heap[B + 1]? = some (R .ready none) ∧ W.heap[B]? = some (.deferred (some [])))
    (fun r pre W => ∃ c, Ix r c pre W ∧ W.heap[B + 1]? = some (R .done (some c)) ∧ W.heap[B]? = some (.deferred (some []))) W1 b1 (fun r s hr => firm2 r _ _ _ hr (hI r s (by omega)))
    (fun r s hr W W' hW hb => by obtain ⟨c, hc⟩ := hW; exact ⟨c, firm2 r _ _ _ hr (hIx r c s (by omega)) W W' hc hb⟩) ?_ (fun r hr => ⟨hI r _ (by omega) _ _ (h0 r (by omega)) (b1b r), l1, d1⟩)).mono ?_
  · -- one round
    rintro r pre x W hr ⟨hi, hl, hd⟩ hlen hsz hrow
    have hy := run_yield (P := P) (args := encs r x) hl (hps r x)
    refine ⟨fn, _, assign, body, hy, roundIn_of_wpIn hfn (hassign _ r pre x W _ (by omega) hi (by omega) hrow ?_)⟩
    intro a' V hkf hkp hi' hax
    have hl' := hkf.same _ _ (by omega) hl rfl
    have hd' := hkf.same _ _ (Nat.le_refl _) hd rfl
    have hlV : B + 1 < V.heap.size := (Array.getElem?_eq_some_iff.1 hl').1
    refine ⟨_, run_beginRound hl' rfl, ?_⟩
    have hl2 : (V.putObj (B + 1) (R .busy none)).heap[B + 1]? = some (R .busy none) := World.putObj_heap_same hlV
    have hd2 : (V.putObj (B + 1) (R .busy none)).heap[B]? = some (.deferred (some [])) := (World.putObj_heap_other (by omega)).trans hd'
    have hk2 : Kp V (V.putObj (B + 1) (R .busy none)) := hKb _ _ _ _ (by omega) hl' rfl
    refine wpIn_mono (hbody _ r pre x a' _ (by omega) (by simp [World.putObj]; omega) (tI _ _ _ _ _ _ (by omega) hi' hl' rfl) (hAx _ _ _ _ _ _ _ hax (by omega) hl' rfl) hlen) ?_
    have ends : ∀ (jump : Option Code) (W3 : World), KeepsFrom B (V.putObj (B + 1) (R .busy none)) W3 →
        (Instr.endRound (B + 1) jump).run P W3 = .ok (.bool jump.isNone) (W3.putObj (B + 1) (R (if jump.isNone then .ready else .done) jump)) ∧ W3.heap[B + 1]? = some (R .busy none) ∧
        (W3.putObj (B + 1) (R (if jump.isNone then .ready else .done) jump)).heap[B + 1]? = some (R (if jump.isNone then .ready else .done) jump) ∧
        (W3.putObj (B + 1) (R (if jump.isNone then .ready else .done) jump)).heap[B]? = some (.deferred (some [])) := by
      intro jump W3 hk3
      have hl3 := hk3.same _ _ (by omega) hl2 rfl
      exact ⟨run_endRound (P := P) jump hl3, hl3, World.putObj_heap_same (Array.getElem?_eq_some_iff.1 hl3).1, (World.putObj_heap_other (by omega)).trans (hk3.same _ _ (Nat.le_refl _) hd2 rfl)⟩
    have leaves : ∀ (c : Code) (W3 : World), KeepsFrom B (V.putObj (B + 1) (R .busy none)) W3 → Ix r c (pre ++ [x]) W3 →
        ∃ b W4, (Instr.endRound (B + 1) (some c)).run P W3 = .ok b W4 ∧ ((Ending.returned b = .returned (.bool true) ∧ (I r (pre ++ [x]) W4 ∧ W4.heap[B + 1]? = some (R .ready none) ∧ W4.heap[B]? = some (.deferred (some []))) ∧ Kp W W4) ∨
          (Ending.returned b = .returned (.bool false) ∧ ∃ c, Ix r c (pre ++ [x]) W4 ∧ W4.heap[B + 1]? = some (R .done (some c)) ∧ W4.heap[B]? = some (.deferred (some [])))) := by
      intro c W3 hk3 hx
      obtain ⟨e1, -, e3, e4⟩ := ends (some c) W3 hk3
      exact ⟨_, _, e1, .inr ⟨rfl, c, tIx _ _ _ _ _ _ _ (by omega) hx (hk3.same _ _ (by omega) hl2 rfl) rfl, e3, e4⟩⟩
    rintro e a3 W3 hp
    cases e with
    | normal =>
      obtain ⟨hk3, hkp3, hi3⟩ := hp
      obtain ⟨e1, e2, e3, e4⟩ := ends none W3 hk3
      exact ⟨_, _, e1, .inl ⟨rfl, ⟨tI _ _ _ _ _ _ (by omega) hi3 e2 rfl, e3, e4⟩, hKt hkp (hKt (hKt hk2 hkp3) (hKb _ _ _ _ (by omega) e2 rfl))⟩⟩
    | ret => exact leaves _ _ hp.1 hp.2
    | exit id => exact leaves _ _ hp.1 hp.2
    | goto t => exact leaves _ _ hp.1 hp.2
    | panic ch => exact hp.elim
    | outgrown => exact hp.elim
  · rintro e W2 ⟨⟨v, rfl⟩, (⟨r, xs, hr, hS, hi, hl, hd⟩ | ⟨r, pre, hr, hSp, c, hi, hl, hd⟩)⟩
    · exact ⟨none, _, run_endLoop (P := P) hl (by simp), hdone _ r xs _ (Nat.le_refl _) (by omega) hS (tI _ _ _ _ _ _ (by omega) hi hl rfl) ((World.putObj_heap_other (by omega)).trans hd)⟩
    · exact ⟨some c, _, run_endLoop (P := P) hl (by simp), hstop _ r c pre _ (Nat.le_refl _) (by omega) hSp (tIx _ _ _ _ _ _ _ (by omega) hi hl rfl) ((World.putObj_heap_other (by omega)).trans hd)⟩
end
end Go.Proofs.YtohglbfeahofhaaGreat
