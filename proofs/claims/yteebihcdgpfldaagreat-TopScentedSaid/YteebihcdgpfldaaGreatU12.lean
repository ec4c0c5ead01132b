/- A range over an iterator, the body of which makes new memory of its own between the rounds. -/
import Derived.Test.YteebihcdgpfldaaGreatU11
namespace Go.Proofs.YteebihcdgpfldaaGreat
open Go.RowKit
/-- What stays where new blocks alone come. -/
def StabB (J : World → Prop) : Prop := ∀ W W', J W → Below W.heap.size W W' → J W'
/-- What stays where a loop's record turns. -/
def Turny (B : Nat) (J : World → Prop) : Prop := ∀ W l o o', B ≤ l → J W → W.heap[l]? = some o → o.isCells = false → J (W.putObj l o')
/-- The iterator's contract: whatever firm thing the caller holds, round by round. -/
def IterGives2 {α : Type} (F : Fence) (n : Nat) (P : Program) (g : Nat) (lb : Array Value) (encs : α → Array Value) (Kp : World → World → Prop) (S Sp : List α → Prop) (N : Nat) (w : World) : Prop :=
 ∀ (l : Nat) (J Jx : List α → World → Prop) (W : World), Below w.heap.size w W → (∀ s, StabB (J s)) → (∀ s, StabB (Jx s)) →
  (∀ pre x W1, J pre W1 → pre.length < N → W.heap.size ≤ W1.heap.size → YieldAt F (n - 1) P l (encs x) W1 fun e W' =>
   (e = .returned (.bool true) ∧ J (pre ++ [x]) W' ∧ Kp W1 W') ∨ (e = .returned (.bool false) ∧ Jx (pre ++ [x]) W')) →
  J [] W →
  CallsIn F n P g (#[.func (.yield l) #[] #[]] ++ lb) W fun e W' => (∃ v, e = .returned v) ∧ ((∃ xs, S xs ∧ J xs W') ∨ (∃ pre, Sp pre ∧ Jx pre W'))
section
variable {P : Program} {F : Fence} {n : Nat}
theorem wpIn_range_stab {α : Type} {g : Operand} {ps : Array Tmp} {assign body : Code} {Q : Exit → Act → World → Prop} {a : Act} {w : World}
 (hro : F.round = none) (h1 : 1 ≤ n) {gf : Nat} {lb : Array Value} (hg : a.eval g = .func (.func gf) #[] lb) (hFg : F.fn gf) (eg : ∀ args w, (callFunc gf args).run P w = .ok (.enter gf args) w)
 {encs : α → Array Value} {Kp : World → World → Prop} {S Sp : List α → Prop} {N : Nat} (hseq : IterGives2 F (n - 1) P gf lb encs Kp S Sp N w)
 (hKt : ∀ {A B C : World}, Kp A B → Kp B C → Kp A C) (hKb : ∀ (W : World) (l : Nat) (o o' : Obj), w.heap.size ≤ l → W.heap[l]? = some o → o.isCells = false → Kp W (W.putObj l o')) (hps : ∀ x, (encs x).size = ps.size)
 (I : List α → World → Prop) (Ix : Code → List α → World → Prop) (hI : ∀ s, StabB (I s)) (hIx : ∀ c s, StabB (Ix c s)) (tI : ∀ s, Turny w.heap.size (I s)) (tIx : ∀ c s, Turny w.heap.size (Ix c s)) (h0 : I [] w)
 (Ax : α → Act → World → Prop) (hAx : ∀ x a' W l o o', Ax x a' W → w.heap.size ≤ l → W.heap[l]? = some o → o.isCells = false → Ax x a' (W.putObj l o'))
 (hassign : ∀ (l : Nat) (pre : List α) (x : α) (W : World) (K : Act → World → Prop), I pre W → w.heap.size ≤ W.heap.size → (∀ a' W', KeepsFrom w.heap.size W W' → Kp W W' → I pre W' → Ax x a' W' → K a' W') →
  assign.wpIn (F.inRound l) (n - 1 - 1) P (Exit.then K (fun _ _ _ => False)) { tmps := (ps.zip (encs x)).foldl (fun t (p, v) => t.setIfInBounds p v) a.tmps, defers := [] } W)
 (hbody : ∀ (l : Nat) (pre : List α) (x : α) (a' : Act) (W : World), w.heap.size ≤ W.heap.size → I pre W → Ax x a' W → pre.length < N → body.wpIn (F.inRound l) (n - 1 - 1) P (ownPostG w.heap.size Kp I Ix (pre ++ [x]) W) a' W)
 (hdone : ∀ (D : Nat) (xs : List α) (W : World), w.heap.size ≤ D → S xs → I xs W → W.heap[D]? = some (.deferred (some [])) → Q .normal { a with defers := { target := .collected D, args := #[] } :: a.defers } W)
 (hstop : ∀ (D : Nat) (c : Code) (pre : List α) (W : World), w.heap.size ≤ D → Sp pre → Ix c pre W → W.heap[D]? = some (.deferred (some [])) → c.wpIn F n P Q { a with defers := { target := .collected D, args := #[] } :: a.defers } W) :
 (Code.rangeFunc g ps assign body).wpIn F n P Q a w := by
 refine wpIn_rangeFunc fun fn hfn => ?_
 rw [hro]
 -- the record of the loop, in its states
 let R : LoopState → Option Code → Obj := fun st pe => .loop { state := st, pending := pe, fn, tmps := a.tmps, params := ps, assign, body, defers := w.heap.size }
 let B := w.heap.size
 let W1 := (w.alloc (.deferred (some []))).alloc (R .ready none)
 have z1 : W1.heap.size = B + 2 := by simp [W1, B]
 have b1 : Below B w W1 := ((Below.refl B w).alloc (Nat.le_refl _) _).alloc (by simp [B]) _
 have d1 : W1.heap[B]? = some (.deferred (some [])) := (Below.heap_alloc _ _ _ (by simp [B])).trans (World.alloc_heap_new w _)
 have l1 : W1.heap[B + 1]? = some (R .ready none) := by
  have := World.alloc_heap_new (w.alloc (.deferred (some []))) (R .ready none)
  rwa [World.size_alloc] at this
 refine ⟨B + 1, [{ target := .collected B, args := #[] }], W1, { target := .fn (.func gf) lb, args := #[.func (.yield (B + 1)) #[] #[]] }, W1, gf, #[.func (.yield (B + 1)) #[] #[]] ++ lb, W1,
  run_enterLoop_outer _ _ _ _ _, ?_, ?_, ?_, fun _ => h1, ?_⟩
 ·simp only [resolve, hg]
  simp [go_sem]
 ·intro f' hf'
  simp [Target.leads] at hf'
  subst hf'
  exact hFg
 ·simp [invoke, go_sem, eg]
 have firm2 : ∀ (J : World → Prop) (st : LoopState) (pe : Option Code), StabB J → StabB (fun W => J W ∧ W.heap[B + 1]? = some (R st pe) ∧ W.heap[B]? = some (.deferred (some []))) := by
  intro J st pe hJ W W' hW hb
  exact ⟨hJ W W' hW.1 hb, (hb.block _ (Array.getElem?_eq_some_iff.1 hW.2.1).1).trans hW.2.1, (hb.block _ (Array.getElem?_eq_some_iff.1 hW.2.2).1).trans hW.2.2⟩
 refine (hseq (B + 1) (fun pre W => I pre W ∧ W.heap[B + 1]? = some (R .ready none) ∧ W.heap[B]? = some (.deferred (some [])))
  (fun pre W => ∃ c, Ix c pre W ∧ W.heap[B + 1]? = some (R .done (some c)) ∧ W.heap[B]? = some (.deferred (some []))) W1 b1 (fun s => firm2 _ _ _ (hI s))
  (fun s W W' hW hb => by obtain ⟨c, hc⟩ := hW; exact ⟨c, firm2 _ _ _ (hIx c s) W W' hc hb⟩) ?_ ⟨hI _ _ _ h0 b1, l1, d1⟩).mono ?_
 · -- one round
  rintro pre x W ⟨hi, hl, hd⟩ hlen hsz
  have hy := run_yield (P := P) (args := encs x) hl (hps x)
  refine ⟨fn, _, assign, body, hy, roundIn_of_wpIn hfn (hassign _ pre x W _ hi (by omega) ?_)⟩
  intro a' V hkf hkp hi' hax
  have hl' := hkf.same _ _ (by omega) hl rfl
  have hd' := hkf.same _ _ (Nat.le_refl _) hd rfl
  have hlV : B + 1 < V.heap.size := (Array.getElem?_eq_some_iff.1 hl').1
  refine ⟨_, run_beginRound hl' rfl, ?_⟩
  have hl2 : (V.putObj (B + 1) (R .busy none)).heap[B + 1]? = some (R .busy none) := World.putObj_heap_same hlV
  have hd2 : (V.putObj (B + 1) (R .busy none)).heap[B]? = some (.deferred (some [])) := (World.putObj_heap_other (by omega)).trans hd'
  have hk2 : Kp V (V.putObj (B + 1) (R .busy none)) := hKb _ _ _ _ (by omega) hl' rfl
  refine wpIn_mono (hbody _ pre x a' _ (by simp [World.putObj]; omega) (tI _ _ _ _ _ (by omega) hi' hl' rfl) (hAx _ _ _ _ _ _ hax (by omega) hl' rfl) hlen) ?_
  have ends : ∀ (jump : Option Code) (W3 : World), KeepsFrom B (V.putObj (B + 1) (R .busy none)) W3 →
   (Instr.endRound (B + 1) jump).run P W3 = .ok (.bool jump.isNone) (W3.putObj (B + 1) (R (if jump.isNone then .ready else .done) jump)) ∧ W3.heap[B + 1]? = some (R .busy none) ∧
   (W3.putObj (B + 1) (R (if jump.isNone then .ready else .done) jump)).heap[B + 1]? = some (R (if jump.isNone then .ready else .done) jump) ∧
   (W3.putObj (B + 1) (R (if jump.isNone then .ready else .done) jump)).heap[B]? = some (.deferred (some [])) := by
   intro jump W3 hk3
   have hl3 := hk3.same _ _ (by omega) hl2 rfl
   exact ⟨run_endRound (P := P) jump hl3, hl3, World.putObj_heap_same (Array.getElem?_eq_some_iff.1 hl3).1, (World.putObj_heap_other (by omega)).trans (hk3.same _ _ (Nat.le_refl _) hd2 rfl)⟩
  have leaves : ∀ (c : Code) (W3 : World), KeepsFrom B (V.putObj (B + 1) (R .busy none)) W3 → Ix c (pre ++ [x]) W3 →
   ∃ b W4, (Instr.endRound (B + 1) (some c)).run P W3 = .ok b W4 ∧ ((Ending.returned b = .returned (.bool true) ∧ (I (pre ++ [x]) W4 ∧ W4.heap[B + 1]? = some (R .ready none) ∧ W4.heap[B]? = some (.deferred (some []))) ∧ Kp W W4) ∨
    (Ending.returned b = .returned (.bool false) ∧ ∃ c, Ix c (pre ++ [x]) W4 ∧ W4.heap[B + 1]? = some (R .done (some c)) ∧ W4.heap[B]? = some (.deferred (some [])))) := by
   intro c W3 hk3 hx
   obtain ⟨e1, -, e3, e4⟩ := ends (some c) W3 hk3
   exact ⟨_, _, e1, .inr ⟨rfl, c, tIx _ _ _ _ _ _ (by omega) hx (hk3.same _ _ (by omega) hl2 rfl) rfl, e3, e4⟩⟩
  rintro e a3 W3 hp
  cases e with
  | normal =>
   obtain ⟨hk3, hkp3, hi3⟩ := hp
   obtain ⟨e1, e2, e3, e4⟩ := ends none W3 hk3
   exact ⟨_, _, e1, .inl ⟨rfl, ⟨tI _ _ _ _ _ (by omega) hi3 e2 rfl, e3, e4⟩, hKt hkp (hKt (hKt hk2 hkp3) (hKb _ _ _ _ (by omega) e2 rfl))⟩⟩
  | ret => exact leaves _ _ hp.1 hp.2
  | exit id => exact leaves _ _ hp.1 hp.2
  | goto t => exact leaves _ _ hp.1 hp.2
  | panic ch => exact hp.elim
  | outgrown => exact hp.elim
 ·rintro e W2 ⟨⟨v, rfl⟩, (⟨xs, hS, hi, hl, hd⟩ | ⟨pre, hSp, c, hi, hl, hd⟩)⟩
  ·exact ⟨none, _, run_endLoop (P := P) hl (by simp), hdone _ xs _ (Nat.le_refl _) hS (tI _ _ _ _ _ (by omega) hi hl rfl) ((World.putObj_heap_other (by omega)).trans hd)⟩
  ·exact ⟨some c, _, run_endLoop (P := P) hl (by simp), hstop _ c pre _ (Nat.le_refl _) hSp (tIx _ _ _ _ _ _ (by omega) hi hl rfl) ((World.putObj_heap_other (by omega)).trans hd)⟩
end
end Go.Proofs.YteebihcdgpfldaaGreat
