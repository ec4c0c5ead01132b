/- Walks: Keeps, Take, Pale; Made plainly. -/
import Derived.WalkMore
import Derived.Test.YtpkggjobdmchlaaGreatDoorK1
import Derived.Test.YtpkggjobdmchlaaGreatDoorK3
import Derived.RangeFuncNested
import Derived.RangeFuncBound
import Derived.RangeFuncCalls
import Derived.RangeFuncLeaves
import Derived.Shelf.Abstract
import Derived.Shelf.RegionOpen
import Derived.OwnWalkIn
import Derived.TacticsInMore
import Derived.LoopNIn
import Derived.LoopIn
import Derived.Carry
import Derived.Scope
import Derived.Lib.MinMax
import Derived.BigQuiet
import Derived.Deep.AppendLies
namespace Go.Proofs.YtpkggjobdmchlaaGreatDoor
open Go.RowKit
end Go.Proofs.YtpkggjobdmchlaaGreatDoor
namespace Go.Proofs.YtpkggjobdmchlaaGreatDoor
open Go.RowKit
/-- What Made's inner function works on: a row of ints, and a bool. -/
structure PS (B : Nat) (wX : World) (mb gw : Nat) (m : List Int) (b : Bool) (w : World) : Prop where
  bel : Below B wX w
  le : B ≤ w.heap.size
  c1 : w.heap[mb]? = some (.cells (ints m) 3)
  c2 : w.heap[gw]? = some (.cells #[.bool b] 4)
  ne : mb ≠ gw
  g1 : B ≤ mb
  g2 : B ≤ gw
section
variable {B : Nat} {wX w w' : World} {mb gw : Nat} {m m' : List Int} {b b' : Bool}
theorem PS.call (h : PS B wX mb gw m b w) (hb : Below w.heap.size w w') : PS B wX mb gw m b w' :=
  ⟨h.bel.trans (hb.mono h.le), Nat.le_trans h.le hb.size, block_keep h.c1 hb, block_keep h.c2 hb, h.ne, h.g1, h.g2⟩
theorem PS.drew (h : PS B wX mb gw m b w) (n : Nat) : PS B wX mb gw m b (w.drewN n) := h.call (below_drewN (Below.refl _ _) n)
end
end Go.Proofs.YtpkggjobdmchlaaGreatDoor
/- Walks: Made, the batches of a shop one by one. -/
namespace Go.Proofs.YtpkggjobdmchlaaGreatDoor
open Go.RowKit
theorem SlIn.row {α : Type} [Inhabited α] {R : Rd α} {B : Nat} {w : World} {v : Value} {l : List α} (h : SlIn R B w v l) (h0 : 0 < l.length) : ∃ b o c, v = .slice (some ⟨b, o, none⟩) l.length c ∧ l.length ≤ c ∧ b < B ∧ ∀ i, i < l.length → R.rd B w b (o + i * R.sz) (l.getD i default) := by
  obtain ⟨a, c, rfl, hl, hlc, h⟩ := h
  rcases h with rfl | ⟨b, o, rfl, hbb, h⟩
  · simp at h0
  · exact ⟨b, o, c, rfl, hlc, hbb, h⟩
end Go.Proofs.YtpkggjobdmchlaaGreatDoor
namespace Go.Proofs.YtpkggjobdmchlaaGreatDoor
open Go.RowKit Go.Shelf
attribute [local go_sem] Oper.semAt_some
/-- What a round keeps: the blocks that the iterator has. -/
structure MiK (B bm bo : Nat) (W W' : World) : Prop where
  size : W.heap.size ≤ W'.heap.size
  own : ∀ k cs t fr, B ≤ k → W.heap[k]? = some (.cells cs t fr) → W'.heap[k]? = some (.cells cs t fr)
  m : W'.heap[bm]? = W.heap[bm]?
  o : W'.heap[bo]? = W.heap[bo]?
theorem MiK.t {B bm bo : Nat} {X Y Z : World} (h : MiK B bm bo X Y) (k : MiK B bm bo Y Z) : MiK B bm bo X Z :=
  ⟨Nat.le_trans h.size k.size, fun i cs t fr hB hi => k.own i cs t fr hB (h.own i cs t fr hB hi), k.m.trans h.m, k.o.trans h.o⟩
theorem MiK.b {B bm bo : Nat} (hm : bm < B) (ho : bo < B) (W : World) (l : Nat) (o o' : Obj) (hl : B ≤ l) (h : W.heap[l]? = some o) (hc : o.isCells = false) : MiK B bm bo W (W.putObj l o') := by
  refine ⟨by simp [World.putObj], fun k cs t fr _ hk => ?_, World.putObj_heap_other (by omega), World.putObj_heap_other (by omega)⟩
  by_cases e : k = l
  · subst e
    rw [h] at hk
    cases hk
    simp [Obj.isCells] at hc
  · exact (World.putObj_heap_other e).trans hk
theorem MiK.below {B bm bo : Nat} {W W' : World} (hm : bm < W.heap.size) (ho : bo < W.heap.size) (h : Below W.heap.size W W') : MiK B bm bo W W' :=
  ⟨h.size, fun _ _ _ _ _ hk => block_keep hk h, h.block _ hm, h.block _ ho⟩
/-- A store below B. -/
theorem MiK.setRow {B bm bo X : Nat} (hX : X < B) (hm : bm ≠ X) (ho : bo ≠ X) (W : World) (cs : Array Value) : MiK B bm bo W (W.setRow X cs) :=
  ⟨by simp, fun k _ _ _ hk h => (setRow_other W X k cs (by omega)).trans h, setRow_other W X bm cs hm, setRow_other W X bo cs ho⟩
end Go.Proofs.YtpkggjobdmchlaaGreatDoor
namespace Go.Proofs.YtpkggjobdmchlaaGreatDoor
open Go.RowKit Go.Shelf
/-- Each mark has a block of its own, from B on, that holds nothing to run. -/
def MarksOk (B : Nat) : List Deferred → World → Prop
  | [], _ => True
  | d :: ds, w => (∃ D, d = { target := .collected D, args := #[] } ∧ B ≤ D ∧ w.heap[D]? = some (.deferred (some [])) ∧ ∀ e ∈ ds, e ≠ d) ∧ MarksOk B ds w
/-- What the leaving keeps: all cells. -/
structure CellsKeep (B : Nat) (w w' : World) : Prop where
  bel : Below B w w'
  cells : ∀ (k : Nat) (cs : Array Value) (t : TypeId) (fr : Nat × Nat), w.heap[k]? = some (Obj.cells cs t fr) → w'.heap[k]? = some (Obj.cells cs t fr)
theorem CellsKeep.refl (B : Nat) (w : World) : CellsKeep B w w := ⟨Below.refl _ _, fun _ _ _ _ h => h⟩
theorem CellsKeep.trans {B : Nat} {a b c : World} (h : CellsKeep B a b) (k : CellsKeep B b c) : CellsKeep B a c := ⟨h.bel.trans k.bel, fun i cs t fr hi => k.cells i cs t fr (h.cells i cs t fr hi)⟩
theorem CellsKeep.take {B D : Nat} {w : World} (hB : B ≤ D) (h : w.heap[D]? = some (.deferred (some []))) (o : Obj) : CellsKeep B w (w.putObj D o) := by
  refine ⟨below_turn hB w o, fun k cs t fr hk => ?_⟩
  have : k ≠ D := by rintro rfl; rw [h] at hk; cases hk
  exact (World.putObj_heap_other this).trans hk
theorem MarksOk.keep {B : Nat} {w w' : World} : ∀ {ds : List Deferred}, MarksOk B ds w → (∀ d ∈ ds, ∀ D, d = { target := .collected D, args := #[] } → w.heap[D]? = some (.deferred (some [])) → w'.heap[D]? = some (.deferred (some []))) → MarksOk B ds w'
  | [], _, _ => trivial
  | d :: ds, h, hk => by
    obtain ⟨⟨D, h1, h2, h3, h4⟩, h5⟩ := h
    exact ⟨⟨D, h1, h2, hk d (by simp) D h1 h3, h4⟩, MarksOk.keep h5 (fun e he => hk e (by simp [he]))⟩
theorem leaves_marks {F : Fence} {n : Nat} {P : Program} {fn : Func} {tmps : Array Value} {R : Ending → World → Prop} {B : Nat} : ∀ {ds : List Deferred} {w : World}, MarksOk B ds w →
    (∀ w', CellsKeep B w w' → LeavesInM F n P fn tmps R [] .returning w') → LeavesInM F n P fn tmps R ds .returning w
  | [], w, _, h => h w (CellsKeep.refl _ _)
  | d :: ds, w, hm, h => by
    obtain ⟨⟨D, rfl, h2, h3, h4⟩, h5⟩ := hm
    refine ⟨by simp, .inl ⟨D, _, rfl, run_takeDeferred h3, ?_⟩⟩
    have hck := CellsKeep.take h2 h3 (.deferred none)
    refine leaves_marks (B := B) (h5.keep fun e he D' he' hD' => ?_) (fun w' hw' => h w' (hck.trans hw'))
    have hne : D' ≠ D := by
      rintro rfl
      exact h4 e he he'
    exact (World.putObj_heap_other hne).trans hD'
end Go.Proofs.YtpkggjobdmchlaaGreatDoor
/- Pull. -/
namespace Go.Proofs.YtpkggjobdmchlaaGreatDoor
open Go.RowKit Go.Shelf
attribute [local go_sem] Oper.semAt_some
theorem ownsRow.keepC {w w' : World} {base sz n : Nat} {e : TypeId} {v : Value} {xs : List Value} (h : w.ownsRow base e sz v n xs) (hk : ∀ (k : Nat) (cs : Array Value) (t : TypeId) (fr : Nat × Nat), w.heap[k]? = some (Obj.cells cs t fr) → w'.heap[k]? = some (Obj.cells cs t fr)) : w'.ownsRow base e sz v n xs := by
  refine ⟨h.1, ?_⟩
  rcases h.2 with h0 | ⟨b, cap, cur, rfl, h1, h2, h3⟩
  · exact .inl h0
  · exact .inr ⟨b, cap, cur, rfl, h1, hk _ _ _ _ h2, h3⟩
theorem Bs.snoc {w W : World} {l : List (Nat × Obj)} (h : Bs w l W) {b : Nat} {o : Obj} (hl : ∀ p ∈ l, p.1 < b) (hb : W.heap[b]? = some o) (hw : w.heap.size ≤ b) : Bs w (l ++ [(b, o)]) W := by
  refine ⟨?_, ?_, ?_, h.bel⟩
  · intro p hp
    rcases List.mem_append.1 hp with hp | hp
    · exact h.get' p hp
    · simp only [List.mem_singleton] at hp
      subst hp
      exact hb
  · rw [List.map_append, List.pairwise_append]
    refine ⟨h.inc, by simp, ?_⟩
    intro a ha b' hb'
    simp only [List.mem_map] at ha hb'
    obtain ⟨p, hp, rfl⟩ := ha
    obtain ⟨q, hq, rfl⟩ := hb'
    simp only [List.mem_singleton] at hq
    subst hq
    exact hl p hp
  · intro p hp
    rcases List.mem_append.1 hp with hp | hp
    · exact h.ge p hp
    · simp only [List.mem_singleton] at hp
      subst hp
      exact hw
/-- Blocks from B on stay. -/
structure HiK (B : Nat) (W w' : World) : Prop where
  size : W.heap.size ≤ w'.heap.size
  same : ∀ k, B ≤ k → k < W.heap.size → w'.heap[k]? = W.heap[k]?
theorem HiK.drew (B : Nat) (W : World) : HiK B W W.drew := ⟨Nat.le_refl _, fun _ _ _ => rfl⟩
theorem HiK.trans {B : Nat} {a b c : World} (h : HiK B a b) (k : HiK B b c) : HiK B a c := ⟨Nat.le_trans h.size k.size, fun i hi hl => (k.same i hi (Nat.lt_of_lt_of_le hl h.size)).trans (h.same i hi hl)⟩
theorem HiK.but {B g : Nat} {W w' : World} (h : But g W w') (hg : g < B) : HiK B W w' := ⟨h.size, fun i hi hl => h.block i hl (by omega)⟩
theorem wpListIn_cell_bb {P : Program} {ops : Array Oper} {rest : List Oper} {o : Oper} {a : Act} {w0 w : World} {Q : Exit → Act → World → Prop} {l : List (Nat × Obj)} {Fe : Fence} {n : Nat} (hgd : o.guard = none) (ty : TypeId) (x y : Operand) (ho : o.op = .store ty x y) (H : Bs w0 l w) (i g j : Nat) (old : Array Value) (t : TypeId) (hi : l[i]? = some (g, .cells old t))
    (hx : a.eval x = .pointer (some ⟨g, j, none⟩)) (v : Value) (hy : a.eval y = v) (hj : j < old.size) (h1 : v.oneCell' = true) (hn : (P.info? ty).map (·.size) = some 1)
    (h : ∀ w', Bs w0 (l.set i (g, .cells (old.setIfInBounds j v) t)) w' → But g w w' → wpListIn Fe n P ops Q rest (a.put o.dst undef) w') : wpListIn Fe n P ops Q (o :: rest) a w :=
  wpListIn_plain hgd fun _ hK => by
    have hc : w.cell? ⟨g, j, none⟩ = some old[j] := by rw [H.cell i hi]; simp [hj]
    unfold Oper.wpIn
    refine And.intro (fun f hf => by simp [Oper.about, ho] at hf) ?_
    rw [Oper.semAt_plain Fe a.eval o (by simp [ho])]
    unfold execOp
    simp only [ho, hx, hy, Instr.storeAt, Instr.sureAddr, Sem.run_bind, Sem.run_pure, Result.andThen_ok, run_store_at w g j ty v _ h1 hc (H.free i hi j) hn]
    exact hK _ _ (h _ (H.setCell i hi j v) (But.setCell g j w v))
/-- What is done stays closed. -/
def Cl (l : List Oper) (D : Nat → Bool) : Prop := ∀ k o j, l[k]? = some o → bindsTo o j = true → D k = true → D j = true
theorem Cl.step {l : List Oper} {D : Nat → Bool} {i : Nat} (h : Cl l D) (hD : Due l D i) : Cl l fun k => k == i || D k := by
  intro k o j ho hb hk
  show (j == i || D j) = true
  by_cases hki : k = i
  · subst hki
    rw [hD.pre o j ho hb, Bool.or_true]
  · have e : (k == i) = false := by simpa using hki
    dsimp only at hk
    rw [e, Bool.false_or] at hk
    rw [h k o j ho hb hk, Bool.or_true]
/-- All that is no cells stays. -/
def NonK (w w' : World) : Prop := ∀ (k : Nat) (o : Obj), w.heap[k]? = some o → o.isCells = false → w'.heap[k]? = some o
theorem NonK.drew (w : World) : NonK w w.drew := fun _ _ h _ => h
theorem NonK.trans {a b c : World} (h : NonK a b) (k : NonK b c) : NonK a c := fun i o hi hc => k i o (h i o hi hc) hc
theorem NonK.below {w w' : World} (h : Below w.heap.size w w') : NonK w w' := fun _ _ hi _ => block_keep hi h
theorem NonK.grown {w w' : World} {base size n : Nat} {e : TypeId} {v : Value} {xs : List Value} (h : w.ownsRow base e size v n xs) (hg : w.grownBy w' v.ownBlock) : NonK w w' := by
  intro k o hk hc
  by_cases hr : some k = v.ownBlock
  · rcases h.2 with ⟨rfl, _⟩ | ⟨g, cap, cur, rfl, h1, h2, h3⟩
    · cases hr
    · cases hr
      rw [h2] at hk
      cases hk
      simp [Obj.isCells] at hc
  · exact (hg.block k (block_lt hk) hr).trans hk
end Go.Proofs.YtpkggjobdmchlaaGreatDoor
/- The first references; the examples and their values. -/
namespace Go.Proofs.YtpkggjobdmchlaaGreatDoor
open Go.RowKit
set_option maxRecDepth 100000 in
set_option maxHeartbeats 4000000 in
theorem ints_same (l : List Int) (v u : Value) (w : World) (hv : IntsIn .i64 w.heap.size w v l) (hu : IntsIn .i64 w.heap.size w u l) : Calls Tryz.prog 29 #[v, u] w fun e w' => e = .returned (.bool true) ∧ Below w.heap.size w w' := by
  obtain ⟨a, c, rfl, hl, hv⟩ := hv
  obtain ⟨a2, c2, rfl, -, hu⟩ := hu
  have HV := Lib.hid hv
  have HU := Lib.hid hu
  clear hv hu
  have hq : ((l.length : Int) != (l.length : Int)) = false := by simp
  obtain ⟨n, hn⟩ : ∃ n, l.length = n := ⟨_, rfl⟩
  have HN := Lib.hid hn
  rw [hn] at hl hq ⊢
  clear hn
  go_enter Tryz.func29, Tryz.ntmps29
  go_wp2_with fail
  clear hq
  go_loopw [5] (fun kv wr => ∃ k : Nat, kv = .int .i64 k ∧ k ≤ n ∧ Below w.heap.size w wr) (fun kv _ => n - (intOf kv).toNat)
  case atStart => exact ⟨0, rfl, by omega, Below.refl _ _⟩
  case round =>
    obtain ⟨k, rfl, hk, hb⟩ := hrel
    have CB := Lib.hid hb
    clear hb
    by_cases hlt : k < n
    · have hnn := (HN.out : l.length = n)
      obtain ⟨b, o, rfl, hbb, hc⟩ := HV.out.resolve_left (by intro h; rw [h] at hnn; simp at hnn; omega)
      obtain ⟨b2, o2, rfl, hbb2, hc2⟩ := HU.out.resolve_left (by intro h; rw [h] at hnn; simp at hnn; omega)
      have h1 : wr.cell? ⟨b, o + k, none⟩ = some (.int .i64 (l.getD k 0)) := (CB.out.cell (p := ⟨b, o + k, none⟩) hbb).trans (hc k (by omega))
      have h2 : wr.cell? ⟨b2, o2 + k, none⟩ = some (.int .i64 (l.getD k 0)) := (CB.out.cell (p := ⟨b2, o2 + k, none⟩) hbb2).trans (hc2 k (by omega))
      clear hc hc2 hnn
      generalize l.getD k 0 = x at *
      have hq6 : (x != x) = false := by simp
      go_wp2_with fail
      go_quiet (fail)
      simp only [Exit.then]
      go_wp2_with fail
      refine ⟨⟨k + 1, by push_cast; rfl, by omega, ⟨CB.out.os, CB.out.tape, CB.out.output, CB.out.size, CB.out.block⟩⟩, ?_⟩
      simp [intOf]
      omega
    · obtain rfl : n = k := by omega
      go_wp2_with fail
      go_ret
      exact ⟨rfl, CB.out⟩
end Go.Proofs.YtpkggjobdmchlaaGreatDoor
namespace Go.Proofs.YtpkggjobdmchlaaGreatDoor
open Go.RowKit
set_option maxRecDepth 100000
def exBat0 : Bat := ⟨[800, 200], [], [(20000, 21000), (0, 0), (0, 0)]⟩
def exBat1 : Bat := ⟨[500, 0], [400], [(0, 0), (0, 0), (0, 0)]⟩
def exBats : List Bat := [exBat0, exBat1]
/-- A block of ints reads as a list. -/
theorem IntsIn.row {w : World} {g n m : Nat} {l : List Int} (h : w.heap[g]? = some (.cells (ints l) 3)) (hl : l.length ≤ 1000) (hn : l.length = n) : IntsIn .i64 w.heap.size w (.slice (some ⟨g, 0, none⟩) n m) l := by
  subst hn
  refine ⟨_, _, rfl, by omega, .inr ⟨g, 0, rfl, block_lt h, fun i hi => ?_⟩⟩
  rw [cell_of_row _ _ _ _ _ _ h, Nat.zero_add, ints_get l i hi]
/-- What holds while the batches are laid. -/
structure BaW (wb : World) (D : Nat → Bool) (y : Tmp → Value) (w : World) : Prop where
  bel : Below wb.heap.size wb w
  g1 : D 0 = true → IntsIn .i64 w.heap.size w (y 1) [800, 200]
  g5 : D 4 = true → SpansIn w.heap.size w (y 5) [(20000, 21000), (0, 0), (0, 0)]
  g6 : D 5 = true → ∃ vg va, y 6 = .agg #[vg, .slice none 0 0, va] ∧ BatAt w.heap.size w vg (.slice none 0 0) va exBat0
  g7 : D 6 = true → IntsIn .i64 w.heap.size w (y 7) [500, 0]
  g8 : D 7 = true → IntsIn .i64 w.heap.size w (y 8) [400]
  g9 : D 8 = true → SpansIn w.heap.size w (y 9) [(0, 0), (0, 0), (0, 0)]
  g10 : D 9 = true → ∃ vg vb va, y 10 = .agg #[vg, vb, va] ∧ BatAt w.heap.size w vg vb va exBat1
  g11 : D 10 = true → BatsIn w.heap.size w (y 11) exBats
  g0 : D 11 = true → y 0 = y 11
theorem BaW.next {wb w w' : World} {D : Nat → Bool} {y : Tmp → Value} (h : BaW wb D y w) (hb : Below w.heap.size w w') : BaW wb D y w' :=
  ⟨h.bel.trans (hb.mono h.bel.size), fun e => (h.g1 e).next hb, fun e => (h.g5 e).next hb, fun e => by
    obtain ⟨a, b, e1, e2⟩ := h.g6 e
    exact ⟨a, b, e1, e2.next hb⟩, fun e => (h.g7 e).next hb, fun e => (h.g8 e).next hb, fun e => (h.g9 e).next hb, fun e => by
    obtain ⟨a, b, c, e1, e2⟩ := h.g10 e
    exact ⟨a, b, c, e1, e2.next hb⟩, fun e => (h.g11 e).next hb, h.g0⟩
end Go.Proofs.YtpkggjobdmchlaaGreatDoor
/- Awake. -/
namespace Go.Proofs.YtpkggjobdmchlaaGreatDoor
open Go.RowKit
/-- A row is loaded by an operation that is wanted. -/
theorem wpList_load_want {P : Program} {ops : Array Oper} {rest : List Oper} {o : Oper} {a : Act} {w : World} {Q : Exit → Act → World → Prop} (hw : Region.wanted o (yielded ops a.tmps) = true) (ty : TypeId) (x : Operand) (ho : o.op = .load ty x)
    (g : Nat) (hx : a.eval x = .pointer (some ⟨g, 0, none⟩)) (t : TypeId) (cs : Array Value) (fr : Nat × Nat) (d : TypeDesc) (hg : w.heap[g]? = some (.cells cs t fr))
    (hu : P.underlying ty = some d) (hd : (match d with | .struct _ | .array _ _ => true | _ => false) = true) (hi : (P.info? ty).map (·.size) = some cs.size)
    (h : wpList P ops Q rest (a.put o.dst (.agg cs)) w) : wpList P ops Q (o :: rest) a w := by
  unfold wpList
  rw [if_pos hw]
  exact .inl (wp_load_row ty x ho g hx t cs fr d hg hu hd hi h)
theorem SpansIn.row {w : World} {g n m : Nat} {l : List (Int × Int)} {cs : Array Value} (h : w.heap[g]? = some (.cells cs 25)) (hcs : cs = (spCells l).toArray) (hl : l.length ≤ 1000) (hn : l.length = n) (hm : n ≤ m) : SpansIn w.heap.size w (.slice (some ⟨g, 0, none⟩) n m) l := by
  subst hcs
  refine ⟨_, _, by rw [hn], by omega, by omega, .inr ⟨_, _, rfl, block_lt h, fun i hi => ?_⟩⟩
  have h2 := spCells_at l i hi
  constructor
  · rw [Nat.zero_add]
    exact (cell_of_row _ _ _ _ _ _ h).trans (by rw [List.getElem?_toArray]; exact h2.1)
  · rw [Nat.zero_add]
    exact (cell_of_row _ _ _ _ _ _ h).trans (by rw [List.getElem?_toArray]; exact h2.2)
def exT : List (List (Int × Int)) := [[(22000000, 25000000), (100000, 200000), (0, 61600)], [(8800000, 10000000), (40000, 80000), (0, 25800)]]
/-- What holds amid Awake's last statement. -/
structure AwW (wb : World) (v1 v3 v5 v12 : Value) (bk : Nat) (D : Nat → Bool) (y : Tmp → Value) (w : World) : Prop where
  bel : Below wb.heap.size wb w
  a : TableIn w.heap.size w v1 exT
  m : IntsIn .i64 w.heap.size w v3 [23500000, 120000, 20800]
  l : IntsIn .i64 w.heap.size w v5 [600, 900]
  p : SpansIn w.heap.size w v12 [(875, 890), (944, 952)]
  k : w.heap[bk]? = some (.cells #[.int .i64 0, .int .i64 192] 25)
  p1 : D 35 = true → SpansIn w.heap.size w (y 109) [(22000000, 25000000), (100000, 200000), (0, 61600)]
  p2 : D 39 = true → SpansIn w.heap.size w (y 113) [(8800000, 10000000), (40000, 80000), (0, 25800)]
  p3 : D 40 = true → TableIn w.heap.size w (y 114) exT
  p4 : D 45 = true → IntsIn .i64 w.heap.size w (y 119) [23500000, 120000, 20800]
  p5 : D 50 = true → IntsIn .i64 w.heap.size w (y 124) [600, 900]
  p6 : D 70 = true → SpansIn w.heap.size w (y 144) [(875, 890), (944, 952)]
theorem AwW.next {wb w w' : World} {v1 v3 v5 v12 : Value} {bk : Nat} {D : Nat → Bool} {y : Tmp → Value} (h : AwW wb v1 v3 v5 v12 bk D y w) (hb : Below w.heap.size w w') : AwW wb v1 v3 v5 v12 bk D y w' :=
  ⟨h.bel.trans (hb.mono h.bel.size), h.a.next hb, h.m.next hb, h.l.next hb, h.p.next hb, block_keep h.k hb, fun e => (h.p1 e).next hb, fun e => (h.p2 e).next hb, fun e => (h.p3 e).next hb, fun e => (h.p4 e).next hb, fun e => (h.p5 e).next hb, fun e => (h.p6 e).next hb⟩
end Go.Proofs.YtpkggjobdmchlaaGreatDoor
/- Check and the error of batches, by the reference. -/
namespace Go.Proofs.YtpkggjobdmchlaaGreatDoor
open Go.RowKit
/-- What stays true in worlds that only grow. -/
def Stab (P : World → Value → Prop) : Prop := ∀ w w' v, P w v → Below w.heap.size w w' → P w' v
/-- What holds amid the statement: dA the first call is done, dB the second, dM moved, dX taken apart, dS assigned. -/
structure CalW (wb : World) (PA PB : World → Value → Prop) (E : Value) (dA dB dM dX dS : Bool) (yA yB yM yX yS : Value) (w : World) : Prop where
  bel : Below wb.heap.size wb w
  a : dA = true → PA w yA
  b : dB = true → ∃ tv, yB = .tuple #[tv, E] ∧ PB w tv
  m : dM = true → ∃ tv, yM = .tuple #[tv, E] ∧ PB w tv
  x : dX = true → PB w yX
  s : dS = true → PB w yS
section
variable {wb w w' : World} {PA PB : World → Value → Prop} {E : Value} {dA dB dM dX dS : Bool} {yA yB yM yX yS v : Value}
theorem CalW.next (hPA : Stab PA) (hPB : Stab PB) (h : CalW wb PA PB E dA dB dM dX dS yA yB yM yX yS w) (hb : Below w.heap.size w w') : CalW wb PA PB E dA dB dM dX dS yA yB yM yX yS w' :=
  ⟨h.bel.trans (hb.mono h.bel.size), fun e => hPA _ _ _ (h.a e) hb, fun e => (by obtain ⟨t, h1, h2⟩ := h.b e; exact ⟨t, h1, hPB _ _ _ h2 hb⟩), fun e => (by obtain ⟨t, h1, h2⟩ := h.m e; exact ⟨t, h1, hPB _ _ _ h2 hb⟩), fun e => hPB _ _ _ (h.x e) hb, fun e => hPB _ _ _ (h.s e) hb⟩
end
end Go.Proofs.YtpkggjobdmchlaaGreatDoor
/- The ranges of all batches, by the reference. -/
namespace Go.Proofs.YtpkggjobdmchlaaGreatDoor
open Go.RowKit
/-- As AlW, but calls may stand ahead of the cell. -/
structure PrW (W1 : World) (n1 : Nat) (old new : Array Value) (d1 d2 : Bool) (y : Value) (w : World) : Prop where
  bs : Bs W1 [(n1, .cells old 25)] w
  al : d1 = true → ∃ g, y = .pointer (some ⟨g, 0, none⟩) ∧ n1 < g ∧ w.heap[g]? = some (.cells (if d2 then new else #[.int .i64 0, .int .i64 0]) 25)
theorem PrW.next {W1 w w' : World} {n1 : Nat} {old new : Array Value} {d1 d2 : Bool} {y : Value} (h : PrW W1 n1 old new d1 d2 y w) (hb : Below w.heap.size w w') : PrW W1 n1 old new d1 d2 y w' :=
  ⟨h.bs.call hb, fun e => by
    obtain ⟨g, e1, e2, e3⟩ := h.al e
    exact ⟨g, e1, e2, block_keep e3 hb⟩⟩
end Go.Proofs.YtpkggjobdmchlaaGreatDoor
/- Truths by turns; what is left of a wick. -/
namespace Go.Proofs.YtpkggjobdmchlaaGreatDoor
open Go.RowKit
/-- A cell of two is laid among calls, and stored. -/
structure PlW (W1 : World) (new : Array Value) (d1 d2 : Bool) (y : Value) (w : World) : Prop where
  bel : Below W1.heap.size W1 w
  al : d1 = true → ∃ g, y = .pointer (some ⟨g, 0, none⟩) ∧ W1.heap.size ≤ g ∧ w.heap[g]? = some (.cells (if d2 then new else #[.int .i64 0, .int .i64 0]) 25)
theorem PlW.next {W1 w w' : World} {new : Array Value} {d1 d2 : Bool} {y : Value} (h : PlW W1 new d1 d2 y w) (hb : Below w.heap.size w w') : PlW W1 new d1 d2 y w' :=
  ⟨h.bel.trans (hb.mono h.bel.size), fun e => by
    obtain ⟨g, e1, e2, e3⟩ := h.al e
    exact ⟨g, e1, e2, block_keep e3 hb⟩⟩
end Go.Proofs.YtpkggjobdmchlaaGreatDoor
namespace Go.Proofs.YtpkggjobdmchlaaGreatDoor
open Go.RowKit
/-- Two rows of their own, amid a statement that makes both longer. -/
structure MoW (W0 : World) (x x' : Value) (c1 : Value) (k1 : Nat) (l1 : List Value) (c2 : Value) (k2 : Nat) (l2 : List Value) (d5 d6 d12 d13 : Bool) (ya yb : Value) (w : World) : Prop where
  low : Below W0.heap.size W0 w
  hs : W0.heap.size ≤ w.heap.size
  r1 : w.ownsRow W0.heap.size 3 1 c1 k1 l1
  r2 : w.ownsRow W0.heap.size 3 1 c2 k2 l2
  ne : ∀ g, c1.ownBlock = some g → c2.ownBlock ≠ some g
  s1 : d5 = true → d6 = false → ∃ b, ya = .slice (some ⟨b, 0, none⟩) 1 1 ∧ w.heap[b]? = some (.cells [x].toArray 3) ∧ c2.ownBlock ≠ some b
  s2 : d12 = true → d13 = false → ∃ b, yb = .slice (some ⟨b, 0, none⟩) 1 1 ∧ w.heap[b]? = some (.cells [x'].toArray 3) ∧ c1.ownBlock ≠ some b
section
variable {W0 w w' : World} {x x' c1 c2 ya yb : Value} {k1 k2 : Nat} {l1 l2 : List Value} {d5 d6 d12 d13 : Bool}
theorem MoW.next (h : MoW W0 x x' c1 k1 l1 c2 k2 l2 d5 d6 d12 d13 ya yb w) (hb : Below w.heap.size w w') : MoW W0 x x' c1 k1 l1 c2 k2 l2 d5 d6 d12 d13 ya yb w' :=
  ⟨h.low.trans (hb.mono h.hs), Nat.le_trans h.hs hb.size, ownsRow.below h.r1 hb, ownsRow.below h.r2 hb, h.ne, fun e1 e2 => (by obtain ⟨b, h1, h2, h3⟩ := h.s1 e1 e2; exact ⟨b, h1, block_keep h2 hb, h3⟩), fun e1 e2 => (by obtain ⟨b, h1, h2, h3⟩ := h.s2 e1 e2; exact ⟨b, h1, block_keep h2 hb, h3⟩)⟩
end
end Go.Proofs.YtpkggjobdmchlaaGreatDoor
namespace Go.Proofs.YtpkggjobdmchlaaGreatDoor
open Go.RowKit
/-- A row of lists of ints. -/
structure OwnLists (base : Nat) (w : World) (v : Value) (n : Nat) (us : List Value) (f : Nat → List Int) : Prop where
  len : us.length = n
  row : w.ownsRow base 49 1 v n us
  each : ∀ i, i < n → OwnInts base w (us.getD i .nilFunc) (f i)
theorem OwnLists.call {base : Nat} {w w' : World} {v : Value} {n : Nat} {us : List Value} {f : Nat → List Int} (h : OwnLists base w v n us f) (hb : Below w.heap.size w w') : OwnLists base w' v n us f :=
  ⟨h.len, ownsRow.below h.row hb, fun i hi => ownsRow.below (h.each i hi) hb⟩
theorem OwnLists.but {base : Nat} {w w' : World} {v : Value} {n : Nat} {us : List Value} {f : Nat → List Int} (h : OwnLists base w v n us f) {g : Nat} (hb : But g w w') {cs : Array Value} {t : TypeId} (hg : w.heap[g]? = some (.cells cs t)) (h1 : t ≠ 49) (h2 : t ≠ 3) : OwnLists base w' v n us f :=
  ⟨h.len, ownsRow.but h.row hb hg h1, fun i hi => ownsRow.but (h.each i hi) hb hg h2⟩
/-- Blocks stay where a row of another type grows. -/
theorem Bs.grown {w0 w w' : World} {l : List (Nat × Obj)} {base sz n : Nat} {e : TypeId} {v : Value} {xs : List Value} (h : Bs w0 l w) (ho : w.ownsRow base e sz v n xs) (hg : w.grownBy w' v.ownBlock) (hb : w0.heap.size ≤ base) (hl : ∀ p ∈ l, ∃ cs t, p.2 = .cells cs t ∧ t ≠ e) : Bs w0 l w' := by
  refine ⟨fun p hp => ?_, h.inc, h.ge, h.bel.trans (grown_below ho hg hb h.bel.size)⟩
  obtain ⟨cs, t, e1, e2⟩ := hl p hp
  have h1 := h.get' p hp
  rw [e1] at h1 ⊢
  exact grown_keep ho hg h1 e2
end Go.Proofs.YtpkggjobdmchlaaGreatDoor
namespace Go.Proofs.YtpkggjobdmchlaaGreatDoor
open Go.RowKit
theorem OwnTable.but {base : Nat} {w w' : World} {v : Value} {n : Nat} {us : List Value} {f : Nat → List (Int × Int)} (h : OwnTable base w v n us f) {g : Nat} (hb : But g w w') {cs : Array Value} {t : TypeId} (hg : w.heap[g]? = some (.cells cs t)) (h1 : t ≠ 133) (h2 : t ≠ 25) : OwnTable base w' v n us f :=
  ⟨h.len, ownsRow.but h.row hb hg h1, fun i hi => ownsRow.but (h.each i hi) hb hg h2⟩
end Go.Proofs.YtpkggjobdmchlaaGreatDoor
namespace Go.Proofs.YtpkggjobdmchlaaGreatDoor
open Go.RowKit
theorem IntsIn.at' {q : IntKind} {B : Nat} {w : World} {a : Option Addr} {n c : Nat} {l : List Int} (h : IntsIn q B w (.slice a n c) l) {i : Nat} (hi : i < l.length) : ∃ b o, a = some ⟨b, o, none⟩ ∧ b < B ∧ w.cell? ⟨b, o + i, none⟩ = some (.int q (l.getD i 0)) := by
  obtain ⟨a', c', e, -, h⟩ := h
  cases e
  rcases h with rfl | ⟨b, o, rfl, hb, h⟩
  · simp at hi
  · exact ⟨b, o, rfl, hb, h i hi⟩
end Go.Proofs.YtpkggjobdmchlaaGreatDoor
