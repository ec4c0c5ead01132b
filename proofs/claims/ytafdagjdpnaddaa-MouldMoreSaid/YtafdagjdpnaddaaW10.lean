/- mould.minutes: the iterator over the minutes of a truth at one side. -/
import Derived.RangeFuncNested
import Derived.RangeFuncBound
import Derived.RangeFuncCalls
import Derived.RangeFuncLeaves
import Derived.Shelf.Abstract
import Derived.Shelf.RegionOpen
import Derived.OwnWalkIn
import Derived.TacticsInMore
import Derived.LoopNIn
import Derived.LoopIn
import Derived.Test.YtafdagjdpnaddaaIt
import Derived.Test.YtafdagjdpnaddaaW8
namespace Go.Proofs.Ytafdagjdpnaddaa
open Go.RowKit Go.Shelf
attribute [local go_sem] Oper.semAt_some
section
variable {P : Program} {Fe : Fence} {n : Nat}
theorem wpListIn_value {ops : Array Oper} {rest : List Oper} {o : Oper} {a : Act} {w w' : World} {Q : Exit → Act → World → Prop} (hgd : o.guard = none) (hab : o.about P w a.eval = none) (hnd : ∀ c, o.op ≠ .defer c) (v : Value)
    (hr : (execOp a.eval o).run P w = .ok (.value v) w') (h : wpListIn Fe n P ops Q rest (a.put o.dst v) w') : wpListIn Fe n P ops Q (o :: rest) a w :=
  wpListIn_plain hgd fun _ hK => by
    unfold Oper.wpIn
    refine And.intro (fun f hf => by rw [hab] at hf; cases hf) ?_
    rw [Oper.semAt_plain Fe a.eval o hnd, hr]
    exact hK _ _ h
theorem wpListIn_eql_ints {ops : Array Oper} {rest : List Oper} {o : Oper} {a : Act} {w : World} {Q : Exit → Act → World → Prop} (hgd : o.guard = none) {t t' e : TypeId} {k0 : Nat} {k : IntKind} (x y : Operand)
    (ho : o.op = .binOp .eql t x y t') (r : Bool) (l m : List Int) (hr : decide (l = m) = r) (hx : a.eval x = .agg (ints l)) (hy : a.eval y = .agg (ints m))
    (ht : P.underlying t = some (.array k0 e)) (hu : P.underlying e = some (.int k)) (hs : (P.info? e).map (·.size) = some 1) (hg : P.eqGuardType P.depth t = false)
    (hl : l.length = k0) (hm : m.length = k0) (h : wpListIn Fe n P ops Q rest (a.put o.dst (.bool r)) w) : wpListIn Fe n P ops Q (o :: rest) a w := by
  subst hr
  refine wpListIn_value hgd (by simp [Oper.about, ho]) (by simp [ho]) _ ?_ h
  unfold execOp
  simp only [ho, hx, hy, Sem.run_bind, run_eqGuard_agg w .eql t x y (ints l) (ints m) hg, Result.andThen_ok, run_eql_ints ht hu hs l m hl hm w, Sem.run_pure]
end
theorem minutes_any (hot : Bool) (m : Mou) (w : World) : Calls Try.prog 57 #[.agg #[.int .i64 m.rings, .int .i64 m.give, .int .i64 m.pl, .int .i64 m.ph, .int .i64 m.wl, .int .i64 m.wh, .int .i64 m.set, .int .i64 m.shrink, .int .i64 m.skin, .int .i64 m.fill, .int .i64 m.gap, .int .i64 m.deep], .func (.func (if hot then 56 else 55)) #[] #[]] w
    fun e w' => e = .returned (.func (.func 69) #[] #[.pointer (some ⟨w.heap.size, 0, none⟩), .pointer (some ⟨w.heap.size + 1, 0, none⟩)]) ∧
      w' = (w.alloc (.cells #[.int .i64 m.rings, .int .i64 m.give, .int .i64 m.pl, .int .i64 m.ph, .int .i64 m.wl, .int .i64 m.wh, .int .i64 m.set, .int .i64 m.shrink, .int .i64 m.skin, .int .i64 m.fill, .int .i64 m.gap, .int .i64 m.deep] 85)).alloc (.cells #[.func (.func (if hot then 56 else 55)) #[] #[]] 96) := by
  cases hot
  all_goals
    go_enter Try.func57, Try.ntmps57
    go_wp2
    go_ret
    exact ⟨rfl, rfl⟩
/-- The warmth in each minute. -/
theorem warmL_length (m : Mou) (hot : Bool) (n : Nat) : (warmL m hot n).length = m.rings.toNat := by simp [warmL, runL_length, sameP]
theorem warmL_succ (m : Mou) (hot : Bool) (n : Nat) : warmL m hot (n + 1) = nextL m.give (if hot then m.wh else m.wl) (warmL m hot n) := by
  unfold warmL sameW
  rw [List.replicate_succ', runL_snoc]
theorem warmL_zero (m : Mou) (hot : Bool) : warmL m hot 0 = List.replicate m.rings.toNat (if hot then m.ph else m.pl) := rfl
theorem warmL_fits {m : Mou} (hm : Valid m) (hot : Bool) (n : Nat) : Fits2 0 2000 (warmL m hot n) := by
  have h1 := hm.p0; have h2 := hm.pp; have h3 := hm.p2; have h4 := hm.w0; have h5 := hm.ww; have h6 := hm.w2
  refine runL_fits (by have := hm.g1; omega) hm.g5 _ _ ?_ ?_
  · intro i hi
    simp only [sameP, List.length_replicate] at hi
    simp only [sameP, List.getD_eq_getElem?_getD, List.getElem?_replicate, if_pos hi, Option.getD_some]
    cases hot <;> simp <;> omega
  · intro i hi
    simp only [sameW, List.length_replicate] at hi
    simp only [sameW, List.getD_eq_getElem?_getD, List.getElem?_replicate, if_pos hi, Option.getD_some]
    cases hot <;> simp <;> omega
/-- The first k minutes. -/
def upA {α : Type} (day : Nat → α) (k : Nat) : List α := (List.range k).map day
theorem upA_succ {α : Type} (day : Nat → α) (k : Nat) : upA day (k + 1) = upA day k ++ [day k] := by simp [upA, List.range_succ]
theorem upA_length {α : Type} (day : Nat → α) (k : Nat) : (upA day k).length = k := by simp [upA]
/-- What a round keeps: the blocks that the iterator has. -/
structure MiK (B bm bo : Nat) (W W' : World) : Prop where
  size : W.heap.size ≤ W'.heap.size
  own : ∀ k cs t fr, B ≤ k → W.heap[k]? = some (.cells cs t fr) → W'.heap[k]? = some (.cells cs t fr)
  m : W'.heap[bm]? = W.heap[bm]?
  o : W'.heap[bo]? = W.heap[bo]?
theorem MiK.t {B bm bo : Nat} {X Y Z : World} (h : MiK B bm bo X Y) (k : MiK B bm bo Y Z) : MiK B bm bo X Z :=
  ⟨Nat.le_trans h.size k.size, fun i cs t fr hB hi => k.own i cs t fr hB (h.own i cs t fr hB hi), k.m.trans h.m, k.o.trans h.o⟩
theorem MiK.b {B bm bo : Nat} (hm : bm < B) (ho : bo < B) (W : World) (l : Nat) (o o' : Obj) (hl : B ≤ l) (h : W.heap[l]? = some o) (hc : o.isCells = false) : MiK B bm bo W (W.putObj l o') := by
  refine ⟨by simp [World.putObj], fun k cs t fr _ hk => ?_, World.putObj_heap_other (by omega), World.putObj_heap_other (by omega)⟩
  by_cases e : k = l
  · subst e
    rw [h] at hk
    cases hk
    simp [Obj.isCells] at hc
  · exact (World.putObj_heap_other e).trans hk
theorem MiK.below {B bm bo : Nat} {W W' : World} (hm : bm < W.heap.size) (ho : bo < W.heap.size) (h : Below W.heap.size W W') : MiK B bm bo W W' :=
  ⟨h.size, fun _ _ _ _ _ hk => block_keep hk h, h.block _ hm, h.block _ ho⟩
/-- A store below B. -/
theorem MiK.setRow {B bm bo X : Nat} (hX : X < B) (hm : bm ≠ X) (ho : bo ≠ X) (W : World) (cs : Array Value) : MiK B bm bo W (W.setRow X cs) :=
  ⟨by simp, fun k _ _ _ hk h => (setRow_other W X k cs (by omega)).trans h, setRow_other W X bm cs hm, setRow_other W X bo cs ho⟩
end Go.Proofs.Ytafdagjdpnaddaa
