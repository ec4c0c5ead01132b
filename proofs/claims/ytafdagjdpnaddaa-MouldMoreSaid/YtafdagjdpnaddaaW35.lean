/- Amid the statement 'l, e := Cool(m, truth)'. -/
import Derived.Test.YtafdagjdpnaddaaQ1
namespace Go.Proofs.Ytafdagjdpnaddaa
open Go.RowKit
theorem wpList_ex {P : Program} {ops : Array Oper} {rest : List Oper} {o : Oper} {a : Act} {w : World} {Q : Exit → Act → World → Prop} (hg : o.guard = none) (x : Operand) (i : Nat) (ho : o.op = .extract x i) (vs : Array Value) (hx : a.eval x = .tuple vs) (v : Value) (hv : vs[i]? = some v)
    (h : wpList P ops Q rest (a.put o.dst v) w) : wpList P ops Q (o :: rest) a w := by
  refine wpList_plain hg fun K hK => ?_
  unfold Oper.wp execOp
  simp only [ho, hx, Instr.extract, hv]
  exact hK _ _ h
theorem wpList_as {P : Program} {ops : Array Oper} {rest : List Oper} {o : Oper} {a : Act} {w : World} {Q : Exit → Act → World → Prop} (hg : o.guard = none) (s : Operand) (ho : o.op = .assign s) (v : Value) (hv : a.eval s = v)
    (h : wpList P ops Q rest (a.put o.dst v) w) : wpList P ops Q (o :: rest) a w := by
  refine wpList_plain hg fun K hK => ?_
  unfold Oper.wp execOp
  simp only [ho, Sem.run_pure, hv]
  exact hK _ _ h
/-- What holds amid the statement. -/
structure CoW (wb : World) (p ws L : List Int) (d4 d5 d6 d7 d8 d9 d10 : Bool) (y4 y5 y6 y7 y8 y9 y10 : Value) (w : World) : Prop where
  bel : Below wb.heap.size wb w
  t : d4 = true → ∃ v1 v2, y4 = .agg #[v1, v2] ∧ IntsIn .i64 w.heap.size w v1 p ∧ IntsIn .i64 w.heap.size w v2 ws
  c : d5 = true → ∃ v, y5 = .tuple #[v, .int .i64 0] ∧ IntsIn .i64 w.heap.size w v L
  m : d6 = true → ∃ v, y6 = .tuple #[v, .int .i64 0] ∧ IntsIn .i64 w.heap.size w v L
  x : d7 = true → IntsIn .i64 w.heap.size w y7 L
  e : d8 = true → y8 = .int .i64 0
  a : d9 = true → IntsIn .i64 w.heap.size w y9 L
  b : d10 = true → y10 = .int .i64 0
section
variable {wb w w' : World} {p ws L : List Int} {d4 d5 d6 d7 d8 d9 d10 : Bool} {y4 y5 y6 y7 y8 y9 y10 x v1 v2 : Value}
theorem CoW.start (wb : World) : CoW wb p ws L false false false false false false false y4 y5 y6 y7 y8 y9 y10 wb.drew := ⟨(Below.refl _ _).drew, fun h => (by cases h), fun h => (by cases h), fun h => (by cases h), fun h => (by cases h), fun h => (by cases h), fun h => (by cases h), fun h => (by cases h)⟩
theorem CoW.next (h : CoW wb p ws L d4 d5 d6 d7 d8 d9 d10 y4 y5 y6 y7 y8 y9 y10 w) (hb : Below w.heap.size w w') : CoW wb p ws L d4 d5 d6 d7 d8 d9 d10 y4 y5 y6 y7 y8 y9 y10 w' :=
  ⟨h.bel.trans (hb.mono h.bel.size), fun e => (by obtain ⟨a, b, h1, h2, h3⟩ := h.t e; exact ⟨a, b, h1, h2.next hb, h3.next hb⟩), fun e => (by obtain ⟨a, h1, h2⟩ := h.c e; exact ⟨a, h1, h2.next hb⟩), fun e => (by obtain ⟨a, h1, h2⟩ := h.m e; exact ⟨a, h1, h2.next hb⟩), fun e => (h.x e).next hb, h.e, fun e => (h.a e).next hb, h.b⟩
theorem CoW.put4 (h : CoW wb p ws L d4 d5 d6 d7 d8 d9 d10 y4 y5 y6 y7 y8 y9 y10 w) (h1 : IntsIn .i64 w.heap.size w v1 p) (h2 : IntsIn .i64 w.heap.size w v2 ws) : CoW wb p ws L true d5 d6 d7 d8 d9 d10 (.agg #[v1, v2]) y5 y6 y7 y8 y9 y10 w := ⟨h.bel, fun _ => ⟨v1, v2, rfl, h1, h2⟩, h.c, h.m, h.x, h.e, h.a, h.b⟩
theorem CoW.put5 (h : CoW wb p ws L d4 d5 d6 d7 d8 d9 d10 y4 y5 y6 y7 y8 y9 y10 w) (h1 : IntsIn .i64 w.heap.size w x L) : CoW wb p ws L d4 true d6 d7 d8 d9 d10 y4 (.tuple #[x, .int .i64 0]) y6 y7 y8 y9 y10 w := ⟨h.bel, h.t, fun _ => ⟨x, rfl, h1⟩, h.m, h.x, h.e, h.a, h.b⟩
theorem CoW.put6 (h : CoW wb p ws L d4 d5 d6 d7 d8 d9 d10 y4 y5 y6 y7 y8 y9 y10 w) (hd : d5 = true) : CoW wb p ws L d4 d5 true d7 d8 d9 d10 y4 y5 y5 y7 y8 y9 y10 w := ⟨h.bel, h.t, h.c, fun _ => h.c hd, h.x, h.e, h.a, h.b⟩
theorem CoW.put7 (h : CoW wb p ws L d4 d5 d6 d7 d8 d9 d10 y4 y5 y6 y7 y8 y9 y10 w) (h1 : IntsIn .i64 w.heap.size w x L) : CoW wb p ws L d4 d5 d6 true d8 d9 d10 y4 y5 y6 x y8 y9 y10 w := ⟨h.bel, h.t, h.c, h.m, fun _ => h1, h.e, h.a, h.b⟩
theorem CoW.put8 (h : CoW wb p ws L d4 d5 d6 d7 d8 d9 d10 y4 y5 y6 y7 y8 y9 y10 w) : CoW wb p ws L d4 d5 d6 d7 true d9 d10 y4 y5 y6 y7 (.int .i64 0) y9 y10 w := ⟨h.bel, h.t, h.c, h.m, h.x, fun _ => rfl, h.a, h.b⟩
theorem CoW.put9 (h : CoW wb p ws L d4 d5 d6 d7 d8 d9 d10 y4 y5 y6 y7 y8 y9 y10 w) (hd : d7 = true) : CoW wb p ws L d4 d5 d6 d7 d8 true d10 y4 y5 y6 y7 y8 y7 y10 w := ⟨h.bel, h.t, h.c, h.m, h.x, h.e, fun _ => h.x hd, h.b⟩
theorem CoW.put10 (h : CoW wb p ws L d4 d5 d6 d7 d8 d9 d10 y4 y5 y6 y7 y8 y9 y10 w) (hd : d8 = true) : CoW wb p ws L d4 d5 d6 d7 d8 d9 true y4 y5 y6 y7 y8 y9 y8 w := ⟨h.bel, h.t, h.c, h.m, h.x, h.e, h.a, fun _ => h.e hd⟩
end
theorem all_fits {l : List Int} {a b : Int} (h : Fits2 a b l) : l.all (fun x => within x a b) = true := by
  rw [List.all_eq_true]
  intro x hx
  obtain ⟨i, hi, he⟩ := List.mem_iff_getElem.1 hx
  have := h i hi
  simp only [List.getD_eq_getElem?_getD, List.getElem?_eq_getElem hi, Option.getD_some, he] at this
  exact within_iff.2 this
theorem cool_ok {m : Mou} (hm : Valid m) {p ws : List Int} (hl : (p.length : Int) = m.rings) (hp : Fits2 m.pl m.ph p) (hw : ws.length ≤ 600) (hf : Fits2 m.wl m.wh ws) : coolV m p ws = (runL m.give p ws, 0) := by
  have ht : truthE m p ws = 0 := by
    unfold truthE
    rw [if_neg (by omega), if_neg (by rw [all_fits hp, all_fits hf]; simp)]
  unfold coolV
  rw [if_neg (by simp [check_of_valid hm]), if_neg (by simp [ht])]
end Go.Proofs.Ytafdagjdpnaddaa
