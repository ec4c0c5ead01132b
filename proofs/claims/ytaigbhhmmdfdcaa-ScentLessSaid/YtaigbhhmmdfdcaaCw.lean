/- A statement that calls, in a region that draws its order: what is called, moved, taken apart and assigned. -/
import Derived.Test.YtaigbhhmmdfdcaaK8
namespace Go.Proofs.Ytaigbhhmmdfdcaa
open Go.RowKit
theorem wpList_ex {P : Program} {ops : Array Oper} {rest : List Oper} {o : Oper} {a : Act} {w : World} {Q : Exit → Act → World → Prop} (hg : o.guard = none) (x : Operand) (i : Nat) (ho : o.op = .extract x i) (vs : Array Value) (hx : a.eval x = .tuple vs) (v : Value) (hv : vs[i]? = some v)
    (h : wpList P ops Q rest (a.put o.dst v) w) : wpList P ops Q (o :: rest) a w := by
  refine wpList_plain hg fun K hK => ?_
  unfold Oper.wp execOp
  simp only [ho, hx, Instr.extract, hv]
  exact hK _ _ h
theorem wpList_as {P : Program} {ops : Array Oper} {rest : List Oper} {o : Oper} {a : Act} {w : World} {Q : Exit → Act → World → Prop} (hg : o.guard = none) (s : Operand) (ho : o.op = .assign s) (v : Value) (hv : a.eval s = v)
    (h : wpList P ops Q rest (a.put o.dst v) w) : wpList P ops Q (o :: rest) a w := by
  refine wpList_plain hg fun K hK => ?_
  unfold Oper.wp execOp
  simp only [ho, Sem.run_pure, hv]
  exact hK _ _ h
/-- What stays true in worlds that only grow. -/
def Stab (P : World → Value → Prop) : Prop := ∀ w w' v, P w v → Below w.heap.size w w' → P w' v
def IsTable (t : List (List (Int × Int))) (w : World) (v : Value) : Prop := TableIn w.heap.size w v t
def IsSpans (t : List (Int × Int)) (w : World) (v : Value) : Prop := SpansIn w.heap.size w v t
def IsInts (t : List Int) (w : World) (v : Value) : Prop := IntsIn .i64 w.heap.size w v t
def IsTru (x : Tru) (w : World) (v : Value) : Prop := ∃ tl tb ta, v = .agg #[tl, tb, ta] ∧ TruAt w.heap.size w tl tb ta x
def IsAny (_ : World) (_ : Value) : Prop := True
theorem stab_table (t : List (List (Int × Int))) : Stab (IsTable t) := fun _ _ _ h hb => SlIn.next h hb
theorem stab_spans (t : List (Int × Int)) : Stab (IsSpans t) := fun _ _ _ h hb => SlIn.next h hb
theorem stab_ints (t : List Int) : Stab (IsInts t) := fun _ _ _ h hb => IntsIn.next h hb
theorem stab_tru (x : Tru) : Stab (IsTru x) := fun _ _ _ h hb => by
  obtain ⟨a, b, c, e, h⟩ := h
  exact ⟨a, b, c, e, h.next hb⟩
theorem stab_any : Stab IsAny := fun _ _ _ h _ => h
/-- What holds amid the statement: dA the first call is done, dB the second, dM moved, dX taken apart, dS assigned. -/
structure CalW (wb : World) (PA PB : World → Value → Prop) (E : Value) (dA dB dM dX dS : Bool) (yA yB yM yX yS : Value) (w : World) : Prop where
  bel : Below wb.heap.size wb w
  a : dA = true → PA w yA
  b : dB = true → ∃ tv, yB = .tuple #[tv, E] ∧ PB w tv
  m : dM = true → ∃ tv, yM = .tuple #[tv, E] ∧ PB w tv
  x : dX = true → PB w yX
  s : dS = true → PB w yS
section
variable {wb w w' : World} {PA PB : World → Value → Prop} {E : Value} {dA dB dM dX dS : Bool} {yA yB yM yX yS v : Value}
theorem CalW.start (wb : World) : CalW wb PA PB E false false false false false yA yB yM yX yS wb.drew := ⟨(Below.refl _ _).drew, fun h => (by cases h), fun h => (by cases h), fun h => (by cases h), fun h => (by cases h), fun h => (by cases h)⟩
theorem CalW.next (hPA : Stab PA) (hPB : Stab PB) (h : CalW wb PA PB E dA dB dM dX dS yA yB yM yX yS w) (hb : Below w.heap.size w w') : CalW wb PA PB E dA dB dM dX dS yA yB yM yX yS w' :=
  ⟨h.bel.trans (hb.mono h.bel.size), fun e => hPA _ _ _ (h.a e) hb, fun e => (by obtain ⟨t, h1, h2⟩ := h.b e; exact ⟨t, h1, hPB _ _ _ h2 hb⟩), fun e => (by obtain ⟨t, h1, h2⟩ := h.m e; exact ⟨t, h1, hPB _ _ _ h2 hb⟩), fun e => hPB _ _ _ (h.x e) hb, fun e => hPB _ _ _ (h.s e) hb⟩
theorem CalW.putA (h : CalW wb PA PB E dA dB dM dX dS yA yB yM yX yS w) (hv : PA w v) : CalW wb PA PB E true dB dM dX dS v yB yM yX yS w := ⟨h.bel, fun _ => hv, h.b, h.m, h.x, h.s⟩
theorem CalW.putB (h : CalW wb PA PB E dA dB dM dX dS yA yB yM yX yS w) (hv : PB w v) : CalW wb PA PB E dA true dM dX dS yA (.tuple #[v, E]) yM yX yS w := ⟨h.bel, h.a, fun _ => ⟨v, rfl, hv⟩, h.m, h.x, h.s⟩
theorem CalW.putM (h : CalW wb PA PB E dA dB dM dX dS yA yB yM yX yS w) (hd : dB = true) : CalW wb PA PB E dA dB true dX dS yA yB yB yX yS w := ⟨h.bel, h.a, h.b, fun _ => h.b hd, h.x, h.s⟩
theorem CalW.putX (h : CalW wb PA PB E dA dB dM dX dS yA yB yM yX yS w) (hv : PB w v) : CalW wb PA PB E dA dB dM true dS yA yB yM v yS w := ⟨h.bel, h.a, h.b, h.m, fun _ => hv, h.s⟩
theorem CalW.putS (h : CalW wb PA PB E dA dB dM dX dS yA yB yM yX yS w) (hd : dX = true) : CalW wb PA PB E dA dB dM dX true yA yB yM yX yX w := ⟨h.bel, h.a, h.b, h.m, h.x, fun _ => h.x hd⟩
end
end Go.Proofs.Ytaigbhhmmdfdcaa
