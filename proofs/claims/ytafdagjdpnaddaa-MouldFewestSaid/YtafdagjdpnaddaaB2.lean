/- Stores into the middle of a block that is kept. -/
import Derived.Test.YtafdagjdpnaddaaBm
import Derived.Deep.MidRow
namespace Go.Proofs.Ytafdagjdpnaddaa
open Go.RowKit
/-- A row is stored in the middle of a block that two lists keep. -/
theorem wpList_store_bsmid2 {P : Program} {w0 w w1 : World} {l l2 : List (Nat × Obj)} {ops : Array Oper} {rest : List Oper} {o : Oper} {a : Act} {Q : Exit → Act → World → Prop} (hgd : o.guard = none) (ty : TypeId) (x y : Operand) (ho : o.op = .store ty x y) (H : Bs w0 l w) (H2 : Bs w1 l2 w)
    (i i2 g off : Nat) (cells : Array Value) (pre rest' : List Value) (t : TypeId) (hi' : l[i]? = some (g, .cells (pre ++ rest').toArray t)) (hi2 : l2[i2]? = some (g, .cells (pre ++ rest').toArray t)) (hoff : pre.length = off) (hx : a.eval x = .pointer (some ⟨g, off, none⟩)) (hy : a.eval y = .agg cells)
    (hi : (P.info? ty).map (·.size) = some cells.size) (hfit : cells.size ≤ rest'.length) (h1 : cells.all (·.oneCell') = true)
    (h : ∀ w', Bs w0 (l.set i (g, .cells (pre ++ cells.toList ++ rest'.drop cells.size).toArray t)) w' → Bs w1 (l2.set i2 (g, .cells (pre ++ cells.toList ++ rest'.drop cells.size).toArray t)) w' → wpList P ops Q rest (a.put o.dst undef) w') : wpList P ops Q (o :: rest) a w :=
  wpList_plain hgd fun _ hK => by
    subst hoff
    have hg := H.get i hi'
    have ht : w.there g pre.length cells.size := by
      intro j hj
      refine ⟨?_, frozen_of_row w g _ _ _ hg⟩
      rw [cell_of_row w g _ _ _ _ hg]
      simp only [List.getElem?_toArray]
      rw [List.getElem?_append_right (by omega), Nat.add_sub_cancel_left]
      simp
      omega
    have hs := run_storeVar_mid (P := P) w g pre.length ty cells ht hi h1
    rw [setCells_row g t _ _ w _ hg, writeAt_list (pre ++ rest') cells.toList pre rest' rfl (by simpa using hfit)] at hs
    unfold Oper.wp execOp
    simp only [ho, hx, hy, Instr.storeAt, Instr.sureAddr, Sem.run_bind, Sem.run_pure, Result.andThen_ok, hs]
    exact hK _ _ (by simpa using h _ (H.setRow i hi' _) (H2.setRow i2 hi2 _))
end Go.Proofs.Ytafdagjdpnaddaa
