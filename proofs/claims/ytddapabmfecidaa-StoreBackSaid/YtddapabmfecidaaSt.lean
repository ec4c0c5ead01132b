/- One cell is stored, wherever it lies. -/
import Derived.Test.YtddapabmfecidaaBd
namespace Go.Proofs.Ytddapabmfecidaa
open Go.RowKit
theorem run_store_at {P : Program} (w : World) (b o : Nat) (ty : TypeId) (v c0 : Value) (h1 : v.oneCell' = true) (hc : w.cell? ⟨b, o, none⟩ = some c0) (hf : w.frozen? ⟨b, o, none⟩ = false) (hi : (P.info? ty).map (·.size) = some 1) :
    (storeVar ty ⟨b, o, none⟩ v).run P w = .ok () (w.setCell ⟨b, o, none⟩ v) := by
  have hcl : v.cells = #[v] := by cases v <;> first | rfl | cases h1
  have this := run_storeCells_cells (P := P) b o [v] 0 w (fun j hj => by simp only [List.length_cons, List.length_nil] at hj; obtain rfl : j = 0 := by omega
                                                                         simp [hc]) (fun j hj => by simp only [List.length_cons, List.length_nil] at hj; obtain rfl : j = 0 := by omega
                                                                                                    simpa using hf)
    (fun u hu => by simp at hu; subst hu; exact h1)
  cases hq : P.info? ty with
  | none => simp [hq] at hi
  | some i =>
    have hs : i.size = 1 := by simpa [hq] using hi
    simp only [Nat.add_zero] at this
    simp [storeVar, sizeOf, typeInfo, hq, hcl, hs, this, World.setCells]
theorem wpList_store_at {P : Program} {ops : Array Oper} {rest : List Oper} {op : Oper} {a : Act} {w : World} {Q : Exit → Act → World → Prop} (hgd : op.guard = none) (ty : TypeId) (x y : Operand) (ho : op.op = .store ty x y)
    (b o : Nat) (hx : a.eval x = .pointer (some ⟨b, o, none⟩)) (v c0 : Value) (hy : a.eval y = v) (h1 : v.oneCell' = true) (hc : w.cell? ⟨b, o, none⟩ = some c0) (hf : w.frozen? ⟨b, o, none⟩ = false) (hi : (P.info? ty).map (·.size) = some 1)
    (h : wpList P ops Q rest (a.put op.dst undef) (w.setCell ⟨b, o, none⟩ v)) : wpList P ops Q (op :: rest) a w :=
  wpList_plain hgd fun _ hK => by
    unfold Oper.wp execOp
    simp only [ho, hx, hy, Instr.storeAt, Instr.sureAddr, Sem.run_bind, Sem.run_pure, Result.andThen_ok, run_store_at w b o ty v c0 h1 hc hf hi]
    exact hK _ _ h
theorem info50 : (Try.prog.info? 50).map (·.size) = some 1 := by kernel_rfl
end Go.Proofs.Ytddapabmfecidaa
