/- Loads and stores at blocks that are known: behind a store the world is any that knows the new block. -/
import Derived.Test.YtaigbhhmmdfdcaaBs
import Derived.Test.YtaigbhhmmdfdcaaRowIn
namespace Go.Proofs.Ytaigbhhmmdfdcaa
open Go.RowKit
theorem run_store_at {P : Program} (w : World) (b o : Nat) (ty : TypeId) (v c0 : Value) (h1 : v.oneCell' = true) (hc : w.cell? ⟨b, o, none⟩ = some c0) (hf : w.frozen? ⟨b, o, none⟩ = false) (hi : (P.info? ty).map (·.size) = some 1) :
    (storeVar ty ⟨b, o, none⟩ v).run P w = .ok () (w.setCell ⟨b, o, none⟩ v) := by
  have hcl : v.cells = #[v] := by cases v <;> first | rfl | cases h1
  have this := run_storeCells_cells (P := P) b o [v] 0 w (fun j hj => by simp only [List.length_cons, List.length_nil] at hj; obtain rfl : j = 0 := by omega
                                                                         simp [hc]) (fun j hj => by simp only [List.length_cons, List.length_nil] at hj; obtain rfl : j = 0 := by omega
                                                                                                    simpa using hf)
    (fun u hu => by simp at hu; subst hu; exact h1)
  cases hq : P.info? ty with
  | none => simp [hq] at hi
  | some i =>
    have hs : i.size = 1 := by simpa [hq] using hi
    simp only [Nat.add_zero] at this
    simp [storeVar, sizeOf, typeInfo, hq, hcl, hs, this, World.setCells]
section
variable {P : Program} {ops : Array Oper} {rest : List Oper} {o : Oper} {a : Act} {w0 w : World} {Q : Exit → Act → World → Prop} {l : List (Nat × Obj)}
/-- A row is stored. -/
theorem wpList_store_bs (hgd : o.guard = none) (ty : TypeId) (x y : Operand) (ho : o.op = .store ty x y) (H : Bs w0 l w) (i g : Nat) (cells old : Array Value) (t : TypeId) (hi : l[i]? = some (g, .cells old t))
    (hx : a.eval x = .pointer (some ⟨g, 0, none⟩)) (hy : a.eval y = .agg cells) (hn : (P.info? ty).map (·.size) = some cells.size) (hold : old.size = cells.size) (h1 : cells.all (·.oneCell') = true)
    (h : ∀ w', Bs w0 (l.set i (g, .cells cells t)) w' → wpList P ops Q rest (a.put o.dst undef) w') : wpList P ops Q (o :: rest) a w :=
  wpList_store_row hgd ty x y ho g cells hx hy t old (H.get i hi) hn hold h1 (h _ (H.setRow i hi cells))
/-- One cell is stored. -/
theorem wpList_cell_bs (hgd : o.guard = none) (ty : TypeId) (x y : Operand) (ho : o.op = .store ty x y) (H : Bs w0 l w) (i g j : Nat) (old : Array Value) (t : TypeId) (hi : l[i]? = some (g, .cells old t))
    (hx : a.eval x = .pointer (some ⟨g, j, none⟩)) (v : Value) (hy : a.eval y = v) (hj : j < old.size) (h1 : v.oneCell' = true) (hn : (P.info? ty).map (·.size) = some 1)
    (h : ∀ w', Bs w0 (l.set i (g, .cells (old.setIfInBounds j v) t)) w' → wpList P ops Q rest (a.put o.dst undef) w') : wpList P ops Q (o :: rest) a w :=
  wpList_plain hgd fun _ hK => by
    have hc : w.cell? ⟨g, j, none⟩ = some old[j] := by rw [H.cell i hi]; simp [hj]
    unfold Oper.wp execOp
    simp only [ho, hx, hy, Instr.storeAt, Instr.sureAddr, Sem.run_bind, Sem.run_pure, Result.andThen_ok, run_store_at w g j ty v _ h1 hc (H.free i hi j) hn]
    exact hK _ _ (h _ (H.setCell i hi j v))
/-- A row is loaded. -/
theorem wpList_load_bs (hgd : o.guard = none) (ty : TypeId) (x : Operand) (ho : o.op = .load ty x) (H : Bs w0 l w) (i g : Nat) (cs : Array Value) (t : TypeId) (hi : l[i]? = some (g, .cells cs t))
    (hx : a.eval x = .pointer (some ⟨g, 0, none⟩)) (d : TypeDesc) (hu : P.underlying ty = some d) (hd : (match d with | .struct _ | .array _ _ => true | _ => false) = true) (hn : (P.info? ty).map (·.size) = some cs.size)
    (h : wpList P ops Q rest (a.put o.dst (.agg cs)) w) : wpList P ops Q (o :: rest) a w :=
  wpList_load_row hgd ty x ho g hx t cs _ d (H.get i hi) hu hd hn h
variable {Fe : Fence} {n : Nat}
theorem wpListIn_store_bs (hgd : o.guard = none) (ty : TypeId) (x y : Operand) (ho : o.op = .store ty x y) (H : Bs w0 l w) (i g : Nat) (cells old : Array Value) (t : TypeId) (hi : l[i]? = some (g, .cells old t))
    (hx : a.eval x = .pointer (some ⟨g, 0, none⟩)) (hy : a.eval y = .agg cells) (hn : (P.info? ty).map (·.size) = some cells.size) (hold : old.size = cells.size) (h1 : cells.all (·.oneCell') = true)
    (h : ∀ w', Bs w0 (l.set i (g, .cells cells t)) w' → wpListIn Fe n P ops Q rest (a.put o.dst undef) w') : wpListIn Fe n P ops Q (o :: rest) a w :=
  wpListIn_store_row hgd ty x y ho g cells hx hy t old (H.get i hi) hn hold h1 (h _ (H.setRow i hi cells))
theorem wpListIn_cell_bs (hgd : o.guard = none) (ty : TypeId) (x y : Operand) (ho : o.op = .store ty x y) (H : Bs w0 l w) (i g j : Nat) (old : Array Value) (t : TypeId) (hi : l[i]? = some (g, .cells old t))
    (hx : a.eval x = .pointer (some ⟨g, j, none⟩)) (v : Value) (hy : a.eval y = v) (hj : j < old.size) (h1 : v.oneCell' = true) (hn : (P.info? ty).map (·.size) = some 1)
    (h : ∀ w', Bs w0 (l.set i (g, .cells (old.setIfInBounds j v) t)) w' → wpListIn Fe n P ops Q rest (a.put o.dst undef) w') : wpListIn Fe n P ops Q (o :: rest) a w :=
  wpListIn_plain hgd fun _ hK => by
    have hc : w.cell? ⟨g, j, none⟩ = some old[j] := by rw [H.cell i hi]; simp [hj]
    unfold Oper.wpIn
    refine And.intro (fun f hf => by simp [Oper.about, ho] at hf) ?_
    rw [Oper.semAt_plain Fe a.eval o (by simp [ho])]
    unfold execOp
    simp only [ho, hx, hy, Instr.storeAt, Instr.sureAddr, Sem.run_bind, Sem.run_pure, Result.andThen_ok, run_store_at w g j ty v _ h1 hc (H.free i hi j) hn]
    exact hK _ _ (h _ (H.setCell i hi j v))
theorem wpListIn_load_bs (hgd : o.guard = none) (ty : TypeId) (x : Operand) (ho : o.op = .load ty x) (H : Bs w0 l w) (i g : Nat) (cs : Array Value) (t : TypeId) (hi : l[i]? = some (g, .cells cs t))
    (hx : a.eval x = .pointer (some ⟨g, 0, none⟩)) (d : TypeDesc) (hu : P.underlying ty = some d) (hd : (match d with | .struct _ | .array _ _ => true | _ => false) = true) (hn : (P.info? ty).map (·.size) = some cs.size)
    (h : wpListIn Fe n P ops Q rest (a.put o.dst (.agg cs)) w) : wpListIn Fe n P ops Q (o :: rest) a w :=
  wpListIn_load_row hgd ty x ho g hx t cs _ d (H.get i hi) hu hd hn h
end
end Go.Proofs.Ytaigbhhmmdfdcaa
