/- A row in the middle of a block; what g1 gives besides. -/
import Derived.Deep.MidRow
import Derived.Test.YtpkggjobdmchlaaGreatDoorU21
import Derived.RangeFuncNested
import Derived.RangeFuncBound
import Derived.RangeFuncCalls
import Derived.RangeFuncLeaves
import Derived.Shelf.Abstract
import Derived.Shelf.RegionOpen
import Derived.OwnWalkIn
import Derived.TacticsInMore
namespace Go.Proofs.YtpkggjobdmchlaaGreatDoor
open Go.RowKit
theorem setRow_self {w : World} {g : Nat} {cs : Array Value} {t : TypeId} {fr : Nat × Nat} (h : w.heap[g]? = some (.cells cs t fr)) : w.setRow g cs = w := by
  have hlt : g < w.heap.size := (Array.getElem?_eq_some_iff.1 h).1
  have hv : w.heap[g] = .cells cs t fr := (Array.getElem?_eq_some_iff.1 h).2
  unfold World.setRow
  cases w with
  | mk heap tape drawn os output =>
    congr 1
    apply Array.ext
    · simp
    · intro i h1 h2
      rw [Array.getElem_modify]
      split
      · rename_i he
        subst he
        simp only at hv
        rw [hv]
      · rfl
def writeAt (cs : Array Value) : Nat → List Value → Array Value
  | _, [] => cs
  | o, v :: vs => writeAt (cs.setIfInBounds o v) (o + 1) vs
theorem writeAt_list (l : List Value) : ∀ (vs pre : List Value) (rest : List Value), l = pre ++ rest → vs.length ≤ rest.length → writeAt l.toArray pre.length vs = (pre ++ vs ++ rest.drop vs.length).toArray
  | [], pre, rest, h, _ => by simp [writeAt, h]
  | v :: vs, pre, [], h, hl => by simp at hl
  | v :: vs, pre, r :: rest, h, hl => by
    rw [writeAt]
    have e : l.toArray.setIfInBounds pre.length v = (l.set pre.length v).toArray := by simp
    rw [e, h]
    have e2 : (pre ++ r :: rest).set pre.length v = (pre ++ [v]) ++ rest := by simp
    rw [e2]
    have := writeAt_list ((pre ++ [v]) ++ rest) vs (pre ++ [v]) rest rfl (by simpa using hl)
    rw [show (pre ++ [v]).length = pre.length + 1 from by simp] at this
    rw [this]
    simp
theorem setCells_row (g : Nat) (t : TypeId) : ∀ (vs : List Value) (o : Nat) (w : World) (cs : Array Value), w.heap[g]? = some (.cells cs t) → w.setCells g o vs = w.setRow g (writeAt cs o vs)
  | [], o, w, cs, h => by
    simp only [World.setCells, writeAt]
    exact (setRow_self h).symm
  | v :: vs, o, w, cs, h => by
    rw [World.setCells, setCells_row g t vs (o + 1) _ _ (heap_setCell_same w g o cs t v h), setCell_eq_setRow w g o cs t (0, 0) v h, setRow_setRow]
    rfl
section
variable {P : Program} {ops : Array Oper} {rest : List Oper} {o : Oper} {a : Act} {w : World} {Q : Exit → Act → World → Prop}
theorem wpList_mid_but (hgd : o.guard = none) (ty : TypeId) (x y : Operand) (ho : o.op = .store ty x y) (g off : Nat) (cells : Array Value) (pre rest' : List Value) (t : TypeId)
    (hg : w.heap[g]? = some (.cells (pre ++ rest').toArray t)) (hoff : pre.length = off) (hx : a.eval x = .pointer (some ⟨g, off, none⟩)) (hy : a.eval y = .agg cells)
    (hi : (P.info? ty).map (·.size) = some cells.size) (hfit : cells.size ≤ rest'.length) (h1 : cells.all (·.oneCell') = true)
    (h : ∀ w', w'.heap[g]? = some (.cells (pre ++ cells.toList ++ rest'.drop cells.size).toArray t) → But g w w' → wpList P ops Q rest (a.put o.dst undef) w') : wpList P ops Q (o :: rest) a w :=
  wpList_plain hgd fun _ hK => by
    subst hoff
    have ht : w.there g pre.length cells.size := by
      intro j hj
      refine ⟨?_, frozen_of_row w g _ _ _ hg⟩
      rw [cell_of_row w g _ _ _ _ hg]
      simp only [List.getElem?_toArray]
      rw [List.getElem?_append_right (by omega), Nat.add_sub_cancel_left]
      simp
      omega
    have hs := run_storeVar_mid (P := P) w g pre.length ty cells ht hi h1
    rw [setCells_row g t _ _ w _ hg, writeAt_list (pre ++ rest') cells.toList pre rest' rfl (by simpa using hfit)] at hs
    unfold Oper.wp execOp
    simp only [ho, hx, hy, Instr.storeAt, Instr.sureAddr, Sem.run_bind, Sem.run_pure, Result.andThen_ok, hs]
    exact hK _ _ (h _ (setRow_heap _ _ _ _ _ _ hg) ⟨rfl, rfl, rfl, by simp, fun k _ hk => setRow_other _ _ _ _ hk⟩)
end
/-- A row in the middle of a block. -/
def midRow (old : Array Value) (off : Nat) (row : Array Value) : Array Value := (old.toList.take off ++ row.toList ++ (old.toList.drop off).drop row.size).toArray
theorem midRow_size {old row : Array Value} {off : Nat} (h : off + row.size ≤ old.size) : (midRow old off row).size = old.size := by
  unfold midRow; simp; omega
theorem midRow_lt {old row : Array Value} {off j : Nat} (h : off + row.size ≤ old.size) (hj : j < off) : (midRow old off row)[j]? = old[j]? := by
  unfold midRow
  rw [List.getElem?_toArray, List.getElem?_append_left (by simp; omega), List.getElem?_append_left (by simp; omega), List.getElem?_take, if_pos hj]
  simp
theorem midRow_in {old row : Array Value} {off k : Nat} (h : off + row.size ≤ old.size) (hk : k < row.size) : (midRow old off row)[off + k]? = row[k]? := by
  unfold midRow
  rw [List.getElem?_toArray, List.getElem?_append_left (by simp; omega), List.getElem?_append_right (by simp; omega)]
  rw [show off + k - (old.toList.take off).length = k by simp; omega]
  simp
theorem wpList_mid_bsN {P : Program} {ops : Array Oper} {rest : List Oper} {o : Oper} {a : Act} {w0 w : World} {Q : Exit → Act → World → Prop} {l : List (Nat × Obj)} (hgd : o.guard = none) (ty : TypeId) (x y : Operand) (ho : o.op = .store ty x y) (H : Bs w0 l w) (i g off : Nat) (cells old : Array Value) (t : TypeId)
    (hl : l[i]? = some (g, .cells old t)) (hx : a.eval x = .pointer (some ⟨g, off, none⟩)) (hy : a.eval y = .agg cells) (hi : (P.info? ty).map (·.size) = some cells.size) (hoff : off + cells.size ≤ old.size) (h1 : cells.all (·.oneCell') = true)
    (h : ∀ w', Bs w0 (l.set i (g, .cells (midRow old off cells) t)) w' → wpList P ops Q rest (a.put o.dst undef) w') : wpList P ops Q (o :: rest) a w := by
  have hg := H.get i hl
  have e : old = (old.toList.take off ++ old.toList.drop off).toArray := by rw [List.take_append_drop, Array.toArray_toList]
  have hg2 : w.heap[g]? = some (.cells (old.toList.take off ++ old.toList.drop off).toArray t) := by rw [← e]; exact hg
  refine wpList_mid_but hgd ty x y ho g off cells (old.toList.take off) (old.toList.drop off) t hg2 (by rw [List.length_take, Array.length_toList]; omega) hx hy hi (by rw [List.length_drop, Array.length_toList]; omega) h1 ?_
  intro w' hw hb
  exact h w' (H.but i hl hb hw)
theorem addr_addU (b o j : Nat) : ((⟨b, o, none⟩ : Addr).add j) = ⟨b, o + j, none⟩ := by
 unfold Addr.add
 split
 ·rename_i h; subst h; rfl
 ·rfl
theorem own_some {w : World} {base n sz : Nat} {e : TypeId} {v : Value} {xs : List Value} (h : w.ownsRow base e sz v n xs) (hn : 0 < n) : ∃ g cap cur, v = .slice (some ⟨g, 0, none⟩) n cap ∧ base ≤ g ∧ w.heap[g]? = some (.cells cur e) ∧ n ≤ cap ∧ cur.size = cap * sz ∧ ∀ j, j < n * sz → cur[j]? = xs[j]? := by
 obtain ⟨hxl, h⟩ := h
 rcases h with ⟨rfl, h0⟩ | ⟨g, cap, cur, rfl, hb, hg, hn, hm, hc, ht⟩
 ·omega
 ·refine ⟨g, cap, cur, rfl, hb, hg, hn, hc, fun j hj => ?_⟩
  have e : (cur.toList.take (n * sz))[j]? = xs[j]? := by rw [ht]
  rw [List.getElem?_take, if_pos hj] at e
  rw [← Array.getElem?_toList, e]
theorem own_empty {w : World} {base : Nat} (e : TypeId) (sz : Nat) (h : base ≤ w.heap.size) : (w.alloc (.cells #[] e)).ownsRow base e sz (.slice (some ⟨w.heap.size, 0, none⟩) 0 0) 0 [] :=
 ⟨by simp, .inr ⟨_, 0, #[], rfl, h, heap_alloc_new _ _, Nat.le_refl _, Nat.zero_le _, by simp, by simp⟩⟩
end Go.Proofs.YtpkggjobdmchlaaGreatDoor
/- dip: fenced loads and stores. -/
namespace Go.Proofs.YtpkggjobdmchlaaGreatDoor
open Go.RowKit Go.Shelf
theorem wpIn_load_row {P : Program} {Fe : Fence} {n : Nat} {o : Oper} {a : Act} {w : World} {K : Act → World → Prop} {Q : Exit → Act → World → Prop} (ty : TypeId) (x : Operand) (ho : o.op = .load ty x)
    (g : Nat) (hx : a.eval x = .pointer (some ⟨g, 0, none⟩)) (t : TypeId) (cs : Array Value) (fr : Nat × Nat) (d : TypeDesc) (hg : w.heap[g]? = some (.cells cs t fr))
    (hu : P.underlying ty = some d) (hd : (match d with | .struct _ | .array _ _ => true | _ => false) = true) (hi : (P.info? ty).map (·.size) = some cs.size)
    (h : K (a.put o.dst (.agg cs)) w) : o.wpIn Fe n P a w K Q := by
  unfold Oper.wpIn
  refine And.intro (fun f hf => by simp [Oper.about, ho] at hf) ?_
  rw [Oper.semAt_plain Fe a.eval o (by simp [ho])]
  unfold execOp
  simp only [ho, hx, Instr.loadAt, Instr.sureAddr, Sem.run_bind, Sem.run_pure, Result.andThen_ok, run_loadVar_row w g t ty cs fr d hg hu hd hi]
  exact h
theorem wpListIn_load_row {P : Program} {Fe : Fence} {n : Nat} {ops : Array Oper} {rest : List Oper} {o : Oper} {a : Act} {w : World} {Q : Exit → Act → World → Prop} (hgd : o.guard = none) (ty : TypeId) (x : Operand) (ho : o.op = .load ty x)
    (g : Nat) (hx : a.eval x = .pointer (some ⟨g, 0, none⟩)) (t : TypeId) (cs : Array Value) (fr : Nat × Nat) (d : TypeDesc) (hg : w.heap[g]? = some (.cells cs t fr))
    (hu : P.underlying ty = some d) (hd : (match d with | .struct _ | .array _ _ => true | _ => false) = true) (hi : (P.info? ty).map (·.size) = some cs.size)
    (h : wpListIn Fe n P ops Q rest (a.put o.dst (.agg cs)) w) : wpListIn Fe n P ops Q (o :: rest) a w :=
  wpListIn_plain hgd fun _ hK => wpIn_load_row ty x ho g hx t cs fr d hg hu hd hi (hK _ _ h)
theorem wpListIn_cell_but {P : Program} {ops : Array Oper} {rest : List Oper} {o : Oper} {a : Act} {w : World} {Q : Exit → Act → World → Prop} {Fe : Fence} {n : Nat} (hgd : o.guard = none) (ty : TypeId) (x y : Operand) (ho : o.op = .store ty x y) (g j : Nat) (old : Array Value) (t : TypeId) (hi : w.heap[g]? = some (.cells old t))
    (hx : a.eval x = .pointer (some ⟨g, j, none⟩)) (v : Value) (hy : a.eval y = v) (hj : j < old.size) (h1 : v.oneCell' = true) (hn : (P.info? ty).map (·.size) = some 1)
    (h : ∀ w', w'.heap[g]? = some (.cells (old.setIfInBounds j v) t) → But g w w' → wpListIn Fe n P ops Q rest (a.put o.dst undef) w') : wpListIn Fe n P ops Q (o :: rest) a w :=
  wpListIn_plain hgd fun _ hK => by
    have hc : w.cell? ⟨g, j, none⟩ = some old[j] := by rw [cell_of_row w g j _ _ _ hi]; simp [hj]
    unfold Oper.wpIn
    refine And.intro (fun f hf => by simp [Oper.about, ho] at hf) ?_
    rw [Oper.semAt_plain Fe a.eval o (by simp [ho])]
    unfold execOp
    simp only [ho, hx, hy, Instr.storeAt, Instr.sureAddr, Sem.run_bind, Sem.run_pure, Result.andThen_ok, run_store_at w g j ty v _ h1 hc (frozen_of_row w g j _ _ hi) hn]
    exact hK _ _ (h _ (heap_setCell_same w g j old t v hi) (But.setCell g j w v))
end Go.Proofs.YtpkggjobdmchlaaGreatDoor
