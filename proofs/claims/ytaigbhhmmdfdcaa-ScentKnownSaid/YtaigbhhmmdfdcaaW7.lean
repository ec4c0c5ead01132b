/- A batch that is looked at: its cells; least, most. -/
import Derived.Test.YtaigbhhmmdfdcaaW6
import Derived.StillTailTactics
namespace Go.Proofs.Ytaigbhhmmdfdcaa
open Go.RowKit
/-- All but one block stays. -/
structure But (g : Nat) (w w' : World) : Prop where
  os : w'.os = w.os
  tape : w'.tape = w.tape
  output : w'.output = w.output
  size : w.heap.size ≤ w'.heap.size
  block : ∀ k, k < w.heap.size → k ≠ g → w'.heap[k]? = w.heap[k]?
theorem But.refl (g : Nat) (w : World) : But g w w := ⟨rfl, rfl, rfl, Nat.le_refl _, fun _ _ _ => rfl⟩
theorem But.trans {g : Nat} {a b c : World} (h : But g a b) (k : But g b c) : But g a c :=
  ⟨k.os.trans h.os, k.tape.trans h.tape, k.output.trans h.output, Nat.le_trans h.size k.size, fun i hi hg => (k.block i (Nat.lt_of_lt_of_le hi h.size) hg).trans (h.block i hi hg)⟩
theorem But.of {g : Nat} {w w' : World} (h : Below w.heap.size w w') : But g w w' := ⟨h.os, h.tape, h.output, h.size, fun k hk _ => h.block k hk⟩
theorem But.drewN (g : Nat) (w : World) (n : Nat) : But g w (w.drewN n) := But.of (below_drewN (Below.refl _ _) n)
theorem But.alloc {g : Nat} {w w' : World} (h : But g w w') (o : Obj) : But g w (w'.alloc o) := h.trans (But.of ((Below.refl _ _).alloc (Nat.le_refl _) o))
theorem But.below {g B : Nat} {w w' : World} (h : But g w w') (h1 : B ≤ g) (h2 : B ≤ w.heap.size) : Below B w w' := ⟨h.os, h.tape, h.output, h.size, fun k hk => h.block k (by omega) (by omega)⟩
theorem But.cell {g b o : Nat} {w w' : World} (h : But g w w') (h1 : b < w.heap.size) (h2 : b ≠ g) : w'.cell? ⟨b, o, none⟩ = w.cell? ⟨b, o, none⟩ := by
  unfold World.cell?
  simp only [h.block b h1 h2]
/-- A list of blocks, one of them turned. -/
theorem Bs.but {w0 w w' : World} {l : List (Nat × Obj)} (H : Bs w0 l w) (i : Nat) {g : Nat} {o o' : Obj} (hi : l[i]? = some (g, o)) (h : But g w w') (hg : w'.heap[g]? = some o') : Bs w0 (l.set i (g, o')) w' := by
  refine ⟨?_, ?_, ?_, H.bel.trans (h.below (H.le i hi) H.bel.size)⟩
  · intro p hp
    obtain ⟨j, hj⟩ := List.mem_iff_getElem?.1 hp
    by_cases hji : j = i
    · subst hji
      have hlt : j < l.length := (List.getElem?_eq_some_iff.1 hi).1
      rw [List.getElem?_set_self hlt] at hj
      cases hj
      exact hg
    · rw [List.getElem?_set_ne (Ne.symm hji)] at hj
      have hm := List.mem_of_getElem? hj
      rw [h.block _ (block_lt (H.get' p hm)) (H.other i hi hji hj)]
      exact H.get' p hm
  · have : (l.set i (g, o')).map Prod.fst = l.map Prod.fst := by
      rw [List.map_set]
      apply List.ext_getElem?
      intro j
      by_cases hji : j = i
      · subst hji
        have hlt : j < (l.map Prod.fst).length := by simpa using (List.getElem?_eq_some_iff.1 hi).1
        rw [List.getElem?_set_self hlt]
        simp [hi]
      · rw [List.getElem?_set_ne (Ne.symm hji)]
    rw [this]
    exact H.inc
  · intro p hp
    obtain ⟨j, hj⟩ := List.mem_iff_getElem?.1 hp
    by_cases hji : j = i
    · subst hji
      have hlt : j < l.length := (List.getElem?_eq_some_iff.1 hi).1
      rw [List.getElem?_set_self hlt] at hj
      cases hj
      exact H.le j hi
    · rw [List.getElem?_set_ne (Ne.symm hji)] at hj
      exact H.ge p (List.mem_of_getElem? hj)
section
variable {P : Program} {ops : Array Oper} {rest : List Oper} {o : Oper} {a : Act} {w : World} {Q : Exit → Act → World → Prop}
/-- One cell of a block is stored. -/
theorem wpList_cell_but (hgd : o.guard = none) (ty : TypeId) (x y : Operand) (ho : o.op = .store ty x y) (g j : Nat) (old : Array Value) (t : TypeId) (hi : w.heap[g]? = some (.cells old t))
    (hx : a.eval x = .pointer (some ⟨g, j, none⟩)) (v : Value) (hy : a.eval y = v) (hj : j < old.size) (h1 : v.oneCell' = true) (hn : (P.info? ty).map (·.size) = some 1)
    (h : ∀ w', w'.heap[g]? = some (.cells (old.setIfInBounds j v) t) → But g w w' → wpList P ops Q rest (a.put o.dst undef) w') : wpList P ops Q (o :: rest) a w :=
  wpList_plain hgd fun _ hK => by
    have hc : w.cell? ⟨g, j, none⟩ = some old[j] := by rw [cell_of_row w g j _ _ _ hi]; simp [hj]
    unfold Oper.wp execOp
    simp only [ho, hx, hy, Instr.storeAt, Instr.sureAddr, Sem.run_bind, Sem.run_pure, Result.andThen_ok, run_store_at w g j ty v _ h1 hc (frozen_of_row w g j _ _ hi) hn]
    refine hK _ _ (h _ (heap_setCell_same w g j old t v hi) ⟨rfl, rfl, rfl, by simp, fun k _ hk => heap_setCell_other _ _ _ _ hk⟩)
/-- A row in the middle of a block is stored. -/
theorem wpList_mid_but (hgd : o.guard = none) (ty : TypeId) (x y : Operand) (ho : o.op = .store ty x y) (g off : Nat) (cells : Array Value) (pre rest' : List Value) (t : TypeId)
    (hg : w.heap[g]? = some (.cells (pre ++ rest').toArray t)) (hoff : pre.length = off) (hx : a.eval x = .pointer (some ⟨g, off, none⟩)) (hy : a.eval y = .agg cells)
    (hi : (P.info? ty).map (·.size) = some cells.size) (hfit : cells.size ≤ rest'.length) (h1 : cells.all (·.oneCell') = true)
    (h : ∀ w', w'.heap[g]? = some (.cells (pre ++ cells.toList ++ rest'.drop cells.size).toArray t) → But g w w' → wpList P ops Q rest (a.put o.dst undef) w') : wpList P ops Q (o :: rest) a w :=
  wpList_plain hgd fun _ hK => by
    subst hoff
    have ht : w.there g pre.length cells.size := by
      intro j hj
      refine ⟨?_, frozen_of_row w g _ _ _ hg⟩
      rw [cell_of_row w g _ _ _ _ hg]
      simp only [List.getElem?_toArray]
      rw [List.getElem?_append_right (by omega), Nat.add_sub_cancel_left]
      simp
      omega
    have hs := run_storeVar_mid (P := P) w g pre.length ty cells ht hi h1
    rw [setCells_row g t _ _ w _ hg, writeAt_list (pre ++ rest') cells.toList pre rest' rfl (by simpa using hfit)] at hs
    unfold Oper.wp execOp
    simp only [ho, hx, hy, Instr.storeAt, Instr.sureAddr, Sem.run_bind, Sem.run_pure, Result.andThen_ok, hs]
    exact hK _ _ (h _ (setRow_heap _ _ _ _ _ _ hg) ⟨rfl, rfl, rfl, by simp, fun k _ hk => setRow_other _ _ _ _ hk⟩)
end
theorem wrap_in {a : Int} (h0 : -9223372036854775808 ≤ a) (h1 : a ≤ 9223372036854775807) : IntKind.i64.wrap a = a := by rw [IntKind.wrap_i64]; omega
theorem info3 : (Try.prog.info? 3).map (·.size) = some 1 := by kernel_rfl
theorem info51 : (Try.prog.info? 51).map (·.size) = some 2 := by kernel_rfl
def upm {α : Type} (f : Nat → α) (t : Nat) (x : α) : Nat → α := fun u => if u = t then x else f u
def spC (m : Nat → Int × Int) : List Value := [.int .i64 (m 0).1, .int .i64 (m 0).2, .int .i64 (m 1).1, .int .i64 (m 1).2, .int .i64 (m 2).1, .int .i64 (m 2).2, .int .i64 (m 3).1, .int .i64 (m 3).2, .int .i64 (m 4).1, .int .i64 (m 4).2]
structure BO where
  vg : Value
  vb : Value
  va : Value
  wt : Int
  tk : Int
  mi : Nat → Int × Int
  pa : Nat → Int × Int
/-- The cells of a batch that is looked at. -/
def BO.c (x : BO) : Array Value := ([x.vg, x.vb, x.va, .int .i64 x.wt, .int .i64 x.tk] ++ (spC x.mi ++ spC x.pa)).toArray
theorem lt5 {t : Nat} (h : t < 5) : t = 0 ∨ t = 1 ∨ t = 2 ∨ t = 3 ∨ t = 4 := by omega
theorem BO.size (x : BO) : x.c.size = 25 := rfl
theorem BO.lo (x : BO) {t : Nat} (h : t < 5) : x.c[5 + t * 2]? = some (.int .i64 (x.mi t).1) := by
  rcases lt5 h with rfl | rfl | rfl | rfl | rfl <;> rfl
theorem BO.hi (x : BO) {t : Nat} (h : t < 5) : x.c[5 + t * 2 + 1]? = some (.int .i64 (x.mi t).2) := by
  rcases lt5 h with rfl | rfl | rfl | rfl | rfl <;> rfl
theorem BO.plo (x : BO) {t : Nat} (h : t < 5) : x.c[15 + t * 2]? = some (.int .i64 (x.pa t).1) := by
  rcases lt5 h with rfl | rfl | rfl | rfl | rfl <;> rfl
theorem BO.phi (x : BO) {t : Nat} (h : t < 5) : x.c[15 + t * 2 + 1]? = some (.int .i64 (x.pa t).2) := by
  rcases lt5 h with rfl | rfl | rfl | rfl | rfl <;> rfl
theorem BO.set_lo (x : BO) {t : Nat} (h : t < 5) (n : Int) : x.c.setIfInBounds (5 + t * 2) (.int .i64 n) = ({ x with mi := upm x.mi t (n, (x.mi t).2) } : BO).c := by
  rcases lt5 h with rfl | rfl | rfl | rfl | rfl <;> simp [BO.c, spC, upm]
theorem BO.set_hi (x : BO) {t : Nat} (h : t < 5) (n : Int) : x.c.setIfInBounds (5 + t * 2 + 1) (.int .i64 n) = ({ x with mi := upm x.mi t ((x.mi t).1, n) } : BO).c := by
  rcases lt5 h with rfl | rfl | rfl | rfl | rfl <;> simp [BO.c, spC, upm]
theorem BO.set_wt (x : BO) (n : Int) : x.c.setIfInBounds 3 (.int .i64 n) = ({ x with wt := n } : BO).c := by simp [BO.c, spC]
theorem BO.set_tk (x : BO) (n : Int) : x.c.setIfInBounds 4 (.int .i64 n) = ({ x with tk := n } : BO).c := by simp [BO.c, spC]
set_option maxRecDepth 100000 in
set_option maxHeartbeats 2000000 in
theorem least_any (x : BO) (g t : Nat) (n s : Int) (ht : t < 5) (w : World) (hg : w.heap[g]? = some (.cells x.c 111)) (hs : (x.mi t).1 + n = s) (h0 : -1000000000000000 ≤ s) (h1 : s ≤ 1000000000000000) :
    Calls Try.prog 107 #[.pointer (some ⟨g, 0, none⟩), .int .i64 t, .int .i64 n] w
      fun e w' => (∃ v, e = .returned v) ∧ w'.heap[g]? = some (.cells ({ x with mi := upm x.mi t (s, (x.mi t).2) } : BO).c 111) ∧ But g w w' := by
  have hc := (cell_of_row w g (5 + t * 2) _ _ _ hg).trans (x.lo ht)
  have HG := Lib.hid hg
  have HSET := Lib.hid (x.set_lo ht s)
  have HLT : Hid (5 + t * 2 < x.c.size) := by unfold Hid; rw [BO.size]; omega
  have hw : IntKind.i64.wrap ((x.mi t).1 + n) = s := by rw [hs]; exact wrap_in (by omega) (by omega)
  have HW := Lib.hid hw
  clear hg hs hw
  generalize (x.mi t).1 = m at *
  have hti : (t : Int) < 5 := by omega
  have htj : (0 : Int) ≤ t := by omega
  go_enter Try.func107, Try.ntmps107
  go_still_tail 13, (by kernel_rfl)
  change wpList _ _ _ _ _ (w.drewN 1)
  refine wpList_cell_but rfl 3 _ _ rfl g (5 + t * 2) x.c 111 HG.out rfl (.int .i64 (IntKind.i64.wrap (m + n))) rfl HLT.out rfl info3 ?_
  rw [HW.out, HSET.out]
  intro w1 hg1 hb1
  go_wp2
  refine bodyPost_end (results_none rfl _ _ _) rfl ⟨⟨_, rfl⟩, hg1, (But.drewN g w 1).trans hb1⟩
set_option maxRecDepth 100000 in
set_option maxHeartbeats 2000000 in
theorem most_any (x : BO) (g t : Nat) (n s : Int) (ht : t < 5) (w : World) (hg : w.heap[g]? = some (.cells x.c 111)) (hs : (x.mi t).2 + n = s) (h0 : -1000000000000000 ≤ s) (h1 : s ≤ 1000000000000000) :
    Calls Try.prog 108 #[.pointer (some ⟨g, 0, none⟩), .int .i64 t, .int .i64 n] w
      fun e w' => (∃ v, e = .returned v) ∧ w'.heap[g]? = some (.cells ({ x with mi := upm x.mi t ((x.mi t).1, s) } : BO).c 111) ∧ But g w w' := by
  have hc := (cell_of_row w g (5 + t * 2 + 1) _ _ _ hg).trans (x.hi ht)
  have HG := Lib.hid hg
  have HSET := Lib.hid (x.set_hi ht s)
  have HLT : Hid (5 + t * 2 + 1 < x.c.size) := by unfold Hid; rw [BO.size]; omega
  have hw : IntKind.i64.wrap ((x.mi t).2 + n) = s := by rw [hs]; exact wrap_in (by omega) (by omega)
  have HW := Lib.hid hw
  clear hg hs hw
  generalize (x.mi t).2 = m at *
  have hti : (t : Int) < 5 := by omega
  have htj : (0 : Int) ≤ t := by omega
  go_enter Try.func108, Try.ntmps108
  go_still_tail 13, (by kernel_rfl)
  change wpList _ _ _ _ _ (w.drewN 1)
  refine wpList_cell_but rfl 3 _ _ rfl g (5 + t * 2 + 1) x.c 111 HG.out rfl (.int .i64 (IntKind.i64.wrap (m + n))) rfl HLT.out rfl info3 ?_
  rw [HW.out, HSET.out]
  intro w1 hg1 hb1
  go_wp2
  refine bodyPost_end (results_none rfl _ _ _) rfl ⟨⟨_, rfl⟩, hg1, (But.drewN g w 1).trans hb1⟩
end Go.Proofs.Ytaigbhhmmdfdcaa
