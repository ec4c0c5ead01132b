/- Laws on arrays of ints by value: an index, equality, and how such an array lies in a block. -/
import Derived.WalkKit
import Derived.WalkSpells
import Derived.WalkLawsBesides
import Derived.Deep.MidRow
import Derived.Lib.Hide
namespace Go.Proofs.Ytaigbhhmmdfdcaa
open Go.RowKit

/-- The cells of an array of ints. -/
def ints (l : List Int) : Array Value := (l.map (Value.int .i64)).toArray

theorem ints_size (l : List Int) : (ints l).size = l.length := by simp [ints]
theorem ints_get (l : List Int) (i : Nat) (h : i < l.length) : (ints l)[i]? = some (.int .i64 (l.getD i 0)) := by
  simp [ints, List.getElem?_eq_getElem h, List.getD]
theorem ints_set (l : List Int) (i : Nat) (x : Int) : (ints l).setIfInBounds i (.int .i64 x) = ints (l.set i x) := by
  simp [ints, List.map_set]

section
variable {P : Program}

theorem part_ints {e : TypeId} {k : IntKind} (hu : P.underlying e = some (.int k)) (l : List Int) (i : Nat) (h : i < l.length) (w : World) :
    (part e (ints l) (i * 1)).run P w = .ok (.int .i64 (l.getD i 0)) w := by
  have hagg : (isAgg e).run P w = .ok false w := by
    unfold isAgg; rw [Sem.run_bind, run_underlying hu w]; simp
  unfold part
  simp [Sem.run_bind, hagg, ints_get l i h]

theorem run_index_ints {t e : TypeId} {n : Nat} {k : IntKind} (ht : P.underlying t = some (.array n e)) (hu : P.underlying e = some (.int k)) (hs : (P.info? e).map (·.size) = some 1)
    (l : List Int) (hl : l.length = n) (i : Nat) (h : i < n) (w : World) :
    (Instr.index t (.agg (ints l)) (.int .i64 (i : Int))).run P w = .ok (.int .i64 (l.getD i 0)) w := by
  have hsz : (Go.sizeOf e).run P w = .ok 1 w := by
    cases hq : P.info? e with
    | none => simp [hq] at hs
    | some i => simp [hq] at hs; simp [Go.sizeOf, typeInfo, hq, hs]
  unfold Instr.index
  simp only [asIntOf, Sem.run_bind, Sem.run_pure, Result.andThen_ok, run_underlying ht]
  rw [if_pos ⟨by omega, by omega⟩]
  simp only [Sem.run_bind, hsz, Result.andThen_ok, Int.toNat_natCast]
  exact part_ints hu l i (by omega) w

theorem run_eqloop_ints {e : TypeId} {k : IntKind} (hu : P.underlying e = some (.int k)) (d : Nat) (l m : List Int) (hlm : l.length = m.length) (w : World) :
    ∀ (c s : Nat), s + c = l.length →
    (forIn (List.range' s c) ((none : Option Bool), ()) fun i __s => do
                let __do_lift ← part e (ints l) (i * 1)
                let __do_lift_1 ← part e (ints m) (i * 1)
                let __do_lift ← Op.equalIn (d + 1) e __do_lift __do_lift_1
                if (!__do_lift) = true then pure (ForInStep.done (some false, ()))
                  else pure (ForInStep.yield (none, ()))).run P w = .ok (if l.drop s = m.drop s then (none, ()) else (some false, ())) w
  | 0, s, h => by
    have h1 : l.drop s = [] := by simp; omega
    have h2 : m.drop s = [] := by simp; omega
    simp [h1, h2]
  | c + 1, s, h => by
    have ih := run_eqloop_ints hu d l m hlm w c (s + 1) (by omega)
    have hs1 : s < l.length := by omega
    have hs2 : s < m.length := by omega
    rw [List.range'_succ, List.forIn_cons]
    simp only [Sem.run_bind, part_ints hu l s hs1 w, part_ints hu m s hs2 w, Result.andThen_ok, run_equalIn_int w d e _ _ _ _ hu]
    rw [List.drop_eq_getElem_cons hs1, List.drop_eq_getElem_cons hs2]
    have e1 : l.getD s 0 = l[s] := by simp [List.getD, hs1]
    have e2 : m.getD s 0 = m[s] := by simp [List.getD, hs2]
    rw [e1, e2]
    by_cases hh : l[s] = m[s]
    · simp only [hh, beq_self_eq_true, Bool.not_true, Bool.false_eq_true, if_false, Sem.run_pure, Result.andThen_ok, List.cons.injEq, true_and]
      exact ih
    · have : (l[s] == m[s]) = false := by simpa using hh
      have hne : ¬ (l[s] :: l.drop (s + 1) = m[s] :: m.drop (s + 1)) := fun h => hh (List.cons.inj h).1
      rw [if_neg hne]
      simp only [this, Bool.not_false, if_true, Sem.run_pure, Result.andThen_ok]

theorem run_equalIn_ints {t e : TypeId} {n : Nat} {k : IntKind} (ht : P.underlying t = some (.array n e)) (hu : P.underlying e = some (.int k)) (hs : (P.info? e).map (·.size) = some 1)
    (d : Nat) (l m : List Int) (hl : l.length = n) (hm : m.length = n) (w : World) :
    (Op.equalIn (d + 2) t (.agg (ints l)) (.agg (ints m))).run P w = .ok (decide (l = m)) w := by
  have hsz : (Go.sizeOf e).run P w = .ok 1 w := by
    cases hq : P.info? e with
    | none => simp [hq] at hs
    | some i => simp [hq] at hs; simp [Go.sizeOf, typeInfo, hq, hs]
  have key := run_eqloop_ints (P := P) hu d l m (by omega) w n 0 (by omega)
  rw [Op.equalIn]
  simp only [Sem.run_bind, run_underlying ht, Result.andThen_ok, hsz]
  rw [Std.Legacy.Range.forIn_eq_forIn_range']
  simp only [Std.Legacy.Range.size, Nat.sub_zero, Nat.add_one_sub_one, Nat.div_one]
  rw [key]
  by_cases h : l = m <;> simp [h]

theorem run_eql_ints {t e : TypeId} {n : Nat} {k : IntKind} (ht : P.underlying t = some (.array n e)) (hu : P.underlying e = some (.int k)) (hs : (P.info? e).map (·.size) = some 1)
    (l m : List Int) (hl : l.length = n) (hm : m.length = n) (w : World) :
    (binOp .eql t (.agg (ints l)) (.agg (ints m))).run P w = .ok (.bool (decide (l = m))) w := by
  rw [run_eql_struct, show (10000 : Nat) = 9998 + 2 from rfl, run_equalIn_ints ht hu hs 9998 l m hl hm w]
  rfl

end

section
variable {P : Program}

/-- An operation that hands back a value, its run known. -/
theorem wpList_value {ops : Array Oper} {rest : List Oper} {o : Oper} {a : Act} {w w' : World} {Q : Exit → Act → World → Prop} (hgd : o.guard = none) (v : Value)
    (hr : (execOp a.eval o).run P w = .ok (.value v) w') (h : wpList P ops Q rest (a.put o.dst v) w') : wpList P ops Q (o :: rest) a w :=
  wpList_plain hgd fun _ hK => by unfold Oper.wp; rw [hr]; exact hK _ _ h

/-- '==' between two arrays of ints. -/
theorem wpList_eql_ints {ops : Array Oper} {rest : List Oper} {o : Oper} {a : Act} {w : World} {Q : Exit → Act → World → Prop} (hgd : o.guard = none) {t t' e : TypeId} {n : Nat} {k : IntKind} (x y : Operand)
    (ho : o.op = .binOp .eql t x y t') (r : Bool) (l m : List Int) (hr : decide (l = m) = r) (hx : a.eval x = .agg (ints l)) (hy : a.eval y = .agg (ints m))
    (ht : P.underlying t = some (.array n e)) (hu : P.underlying e = some (.int k)) (hs : (P.info? e).map (·.size) = some 1) (hg : P.eqGuardType P.depth t = false)
    (hl : l.length = n) (hm : m.length = n) (h : wpList P ops Q rest (a.put o.dst (.bool r)) w) : wpList P ops Q (o :: rest) a w := by
  subst hr
  refine wpList_value hgd _ ?_ h
  unfold execOp
  simp only [ho, hx, hy, Sem.run_bind, run_eqGuard_agg w .eql t x y (ints l) (ints m) hg, Result.andThen_ok, run_eql_ints ht hu hs l m hl hm w, Sem.run_pure]

/-- A block below the heap's end stays through a call that leaves all below that end. -/
theorem block_keep {w w' : World} {b : Nat} {o : Obj} (h : w.heap[b]? = some o) (hb : Below w.heap.size w w') : w'.heap[b]? = some o := by
  have : b < w.heap.size := by
    by_cases hlt : b < w.heap.size
    · exact hlt
    · simp [hlt] at h
  rw [hb.block b this]; exact h
theorem block_lt {w : World} {b : Nat} {o : Obj} (h : w.heap[b]? = some o) : b < w.heap.size := by
  by_cases hlt : b < w.heap.size
  · exact hlt
  · simp [hlt] at h

theorem below_setRow {B : Nat} {a w : World} (h : Below B a w) {g : Nat} (hg : B ≤ g) (cs : Array Value) : Below B a (w.setRow g cs) :=
  h.trans ⟨rfl, rfl, rfl, by simp, fun k hk => setRow_other w g k cs (by omega)⟩
theorem ints_oneCell (l : List Int) : (ints l).all (·.oneCell') = true := by
  simp [ints, Value.oneCell']
end

theorem setRow_self {w : World} {g : Nat} {cs : Array Value} {t : TypeId} {fr : Nat × Nat} (h : w.heap[g]? = some (.cells cs t fr)) : w.setRow g cs = w := by
  have hlt : g < w.heap.size := (Array.getElem?_eq_some_iff.1 h).1
  have hv : w.heap[g] = .cells cs t fr := (Array.getElem?_eq_some_iff.1 h).2
  unfold World.setRow
  cases w with
  | mk heap tape drawn os output =>
    congr 1
    apply Array.ext
    · simp
    · intro i h1 h2
      rw [Array.getElem_modify]
      split
      · rename_i he
        subst he
        simp only at hv
        rw [hv]
      · rfl
def writeAt (cs : Array Value) : Nat → List Value → Array Value
  | _, [] => cs
  | o, v :: vs => writeAt (cs.setIfInBounds o v) (o + 1) vs

theorem setCells_row (g : Nat) (t : TypeId) : ∀ (vs : List Value) (o : Nat) (w : World) (cs : Array Value), w.heap[g]? = some (.cells cs t) → w.setCells g o vs = w.setRow g (writeAt cs o vs)
  | [], o, w, cs, h => by
    simp only [World.setCells, writeAt]
    exact (setRow_self h).symm
  | v :: vs, o, w, cs, h => by
    rw [World.setCells, setCells_row g t vs (o + 1) _ _ (heap_setCell_same w g o cs t v h), setCell_eq_setRow w g o cs t (0, 0) v h, setRow_setRow]
    rfl
theorem writeAt_list (l : List Value) : ∀ (vs pre : List Value) (rest : List Value), l = pre ++ rest → vs.length ≤ rest.length → writeAt l.toArray pre.length vs = (pre ++ vs ++ rest.drop vs.length).toArray
  | [], pre, rest, h, _ => by simp [writeAt, h]
  | v :: vs, pre, [], h, hl => by simp at hl
  | v :: vs, pre, r :: rest, h, hl => by
    rw [writeAt]
    have e : l.toArray.setIfInBounds pre.length v = (l.set pre.length v).toArray := by simp
    rw [e, h]
    have e2 : (pre ++ r :: rest).set pre.length v = (pre ++ [v]) ++ rest := by simp
    rw [e2]
    have := writeAt_list ((pre ++ [v]) ++ rest) vs (pre ++ [v]) rest rfl (by simpa using hl)
    rw [show (pre ++ [v]).length = pre.length + 1 from by simp] at this
    rw [this]
    simp

@[go_sem] theorem ints_at0 (a : Int) (l : List Int) (h : 0 < (ints (a :: l)).size) : (ints (a :: l))[0]'h = .int .i64 a := by simp [ints]
@[go_sem] theorem ints_at1 (a b : Int) (l : List Int) (h : 1 < (ints (a :: b :: l)).size) : (ints (a :: b :: l))[1]'h = .int .i64 b := by simp [ints]
@[go_sem] theorem ints_at2 (a b c : Int) (l : List Int) (h : 2 < (ints (a :: b :: c :: l)).size) : (ints (a :: b :: c :: l))[2]'h = .int .i64 c := by simp [ints]
@[go_sem] theorem ints_at0' (a : Int) (l : List Int) : (ints (a :: l))[0]? = some (.int .i64 a) := by simp [ints]
@[go_sem] theorem ints_at1' (a b : Int) (l : List Int) : (ints (a :: b :: l))[1]? = some (.int .i64 b) := by simp [ints]
@[go_sem] theorem ints_at2' (a b c : Int) (l : List Int) : (ints (a :: b :: c :: l))[2]? = some (.int .i64 c) := by simp [ints]
@[go_sem] theorem ints_set0 (a x : Int) (l : List Int) : (ints (a :: l)).setIfInBounds 0 (.int .i64 x) = ints (x :: l) := by rw [ints_set]; rfl
@[go_sem] theorem ints_set1 (a b x : Int) (l : List Int) : (ints (a :: b :: l)).setIfInBounds 1 (.int .i64 x) = ints (a :: x :: l) := by rw [ints_set]; rfl
@[go_sem] theorem ints_set2 (a b c x : Int) (l : List Int) : (ints (a :: b :: c :: l)).setIfInBounds 2 (.int .i64 x) = ints (a :: b :: x :: l) := by rw [ints_set]; rfl

section
variable {P : Program}
/-- An array that lies in a block behind three ints is read. -/
theorem wpList_load_tail3 {ops : Array Oper} {rest : List Oper} {o : Oper} {a : Act} {w : World} {Q : Exit → Act → World → Prop} (hgd : o.guard = none) (ty : TypeId) (x : Operand) (ho : o.op = .load ty x)
    (g : Nat) (hx : a.eval x = .pointer (some ⟨g, 3, none⟩)) (t : TypeId) (p q r : Int) (l : List Int) (hg : w.heap[g]? = some (.cells (ints (p :: q :: r :: l)) t)) {d : TypeDesc}
    (hu : P.underlying ty = some d) (hd : d.isRow = true) (hi : (P.info? ty).map (·.size) = some l.length) (h : wpList P ops Q rest (a.put o.dst (.agg (ints l))) w) : wpList P ops Q (o :: rest) a w := by
  refine wpList_load_mid hgd ty x ho g 3 hx (l.map (Value.int .i64)) d ?_ hu hd (by rw [hi]; simp) h
  intro j v hv
  rw [cell_of_row w g _ _ _ _ hg, ints]
  simp only [List.map_cons, List.getElem?_toArray]
  rw [show 3 + j = j + 1 + 1 + 1 from by omega]
  simpa using hv
theorem wp_load_tail3 {o : Oper} {a : Act} {w : World} {K : Act → World → Prop} {Q : Exit → Act → World → Prop} (ty : TypeId) (x : Operand) (ho : o.op = .load ty x)
    (g : Nat) (hx : a.eval x = .pointer (some ⟨g, 3, none⟩)) (t : TypeId) (p q r : Int) (l : List Int) (hg : w.heap[g]? = some (.cells (ints (p :: q :: r :: l)) t)) {d : TypeDesc}
    (hu : P.underlying ty = some d) (hd : d.isRow = true) (hi : (P.info? ty).map (·.size) = some l.length) (h : K (a.put o.dst (.agg (ints l))) w) : o.wp P a w K Q := by
  refine wp_load_mid ty x ho g 3 hx (l.map (Value.int .i64)) d ?_ hu hd (by rw [hi]; simp) h
  intro j v hv
  rw [cell_of_row w g _ _ _ _ hg, ints]
  simp only [List.map_cons, List.getElem?_toArray]
  rw [show 3 + j = j + 1 + 1 + 1 from by omega]
  simpa using hv
/-- Such an array is written. -/
theorem wpList_store_tail3 {ops : Array Oper} {rest : List Oper} {o : Oper} {a : Act} {w : World} {Q : Exit → Act → World → Prop} (hgd : o.guard = none) (ty : TypeId) (x y : Operand) (ho : o.op = .store ty x y)
    (g : Nat) (hx : a.eval x = .pointer (some ⟨g, 3, none⟩)) (m : List Int) (hy : a.eval y = .agg (ints m)) (t : TypeId) (p q r : Int) (l : List Int) (hg : w.heap[g]? = some (.cells (ints (p :: q :: r :: l)) t))
    (hi : (P.info? ty).map (·.size) = some m.length) (hlm : l.length = m.length) (h : wpList P ops Q rest (a.put o.dst undef) (w.setRow g (ints (p :: q :: r :: m)))) : wpList P ops Q (o :: rest) a w := by
  refine wpList_store_mid hgd ty x y ho g 3 (ints m) hx hy ?_ (by rw [hi, ints_size]) (by simp [ints, Value.oneCell']) ?_
  · intro j hj
    rw [ints_size] at hj
    refine ⟨?_, frozen_of_row w g _ _ _ hg⟩
    rw [cell_of_row w g _ _ _ _ hg, ints]
    simp only [List.map_cons, List.getElem?_toArray]
    rw [show 3 + j = j + 1 + 1 + 1 from by omega]
    simp; omega
  · rw [setCells_row g t _ 3 w _ hg]
    have e : writeAt (ints (p :: q :: r :: l)) 3 (ints m).toList = ints (p :: q :: r :: m) := by
      have := writeAt_list ([Value.int .i64 p, .int .i64 q, .int .i64 r] ++ l.map (Value.int .i64)) (m.map (Value.int .i64)) [Value.int .i64 p, .int .i64 q, .int .i64 r] (l.map (Value.int .i64)) rfl (by simp [hlm])
      simp only [List.length_cons, List.length_nil] at this
      simp only [ints, List.map_cons]
      rw [show (3 : Nat) = 0 + 1 + 1 + 1 from rfl]
      refine this.trans ?_
      simp [hlm]
    rw [e]; exact h
end

end Go.Proofs.Ytaigbhhmmdfdcaa
