/- Blocks, regions that draw, slices that read as lists, the plain model. -/
import Derived.WalkKit
import Derived.WalkSpells
import Derived.WalkLawsBesides
import Derived.Deep.MidRow
import Derived.Lib.Hide
import Derived.RangeFuncNested
import Derived.RangeFuncBound
import Derived.RangeFuncCalls
import Derived.RangeFuncLeaves
import Derived.RangeFuncBox
import Derived.OwnWalkIn
import Derived.TacticsInMore
import Derived.LoopNIn
import Derived.LoopIn
import Derived.RangeFuncWrites
/- Laws on arrays of ints by value: an index, equality, and how such an array lies in a block. -/
namespace Go.Proofs.Ytaigbhhmmdfdcaa
open Go.RowKit

/-- The cells of an array of ints. -/
def ints (l : List Int) : Array Value := (l.map (Value.int .i64)).toArray

theorem ints_size (l : List Int) : (ints l).size = l.length := by simp [ints]
theorem ints_get (l : List Int) (i : Nat) (h : i < l.length) : (ints l)[i]? = some (.int .i64 (l.getD i 0)) := by
  simp [ints, List.getElem?_eq_getElem h, List.getD]
theorem ints_set (l : List Int) (i : Nat) (x : Int) : (ints l).setIfInBounds i (.int .i64 x) = ints (l.set i x) := by
  simp [ints, List.map_set]

section
variable {P : Program}

theorem part_ints {e : TypeId} {k : IntKind} (hu : P.underlying e = some (.int k)) (l : List Int) (i : Nat) (h : i < l.length) (w : World) :
    (part e (ints l) (i * 1)).run P w = .ok (.int .i64 (l.getD i 0)) w := by
  have hagg : (isAgg e).run P w = .ok false w := by
    unfold isAgg; rw [Sem.run_bind, run_underlying hu w]; simp
  unfold part
  simp [Sem.run_bind, hagg, ints_get l i h]

theorem run_index_ints {t e : TypeId} {n : Nat} {k : IntKind} (ht : P.underlying t = some (.array n e)) (hu : P.underlying e = some (.int k)) (hs : (P.info? e).map (·.size) = some 1)
    (l : List Int) (hl : l.length = n) (i : Nat) (h : i < n) (w : World) :
    (Instr.index t (.agg (ints l)) (.int .i64 (i : Int))).run P w = .ok (.int .i64 (l.getD i 0)) w := by
  have hsz : (Go.sizeOf e).run P w = .ok 1 w := by
    cases hq : P.info? e with
    | none => simp [hq] at hs
    | some i => simp [hq] at hs; simp [Go.sizeOf, typeInfo, hq, hs]
  unfold Instr.index
  simp only [asIntOf, Sem.run_bind, Sem.run_pure, Result.andThen_ok, run_underlying ht]
  rw [if_pos ⟨by omega, by omega⟩]
  simp only [Sem.run_bind, hsz, Result.andThen_ok, Int.toNat_natCast]
  exact part_ints hu l i (by omega) w

theorem run_eqloop_ints {e : TypeId} {k : IntKind} (hu : P.underlying e = some (.int k)) (d : Nat) (l m : List Int) (hlm : l.length = m.length) (w : World) :
    ∀ (c s : Nat), s + c = l.length →
    (forIn (List.range' s c) ((none : Option Bool), ()) fun i __s => do
                let __do_lift ← part e (ints l) (i * 1)
                let __do_lift_1 ← part e (ints m) (i * 1)
                let __do_lift ← Op.equalIn (d + 1) e __do_lift __do_lift_1
                if (!__do_lift) = true then pure (ForInStep.done (some false, ()))
                  else pure (ForInStep.yield (none, ()))).run P w = .ok (if l.drop s = m.drop s then (none, ()) else (some false, ())) w
  | 0, s, h => by
    have h1 : l.drop s = [] := by simp; omega
    have h2 : m.drop s = [] := by simp; omega
    simp [h1, h2]
  | c + 1, s, h => by
    have ih := run_eqloop_ints hu d l m hlm w c (s + 1) (by omega)
    have hs1 : s < l.length := by omega
    have hs2 : s < m.length := by omega
    rw [List.range'_succ, List.forIn_cons]
    simp only [Sem.run_bind, part_ints hu l s hs1 w, part_ints hu m s hs2 w, Result.andThen_ok, run_equalIn_int w d e _ _ _ _ hu]
    rw [List.drop_eq_getElem_cons hs1, List.drop_eq_getElem_cons hs2]
    have e1 : l.getD s 0 = l[s] := by simp [List.getD, hs1]
    have e2 : m.getD s 0 = m[s] := by simp [List.getD, hs2]
    rw [e1, e2]
    by_cases hh : l[s] = m[s]
    · simp only [hh, beq_self_eq_true, Bool.not_true, Bool.false_eq_true, if_false, Sem.run_pure, Result.andThen_ok, List.cons.injEq, true_and]
      exact ih
    · have : (l[s] == m[s]) = false := by simpa using hh
      have hne : ¬ (l[s] :: l.drop (s + 1) = m[s] :: m.drop (s + 1)) := fun h => hh (List.cons.inj h).1
      rw [if_neg hne]
      simp only [this, Bool.not_false, if_true, Sem.run_pure, Result.andThen_ok]

theorem run_equalIn_ints {t e : TypeId} {n : Nat} {k : IntKind} (ht : P.underlying t = some (.array n e)) (hu : P.underlying e = some (.int k)) (hs : (P.info? e).map (·.size) = some 1)
    (d : Nat) (l m : List Int) (hl : l.length = n) (hm : m.length = n) (w : World) :
    (Op.equalIn (d + 2) t (.agg (ints l)) (.agg (ints m))).run P w = .ok (decide (l = m)) w := by
  have hsz : (Go.sizeOf e).run P w = .ok 1 w := by
    cases hq : P.info? e with
    | none => simp [hq] at hs
    | some i => simp [hq] at hs; simp [Go.sizeOf, typeInfo, hq, hs]
  have key := run_eqloop_ints (P := P) hu d l m (by omega) w n 0 (by omega)
  rw [Op.equalIn]
  simp only [Sem.run_bind, run_underlying ht, Result.andThen_ok, hsz]
  rw [Std.Legacy.Range.forIn_eq_forIn_range']
  simp only [Std.Legacy.Range.size, Nat.sub_zero, Nat.add_one_sub_one, Nat.div_one]
  rw [key]
  by_cases h : l = m <;> simp [h]

theorem run_eql_ints {t e : TypeId} {n : Nat} {k : IntKind} (ht : P.underlying t = some (.array n e)) (hu : P.underlying e = some (.int k)) (hs : (P.info? e).map (·.size) = some 1)
    (l m : List Int) (hl : l.length = n) (hm : m.length = n) (w : World) :
    (binOp .eql t (.agg (ints l)) (.agg (ints m))).run P w = .ok (.bool (decide (l = m))) w := by
  rw [run_eql_struct, show (10000 : Nat) = 9998 + 2 from rfl, run_equalIn_ints ht hu hs 9998 l m hl hm w]
  rfl

end

section
variable {P : Program}

/-- An operation that hands back a value, its run known. -/
theorem wpList_value {ops : Array Oper} {rest : List Oper} {o : Oper} {a : Act} {w w' : World} {Q : Exit → Act → World → Prop} (hgd : o.guard = none) (v : Value)
    (hr : (execOp a.eval o).run P w = .ok (.value v) w') (h : wpList P ops Q rest (a.put o.dst v) w') : wpList P ops Q (o :: rest) a w :=
  wpList_plain hgd fun _ hK => by unfold Oper.wp; rw [hr]; exact hK _ _ h

/-- '==' between two arrays of ints. -/
theorem wpList_eql_ints {ops : Array Oper} {rest : List Oper} {o : Oper} {a : Act} {w : World} {Q : Exit → Act → World → Prop} (hgd : o.guard = none) {t t' e : TypeId} {n : Nat} {k : IntKind} (x y : Operand)
    (ho : o.op = .binOp .eql t x y t') (r : Bool) (l m : List Int) (hr : decide (l = m) = r) (hx : a.eval x = .agg (ints l)) (hy : a.eval y = .agg (ints m))
    (ht : P.underlying t = some (.array n e)) (hu : P.underlying e = some (.int k)) (hs : (P.info? e).map (·.size) = some 1) (hg : P.eqGuardType P.depth t = false)
    (hl : l.length = n) (hm : m.length = n) (h : wpList P ops Q rest (a.put o.dst (.bool r)) w) : wpList P ops Q (o :: rest) a w := by
  subst hr
  refine wpList_value hgd _ ?_ h
  unfold execOp
  simp only [ho, hx, hy, Sem.run_bind, run_eqGuard_agg w .eql t x y (ints l) (ints m) hg, Result.andThen_ok, run_eql_ints ht hu hs l m hl hm w, Sem.run_pure]

/-- A block below the heap's end stays through a call that leaves all below that end. -/
theorem block_keep {w w' : World} {b : Nat} {o : Obj} (h : w.heap[b]? = some o) (hb : Below w.heap.size w w') : w'.heap[b]? = some o := by
  have : b < w.heap.size := by
    by_cases hlt : b < w.heap.size
    · exact hlt
    · simp [hlt] at h
  rw [hb.block b this]; exact h
theorem block_lt {w : World} {b : Nat} {o : Obj} (h : w.heap[b]? = some o) : b < w.heap.size := by
  by_cases hlt : b < w.heap.size
  · exact hlt
  · simp [hlt] at h

theorem below_setRow {B : Nat} {a w : World} (h : Below B a w) {g : Nat} (hg : B ≤ g) (cs : Array Value) : Below B a (w.setRow g cs) :=
  h.trans ⟨rfl, rfl, rfl, by simp, fun k hk => setRow_other w g k cs (by omega)⟩
theorem ints_oneCell (l : List Int) : (ints l).all (·.oneCell') = true := by
  simp [ints, Value.oneCell']
end

theorem setRow_self {w : World} {g : Nat} {cs : Array Value} {t : TypeId} {fr : Nat × Nat} (h : w.heap[g]? = some (.cells cs t fr)) : w.setRow g cs = w := by
  have hlt : g < w.heap.size := (Array.getElem?_eq_some_iff.1 h).1
  have hv : w.heap[g] = .cells cs t fr := (Array.getElem?_eq_some_iff.1 h).2
  unfold World.setRow
  cases w with
  | mk heap tape drawn os output =>
    congr 1
    apply Array.ext
    · simp
    · intro i h1 h2
      rw [Array.getElem_modify]
      split
      · rename_i he
        subst he
        simp only at hv
        rw [hv]
      · rfl
def writeAt (cs : Array Value) : Nat → List Value → Array Value
  | _, [] => cs
  | o, v :: vs => writeAt (cs.setIfInBounds o v) (o + 1) vs

theorem setCells_row (g : Nat) (t : TypeId) : ∀ (vs : List Value) (o : Nat) (w : World) (cs : Array Value), w.heap[g]? = some (.cells cs t) → w.setCells g o vs = w.setRow g (writeAt cs o vs)
  | [], o, w, cs, h => by
    simp only [World.setCells, writeAt]
    exact (setRow_self h).symm
  | v :: vs, o, w, cs, h => by
    rw [World.setCells, setCells_row g t vs (o + 1) _ _ (heap_setCell_same w g o cs t v h), setCell_eq_setRow w g o cs t (0, 0) v h, setRow_setRow]
    rfl
theorem writeAt_list (l : List Value) : ∀ (vs pre : List Value) (rest : List Value), l = pre ++ rest → vs.length ≤ rest.length → writeAt l.toArray pre.length vs = (pre ++ vs ++ rest.drop vs.length).toArray
  | [], pre, rest, h, _ => by simp [writeAt, h]
  | v :: vs, pre, [], h, hl => by simp at hl
  | v :: vs, pre, r :: rest, h, hl => by
    rw [writeAt]
    have e : l.toArray.setIfInBounds pre.length v = (l.set pre.length v).toArray := by simp
    rw [e, h]
    have e2 : (pre ++ r :: rest).set pre.length v = (pre ++ [v]) ++ rest := by simp
    rw [e2]
    have := writeAt_list ((pre ++ [v]) ++ rest) vs (pre ++ [v]) rest rfl (by simpa using hl)
    rw [show (pre ++ [v]).length = pre.length + 1 from by simp] at this
    rw [this]
    simp

@[go_sem] theorem ints_at0 (a : Int) (l : List Int) (h : 0 < (ints (a :: l)).size) : (ints (a :: l))[0]'h = .int .i64 a := by simp [ints]
@[go_sem] theorem ints_at1 (a b : Int) (l : List Int) (h : 1 < (ints (a :: b :: l)).size) : (ints (a :: b :: l))[1]'h = .int .i64 b := by simp [ints]
@[go_sem] theorem ints_at2 (a b c : Int) (l : List Int) (h : 2 < (ints (a :: b :: c :: l)).size) : (ints (a :: b :: c :: l))[2]'h = .int .i64 c := by simp [ints]
@[go_sem] theorem ints_at0' (a : Int) (l : List Int) : (ints (a :: l))[0]? = some (.int .i64 a) := by simp [ints]
@[go_sem] theorem ints_at1' (a b : Int) (l : List Int) : (ints (a :: b :: l))[1]? = some (.int .i64 b) := by simp [ints]
@[go_sem] theorem ints_at2' (a b c : Int) (l : List Int) : (ints (a :: b :: c :: l))[2]? = some (.int .i64 c) := by simp [ints]
@[go_sem] theorem ints_set0 (a x : Int) (l : List Int) : (ints (a :: l)).setIfInBounds 0 (.int .i64 x) = ints (x :: l) := by rw [ints_set]; rfl
@[go_sem] theorem ints_set1 (a b x : Int) (l : List Int) : (ints (a :: b :: l)).setIfInBounds 1 (.int .i64 x) = ints (a :: x :: l) := by rw [ints_set]; rfl
@[go_sem] theorem ints_set2 (a b c x : Int) (l : List Int) : (ints (a :: b :: c :: l)).setIfInBounds 2 (.int .i64 x) = ints (a :: b :: x :: l) := by rw [ints_set]; rfl

section
variable {P : Program}
/-- An array that lies in a block behind three ints is read. -/
theorem wpList_load_tail3 {ops : Array Oper} {rest : List Oper} {o : Oper} {a : Act} {w : World} {Q : Exit → Act → World → Prop} (hgd : o.guard = none) (ty : TypeId) (x : Operand) (ho : o.op = .load ty x)
    (g : Nat) (hx : a.eval x = .pointer (some ⟨g, 3, none⟩)) (t : TypeId) (p q r : Int) (l : List Int) (hg : w.heap[g]? = some (.cells (ints (p :: q :: r :: l)) t)) {d : TypeDesc}
    (hu : P.underlying ty = some d) (hd : d.isRow = true) (hi : (P.info? ty).map (·.size) = some l.length) (h : wpList P ops Q rest (a.put o.dst (.agg (ints l))) w) : wpList P ops Q (o :: rest) a w := by
  refine wpList_load_mid hgd ty x ho g 3 hx (l.map (Value.int .i64)) d ?_ hu hd (by rw [hi]; simp) h
  intro j v hv
  rw [cell_of_row w g _ _ _ _ hg, ints]
  simp only [List.map_cons, List.getElem?_toArray]
  rw [show 3 + j = j + 1 + 1 + 1 from by omega]
  simpa using hv
theorem wp_load_tail3 {o : Oper} {a : Act} {w : World} {K : Act → World → Prop} {Q : Exit → Act → World → Prop} (ty : TypeId) (x : Operand) (ho : o.op = .load ty x)
    (g : Nat) (hx : a.eval x = .pointer (some ⟨g, 3, none⟩)) (t : TypeId) (p q r : Int) (l : List Int) (hg : w.heap[g]? = some (.cells (ints (p :: q :: r :: l)) t)) {d : TypeDesc}
    (hu : P.underlying ty = some d) (hd : d.isRow = true) (hi : (P.info? ty).map (·.size) = some l.length) (h : K (a.put o.dst (.agg (ints l))) w) : o.wp P a w K Q := by
  refine wp_load_mid ty x ho g 3 hx (l.map (Value.int .i64)) d ?_ hu hd (by rw [hi]; simp) h
  intro j v hv
  rw [cell_of_row w g _ _ _ _ hg, ints]
  simp only [List.map_cons, List.getElem?_toArray]
  rw [show 3 + j = j + 1 + 1 + 1 from by omega]
  simpa using hv
/-- Such an array is written. -/
theorem wpList_store_tail3 {ops : Array Oper} {rest : List Oper} {o : Oper} {a : Act} {w : World} {Q : Exit → Act → World → Prop} (hgd : o.guard = none) (ty : TypeId) (x y : Operand) (ho : o.op = .store ty x y)
    (g : Nat) (hx : a.eval x = .pointer (some ⟨g, 3, none⟩)) (m : List Int) (hy : a.eval y = .agg (ints m)) (t : TypeId) (p q r : Int) (l : List Int) (hg : w.heap[g]? = some (.cells (ints (p :: q :: r :: l)) t))
    (hi : (P.info? ty).map (·.size) = some m.length) (hlm : l.length = m.length) (h : wpList P ops Q rest (a.put o.dst undef) (w.setRow g (ints (p :: q :: r :: m)))) : wpList P ops Q (o :: rest) a w := by
  refine wpList_store_mid hgd ty x y ho g 3 (ints m) hx hy ?_ (by rw [hi, ints_size]) (by simp [ints, Value.oneCell']) ?_
  · intro j hj
    rw [ints_size] at hj
    refine ⟨?_, frozen_of_row w g _ _ _ hg⟩
    rw [cell_of_row w g _ _ _ _ hg, ints]
    simp only [List.map_cons, List.getElem?_toArray]
    rw [show 3 + j = j + 1 + 1 + 1 from by omega]
    simp; omega
  · rw [setCells_row g t _ 3 w _ hg]
    have e : writeAt (ints (p :: q :: r :: l)) 3 (ints m).toList = ints (p :: q :: r :: m) := by
      have := writeAt_list ([Value.int .i64 p, .int .i64 q, .int .i64 r] ++ l.map (Value.int .i64)) (m.map (Value.int .i64)) [Value.int .i64 p, .int .i64 q, .int .i64 r] (l.map (Value.int .i64)) rfl (by simp [hlm])
      simp only [List.length_cons, List.length_nil] at this
      simp only [ints, List.map_cons]
      rw [show (3 : Nat) = 0 + 1 + 1 + 1 from rfl]
      refine this.trans ?_
      simp [hlm]
    rw [e]; exact h
end

end Go.Proofs.Ytaigbhhmmdfdcaa
/- A region that draws its order, by an invariant: each operation is shown once, against whatever world and frame the invariant allows. -/
namespace Go.Proofs.Ytaigbhhmmdfdcaa
open Go.RowKit

/-! A region that draws its order, by an invariant: each operation is walked once, against whatever frame and world the invariant allows. -/

/-- An edge of o holds it behind operation j, whatever order is drawn. -/
def bindsTo (o : Oper) (j : Nat) : Bool := o.after.any fun e => Region.binds .any e && e.on == j

/-- The operations do not stand in each other's way: what one reads, another writes before or behind it in every order; no two write one temporary. -/
def regLex (l : List Oper) : Bool :=
  Region.noSelect l.toArray && (l.zipIdx.all fun (o, i) =>
    (o.after.all fun e => !Region.binds .any e || decide (e.on < i)) &&
    (l.zipIdx.all fun (u, j) => match u.dst with
      | none => true
      | some t => (decide (i = j) || o.dst != some t) && (!(o.looksAt l.toArray).contains t || (decide (j < i) && bindsTo o j) || (decide (i < j) && bindsTo u i) || decide (i = j))))

def upd (y : Tmp → Value) (d : Tmp) (x : Value) : Tmp → Value := fun t => if t = d then x else y t
/-- The frame in which the private temporaries hold what y says. -/
def fill (priv : List Tmp) (a : Act) (y : Tmp → Value) : Act := priv.foldl (fun a d => a.put (some d) (y d)) a

section
variable {P : Program}

/-- Operation i may come up next, where those of D have come up. -/
structure Due (l : List Oper) (D : Nat → Bool) (i : Nat) : Prop where
  not : D i = false
  pre : ∀ o j, l[i]? = some o → bindsTo o j = true → D j = true
  post : ∀ o k, l[k]? = some o → bindsTo o i = true → D k = false

/-- One operation, whose value the text's frame shows (F'), or whose value is private. -/
def ObOne (P : Program) (l : List Oper) (priv : List Tmp) (W : (Nat → Bool) → (Tmp → Value) → World → Prop) (i : Nat) (o : Oper) (F F' : (Tmp → Value) → Act) : Prop :=
  ((∀ D y w, W D y w → Due l D i → ∀ R : Exit → Act → World → Prop, (∀ w', W (fun k => k == i || D k) y w' → R .normal (F' y) w') → wpList P l.toArray R [o] (F y) w) ∧
    (∀ d, o.dst = some d → d ∉ priv) ∧ (∃ v, ∀ y, F' y = (F y).put o.dst v)) ∨
  (∃ d, o.dst = some d ∧ d ∈ priv ∧ F' = F ∧ (∀ D y w, W D y w → Due l D i → ∀ R : Exit → Act → World → Prop, (∀ x w', W (fun k => k == i || D k) (upd y d x) w' → R .normal (F (upd y d x)) w') → wpList P l.toArray R [o] (F y) w))

/-- What is owed for each operation, in the text's order. -/
def Obl (P : Program) (l : List Oper) (priv : List Tmp) (W : (Nat → Bool) → (Tmp → Value) → World → Prop) (Q : Exit → Act → World → Prop) : Nat → List Oper → ((Tmp → Value) → Act) → Prop
  | _, [], F => ∀ D y w, (∀ k, k < l.length → D k = true) → W D y w → Q .normal (F y) w
  | i, o :: rest, F => ∃ F', ObOne P l priv W i o F F' ∧ Obl P l priv W Q (i + 1) rest F'

theorem obl_frames {l : List Oper} {priv : List Tmp} {W : (Nat → Bool) → (Tmp → Value) → World → Prop} {Q : Exit → Act → World → Prop} : ∀ (rest : List Oper) (i : Nat) (F : (Tmp → Value) → Act), Obl P l priv W Q i rest F →
    ∃ A : Nat → (Tmp → Value) → Act, A i = F ∧ (∀ k o, rest[k]? = some o → ObOne P l priv W (i + k) o (A (i + k)) (A (i + k + 1))) ∧ (∀ D y w, (∀ k, k < l.length → D k = true) → W D y w → Q .normal (A (i + rest.length) y) w)
  | [], i, F, h => ⟨fun _ => F, rfl, by simp, h⟩
  | o :: rest, i, F, ⟨F', h1, h3⟩ => by
    obtain ⟨A, hA, hk, hq⟩ := obl_frames rest (i + 1) F' h3
    refine ⟨fun m => if m = i then F else A m, by simp, ?_, ?_⟩
    · intro k u hu
      cases k with
      | zero =>
        simp only [List.getElem?_cons_zero, Option.some.injEq] at hu
        subst hu
        simp only [Nat.add_zero, if_true]
        rw [if_neg (by omega), hA]
        exact h1
      | succ k =>
        have := hk k u (by simpa using hu)
        dsimp only
        rw [if_neg (by omega), if_neg (by omega)]
        rw [show i + (k + 1) = i + 1 + k from by omega]
        exact this
    · rw [List.length_cons]
      dsimp only
      rw [if_neg (by omega), show i + (rest.length + 1) = i + 1 + rest.length from by omega]
      exact hq

/-- One operation, carried out in a frame that reads as another frame does. -/
theorem op_put {ops : Array Oper} {o : Oper} {a b : Act} {w : World} {S : Act → World → Prop} (hsel : ∀ cs x, o.op ≠ .select cs x) (hdef : ∀ b' w', S b' w' → b'.defers = b.defers)
    (hx : ∀ x ∈ o.op.operands, a.eval x = b.eval x) (hg : Region.wanted o (yielded ops a.tmps) = Region.wanted o (yielded ops b.tmps))
    (h : wpList P ops (fun e a' w' => e = .normal ∧ S a' w') [o] b w) (K : Act → World → Prop) (Q : Exit → Act → World → Prop)
    (hK : ∀ v w', S (b.put o.dst v) w' → K (a.put o.dst v) w') :
    if Region.wanted o (yielded ops a.tmps) then o.wp P a w K Q ∨ (o.asks P a w ∧ LetsOut Q) else K (a.put o.dst undef) w := by
  simp only [wpList] at h
  rw [hg]
  by_cases hw : Region.wanted o (yielded ops b.tmps) = true
  · rw [if_pos hw] at h ⊢
    left
    rcases h with h | ⟨_, a1, w1, h, _⟩
    · unfold Oper.wp at h ⊢
      rw [execOp_congr o hsel (fun x hx' => hx x hx')]
      generalize (execOp b.eval o).run P w = r at h ⊢
      cases r with
      | halt x w1 =>
        cases x <;> simp only [Oper.upon] at h
        exact absurd h.1 (by simp)
      | ok n w1 =>
        cases n <;> simp only [Oper.upon] at h ⊢
        all_goals first
          | exact hK _ _ h.2
          | (exfalso; have h2 := hdef _ _ h.2; cases hd : o.dst <;> simp [Act.put, hd] at h2)
          | (refine Calls.mono h ?_
             rintro e w2 he
             cases e with
             | returned v => exact hK _ _ he.2
             | panicked c => exact absurd he.1 (by simp)
             | outgrown => obtain ⟨a2, w3, he, _⟩ := he; exact absurd he (by simp))
          | exact Rows.mono h (fun v w2 he => hK _ _ he.2)
    · exact absurd h (by simp)
  · rw [if_neg hw] at h ⊢
    exact hK _ _ h.2

theorem put_get (a : Act) (dst : Option Tmp) (v : Value) (t : Tmp) : (a.put dst v).tmps[t]? = if dst = some t ∧ t < a.tmps.size then some v else a.tmps[t]? := by
  cases dst with
  | none => simp [Act.put]
  | some d =>
    simp only [Act.put, Array.getElem?_setIfInBounds, Option.some.injEq]
    by_cases h : d = t
    · subst h
      by_cases h2 : d < a.tmps.size
      · simp [h2]
      · simp [h2]
    · simp [h]
theorem put_size (a : Act) (dst : Option Tmp) (v : Value) : (a.put dst v).tmps.size = a.tmps.size := by
  cases dst <;> simp [Act.put]
theorem put_defs (a : Act) (dst : Option Tmp) (v : Value) : (a.put dst v).defers = a.defers := by
  cases dst <;> rfl

theorem fill_size (priv : List Tmp) : ∀ (a : Act) (y : Tmp → Value), (fill priv a y).tmps.size = a.tmps.size ∧ (fill priv a y).defers = a.defers := by
  induction priv with
  | nil => intro a y; exact ⟨rfl, rfl⟩
  | cons d priv ih => intro a y; rw [show fill (d :: priv) a y = fill priv (a.put (some d) (y d)) y from rfl]; obtain ⟨h1, h2⟩ := ih (a.put (some d) (y d)) y; exact ⟨h1.trans (put_size _ _ _), h2.trans (put_defs _ _ _)⟩
theorem fill_get (priv : List Tmp) : ∀ (a : Act) (y : Tmp → Value) (t : Tmp), (fill priv a y).tmps[t]? = if t ∈ priv ∧ t < a.tmps.size then some (y t) else a.tmps[t]? := by
  induction priv with
  | nil => intro a y t; simp [fill]
  | cons d priv ih =>
    intro a y t
    rw [show fill (d :: priv) a y = fill priv (a.put (some d) (y d)) y from rfl, ih, put_get, put_size]
    by_cases h1 : t < a.tmps.size
    · by_cases h2 : t ∈ priv
      · simp [h1, h2]
      · by_cases h3 : d = t
        · subst h3; simp [h1]
        · have : ¬ t = d := fun e => h3 e.symm
          simp [h1, h2, h3, this]
    · simp [h1]

theorem regLex_edge {l : List Oper} (h : regLex l = true) {i : Nat} {o : Oper} (ho : l[i]? = some o) {j : Nat} (hb : bindsTo o j = true) : j < i := by
  unfold regLex at h
  have h2 := (Bool.and_eq_true_iff.1 h).2
  have := List.all_eq_true.1 h2 (o, i) (List.mk_mem_zipIdx_iff_getElem?.2 ho)
  have h3 := (Bool.and_eq_true_iff.1 this).1
  unfold bindsTo at hb
  rw [Array.any_eq_true'] at hb
  obtain ⟨e, he, hb⟩ := hb
  simp only [Bool.and_eq_true, beq_iff_eq] at hb
  have := Array.all_eq_true'.1 h3 e he
  simp only [hb.1, Bool.not_true, Bool.false_or, decide_eq_true_eq] at this
  omega
theorem regLex_rd {l : List Oper} (h : regLex l = true) {i j : Nat} {o u : Oper} (ho : l[i]? = some o) (hu : l[j]? = some u) {t : Tmp} (ht : u.dst = some t) :
    (i = j ∨ o.dst ≠ some t) ∧ (t ∈ o.looksAt l.toArray → (j < i ∧ bindsTo o j = true) ∨ (i < j ∧ bindsTo u i = true) ∨ i = j) := by
  unfold regLex at h
  have h2 := (Bool.and_eq_true_iff.1 h).2
  have := List.all_eq_true.1 h2 (o, i) (List.mk_mem_zipIdx_iff_getElem?.2 ho)
  have h3 := (Bool.and_eq_true_iff.1 this).2
  have h4 := List.all_eq_true.1 h3 (u, j) (List.mk_mem_zipIdx_iff_getElem?.2 hu)
  simp only [ht, Bool.and_eq_true, Bool.or_eq_true, decide_eq_true_eq, bne_iff_ne, ne_eq, Bool.not_eq_true', List.contains_iff_mem, ← Bool.not_eq_true] at h4
  refine ⟨h4.1, fun hm => ?_⟩
  rcases h4.2 with ((h5 | h5) | h5) | h5
  · exact absurd hm h5
  · exact .inl h5
  · exact .inr (.inl h5)
  · exact .inr (.inr h5)

def trues : List Bool → Nat
  | [] => 0
  | b :: l => (if b then 1 else 0) + trues l
theorem trues_set : ∀ (l : List Bool) (i : Nat), l[i]? = some false → trues (l.set i true) = trues l + 1
  | [], i, h => by simp at h
  | b :: l, 0, h => by simp at h; subst h; simp [trues]; omega
  | b :: l, i + 1, h => by simp only [List.set_cons_succ, trues]; rw [trues_set l i (by simpa using h)]; omega
theorem trues_le : ∀ l : List Bool, trues l ≤ l.length
  | [] => by simp [trues]
  | b :: l => by have := trues_le l; simp only [trues, List.length_cons]; split <;> omega
theorem trues_all : ∀ (l : List Bool), trues l = l.length → ∀ i, i < l.length → l[i]? = some true
  | [], _, i, h => by simp at h
  | b :: l, h, i, hi => by
    have := trues_le l
    simp only [trues, List.length_cons] at h
    cases b
    · simp at h; omega
    · cases i with
      | zero => rfl
      | succ i => simpa using trues_all l (by simp at h; omega) i (by simpa using hi)

/-- **A REGION THAT DRAWS ITS ORDER**: owed is each operation alone. -/
theorem wp_region_inv {id : Nat} {l : List Oper} {Q : Exit → Act → World → Prop} {a0 : Act} {w0 : World} (hm : P.follows .mixedOrders = true) (hlex : regLex l = true) (priv : List Tmp)
    (W : (Nat → Bool) → (Tmp → Value) → World → Prop) (hW0 : W (fun _ => false) (fun d => a0.tmps.getD d undef) w0.drew) (h : Obl P l priv W Q 0 l (fill priv a0)) :
    (Code.region id l.toArray true).wp P Q a0 w0 := by
  obtain ⟨A, hA0, hOb, hfin⟩ := obl_frames l 0 (fill priv a0) h
  simp only [Nat.zero_add] at hOb hfin
  let y0 : Tmp → Value := fun d => a0.tmps.getD d undef
  -- what each frame of the text is
  have step : ∀ i o, l[i]? = some o → ∀ y, (∃ v, A (i + 1) y = (A i y).put o.dst v ∧ (∀ d, o.dst = some d → d ∉ priv) ∧ ∀ y', A (i + 1) y' = (A i y').put o.dst v) ∨ (A (i + 1) = A i ∧ ∃ d, o.dst = some d ∧ d ∈ priv) := by
    intro i o ho y
    rcases hOb i o ho with ⟨_, hp, v, hv⟩ | ⟨d, hd, hp, he, _⟩
    · exact .inl ⟨v, hv y, hp, hv⟩
    · exact .inr ⟨he, d, hd, hp⟩
  have sizes : ∀ i, i ≤ l.length → ∀ y, (A i y).tmps.size = a0.tmps.size ∧ (A i y).defers = a0.defers := by
    intro i
    induction i with
    | zero => intro _ y; rw [hA0]; exact fill_size priv a0 y
    | succ i ih =>
      intro hi y
      have ⟨o, ho⟩ : ∃ o, l[i]? = some o := ⟨l[i], List.getElem?_eq_getElem (by omega)⟩
      rcases step i o ho y with ⟨v, hv, _, _⟩ | ⟨he, _⟩
      · rw [hv, put_size, put_defs]; exact ih (by omega) y
      · rw [he]; exact ih (by omega) y
  have fills : ∀ i, i ≤ l.length → ∀ y t, (A i y).tmps[t]? = if t ∈ priv ∧ t < a0.tmps.size then some (y t) else (A i y0).tmps[t]? := by
    intro i
    induction i with
    | zero =>
      intro _ y t
      rw [hA0, fill_get, fill_get]
      split <;> simp_all
    | succ i ih =>
      intro hi y t
      have ⟨o, ho⟩ : ∃ o, l[i]? = some o := ⟨l[i], List.getElem?_eq_getElem (by omega)⟩
      rcases step i o ho y with ⟨v, _, hp, hv⟩ | ⟨he, _⟩
      · rw [hv y, hv y0, put_get, put_get, (sizes i (by omega) y).1, (sizes i (by omega) y0).1, ih (by omega) y t]
        by_cases h1 : o.dst = some t
        · have := hp t h1
          simp [h1, this]
        · simp [h1]
      · rw [he]; exact ih (by omega) y t
  -- a temporary that is written by none of the operations between reads the same
  have keep : ∀ i k, i + k ≤ l.length → ∀ t, t ∉ priv → (∀ m o, i ≤ m → m < i + k → l[m]? = some o → o.dst ≠ some t) → (A (i + k) y0).tmps[t]? = (A i y0).tmps[t]? := by
    intro i k
    induction k with
    | zero => intro _ t _ _; rfl
    | succ k ih =>
      intro hi t hp hw
      have ⟨o, ho⟩ : ∃ o, l[i + k]? = some o := ⟨l[i + k], List.getElem?_eq_getElem (by omega)⟩
      rw [← ih (by omega) t hp (fun m o h1 h2 h3 => hw m o h1 (by omega) h3)]
      rcases step (i + k) o ho y0 with ⟨v, hv, _, _⟩ | ⟨he, _⟩
      · rw [show i + (k + 1) = i + k + 1 from rfl, hv, put_get, if_neg (fun h => hw (i + k) o (by omega) (by omega) ho h.1)]
      · rw [show i + (k + 1) = i + k + 1 from rfl, he]
  have keep' : ∀ i m, i ≤ m → m ≤ l.length → ∀ t, t ∉ priv → (∀ q o, i ≤ q → q < m → l[q]? = some o → o.dst ≠ some t) → (A m y0).tmps[t]? = (A i y0).tmps[t]? := by
    intro i m h1 h2 t hp hw
    have := keep i (m - i) (by omega) t hp (fun q o h3 h4 h5 => hw q o h3 (by omega) h5)
    rwa [show i + (m - i) = m from by omega] at this
  have only : ∀ (j q : Nat) (o u : Oper) (t : Tmp), l[j]? = some u → u.dst = some t → l[q]? = some o → q ≠ j → o.dst ≠ some t := by
    intro j q o u t hu ht ho hne
    exact (regLex_rd hlex ho hu ht).1.resolve_left hne
  let Inv : (Nat → Bool) → (Tmp → Value) → Act → Prop := fun D y a => a.defers = a0.defers ∧ a.tmps.size = a0.tmps.size ∧
    ∀ t, (t ∈ priv ∧ t < a0.tmps.size → a.tmps[t]? = some (y t)) ∧ (t ∉ priv → ((∃ j o, l[j]? = some o ∧ o.dst = some t ∧ D j = true) → a.tmps[t]? = (A l.length y0).tmps[t]?) ∧ ((¬ ∃ j o, l[j]? = some o ∧ o.dst = some t ∧ D j = true) → a.tmps[t]? = (A 0 y0).tmps[t]?))
  -- what an operation that is due reads
  have reads : ∀ D y a i o, Inv D y a → Due l D i → l[i]? = some o → ∀ t : Nat, t ∈ o.looksAt l.toArray → a.tmps[t]? = (A i y).tmps[t]? := by
    intro D y a i o hI hD ho t ht
    have hil : i < l.length := (List.getElem?_eq_some_iff.1 ho).1
    rw [fills i (by omega) y t]
    by_cases hp : t ∈ priv
    · by_cases hs : t < a0.tmps.size
      · rw [if_pos ⟨hp, hs⟩]; exact (hI.2.2 t).1 ⟨hp, hs⟩
      · rw [if_neg (fun h => hs h.2), Array.getElem?_eq_none (by rw [hI.2.1]; omega), Array.getElem?_eq_none (by rw [(sizes i (by omega) y0).1]; omega)]
    · rw [if_neg (fun h => hp h.1)]
      by_cases hw : ∃ j u, l[j]? = some u ∧ u.dst = some t ∧ D j = true
      · rw [((hI.2.2 t).2 hp).1 hw]
        obtain ⟨j, u, hu, hdt, hDj⟩ := hw
        have hjl : j < l.length := (List.getElem?_eq_some_iff.1 hu).1
        rcases (regLex_rd hlex ho hu hdt).2 ht with ⟨h1, _⟩ | ⟨_, h2⟩ | h1
        · rw [keep' i l.length (by omega) (Nat.le_refl _) t hp (fun q o' h3 h4 h5 => only j q o' u t hu hdt h5 (by omega))]
        · rw [hD.post u j hu h2] at hDj; cases hDj
        · rw [h1] at hD; rw [hD.not] at hDj; cases hDj
      · rw [((hI.2.2 t).2 hp).2 hw]
        exact (keep' 0 i (by omega) (by omega) t hp (fun q u _ h4 h5 hdt => hw ⟨q, u, h5, hdt, by
          rcases (regLex_rd hlex ho h5 hdt).2 ht with ⟨_, h2⟩ | ⟨h2, _⟩ | h2
          · exact hD.pre o q ho h2
          · omega
          · omega⟩)).symm
  have evals : ∀ D y a i o, Inv D y a → Due l D i → l[i]? = some o → (∀ x ∈ o.op.operands, a.eval x = (A i y).eval x) ∧ Region.wanted o (yielded l.toArray a.tmps) = Region.wanted o (yielded l.toArray (A i y).tmps) := by
    intro D y a i o hI hD ho
    refine ⟨fun x hx => ?_, ?_⟩
    · cases x with
      | tmp t =>
        have hr := reads D y a i o hI hD ho t (by
          unfold Oper.looksAt
          refine List.mem_append_left _ ?_
          rw [List.mem_filterMap]
          exact ⟨.tmp t, Array.mem_toList_iff.2 hx, rfl⟩)
        show a.tmps.getD t undef = (A i y).tmps.getD t undef
        rw [Array.getD_eq_getD_getElem?, Array.getD_eq_getD_getElem?, hr]
      | const v => rfl
      | global g => rfl
      | func f => rfl
    · unfold Region.wanted
      cases hg : o.guard with
      | none => rfl
      | some jb =>
        obtain ⟨j, b⟩ := jb
        simp only []
        have : yielded l.toArray a.tmps j = yielded l.toArray (A i y).tmps j := by
          unfold yielded
          cases hd : (l.toArray[j]?).bind (·.dst) with
          | none => rfl
          | some t =>
            have hr := reads D y a i o hI hD ho t (by
              unfold Oper.looksAt
              refine List.mem_append_right _ ?_
              rw [hg]
              simpa using hd)
            simp only [Option.bind_some, hr]
        rw [this]
  have final : ∀ D y a w, Inv D y a → (∀ k, k < l.length → D k = true) → W D y w → Q .normal a w := by
    intro D y a w hI hD hw
    have : a = A l.length y := by
      have h1 : a.tmps = (A l.length y).tmps := by
        apply Array.ext_getElem?
        intro t
        rw [fills l.length (Nat.le_refl _) y t]
        by_cases hp : t ∈ priv
        · by_cases hs : t < a0.tmps.size
          · rw [if_pos ⟨hp, hs⟩]; exact (hI.2.2 t).1 ⟨hp, hs⟩
          · rw [if_neg (fun h => hs h.2), Array.getElem?_eq_none (by rw [hI.2.1]; omega), Array.getElem?_eq_none (by rw [(sizes _ (Nat.le_refl _) y0).1]; omega)]
        · rw [if_neg (fun h => hp h.1)]
          by_cases hw : ∃ j u, l[j]? = some u ∧ u.dst = some t ∧ D j = true
          · exact ((hI.2.2 t).2 hp).1 hw
          · rw [((hI.2.2 t).2 hp).2 hw]
            exact (keep' 0 l.length (by omega) (Nat.le_refl _) t hp (fun q u _ h4 h5 hdt => hw ⟨q, u, h5, hdt, hD q h4⟩)).symm
      have h2 : a.defers = (A l.length y).defers := hI.1.trans (sizes _ (Nat.le_refl _) y).2.symm
      show (⟨a.tmps, a.defers⟩ : Act) = ⟨(A l.length y).tmps, (A l.length y).defers⟩
      rw [h1, h2]
    rw [this]
    exact hfin D y w hD hw
  -- the orders
  have run : ∀ fuel (listed : Array Bool) y a w, listed.size = l.length → (∀ k o j, l[k]? = some o → listed.getD k false = true → bindsTo o j = true → listed.getD j false = true) → trues listed.toList + fuel = l.length → Inv (fun k => listed.getD k false) y a → W (fun k => listed.getD k false) y w →
      wpAny P .any l.toArray Q fuel listed a w := by
    intro fuel
    induction fuel with
    | zero =>
      intro listed y a w hs hcl hc hI hw
      have hall : ∀ k, k < l.length → listed.getD k false = true := by
        intro k hk
        have := trues_all listed.toList (by simp [hs]; omega) k (by simpa [hs] using hk)
        rw [Array.getElem?_toList] at this
        rw [Array.getD_eq_getD_getElem?, this]; rfl
      refine ⟨?_, final _ _ _ _ hI hall hw⟩
      apply List.eq_nil_iff_forall_not_mem.2
      intro j hj
      obtain ⟨h1, o, ho, _⟩ := mem_ready.1 hj
      have hjl : j < l.length := by
        have := (Array.getElem?_eq_some_iff.1 ho).1
        simpa using this
      have := hall j hjl
      rw [Array.getD_eq_getD_getElem?, Array.getElem?_eq_getElem (by omega)] at this h1
      simp only [Option.getD_some] at this h1
      rw [this] at h1; cases h1
    | succ fuel ih =>
      intro listed y a w hs hcl hc hI hw
      constructor
      · intro hr
        exfalso
        have none : ∀ i, i < l.length → listed.getD i false = true := by
          intro i
          induction i using Nat.strongRecOn with
          | _ i ihi =>
            intro hi
            by_cases hb : listed.getD i false = true
            · exact hb
            · exfalso
              have : i ∈ Region.ready .any l.toArray listed := by
                rw [mem_ready]
                refine ⟨?_, l[i], by simp [hi], fun e he hbn => ihi e.on ?_ ?_⟩
                · rw [Array.getD_eq_getD_getElem?, Array.getElem?_eq_getElem (by omega)] at hb ⊢
                  simp only [Option.getD_some] at hb ⊢
                  simpa using hb
                · exact regLex_edge hlex (List.getElem?_eq_getElem hi) (j := e.on) (by unfold bindsTo; rw [Array.any_eq_true']; exact ⟨e, he, by simp [hbn]⟩)
                · have := regLex_edge hlex (List.getElem?_eq_getElem hi) (j := e.on) (by unfold bindsTo; rw [Array.any_eq_true']; exact ⟨e, he, by simp [hbn]⟩)
                  omega
              rw [hr] at this; cases this
        have : trues listed.toList = l.length := by
          have h2 : ∀ (L : List Bool), (∀ i, i < L.length → L[i]? = some true) → trues L = L.length := by
            intro L
            induction L with
            | nil => intro _; rfl
            | cons b L ih => intro h; have h0 := h 0 (by simp); simp at h0; subst h0; simp only [trues, List.length_cons, if_true]; rw [ih (fun i hi => by simpa using h (i + 1) (by simpa using hi))]; omega
          rw [h2 listed.toList (fun i hi => ?_)]
          · simp [hs]
          · have hi' : i < listed.size := by simpa using hi
            have := none i (by omega)
            rw [Array.getD_eq_getD_getElem?, Array.getElem?_eq_getElem hi'] at this
            rw [Array.getElem?_toList, Array.getElem?_eq_getElem hi']
            simpa using this
        omega
      · intro i hi
        obtain ⟨h1, o, ho, hpre⟩ := mem_ready.1 hi
        have hil : i < l.length := by
          have := (Array.getElem?_eq_some_iff.1 ho).1
          simpa using this
        have ho' : l[i]? = some o := by simpa using ho
        have hnot : listed.getD i false = false := by
          rw [Array.getD_eq_getD_getElem?, Array.getElem?_eq_getElem (by omega)] at h1 ⊢
          simpa using h1
        have hpre' : ∀ j, bindsTo o j = true → listed.getD j false = true := by
          intro j hb
          unfold bindsTo at hb
          rw [Array.any_eq_true'] at hb
          obtain ⟨e, he, hb⟩ := hb
          simp only [Bool.and_eq_true, beq_iff_eq] at hb
          have := hpre e he hb.1
          rwa [hb.2] at this
        have hD : Due l (fun k => listed.getD k false) i := by
          refine ⟨hnot, fun o' j ho2 hb => ?_, fun o' k hk hb => ?_⟩
          · rw [ho'] at ho2; cases ho2; exact hpre' j hb
          · cases hv : listed.getD k false with
            | false => rfl
            | true => have := hcl k o' i hk hv hb; rw [hnot] at this; cases this
        obtain ⟨hev, hwt⟩ := evals _ y a i o hI hD ho'
        have hset : (fun k => (listed.setIfInBounds i true).getD k false) = fun k => k == i || listed.getD k false := by
          funext k
          by_cases hk : k = i
          · subst hk
            simp [hs, hil]
          · rw [getD_set_ne false (Ne.symm hk)]
            have : (k == i) = false := by simpa using hk
            rw [this]; rfl
        have next : ∀ y' a' w', Inv (fun k => k == i || listed.getD k false) y' a' → W (fun k => k == i || listed.getD k false) y' w' → wpAny P .any l.toArray Q fuel (listed.setIfInBounds i true) a' w' := by
          intro y' a' w' hI' hw'
          refine ih _ y' a' w' (by simp [hs]) ?_ ?_ (by rw [hset]; exact hI') (by rw [hset]; exact hw')
          · intro k u j hu hk hb
            by_cases hki : k = i
            · subst hki
              rw [ho'] at hu; cases hu
              exact getD_set_true (hpre' j hb)
            · rw [getD_set_ne false (Ne.symm hki)] at hk
              exact getD_set_true (hcl k u j hu hk hb)
          · rw [Array.toList_setIfInBounds, trues_set _ _ (by
              rw [Array.getElem?_toList, Array.getElem?_eq_getElem (by omega)]
              rw [Array.getD_eq_getD_getElem?, Array.getElem?_eq_getElem (by omega)] at hnot
              simpa using hnot)]
            omega
        unfold wpOp
        rw [ho]
        simp only []
        rcases hOb i o ho' with ⟨hrun, hnp, v0, hv0⟩ | ⟨d, hd, hdp, he, hrun⟩
        · refine op_put (b := A i y) (S := fun a' w' => a' = A (i + 1) y ∧ W (fun k => k == i || listed.getD k false) y w') (Region.noSelect_spec (ops := l.toArray) (by unfold regLex at hlex; exact (Bool.and_eq_true_iff.1 hlex).1) i o · · ho) ?_ hev hwt
            (hrun _ y w hw hD _ fun w' hw' => ⟨rfl, rfl, hw'⟩) _ _ ?_
          · rintro b' w' ⟨rfl, _⟩
            rw [(sizes (i + 1) (by omega) y).2, (sizes i (by omega) y).2]
          · rintro v w' ⟨hb, hw'⟩
            refine next y _ w' ⟨(put_defs _ _ _).trans hI.1, (put_size _ _ _).trans hI.2.1, fun (t : Nat) => ⟨fun ht => ?_, fun ht => ⟨fun hx => ?_, fun hx => ?_⟩⟩⟩ hw'
            · rw [put_get, if_neg (fun h => hnp t h.1 ht.1)]; exact (hI.2.2 t).1 ht
            · rw [put_get]
              by_cases hdt : o.dst = some t
              · have e1 : (A l.length y0).tmps[t]? = (A (i + 1) y0).tmps[t]? := keep' (i + 1) l.length (by omega) (Nat.le_refl _) t ht (fun q o' h3 h4 h5 => only i q o' o t ho' hdt h5 (by omega))
                have e2 : (A (i + 1) y).tmps[t]? = (A (i + 1) y0).tmps[t]? := by rw [fills (i + 1) (by omega) y t, if_neg (fun h => ht h.1)]
                rw [e1, ← e2, ← hb, put_get, (sizes i (by omega) y).1, hI.2.1]
                by_cases hts : t < a0.tmps.size
                · rw [if_pos ⟨hdt, hts⟩, if_pos ⟨hdt, hts⟩]
                · rw [if_neg (fun h => hts h.2), if_neg (fun h => hts h.2), Array.getElem?_eq_none (by rw [hI.2.1]; omega), Array.getElem?_eq_none (by rw [(sizes i (by omega) y).1]; omega)]
              · rw [if_neg (fun h => hdt h.1)]
                refine ((hI.2.2 t).2 ht).1 ?_
                obtain ⟨j, u, hu, hut, hDj⟩ := hx
                refine ⟨j, u, hu, hut, ?_⟩
                by_cases hji : j = i
                · subst hji; rw [ho'] at hu; cases hu; exact absurd hut hdt
                · have : (j == i) = false := by simpa using hji
                  simpa [this] using hDj
            · rw [put_get]
              by_cases hdt : o.dst = some t
              · exact absurd ⟨i, o, ho', hdt, by simp⟩ hx
              · rw [if_neg (fun h => hdt h.1)]
                refine ((hI.2.2 t).2 ht).2 ?_
                rintro ⟨j, u, hu, hut, hDj⟩
                exact hx ⟨j, u, hu, hut, by simp only at hDj ⊢; rw [hDj, Bool.or_true]⟩
        · refine op_put (b := A i y) (S := fun a' w' => ∃ x, a' = A i (upd y d x) ∧ W (fun k => k == i || listed.getD k false) (upd y d x) w') (Region.noSelect_spec (ops := l.toArray) (by unfold regLex at hlex; exact (Bool.and_eq_true_iff.1 hlex).1) i o · · ho) ?_ hev hwt
            (hrun _ y w hw hD _ fun x w' hw' => ⟨rfl, x, rfl, hw'⟩) _ _ ?_
          · rintro b' w' ⟨x, rfl, _⟩
            rw [(sizes i (by omega) _).2, (sizes i (by omega) y).2]
          · rintro v w' ⟨x, hb, hw'⟩
            refine next (upd y d x) _ w' ⟨(put_defs _ _ _).trans hI.1, (put_size _ _ _).trans hI.2.1, fun (t : Nat) => ⟨fun ht => ?_, fun ht => ⟨fun hx => ?_, fun hx => ?_⟩⟩⟩ hw'
            · rw [put_get, hI.2.1]
              by_cases hdt : d = t
              · subst hdt
                have e1 := fills i (by omega) (upd y d x) d
                rw [← hb, if_pos ht, put_get, (sizes i (by omega) y).1, if_pos ⟨hd, ht.2⟩] at e1
                rw [if_pos ⟨hd, ht.2⟩, e1]
              · rw [if_neg (fun h => hdt (by rw [hd] at h; exact Option.some.inj h.1)), (hI.2.2 t).1 ht]
                unfold upd
                rw [if_neg (fun h => hdt h.symm)]
            · have hdt : ¬ o.dst = some t := fun h => ht (by rw [hd] at h; cases h; exact hdp)
              rw [put_get, if_neg (fun h => hdt h.1)]
              refine ((hI.2.2 t).2 ht).1 ?_
              obtain ⟨j, u, hu, hut, hDj⟩ := hx
              refine ⟨j, u, hu, hut, ?_⟩
              by_cases hji : j = i
              · subst hji; rw [ho'] at hu; cases hu; exact absurd hut hdt
              · have : (j == i) = false := by simpa using hji
                simpa [this] using hDj
            · have hdt : ¬ o.dst = some t := fun h => ht (by rw [hd] at h; cases h; exact hdp)
              rw [put_get, if_neg (fun h => hdt h.1)]
              refine ((hI.2.2 t).2 ht).2 ?_
              rintro ⟨j, u, hu, hut, hDj⟩
              exact hx ⟨j, u, hu, hut, by simp only at hDj ⊢; rw [hDj, Bool.or_true]⟩
  refine wp_region_any hm (run _ _ y0 _ _ (by simp) ?_ ?_ ?_ ?_)
  · intro k o j _ hk
    simp [Array.getElem?_replicate] at hk
    split at hk <;> simp at hk
  · have : ∀ n, trues (List.replicate n false) = 0 := by
      intro n
      induction n with
      | zero => rfl
      | succ n ih => rw [List.replicate_succ, trues, ih]; rfl
    rw [Array.toList_replicate, this]; simp
  · have hf : (fun k => (Array.replicate l.toArray.size false).getD k false) = fun _ => false := by
      funext k
      simp [Array.getElem?_replicate]
      split <;> rfl
    rw [hf]
    refine ⟨rfl, rfl, fun (t : Nat) => ⟨fun ht => ?_, fun ht => ⟨fun hx => ?_, fun _ => ?_⟩⟩⟩
    · show a0.tmps[t]? = some (a0.tmps.getD t undef)
      rw [Array.getD_eq_getD_getElem?, Array.getElem?_eq_getElem ht.2]; rfl
    · obtain ⟨_, _, _, _, h⟩ := hx; cases h
    · rw [hA0, fill_get, if_neg (fun h => ht h.1)]
  · have hf : (fun k => (Array.replicate l.toArray.size false).getD k false) = fun _ => false := by
      funext k
      simp [Array.getElem?_replicate]
      split <;> rfl
    rw [hf]
    exact hW0

/-- The next operation's value is the same in every world and order. -/
theorem obl_det {l : List Oper} {priv : List Tmp} {W : (Nat → Bool) → (Tmp → Value) → World → Prop} {Q : Exit → Act → World → Prop} {i : Nat} {o : Oper} {rest : List Oper} {F F' : (Tmp → Value) → Act}
    (hrun : ∀ D y w, W D y w → Due l D i → ∀ R : Exit → Act → World → Prop, (∀ w', W (fun k => k == i || D k) y w' → R .normal (F' y) w') → wpList P l.toArray R [o] (F y) w)
    (hnp : (match o.dst with | some d => !priv.contains d | none => true) = true) (hv : ∃ v, ∀ y, F' y = (F y).put o.dst v) (h : Obl P l priv W Q (i + 1) rest F') : Obl P l priv W Q i (o :: rest) F :=
  ⟨F', .inl ⟨hrun, fun d hd => by rw [hd] at hnp; simpa using hnp, hv⟩, h⟩
/-- The next operation's value is private. -/
theorem obl_priv {l : List Oper} {priv : List Tmp} {W : (Nat → Bool) → (Tmp → Value) → World → Prop} {Q : Exit → Act → World → Prop} {i : Nat} {o : Oper} {rest : List Oper} {F : (Tmp → Value) → Act} (d : Tmp)
    (hd : o.dst = some d) (hp : priv.contains d = true)
    (hrun : ∀ D y w, W D y w → Due l D i → ∀ R : Exit → Act → World → Prop, (∀ x w', W (fun k => k == i || D k) (upd y d x) w' → R .normal (F (upd y d x)) w') → wpList P l.toArray R [o] (F y) w)
    (h : Obl P l priv W Q (i + 1) rest F) : Obl P l priv W Q i (o :: rest) F :=
  ⟨F, .inr ⟨d, hd, by simpa using hp, rfl, hrun⟩, h⟩
theorem obl_nil {l : List Oper} {priv : List Tmp} {W : (Nat → Bool) → (Tmp → Value) → World → Prop} {Q : Exit → Act → World → Prop} {i : Nat} {F : (Tmp → Value) → Act}
    (h : ∀ D y w, (∀ k, k < l.length → D k = true) → W D y w → Q .normal (F y) w) : Obl P l priv W Q i [] F := h
/-- The region, the private temporaries shown in a frame that is written out. -/
theorem wp_region_inv1 {id : Nat} {l : List Oper} {Q : Exit → Act → World → Prop} {a0 : Act} {w0 : World} (hm : P.follows .mixedOrders = true) (hlex : regLex l = true) (priv : List Tmp)
    (W : (Nat → Bool) → (Tmp → Value) → World → Prop) (hW0 : W (fun _ => false) (fun d => a0.tmps.getD d undef) w0.drew) (F : (Tmp → Value) → Act) (hF : ∀ y, fill priv a0 y = F y)
    (h : Obl P l priv W Q 0 l F) : (Code.region id l.toArray true).wp P Q a0 w0 :=
  wp_region_inv hm hlex priv W hW0 (by rw [show fill priv a0 = F from funext hF]; exact h)
/-- Of the world only this is kept. -/
theorem wp_world {c : Code} {Q : Exit → Act → World → Prop} {a : Act} {w : World} (S : World → Prop) (h : S w) (k : ∀ w', S w' → c.wp P Q a w') : c.wp P Q a w := k w h
/-- The region, no temporary private. -/
theorem wp_region_inv0 {id : Nat} {l : List Oper} {Q : Exit → Act → World → Prop} {a0 : Act} {w0 : World} (hm : P.follows .mixedOrders = true) (hlex : regLex l = true)
    (W : (Nat → Bool) → World → Prop) (hW0 : W (fun _ => false) w0.drew) (h : Obl P l [] (fun D _ w => W D w) Q 0 l (fun _ => a0)) :
    (Code.region id l.toArray true).wp P Q a0 w0 :=
  wp_region_inv hm hlex [] (fun D _ w => W D w) hW0 h
end
end Go.Proofs.Ytaigbhhmmdfdcaa
/- The law for regions that draw their order, in a fence (for the body of a range over a function). -/
namespace Go.Proofs.Ytaigbhhmmdfdcaa
open Go.RowKit
section
variable {P : Program} {Fe : Fence} {n : Nat}
/-- One operation, whose value the text's frame shows (F'), or whose value is private. -/
def ObOneIn (Fe : Fence) (n : Nat) (P : Program) (l : List Oper) (priv : List Tmp) (W : (Nat → Bool) → (Tmp → Value) → World → Prop) (i : Nat) (o : Oper) (F F' : (Tmp → Value) → Act) : Prop :=
  ((∀ D y w, W D y w → Due l D i → ∀ R : Exit → Act → World → Prop, (∀ w', W (fun k => k == i || D k) y w' → R .normal (F' y) w') → wpListIn Fe n P l.toArray R [o] (F y) w) ∧
    (∀ d, o.dst = some d → d ∉ priv) ∧ (∃ v, ∀ y, F' y = (F y).put o.dst v)) ∨
  (∃ d, o.dst = some d ∧ d ∈ priv ∧ F' = F ∧ (∀ D y w, W D y w → Due l D i → ∀ R : Exit → Act → World → Prop, (∀ x w', W (fun k => k == i || D k) (upd y d x) w' → R .normal (F (upd y d x)) w') → wpListIn Fe n P l.toArray R [o] (F y) w))

/-- What is owed for each operation, in the text's order. -/
def OblIn (Fe : Fence) (n : Nat) (P : Program) (l : List Oper) (priv : List Tmp) (W : (Nat → Bool) → (Tmp → Value) → World → Prop) (Q : Exit → Act → World → Prop) : Nat → List Oper → ((Tmp → Value) → Act) → Prop
  | _, [], F => ∀ D y w, (∀ k, k < l.length → D k = true) → W D y w → Q .normal (F y) w
  | i, o :: rest, F => ∃ F', ObOneIn Fe n P l priv W i o F F' ∧ OblIn Fe n P l priv W Q (i + 1) rest F'

theorem obl_framesIn {l : List Oper} {priv : List Tmp} {W : (Nat → Bool) → (Tmp → Value) → World → Prop} {Q : Exit → Act → World → Prop} : ∀ (rest : List Oper) (i : Nat) (F : (Tmp → Value) → Act), OblIn Fe n P l priv W Q i rest F →
    ∃ A : Nat → (Tmp → Value) → Act, A i = F ∧ (∀ k o, rest[k]? = some o → ObOneIn Fe n P l priv W (i + k) o (A (i + k)) (A (i + k + 1))) ∧ (∀ D y w, (∀ k, k < l.length → D k = true) → W D y w → Q .normal (A (i + rest.length) y) w)
  | [], i, F, h => ⟨fun _ => F, rfl, by simp, h⟩
  | o :: rest, i, F, ⟨F', h1, h3⟩ => by
    obtain ⟨A, hA, hk, hq⟩ := obl_framesIn rest (i + 1) F' h3
    refine ⟨fun m => if m = i then F else A m, by simp, ?_, ?_⟩
    · intro k u hu
      cases k with
      | zero =>
        simp only [List.getElem?_cons_zero, Option.some.injEq] at hu
        subst hu
        simp only [Nat.add_zero, if_true]
        rw [if_neg (by omega), hA]
        exact h1
      | succ k =>
        have := hk k u (by simpa using hu)
        dsimp only
        rw [if_neg (by omega), if_neg (by omega)]
        rw [show i + (k + 1) = i + 1 + k from by omega]
        exact this
    · rw [List.length_cons]
      dsimp only
      rw [if_neg (by omega), show i + (rest.length + 1) = i + 1 + rest.length from by omega]
      exact hq

theorem semAt_congr {ρ ρ' : Operand → Value} (ro : Option Nat) (o : Oper) (hs : ∀ cs b, o.op ≠ .select cs b) (h : ∀ x ∈ o.op.operands, ρ x = ρ' x) : Oper.semAt ro ρ o = Oper.semAt ro ρ' o := by
  unfold Oper.semAt
  cases ro with
  | none => exact execOp_congr o hs h
  | some l =>
    cases ho : o.op with
    | defer c =>
      simp only []
      rw [resolve_congr (ρ := ρ) (ρ' := ρ') c o.type (fun x hx => h x (by rw [ho]; simpa [Op.operands] using hx))]
    | _ => exact execOp_congr o hs h

/-- One operation, carried out in a frame that reads as another frame does. -/
theorem op_putIn {ops : Array Oper} {o : Oper} {a b : Act} {w : World} {S : Act → World → Prop} (hsel : ∀ cs x, o.op ≠ .select cs x) (hdef : ∀ b' w', S b' w' → b'.defers = b.defers)
    (hx : ∀ x ∈ o.op.operands, a.eval x = b.eval x) (hg : Region.wanted o (yielded ops a.tmps) = Region.wanted o (yielded ops b.tmps))
    (h : wpListIn Fe n P ops (fun e a' w' => e = .normal ∧ S a' w') [o] b w) (K : Act → World → Prop) (Q : Exit → Act → World → Prop)
    (hK : ∀ v w', S (b.put o.dst v) w' → K (a.put o.dst v) w') :
    if Region.wanted o (yielded ops a.tmps) then o.wpIn Fe n P a w K Q else (∀ f, o.about P w a.eval = some f → Fe.fn f) ∧ K (a.put o.dst undef) w := by
  simp only [wpListIn] at h
  rw [hg]
  by_cases hw : Region.wanted o (yielded ops b.tmps) = true
  · rw [if_pos hw] at h ⊢
    unfold Oper.wpIn at h ⊢
    rw [semAt_congr Fe.round o hsel (fun x hx' => hx x hx'), about_congr o w (fun x hx' => hx x hx')]
    refine ⟨h.1, ?_⟩
    have h := h.2
    generalize (o.semAt Fe.round b.eval).run P w = r at h ⊢
    cases r with
    | halt x w1 =>
      cases x <;> simp only [Oper.uponIn] at h
      exact absurd h.1 (by simp)
    | ok m w1 =>
      cases m <;> simp only [Oper.uponIn] at h ⊢
      all_goals first
        | exact hK _ _ h.2
        | (exfalso; have h2 := hdef _ _ h.2; cases hd : o.dst <;> simp [Act.put, hd] at h2)
        | (refine ⟨h.1, CallsIn.mono h.2 ?_⟩
           rintro e w2 he
           cases e with
           | returned v => exact hK _ _ he.2
           | panicked c => exact absurd he.1 (by simp)
           | outgrown => obtain ⟨a2, w3, he, _⟩ := he; exact absurd he (by simp))
        | (refine ⟨h.1, RoundIn.mono h.2 ?_⟩
           rintro e w2 he
           cases e with
           | returned v => exact hK _ _ he.2
           | panicked c => exact absurd he.1 (by simp)
           | outgrown => obtain ⟨a2, w3, he, _⟩ := he; exact absurd he (by simp))
        | exact ⟨h.1, RowsIn.mono h.2 (fun v w2 he => hK _ _ he.2)⟩
  · rw [if_neg hw] at h ⊢
    refine ⟨?_, hK _ _ h.2.2⟩
    rw [about_congr o w (fun x hx' => hx x hx')]
    exact h.1

/-- **A REGION THAT DRAWS ITS ORDER**: owed is each operation alone. -/
theorem wpIn_region_inv {id : Nat} {l : List Oper} {Q : Exit → Act → World → Prop} {a0 : Act} {w0 : World} (hm : P.follows .mixedOrders = true) (hlex : regLex l = true) (priv : List Tmp)
    (W : (Nat → Bool) → (Tmp → Value) → World → Prop) (hW0 : W (fun _ => false) (fun d => a0.tmps.getD d undef) w0.drew) (h : OblIn Fe n P l priv W Q 0 l (fill priv a0)) :
    (Code.region id l.toArray true).wpIn Fe n P Q a0 w0 := by
  obtain ⟨A, hA0, hOb, hfin⟩ := obl_framesIn l 0 (fill priv a0) h
  simp only [Nat.zero_add] at hOb hfin
  let y0 : Tmp → Value := fun d => a0.tmps.getD d undef
  -- what each frame of the text is
  have step : ∀ i o, l[i]? = some o → ∀ y, (∃ v, A (i + 1) y = (A i y).put o.dst v ∧ (∀ d, o.dst = some d → d ∉ priv) ∧ ∀ y', A (i + 1) y' = (A i y').put o.dst v) ∨ (A (i + 1) = A i ∧ ∃ d, o.dst = some d ∧ d ∈ priv) := by
    intro i o ho y
    rcases hOb i o ho with ⟨_, hp, v, hv⟩ | ⟨d, hd, hp, he, _⟩
    · exact .inl ⟨v, hv y, hp, hv⟩
    · exact .inr ⟨he, d, hd, hp⟩
  have sizes : ∀ i, i ≤ l.length → ∀ y, (A i y).tmps.size = a0.tmps.size ∧ (A i y).defers = a0.defers := by
    intro i
    induction i with
    | zero => intro _ y; rw [hA0]; exact fill_size priv a0 y
    | succ i ih =>
      intro hi y
      have ⟨o, ho⟩ : ∃ o, l[i]? = some o := ⟨l[i], List.getElem?_eq_getElem (by omega)⟩
      rcases step i o ho y with ⟨v, hv, _, _⟩ | ⟨he, _⟩
      · rw [hv, put_size, put_defs]; exact ih (by omega) y
      · rw [he]; exact ih (by omega) y
  have fills : ∀ i, i ≤ l.length → ∀ y t, (A i y).tmps[t]? = if t ∈ priv ∧ t < a0.tmps.size then some (y t) else (A i y0).tmps[t]? := by
    intro i
    induction i with
    | zero =>
      intro _ y t
      rw [hA0, fill_get, fill_get]
      split <;> simp_all
    | succ i ih =>
      intro hi y t
      have ⟨o, ho⟩ : ∃ o, l[i]? = some o := ⟨l[i], List.getElem?_eq_getElem (by omega)⟩
      rcases step i o ho y with ⟨v, _, hp, hv⟩ | ⟨he, _⟩
      · rw [hv y, hv y0, put_get, put_get, (sizes i (by omega) y).1, (sizes i (by omega) y0).1, ih (by omega) y t]
        by_cases h1 : o.dst = some t
        · have := hp t h1
          simp [h1, this]
        · simp [h1]
      · rw [he]; exact ih (by omega) y t
  -- a temporary that is written by none of the operations between reads the same
  have keep : ∀ i k, i + k ≤ l.length → ∀ t, t ∉ priv → (∀ m o, i ≤ m → m < i + k → l[m]? = some o → o.dst ≠ some t) → (A (i + k) y0).tmps[t]? = (A i y0).tmps[t]? := by
    intro i k
    induction k with
    | zero => intro _ t _ _; rfl
    | succ k ih =>
      intro hi t hp hw
      have ⟨o, ho⟩ : ∃ o, l[i + k]? = some o := ⟨l[i + k], List.getElem?_eq_getElem (by omega)⟩
      rw [← ih (by omega) t hp (fun m o h1 h2 h3 => hw m o h1 (by omega) h3)]
      rcases step (i + k) o ho y0 with ⟨v, hv, _, _⟩ | ⟨he, _⟩
      · rw [show i + (k + 1) = i + k + 1 from rfl, hv, put_get, if_neg (fun h => hw (i + k) o (by omega) (by omega) ho h.1)]
      · rw [show i + (k + 1) = i + k + 1 from rfl, he]
  have keep' : ∀ i m, i ≤ m → m ≤ l.length → ∀ t, t ∉ priv → (∀ q o, i ≤ q → q < m → l[q]? = some o → o.dst ≠ some t) → (A m y0).tmps[t]? = (A i y0).tmps[t]? := by
    intro i m h1 h2 t hp hw
    have := keep i (m - i) (by omega) t hp (fun q o h3 h4 h5 => hw q o h3 (by omega) h5)
    rwa [show i + (m - i) = m from by omega] at this
  have only : ∀ (j q : Nat) (o u : Oper) (t : Tmp), l[j]? = some u → u.dst = some t → l[q]? = some o → q ≠ j → o.dst ≠ some t := by
    intro j q o u t hu ht ho hne
    exact (regLex_rd hlex ho hu ht).1.resolve_left hne
  let Inv : (Nat → Bool) → (Tmp → Value) → Act → Prop := fun D y a => a.defers = a0.defers ∧ a.tmps.size = a0.tmps.size ∧
    ∀ t, (t ∈ priv ∧ t < a0.tmps.size → a.tmps[t]? = some (y t)) ∧ (t ∉ priv → ((∃ j o, l[j]? = some o ∧ o.dst = some t ∧ D j = true) → a.tmps[t]? = (A l.length y0).tmps[t]?) ∧ ((¬ ∃ j o, l[j]? = some o ∧ o.dst = some t ∧ D j = true) → a.tmps[t]? = (A 0 y0).tmps[t]?))
  -- what an operation that is due reads
  have reads : ∀ D y a i o, Inv D y a → Due l D i → l[i]? = some o → ∀ t : Nat, t ∈ o.looksAt l.toArray → a.tmps[t]? = (A i y).tmps[t]? := by
    intro D y a i o hI hD ho t ht
    have hil : i < l.length := (List.getElem?_eq_some_iff.1 ho).1
    rw [fills i (by omega) y t]
    by_cases hp : t ∈ priv
    · by_cases hs : t < a0.tmps.size
      · rw [if_pos ⟨hp, hs⟩]; exact (hI.2.2 t).1 ⟨hp, hs⟩
      · rw [if_neg (fun h => hs h.2), Array.getElem?_eq_none (by rw [hI.2.1]; omega), Array.getElem?_eq_none (by rw [(sizes i (by omega) y0).1]; omega)]
    · rw [if_neg (fun h => hp h.1)]
      by_cases hw : ∃ j u, l[j]? = some u ∧ u.dst = some t ∧ D j = true
      · rw [((hI.2.2 t).2 hp).1 hw]
        obtain ⟨j, u, hu, hdt, hDj⟩ := hw
        have hjl : j < l.length := (List.getElem?_eq_some_iff.1 hu).1
        rcases (regLex_rd hlex ho hu hdt).2 ht with ⟨h1, _⟩ | ⟨_, h2⟩ | h1
        · rw [keep' i l.length (by omega) (Nat.le_refl _) t hp (fun q o' h3 h4 h5 => only j q o' u t hu hdt h5 (by omega))]
        · rw [hD.post u j hu h2] at hDj; cases hDj
        · rw [h1] at hD; rw [hD.not] at hDj; cases hDj
      · rw [((hI.2.2 t).2 hp).2 hw]
        exact (keep' 0 i (by omega) (by omega) t hp (fun q u _ h4 h5 hdt => hw ⟨q, u, h5, hdt, by
          rcases (regLex_rd hlex ho h5 hdt).2 ht with ⟨_, h2⟩ | ⟨h2, _⟩ | h2
          · exact hD.pre o q ho h2
          · omega
          · omega⟩)).symm
  have evals : ∀ D y a i o, Inv D y a → Due l D i → l[i]? = some o → (∀ x ∈ o.op.operands, a.eval x = (A i y).eval x) ∧ Region.wanted o (yielded l.toArray a.tmps) = Region.wanted o (yielded l.toArray (A i y).tmps) := by
    intro D y a i o hI hD ho
    refine ⟨fun x hx => ?_, ?_⟩
    · cases x with
      | tmp t =>
        have hr := reads D y a i o hI hD ho t (by
          unfold Oper.looksAt
          refine List.mem_append_left _ ?_
          rw [List.mem_filterMap]
          exact ⟨.tmp t, Array.mem_toList_iff.2 hx, rfl⟩)
        show a.tmps.getD t undef = (A i y).tmps.getD t undef
        rw [Array.getD_eq_getD_getElem?, Array.getD_eq_getD_getElem?, hr]
      | const v => rfl
      | global g => rfl
      | func f => rfl
    · unfold Region.wanted
      cases hg : o.guard with
      | none => rfl
      | some jb =>
        obtain ⟨j, b⟩ := jb
        simp only []
        have : yielded l.toArray a.tmps j = yielded l.toArray (A i y).tmps j := by
          unfold yielded
          cases hd : (l.toArray[j]?).bind (·.dst) with
          | none => rfl
          | some t =>
            have hr := reads D y a i o hI hD ho t (by
              unfold Oper.looksAt
              refine List.mem_append_right _ ?_
              rw [hg]
              simpa using hd)
            simp only [Option.bind_some, hr]
        rw [this]
  have final : ∀ D y a w, Inv D y a → (∀ k, k < l.length → D k = true) → W D y w → Q .normal a w := by
    intro D y a w hI hD hw
    have : a = A l.length y := by
      have h1 : a.tmps = (A l.length y).tmps := by
        apply Array.ext_getElem?
        intro t
        rw [fills l.length (Nat.le_refl _) y t]
        by_cases hp : t ∈ priv
        · by_cases hs : t < a0.tmps.size
          · rw [if_pos ⟨hp, hs⟩]; exact (hI.2.2 t).1 ⟨hp, hs⟩
          · rw [if_neg (fun h => hs h.2), Array.getElem?_eq_none (by rw [hI.2.1]; omega), Array.getElem?_eq_none (by rw [(sizes _ (Nat.le_refl _) y0).1]; omega)]
        · rw [if_neg (fun h => hp h.1)]
          by_cases hw : ∃ j u, l[j]? = some u ∧ u.dst = some t ∧ D j = true
          · exact ((hI.2.2 t).2 hp).1 hw
          · rw [((hI.2.2 t).2 hp).2 hw]
            exact (keep' 0 l.length (by omega) (Nat.le_refl _) t hp (fun q u _ h4 h5 hdt => hw ⟨q, u, h5, hdt, hD q h4⟩)).symm
      have h2 : a.defers = (A l.length y).defers := hI.1.trans (sizes _ (Nat.le_refl _) y).2.symm
      show (⟨a.tmps, a.defers⟩ : Act) = ⟨(A l.length y).tmps, (A l.length y).defers⟩
      rw [h1, h2]
    rw [this]
    exact hfin D y w hD hw
  -- the orders
  have run : ∀ fuel (listed : Array Bool) y a w, listed.size = l.length → (∀ k o j, l[k]? = some o → listed.getD k false = true → bindsTo o j = true → listed.getD j false = true) → trues listed.toList + fuel = l.length → Inv (fun k => listed.getD k false) y a → W (fun k => listed.getD k false) y w →
      wpAnyIn Fe n P .any l.toArray Q fuel listed a w := by
    intro fuel
    induction fuel with
    | zero =>
      intro listed y a w hs hcl hc hI hw
      have hall : ∀ k, k < l.length → listed.getD k false = true := by
        intro k hk
        have := trues_all listed.toList (by simp [hs]; omega) k (by simpa [hs] using hk)
        rw [Array.getElem?_toList] at this
        rw [Array.getD_eq_getD_getElem?, this]; rfl
      refine ⟨?_, final _ _ _ _ hI hall hw⟩
      apply List.eq_nil_iff_forall_not_mem.2
      intro j hj
      obtain ⟨h1, o, ho, _⟩ := mem_ready.1 hj
      have hjl : j < l.length := by
        have := (Array.getElem?_eq_some_iff.1 ho).1
        simpa using this
      have := hall j hjl
      rw [Array.getD_eq_getD_getElem?, Array.getElem?_eq_getElem (by omega)] at this h1
      simp only [Option.getD_some] at this h1
      rw [this] at h1; cases h1
    | succ fuel ih =>
      intro listed y a w hs hcl hc hI hw
      constructor
      · intro hr
        exfalso
        have none : ∀ i, i < l.length → listed.getD i false = true := by
          intro i
          induction i using Nat.strongRecOn with
          | _ i ihi =>
            intro hi
            by_cases hb : listed.getD i false = true
            · exact hb
            · exfalso
              have : i ∈ Region.ready .any l.toArray listed := by
                rw [mem_ready]
                refine ⟨?_, l[i], by simp [hi], fun e he hbn => ihi e.on ?_ ?_⟩
                · rw [Array.getD_eq_getD_getElem?, Array.getElem?_eq_getElem (by omega)] at hb ⊢
                  simp only [Option.getD_some] at hb ⊢
                  simpa using hb
                · exact regLex_edge hlex (List.getElem?_eq_getElem hi) (j := e.on) (by unfold bindsTo; rw [Array.any_eq_true']; exact ⟨e, he, by simp [hbn]⟩)
                · have := regLex_edge hlex (List.getElem?_eq_getElem hi) (j := e.on) (by unfold bindsTo; rw [Array.any_eq_true']; exact ⟨e, he, by simp [hbn]⟩)
                  omega
              rw [hr] at this; cases this
        have : trues listed.toList = l.length := by
          have h2 : ∀ (L : List Bool), (∀ i, i < L.length → L[i]? = some true) → trues L = L.length := by
            intro L
            induction L with
            | nil => intro _; rfl
            | cons b L ih => intro h; have h0 := h 0 (by simp); simp at h0; subst h0; simp only [trues, List.length_cons, if_true]; rw [ih (fun i hi => by simpa using h (i + 1) (by simpa using hi))]; omega
          rw [h2 listed.toList (fun i hi => ?_)]
          · simp [hs]
          · have hi' : i < listed.size := by simpa using hi
            have := none i (by omega)
            rw [Array.getD_eq_getD_getElem?, Array.getElem?_eq_getElem hi'] at this
            rw [Array.getElem?_toList, Array.getElem?_eq_getElem hi']
            simpa using this
        omega
      · intro i hi
        obtain ⟨h1, o, ho, hpre⟩ := mem_ready.1 hi
        have hil : i < l.length := by
          have := (Array.getElem?_eq_some_iff.1 ho).1
          simpa using this
        have ho' : l[i]? = some o := by simpa using ho
        have hnot : listed.getD i false = false := by
          rw [Array.getD_eq_getD_getElem?, Array.getElem?_eq_getElem (by omega)] at h1 ⊢
          simpa using h1
        have hpre' : ∀ j, bindsTo o j = true → listed.getD j false = true := by
          intro j hb
          unfold bindsTo at hb
          rw [Array.any_eq_true'] at hb
          obtain ⟨e, he, hb⟩ := hb
          simp only [Bool.and_eq_true, beq_iff_eq] at hb
          have := hpre e he hb.1
          rwa [hb.2] at this
        have hD : Due l (fun k => listed.getD k false) i := by
          refine ⟨hnot, fun o' j ho2 hb => ?_, fun o' k hk hb => ?_⟩
          · rw [ho'] at ho2; cases ho2; exact hpre' j hb
          · cases hv : listed.getD k false with
            | false => rfl
            | true => have := hcl k o' i hk hv hb; rw [hnot] at this; cases this
        obtain ⟨hev, hwt⟩ := evals _ y a i o hI hD ho'
        have hset : (fun k => (listed.setIfInBounds i true).getD k false) = fun k => k == i || listed.getD k false := by
          funext k
          by_cases hk : k = i
          · subst hk
            simp [hs, hil]
          · rw [getD_set_ne false (Ne.symm hk)]
            have : (k == i) = false := by simpa using hk
            rw [this]; rfl
        have next : ∀ y' a' w', Inv (fun k => k == i || listed.getD k false) y' a' → W (fun k => k == i || listed.getD k false) y' w' → wpAnyIn Fe n P .any l.toArray Q fuel (listed.setIfInBounds i true) a' w' := by
          intro y' a' w' hI' hw'
          refine ih _ y' a' w' (by simp [hs]) ?_ ?_ (by rw [hset]; exact hI') (by rw [hset]; exact hw')
          · intro k u j hu hk hb
            by_cases hki : k = i
            · subst hki
              rw [ho'] at hu; cases hu
              exact getD_set_true (hpre' j hb)
            · rw [getD_set_ne false (Ne.symm hki)] at hk
              exact getD_set_true (hcl k u j hu hk hb)
          · rw [Array.toList_setIfInBounds, trues_set _ _ (by
              rw [Array.getElem?_toList, Array.getElem?_eq_getElem (by omega)]
              rw [Array.getD_eq_getD_getElem?, Array.getElem?_eq_getElem (by omega)] at hnot
              simpa using hnot)]
            omega
        unfold wpOpIn
        rw [ho]
        simp only []
        rcases hOb i o ho' with ⟨hrun, hnp, v0, hv0⟩ | ⟨d, hd, hdp, he, hrun⟩
        · refine op_putIn (b := A i y) (S := fun a' w' => a' = A (i + 1) y ∧ W (fun k => k == i || listed.getD k false) y w') (Region.noSelect_spec (ops := l.toArray) (by unfold regLex at hlex; exact (Bool.and_eq_true_iff.1 hlex).1) i o · · ho) ?_ hev hwt
            (hrun _ y w hw hD _ fun w' hw' => ⟨rfl, rfl, hw'⟩) _ _ ?_
          · rintro b' w' ⟨rfl, _⟩
            rw [(sizes (i + 1) (by omega) y).2, (sizes i (by omega) y).2]
          · rintro v w' ⟨hb, hw'⟩
            refine next y _ w' ⟨(put_defs _ _ _).trans hI.1, (put_size _ _ _).trans hI.2.1, fun (t : Nat) => ⟨fun ht => ?_, fun ht => ⟨fun hx => ?_, fun hx => ?_⟩⟩⟩ hw'
            · rw [put_get, if_neg (fun h => hnp t h.1 ht.1)]; exact (hI.2.2 t).1 ht
            · rw [put_get]
              by_cases hdt : o.dst = some t
              · have e1 : (A l.length y0).tmps[t]? = (A (i + 1) y0).tmps[t]? := keep' (i + 1) l.length (by omega) (Nat.le_refl _) t ht (fun q o' h3 h4 h5 => only i q o' o t ho' hdt h5 (by omega))
                have e2 : (A (i + 1) y).tmps[t]? = (A (i + 1) y0).tmps[t]? := by rw [fills (i + 1) (by omega) y t, if_neg (fun h => ht h.1)]
                rw [e1, ← e2, ← hb, put_get, (sizes i (by omega) y).1, hI.2.1]
                by_cases hts : t < a0.tmps.size
                · rw [if_pos ⟨hdt, hts⟩, if_pos ⟨hdt, hts⟩]
                · rw [if_neg (fun h => hts h.2), if_neg (fun h => hts h.2), Array.getElem?_eq_none (by rw [hI.2.1]; omega), Array.getElem?_eq_none (by rw [(sizes i (by omega) y).1]; omega)]
              · rw [if_neg (fun h => hdt h.1)]
                refine ((hI.2.2 t).2 ht).1 ?_
                obtain ⟨j, u, hu, hut, hDj⟩ := hx
                refine ⟨j, u, hu, hut, ?_⟩
                by_cases hji : j = i
                · subst hji; rw [ho'] at hu; cases hu; exact absurd hut hdt
                · have : (j == i) = false := by simpa using hji
                  simpa [this] using hDj
            · rw [put_get]
              by_cases hdt : o.dst = some t
              · exact absurd ⟨i, o, ho', hdt, by simp⟩ hx
              · rw [if_neg (fun h => hdt h.1)]
                refine ((hI.2.2 t).2 ht).2 ?_
                rintro ⟨j, u, hu, hut, hDj⟩
                exact hx ⟨j, u, hu, hut, by simp only at hDj ⊢; rw [hDj, Bool.or_true]⟩
        · refine op_putIn (b := A i y) (S := fun a' w' => ∃ x, a' = A i (upd y d x) ∧ W (fun k => k == i || listed.getD k false) (upd y d x) w') (Region.noSelect_spec (ops := l.toArray) (by unfold regLex at hlex; exact (Bool.and_eq_true_iff.1 hlex).1) i o · · ho) ?_ hev hwt
            (hrun _ y w hw hD _ fun x w' hw' => ⟨rfl, x, rfl, hw'⟩) _ _ ?_
          · rintro b' w' ⟨x, rfl, _⟩
            rw [(sizes i (by omega) _).2, (sizes i (by omega) y).2]
          · rintro v w' ⟨x, hb, hw'⟩
            refine next (upd y d x) _ w' ⟨(put_defs _ _ _).trans hI.1, (put_size _ _ _).trans hI.2.1, fun (t : Nat) => ⟨fun ht => ?_, fun ht => ⟨fun hx => ?_, fun hx => ?_⟩⟩⟩ hw'
            · rw [put_get, hI.2.1]
              by_cases hdt : d = t
              · subst hdt
                have e1 := fills i (by omega) (upd y d x) d
                rw [← hb, if_pos ht, put_get, (sizes i (by omega) y).1, if_pos ⟨hd, ht.2⟩] at e1
                rw [if_pos ⟨hd, ht.2⟩, e1]
              · rw [if_neg (fun h => hdt (by rw [hd] at h; exact Option.some.inj h.1)), (hI.2.2 t).1 ht]
                unfold upd
                rw [if_neg (fun h => hdt h.symm)]
            · have hdt : ¬ o.dst = some t := fun h => ht (by rw [hd] at h; cases h; exact hdp)
              rw [put_get, if_neg (fun h => hdt h.1)]
              refine ((hI.2.2 t).2 ht).1 ?_
              obtain ⟨j, u, hu, hut, hDj⟩ := hx
              refine ⟨j, u, hu, hut, ?_⟩
              by_cases hji : j = i
              · subst hji; rw [ho'] at hu; cases hu; exact absurd hut hdt
              · have : (j == i) = false := by simpa using hji
                simpa [this] using hDj
            · have hdt : ¬ o.dst = some t := fun h => ht (by rw [hd] at h; cases h; exact hdp)
              rw [put_get, if_neg (fun h => hdt h.1)]
              refine ((hI.2.2 t).2 ht).2 ?_
              rintro ⟨j, u, hu, hut, hDj⟩
              exact hx ⟨j, u, hu, hut, by simp only at hDj ⊢; rw [hDj, Bool.or_true]⟩
  refine wpIn_region_any hm (run _ _ y0 _ _ (by simp) ?_ ?_ ?_ ?_)
  · intro k o j _ hk
    simp [Array.getElem?_replicate] at hk
    split at hk <;> simp at hk
  · have : ∀ n, trues (List.replicate n false) = 0 := by
      intro n
      induction n with
      | zero => rfl
      | succ n ih => rw [List.replicate_succ, trues, ih]; rfl
    rw [Array.toList_replicate, this]; simp
  · have hf : (fun k => (Array.replicate l.toArray.size false).getD k false) = fun _ => false := by
      funext k
      simp [Array.getElem?_replicate]
      split <;> rfl
    rw [hf]
    refine ⟨rfl, rfl, fun (t : Nat) => ⟨fun ht => ?_, fun ht => ⟨fun hx => ?_, fun _ => ?_⟩⟩⟩
    · show a0.tmps[t]? = some (a0.tmps.getD t undef)
      rw [Array.getD_eq_getD_getElem?, Array.getElem?_eq_getElem ht.2]; rfl
    · obtain ⟨_, _, _, _, h⟩ := hx; cases h
    · rw [hA0, fill_get, if_neg (fun h => ht h.1)]
  · have hf : (fun k => (Array.replicate l.toArray.size false).getD k false) = fun _ => false := by
      funext k
      simp [Array.getElem?_replicate]
      split <;> rfl
    rw [hf]
    exact hW0

/-- The next operation's value is the same in every world and order. -/
theorem obl_detIn {l : List Oper} {priv : List Tmp} {W : (Nat → Bool) → (Tmp → Value) → World → Prop} {Q : Exit → Act → World → Prop} {i : Nat} {o : Oper} {rest : List Oper} {F F' : (Tmp → Value) → Act}
    (hrun : ∀ D y w, W D y w → Due l D i → ∀ R : Exit → Act → World → Prop, (∀ w', W (fun k => k == i || D k) y w' → R .normal (F' y) w') → wpListIn Fe n P l.toArray R [o] (F y) w)
    (hnp : (match o.dst with | some d => !priv.contains d | none => true) = true) (hv : ∃ v, ∀ y, F' y = (F y).put o.dst v) (h : OblIn Fe n P l priv W Q (i + 1) rest F') : OblIn Fe n P l priv W Q i (o :: rest) F :=
  ⟨F', .inl ⟨hrun, fun d hd => by rw [hd] at hnp; simpa using hnp, hv⟩, h⟩
/-- The next operation's value is private. -/
theorem obl_privIn {l : List Oper} {priv : List Tmp} {W : (Nat → Bool) → (Tmp → Value) → World → Prop} {Q : Exit → Act → World → Prop} {i : Nat} {o : Oper} {rest : List Oper} {F : (Tmp → Value) → Act} (d : Tmp)
    (hd : o.dst = some d) (hp : priv.contains d = true)
    (hrun : ∀ D y w, W D y w → Due l D i → ∀ R : Exit → Act → World → Prop, (∀ x w', W (fun k => k == i || D k) (upd y d x) w' → R .normal (F (upd y d x)) w') → wpListIn Fe n P l.toArray R [o] (F y) w)
    (h : OblIn Fe n P l priv W Q (i + 1) rest F) : OblIn Fe n P l priv W Q i (o :: rest) F :=
  ⟨F, .inr ⟨d, hd, by simpa using hp, rfl, hrun⟩, h⟩
theorem obl_nilIn {l : List Oper} {priv : List Tmp} {W : (Nat → Bool) → (Tmp → Value) → World → Prop} {Q : Exit → Act → World → Prop} {i : Nat} {F : (Tmp → Value) → Act}
    (h : ∀ D y w, (∀ k, k < l.length → D k = true) → W D y w → Q .normal (F y) w) : OblIn Fe n P l priv W Q i [] F := h
/-- The region, the private temporaries shown in a frame that is written out. -/
theorem wpIn_region_inv1 {id : Nat} {l : List Oper} {Q : Exit → Act → World → Prop} {a0 : Act} {w0 : World} (hm : P.follows .mixedOrders = true) (hlex : regLex l = true) (priv : List Tmp)
    (W : (Nat → Bool) → (Tmp → Value) → World → Prop) (hW0 : W (fun _ => false) (fun d => a0.tmps.getD d undef) w0.drew) (F : (Tmp → Value) → Act) (hF : ∀ y, fill priv a0 y = F y)
    (h : OblIn Fe n P l priv W Q 0 l F) : (Code.region id l.toArray true).wpIn Fe n P Q a0 w0 :=
  wpIn_region_inv hm hlex priv W hW0 (by rw [show fill priv a0 = F from funext hF]; exact h)
/-- The region, no temporary private. -/
theorem wpIn_region_inv0 {id : Nat} {l : List Oper} {Q : Exit → Act → World → Prop} {a0 : Act} {w0 : World} (hm : P.follows .mixedOrders = true) (hlex : regLex l = true)
    (W : (Nat → Bool) → World → Prop) (hW0 : W (fun _ => false) w0.drew) (h : OblIn Fe n P l [] (fun D _ w => W D w) Q 0 l (fun _ => a0)) :
    (Code.region id l.toArray true).wpIn Fe n P Q a0 w0 :=
  wpIn_region_inv hm hlex [] (fun D _ w => W D w) hW0 h
end
end Go.Proofs.Ytaigbhhmmdfdcaa
/- Load and store of a whole row, in a fence. -/
namespace Go.Proofs.Ytaigbhhmmdfdcaa
open Go.RowKit
theorem wpIn_load_row {P : Program} {Fe : Fence} {n : Nat} {o : Oper} {a : Act} {w : World} {K : Act → World → Prop} {Q : Exit → Act → World → Prop} (ty : TypeId) (x : Operand) (ho : o.op = .load ty x)
    (g : Nat) (hx : a.eval x = .pointer (some ⟨g, 0, none⟩)) (t : TypeId) (cs : Array Value) (fr : Nat × Nat) (d : TypeDesc) (hg : w.heap[g]? = some (.cells cs t fr))
    (hu : P.underlying ty = some d) (hd : (match d with | .struct _ | .array _ _ => true | _ => false) = true) (hi : (P.info? ty).map (·.size) = some cs.size)
    (h : K (a.put o.dst (.agg cs)) w) : o.wpIn Fe n P a w K Q := by
  unfold Oper.wpIn
  refine And.intro (fun f hf => by simp [Oper.about, ho] at hf) ?_
  rw [Oper.semAt_plain Fe a.eval o (by simp [ho])]
  unfold execOp
  simp only [ho, hx, Instr.loadAt, Instr.sureAddr, Sem.run_bind, Sem.run_pure, Result.andThen_ok, run_loadVar_row w g t ty cs fr d hg hu hd hi]
  exact h
theorem wpIn_store_row {P : Program} {Fe : Fence} {n : Nat} {o : Oper} {a : Act} {w : World} {K : Act → World → Prop} {Q : Exit → Act → World → Prop} (ty : TypeId) (x y : Operand) (ho : o.op = .store ty x y)
    (g : Nat) (cells : Array Value) (hx : a.eval x = .pointer (some ⟨g, 0, none⟩)) (hy : a.eval y = .agg cells)
    (t : TypeId) (old : Array Value) (hg : w.heap[g]? = some (.cells old t (0, 0))) (hi : (P.info? ty).map (·.size) = some cells.size)
    (hold : old.size = cells.size) (h1 : cells.all (·.oneCell') = true)
    (h : K (a.put o.dst undef) (w.setRow g cells)) : o.wpIn Fe n P a w K Q := by
  unfold Oper.wpIn
  refine And.intro (fun f hf => by simp [Oper.about, ho] at hf) ?_
  rw [Oper.semAt_plain Fe a.eval o (by simp [ho])]
  unfold execOp
  simp only [ho, hx, hy, Instr.storeAt, Instr.sureAddr, Sem.run_bind, Sem.run_pure, Result.andThen_ok, run_storeVar_row w g t ty old cells hg hi hold h1]
  exact h
theorem wpListIn_load_row {P : Program} {Fe : Fence} {n : Nat} {ops : Array Oper} {rest : List Oper} {o : Oper} {a : Act} {w : World} {Q : Exit → Act → World → Prop} (hgd : o.guard = none) (ty : TypeId) (x : Operand) (ho : o.op = .load ty x)
    (g : Nat) (hx : a.eval x = .pointer (some ⟨g, 0, none⟩)) (t : TypeId) (cs : Array Value) (fr : Nat × Nat) (d : TypeDesc) (hg : w.heap[g]? = some (.cells cs t fr))
    (hu : P.underlying ty = some d) (hd : (match d with | .struct _ | .array _ _ => true | _ => false) = true) (hi : (P.info? ty).map (·.size) = some cs.size)
    (h : wpListIn Fe n P ops Q rest (a.put o.dst (.agg cs)) w) : wpListIn Fe n P ops Q (o :: rest) a w :=
  wpListIn_plain hgd fun _ hK => wpIn_load_row ty x ho g hx t cs fr d hg hu hd hi (hK _ _ h)
theorem wpListIn_store_row {P : Program} {Fe : Fence} {n : Nat} {ops : Array Oper} {rest : List Oper} {o : Oper} {a : Act} {w : World} {Q : Exit → Act → World → Prop} (hgd : o.guard = none) (ty : TypeId) (x y : Operand) (ho : o.op = .store ty x y)
    (g : Nat) (cells : Array Value) (hx : a.eval x = .pointer (some ⟨g, 0, none⟩)) (hy : a.eval y = .agg cells)
    (t : TypeId) (old : Array Value) (hg : w.heap[g]? = some (.cells old t (0, 0))) (hi : (P.info? ty).map (·.size) = some cells.size)
    (hold : old.size = cells.size) (h1 : cells.all (·.oneCell') = true)
    (h : wpListIn Fe n P ops Q rest (a.put o.dst undef) (w.setRow g cells)) : wpListIn Fe n P ops Q (o :: rest) a w :=
  wpListIn_plain hgd fun _ hK => wpIn_store_row ty x y ho g cells hx hy t old hg hi hold h1 (hK _ _ h)
end Go.Proofs.Ytaigbhhmmdfdcaa
/- A list of blocks that are known, in a world that grows. -/
namespace Go.Proofs.Ytaigbhhmmdfdcaa
open Go.RowKit
structure Bs (w : World) (l : List (Nat × Obj)) (wr : World) : Prop where
  get' : ∀ p ∈ l, wr.heap[p.1]? = some p.2
  inc : (l.map Prod.fst).Pairwise (· < ·)
  ge : ∀ p ∈ l, w.heap.size ≤ p.1
  bel : Below w.heap.size w wr
section
variable {w wr w' : World} {l : List (Nat × Obj)}
theorem Bs.nil (w : World) : Bs w [] w := ⟨by simp, by simp, by simp, Below.refl _ _⟩
theorem Bs.get (h : Bs w l wr) (i : Nat) {b : Nat} {o : Obj} (hi : l[i]? = some (b, o)) : wr.heap[b]? = some o := h.get' _ (List.mem_of_getElem? hi)
theorem Bs.lt (h : Bs w l wr) (i : Nat) {b : Nat} {o : Obj} (hi : l[i]? = some (b, o)) : b < wr.heap.size := block_lt (h.get i hi)
theorem Bs.le (h : Bs w l wr) (i : Nat) {b : Nat} {o : Obj} (hi : l[i]? = some (b, o)) : w.heap.size ≤ b := h.ge _ (List.mem_of_getElem? hi)
theorem Bs.call (h : Bs w l wr) (hb : Below wr.heap.size wr w') : Bs w l w' :=
  ⟨fun p hp => block_keep (h.get' p hp) hb, h.inc, h.ge, h.bel.trans (hb.mono h.bel.size)⟩
theorem Bs.alloc (h : Bs w l wr) (o : Obj) : Bs w l (wr.alloc o) := h.call ((Below.refl _ _).alloc (Nat.le_refl _) o)
theorem Bs.drew (h : Bs w l wr) : Bs w l wr.drew := h.call (Below.refl _ _).drew
theorem Bs.drewN (h : Bs w l wr) (n : Nat) : Bs w l (wr.drewN n) := h.call (below_drewN (Below.refl _ _) n)
theorem Bs.push (h : Bs w l wr) (n : Nat) (hn : wr.heap.size = n) (o : Obj) : Bs w (l ++ [(n, o)]) (wr.alloc o) := by
  subst hn
  have h' := h.alloc o
  refine ⟨?_, ?_, ?_, h'.bel⟩
  · intro p hp
    rcases List.mem_append.1 hp with hp | hp
    · exact h'.get' p hp
    · simp only [List.mem_singleton] at hp
      subst hp
      exact heap_alloc_new wr o
  · rw [List.map_append, List.pairwise_append]
    refine ⟨h.inc, by simp, ?_⟩
    intro a ha b hb
    simp only [List.mem_map] at ha hb
    obtain ⟨p, hp, rfl⟩ := ha
    obtain ⟨q, hq, rfl⟩ := hb
    simp only [List.mem_singleton] at hq
    subst hq
    exact block_lt (h.get' p hp)
  · intro p hp
    rcases List.mem_append.1 hp with hp | hp
    · exact h.ge p hp
    · simp only [List.mem_singleton] at hp
      subst hp
      exact h.bel.size
theorem Bs.other (h : Bs w l wr) (i : Nat) {b : Nat} {o : Obj} (hi : l[i]? = some (b, o)) {j : Nat} (hj : j ≠ i) {p : Nat × Obj} (hp : l[j]? = some p) : p.1 ≠ b := by
  have hi' : (l.map Prod.fst)[i]? = some b := by simp [hi]
  have hj' : (l.map Prod.fst)[j]? = some p.1 := by simp [hp]
  obtain ⟨hil, hie⟩ := List.getElem?_eq_some_iff.1 hi'
  obtain ⟨hjl, hje⟩ := List.getElem?_eq_some_iff.1 hj'
  have := List.pairwise_iff_getElem.1 h.inc
  by_cases hlt : j < i
  · have := this j i hjl hil hlt; omega
  · have := this i j hil hjl (by omega); omega
/-- One of the blocks is written. -/
theorem Bs.put (h : Bs w l wr) (i : Nat) {b : Nat} {o o' : Obj} (hi : l[i]? = some (b, o)) (hk : ∀ k, k ≠ b → w'.heap[k]? = wr.heap[k]?) (hb : w'.heap[b]? = some o') (hB : Below w.heap.size w w') : Bs w (l.set i (b, o')) w' := by
  refine ⟨?_, ?_, ?_, hB⟩
  · intro p hp
    obtain ⟨j, hj⟩ := List.mem_iff_getElem?.1 hp
    by_cases hji : j = i
    · subst hji
      have hlt : j < l.length := (List.getElem?_eq_some_iff.1 hi).1
      rw [List.getElem?_set_self hlt] at hj
      cases hj
      exact hb
    · rw [List.getElem?_set_ne (Ne.symm hji)] at hj
      rw [hk _ (h.other i hi hji hj)]
      exact h.get' p (List.mem_of_getElem? hj)
  · have : (l.set i (b, o')).map Prod.fst = l.map Prod.fst := by
      rw [List.map_set]
      apply List.ext_getElem?
      intro j
      by_cases hji : j = i
      · subst hji
        have hlt : j < (l.map Prod.fst).length := by simpa using (List.getElem?_eq_some_iff.1 hi).1
        rw [List.getElem?_set_self hlt]
        simp [hi]
      · rw [List.getElem?_set_ne (Ne.symm hji)]
    rw [this]
    exact h.inc
  · intro p hp
    obtain ⟨j, hj⟩ := List.mem_iff_getElem?.1 hp
    by_cases hji : j = i
    · subst hji
      have hlt : j < l.length := (List.getElem?_eq_some_iff.1 hi).1
      rw [List.getElem?_set_self hlt] at hj
      cases hj
      exact h.le j hi
    · rw [List.getElem?_set_ne (Ne.symm hji)] at hj
      exact h.ge p (List.mem_of_getElem? hj)
theorem Bs.setCell (h : Bs w l wr) (i : Nat) {b : Nat} {cs : Array Value} {t : TypeId} (hi : l[i]? = some (b, .cells cs t)) (j : Nat) (v : Value) :
    Bs w (l.set i (b, .cells (cs.setIfInBounds j v) t)) (wr.setCell ⟨b, j, none⟩ v) :=
  h.put i hi (fun _ hk => heap_setCell_other _ _ _ _ hk) (heap_setCell_same wr b j cs t v (h.get i hi)) (h.bel.setCell (p := ⟨b, j, none⟩) (h.le i hi) v)
theorem Bs.setRow (h : Bs w l wr) (i : Nat) {b : Nat} {cs : Array Value} {t : TypeId} (hi : l[i]? = some (b, .cells cs t)) (cs' : Array Value) :
    Bs w (l.set i (b, .cells cs' t)) (wr.setRow b cs') :=
  h.put i hi (fun k hk => setRow_other wr b k cs' hk) (setRow_heap _ _ _ _ _ _ (h.get i hi)) (below_setRow h.bel (h.le i hi) cs')
/-- The blocks of the callee's own: a caller's world reads on. -/
theorem Bs.sub (h : Bs w l wr) (m : List (Nat × Obj)) (hs : m.Sublist l) : Bs w m wr :=
  ⟨fun p hp => h.get' p (hs.subset hp), h.inc.sublist (hs.map _), fun p hp => h.ge p (hs.subset hp), h.bel⟩
theorem Bs.cell (h : Bs w l wr) (i : Nat) {b : Nat} {cs : Array Value} {t : TypeId} (hi : l[i]? = some (b, .cells cs t)) (j : Nat) : wr.cell? ⟨b, j, none⟩ = cs[j]? := cell_of_row wr b j _ _ _ (h.get i hi)
theorem Bs.free (h : Bs w l wr) (i : Nat) {b : Nat} {cs : Array Value} {t : TypeId} (hi : l[i]? = some (b, .cells cs t)) (j : Nat) : wr.frozen? ⟨b, j, none⟩ = false := frozen_of_row wr b j _ _ (h.get i hi)
end
end Go.Proofs.Ytaigbhhmmdfdcaa
/- Loads and stores at blocks that are known: behind a store the world is any that knows the new block. -/
namespace Go.Proofs.Ytaigbhhmmdfdcaa
open Go.RowKit
theorem run_store_at {P : Program} (w : World) (b o : Nat) (ty : TypeId) (v c0 : Value) (h1 : v.oneCell' = true) (hc : w.cell? ⟨b, o, none⟩ = some c0) (hf : w.frozen? ⟨b, o, none⟩ = false) (hi : (P.info? ty).map (·.size) = some 1) :
    (storeVar ty ⟨b, o, none⟩ v).run P w = .ok () (w.setCell ⟨b, o, none⟩ v) := by
  have hcl : v.cells = #[v] := by cases v <;> first | rfl | cases h1
  have this := run_storeCells_cells (P := P) b o [v] 0 w (fun j hj => by simp only [List.length_cons, List.length_nil] at hj; obtain rfl : j = 0 := by omega
                                                                         simp [hc]) (fun j hj => by simp only [List.length_cons, List.length_nil] at hj; obtain rfl : j = 0 := by omega
                                                                                                    simpa using hf)
    (fun u hu => by simp at hu; subst hu; exact h1)
  cases hq : P.info? ty with
  | none => simp [hq] at hi
  | some i =>
    have hs : i.size = 1 := by simpa [hq] using hi
    simp only [Nat.add_zero] at this
    simp [storeVar, sizeOf, typeInfo, hq, hcl, hs, this, World.setCells]
section
variable {P : Program} {ops : Array Oper} {rest : List Oper} {o : Oper} {a : Act} {w0 w : World} {Q : Exit → Act → World → Prop} {l : List (Nat × Obj)}
/-- A row is stored. -/
theorem wpList_store_bs (hgd : o.guard = none) (ty : TypeId) (x y : Operand) (ho : o.op = .store ty x y) (H : Bs w0 l w) (i g : Nat) (cells old : Array Value) (t : TypeId) (hi : l[i]? = some (g, .cells old t))
    (hx : a.eval x = .pointer (some ⟨g, 0, none⟩)) (hy : a.eval y = .agg cells) (hn : (P.info? ty).map (·.size) = some cells.size) (hold : old.size = cells.size) (h1 : cells.all (·.oneCell') = true)
    (h : ∀ w', Bs w0 (l.set i (g, .cells cells t)) w' → wpList P ops Q rest (a.put o.dst undef) w') : wpList P ops Q (o :: rest) a w :=
  wpList_store_row hgd ty x y ho g cells hx hy t old (H.get i hi) hn hold h1 (h _ (H.setRow i hi cells))
/-- One cell is stored. -/
theorem wpList_cell_bs (hgd : o.guard = none) (ty : TypeId) (x y : Operand) (ho : o.op = .store ty x y) (H : Bs w0 l w) (i g j : Nat) (old : Array Value) (t : TypeId) (hi : l[i]? = some (g, .cells old t))
    (hx : a.eval x = .pointer (some ⟨g, j, none⟩)) (v : Value) (hy : a.eval y = v) (hj : j < old.size) (h1 : v.oneCell' = true) (hn : (P.info? ty).map (·.size) = some 1)
    (h : ∀ w', Bs w0 (l.set i (g, .cells (old.setIfInBounds j v) t)) w' → wpList P ops Q rest (a.put o.dst undef) w') : wpList P ops Q (o :: rest) a w :=
  wpList_plain hgd fun _ hK => by
    have hc : w.cell? ⟨g, j, none⟩ = some old[j] := by rw [H.cell i hi]; simp [hj]
    unfold Oper.wp execOp
    simp only [ho, hx, hy, Instr.storeAt, Instr.sureAddr, Sem.run_bind, Sem.run_pure, Result.andThen_ok, run_store_at w g j ty v _ h1 hc (H.free i hi j) hn]
    exact hK _ _ (h _ (H.setCell i hi j v))
/-- A row is loaded. -/
theorem wpList_load_bs (hgd : o.guard = none) (ty : TypeId) (x : Operand) (ho : o.op = .load ty x) (H : Bs w0 l w) (i g : Nat) (cs : Array Value) (t : TypeId) (hi : l[i]? = some (g, .cells cs t))
    (hx : a.eval x = .pointer (some ⟨g, 0, none⟩)) (d : TypeDesc) (hu : P.underlying ty = some d) (hd : (match d with | .struct _ | .array _ _ => true | _ => false) = true) (hn : (P.info? ty).map (·.size) = some cs.size)
    (h : wpList P ops Q rest (a.put o.dst (.agg cs)) w) : wpList P ops Q (o :: rest) a w :=
  wpList_load_row hgd ty x ho g hx t cs _ d (H.get i hi) hu hd hn h
variable {Fe : Fence} {n : Nat}
theorem wpListIn_store_bs (hgd : o.guard = none) (ty : TypeId) (x y : Operand) (ho : o.op = .store ty x y) (H : Bs w0 l w) (i g : Nat) (cells old : Array Value) (t : TypeId) (hi : l[i]? = some (g, .cells old t))
    (hx : a.eval x = .pointer (some ⟨g, 0, none⟩)) (hy : a.eval y = .agg cells) (hn : (P.info? ty).map (·.size) = some cells.size) (hold : old.size = cells.size) (h1 : cells.all (·.oneCell') = true)
    (h : ∀ w', Bs w0 (l.set i (g, .cells cells t)) w' → wpListIn Fe n P ops Q rest (a.put o.dst undef) w') : wpListIn Fe n P ops Q (o :: rest) a w :=
  wpListIn_store_row hgd ty x y ho g cells hx hy t old (H.get i hi) hn hold h1 (h _ (H.setRow i hi cells))
theorem wpListIn_cell_bs (hgd : o.guard = none) (ty : TypeId) (x y : Operand) (ho : o.op = .store ty x y) (H : Bs w0 l w) (i g j : Nat) (old : Array Value) (t : TypeId) (hi : l[i]? = some (g, .cells old t))
    (hx : a.eval x = .pointer (some ⟨g, j, none⟩)) (v : Value) (hy : a.eval y = v) (hj : j < old.size) (h1 : v.oneCell' = true) (hn : (P.info? ty).map (·.size) = some 1)
    (h : ∀ w', Bs w0 (l.set i (g, .cells (old.setIfInBounds j v) t)) w' → wpListIn Fe n P ops Q rest (a.put o.dst undef) w') : wpListIn Fe n P ops Q (o :: rest) a w :=
  wpListIn_plain hgd fun _ hK => by
    have hc : w.cell? ⟨g, j, none⟩ = some old[j] := by rw [H.cell i hi]; simp [hj]
    unfold Oper.wpIn
    refine And.intro (fun f hf => by simp [Oper.about, ho] at hf) ?_
    rw [Oper.semAt_plain Fe a.eval o (by simp [ho])]
    unfold execOp
    simp only [ho, hx, hy, Instr.storeAt, Instr.sureAddr, Sem.run_bind, Sem.run_pure, Result.andThen_ok, run_store_at w g j ty v _ h1 hc (H.free i hi j) hn]
    exact hK _ _ (h _ (H.setCell i hi j v))
theorem wpListIn_load_bs (hgd : o.guard = none) (ty : TypeId) (x : Operand) (ho : o.op = .load ty x) (H : Bs w0 l w) (i g : Nat) (cs : Array Value) (t : TypeId) (hi : l[i]? = some (g, .cells cs t))
    (hx : a.eval x = .pointer (some ⟨g, 0, none⟩)) (d : TypeDesc) (hu : P.underlying ty = some d) (hd : (match d with | .struct _ | .array _ _ => true | _ => false) = true) (hn : (P.info? ty).map (·.size) = some cs.size)
    (h : wpListIn Fe n P ops Q rest (a.put o.dst (.agg cs)) w) : wpListIn Fe n P ops Q (o :: rest) a w :=
  wpListIn_load_row hgd ty x ho g hx t cs _ d (H.get i hi) hu hd hn h
end
end Go.Proofs.Ytaigbhhmmdfdcaa
/- Stores into the middle of a block that is kept. -/
namespace Go.Proofs.Ytaigbhhmmdfdcaa
open Go.RowKit
/-- A row is stored in the middle of a block. -/
theorem wpList_store_bsmid {P : Program} {w0 w : World} {l : List (Nat × Obj)} {ops : Array Oper} {rest : List Oper} {o : Oper} {a : Act} {Q : Exit → Act → World → Prop} (hgd : o.guard = none) (ty : TypeId) (x y : Operand) (ho : o.op = .store ty x y) (H : Bs w0 l w)
    (i g off : Nat) (cells : Array Value) (pre rest' : List Value) (t : TypeId) (hi' : l[i]? = some (g, .cells (pre ++ rest').toArray t)) (hoff : pre.length = off) (hx : a.eval x = .pointer (some ⟨g, off, none⟩)) (hy : a.eval y = .agg cells)
    (hi : (P.info? ty).map (·.size) = some cells.size) (hfit : cells.size ≤ rest'.length) (h1 : cells.all (·.oneCell') = true)
    (h : ∀ w', Bs w0 (l.set i (g, .cells (pre ++ cells.toList ++ rest'.drop cells.size).toArray t)) w' → wpList P ops Q rest (a.put o.dst undef) w') : wpList P ops Q (o :: rest) a w :=
  wpList_plain hgd fun _ hK => by
    subst hoff
    have hg := H.get i hi'
    have ht : w.there g pre.length cells.size := by
      intro j hj
      refine ⟨?_, frozen_of_row w g _ _ _ hg⟩
      rw [cell_of_row w g _ _ _ _ hg]
      simp only [List.getElem?_toArray]
      rw [List.getElem?_append_right (by omega), Nat.add_sub_cancel_left]
      simp
      omega
    have hs := run_storeVar_mid (P := P) w g pre.length ty cells ht hi h1
    rw [setCells_row g t _ _ w _ hg, writeAt_list (pre ++ rest') cells.toList pre rest' rfl (by simpa using hfit)] at hs
    unfold Oper.wp execOp
    simp only [ho, hx, hy, Instr.storeAt, Instr.sureAddr, Sem.run_bind, Sem.run_pure, Result.andThen_ok, hs]
    exact hK _ _ (by simpa using h _ (H.setRow i hi' _))
end Go.Proofs.Ytaigbhhmmdfdcaa
/- Stores into the middle of a block that is kept. -/
namespace Go.Proofs.Ytaigbhhmmdfdcaa
open Go.RowKit
/-- A row is stored in the middle of a block that two lists keep. -/
theorem wpList_store_bsmid2 {P : Program} {w0 w w1 : World} {l l2 : List (Nat × Obj)} {ops : Array Oper} {rest : List Oper} {o : Oper} {a : Act} {Q : Exit → Act → World → Prop} (hgd : o.guard = none) (ty : TypeId) (x y : Operand) (ho : o.op = .store ty x y) (H : Bs w0 l w) (H2 : Bs w1 l2 w)
    (i i2 g off : Nat) (cells : Array Value) (pre rest' : List Value) (t : TypeId) (hi' : l[i]? = some (g, .cells (pre ++ rest').toArray t)) (hi2 : l2[i2]? = some (g, .cells (pre ++ rest').toArray t)) (hoff : pre.length = off) (hx : a.eval x = .pointer (some ⟨g, off, none⟩)) (hy : a.eval y = .agg cells)
    (hi : (P.info? ty).map (·.size) = some cells.size) (hfit : cells.size ≤ rest'.length) (h1 : cells.all (·.oneCell') = true)
    (h : ∀ w', Bs w0 (l.set i (g, .cells (pre ++ cells.toList ++ rest'.drop cells.size).toArray t)) w' → Bs w1 (l2.set i2 (g, .cells (pre ++ cells.toList ++ rest'.drop cells.size).toArray t)) w' → wpList P ops Q rest (a.put o.dst undef) w') : wpList P ops Q (o :: rest) a w :=
  wpList_plain hgd fun _ hK => by
    subst hoff
    have hg := H.get i hi'
    have ht : w.there g pre.length cells.size := by
      intro j hj
      refine ⟨?_, frozen_of_row w g _ _ _ hg⟩
      rw [cell_of_row w g _ _ _ _ hg]
      simp only [List.getElem?_toArray]
      rw [List.getElem?_append_right (by omega), Nat.add_sub_cancel_left]
      simp
      omega
    have hs := run_storeVar_mid (P := P) w g pre.length ty cells ht hi h1
    rw [setCells_row g t _ _ w _ hg, writeAt_list (pre ++ rest') cells.toList pre rest' rfl (by simpa using hfit)] at hs
    unfold Oper.wp execOp
    simp only [ho, hx, hy, Instr.storeAt, Instr.sureAddr, Sem.run_bind, Sem.run_pure, Result.andThen_ok, hs]
    exact hK _ _ (by simpa using h _ (H.setRow i hi' _) (H2.setRow i2 hi2 _))
end Go.Proofs.Ytaigbhhmmdfdcaa
/- A range over an iterator that keeps cells of its own between two rounds: the caller speaks of blocks alone that lay ahead of the loop. -/
namespace Go.Proofs.Ytaigbhhmmdfdcaa
open Go.RowKit
/-- What speaks of blocks below B alone. -/
def Firm (B : Nat) (J : World → Prop) : Prop := ∀ W W', J W → Below B W W' → J W'
theorem below_turn {B l : Nat} (h : B ≤ l) (W : World) (o : Obj) : Below B W (W.putObj l o) :=
  ⟨rfl, rfl, rfl, by simp [World.putObj], fun k hk => World.putObj_heap_other (by omega)⟩
/-- The iterator's contract: whatever firm thing the caller holds, round by round. -/
def IterGives {α : Type} (F : Fence) (n : Nat) (P : Program) (g : Nat) (lb : Array Value) (encs : α → Array Value) (Kp : World → World → Prop) (S Sp : List α → Prop) (N : Nat) (w : World) : Prop :=
  ∀ (l : Nat) (J Jx : List α → World → Prop) (W : World), Below w.heap.size w W → (∀ s, Firm W.heap.size (J s)) → (∀ s, Firm W.heap.size (Jx s)) →
    (∀ pre x W1, J pre W1 → pre.length < N → W.heap.size ≤ W1.heap.size → YieldAt F (n - 1) P l (encs x) W1 fun e W' =>
      (e = .returned (.bool true) ∧ J (pre ++ [x]) W' ∧ Kp W1 W') ∨ (e = .returned (.bool false) ∧ Jx (pre ++ [x]) W')) →
    J [] W →
    CallsIn F n P g (#[.func (.yield l) #[] #[]] ++ lb) W fun e W' => (∃ v, e = .returned v) ∧ ((∃ xs, S xs ∧ J xs W') ∨ (∃ pre, Sp pre ∧ Jx pre W'))
section
variable {P : Program} {F : Fence} {n : Nat}
theorem wpIn_range_firm {α : Type} {g : Operand} {ps : Array Tmp} {assign body : Code} {Q : Exit → Act → World → Prop} {a : Act} {w : World}
    (hro : F.round = none) (h1 : 1 ≤ n) {gf : Nat} {lb : Array Value} (hg : a.eval g = .func (.func gf) #[] lb) (hFg : F.fn gf) (eg : ∀ args w, (callFunc gf args).run P w = .ok (.enter gf args) w)
    {encs : α → Array Value} {Kp : World → World → Prop} {S Sp : List α → Prop} {N : Nat} (hseq : IterGives F (n - 1) P gf lb encs Kp S Sp N w)
    (hKt : ∀ {A B C : World}, Kp A B → Kp B C → Kp A C) (hKb : ∀ (W : World) (l : Nat) (o o' : Obj), w.heap.size ≤ l → W.heap[l]? = some o → o.isCells = false → Kp W (W.putObj l o')) (hps : ∀ x, (encs x).size = ps.size)
    (I : List α → World → Prop) (Ix : Code → List α → World → Prop) (hI : ∀ s, Firm w.heap.size (I s)) (hIx : ∀ c s, Firm w.heap.size (Ix c s)) (h0 : I [] w)
    (Ax : α → Act → World → Prop) (hAx : ∀ x a' W l o o', Ax x a' W → w.heap.size ≤ l → W.heap[l]? = some o → o.isCells = false → Ax x a' (W.putObj l o'))
    (hassign : ∀ (l : Nat) (pre : List α) (x : α) (W : World) (K : Act → World → Prop), I pre W → w.heap.size ≤ W.heap.size → (∀ a' W', KeepsFrom w.heap.size W W' → Kp W W' → I pre W' → Ax x a' W' → K a' W') →
      assign.wpIn (F.inRound l) (n - 1 - 1) P (Exit.then K (fun _ _ _ => False)) { tmps := (ps.zip (encs x)).foldl (fun t (p, v) => t.setIfInBounds p v) a.tmps, defers := [] } W)
    (hbody : ∀ (l : Nat) (pre : List α) (x : α) (a' : Act) (W : World), w.heap.size ≤ W.heap.size → I pre W → Ax x a' W → pre.length < N → body.wpIn (F.inRound l) (n - 1 - 1) P (ownPostG w.heap.size Kp I Ix (pre ++ [x]) W) a' W)
    (hdone : ∀ (D : Nat) (xs : List α) (W : World), w.heap.size ≤ D → S xs → I xs W → W.heap[D]? = some (.deferred (some [])) → Q .normal { a with defers := { target := .collected D, args := #[] } :: a.defers } W)
    (hstop : ∀ (D : Nat) (c : Code) (pre : List α) (W : World), w.heap.size ≤ D → Sp pre → Ix c pre W → W.heap[D]? = some (.deferred (some [])) → c.wpIn F n P Q { a with defers := { target := .collected D, args := #[] } :: a.defers } W) :
    (Code.rangeFunc g ps assign body).wpIn F n P Q a w := by
  refine wpIn_rangeFunc fun fn hfn => ?_
  rw [hro]
  -- the record of the loop, in its states
  let R : LoopState → Option Code → Obj := fun st pe => .loop { state := st, pending := pe, fn, tmps := a.tmps, params := ps, assign, body, defers := w.heap.size }
  let B := w.heap.size
  let W1 := (w.alloc (.deferred (some []))).alloc (R .ready none)
  have z1 : W1.heap.size = B + 2 := by simp [W1, B]
  have b1 : Below B w W1 := ((Below.refl B w).alloc (Nat.le_refl _) _).alloc (by simp [B]) _
  have d1 : W1.heap[B]? = some (.deferred (some [])) := (Below.heap_alloc _ _ _ (by simp [B])).trans (World.alloc_heap_new w _)
  have l1 : W1.heap[B + 1]? = some (R .ready none) := by
    have := World.alloc_heap_new (w.alloc (.deferred (some []))) (R .ready none)
    rwa [World.size_alloc] at this
  refine ⟨B + 1, [{ target := .collected B, args := #[] }], W1, { target := .fn (.func gf) lb, args := #[.func (.yield (B + 1)) #[] #[]] }, W1, gf, #[.func (.yield (B + 1)) #[] #[]] ++ lb, W1,
    run_enterLoop_outer _ _ _ _ _, ?_, ?_, ?_, fun _ => h1, ?_⟩
  · simp only [resolve, hg]
    simp [go_sem]
  · intro f' hf'
    simp [Target.leads] at hf'
    subst hf'
    exact hFg
  · simp [invoke, go_sem, eg]
  have firm2 : ∀ (J : World → Prop) (st : LoopState) (pe : Option Code), Firm B J → Firm W1.heap.size (fun W => J W ∧ W.heap[B + 1]? = some (R st pe) ∧ W.heap[B]? = some (.deferred (some []))) := by
    intro J st pe hJ W W' hW hb
    exact ⟨hJ W W' hW.1 (hb.mono (by omega)), (hb.block _ (by omega)).trans hW.2.1, (hb.block _ (by omega)).trans hW.2.2⟩
  refine (hseq (B + 1) (fun pre W => I pre W ∧ W.heap[B + 1]? = some (R .ready none) ∧ W.heap[B]? = some (.deferred (some [])))
    (fun pre W => ∃ c, Ix c pre W ∧ W.heap[B + 1]? = some (R .done (some c)) ∧ W.heap[B]? = some (.deferred (some []))) W1 b1 (fun s => firm2 _ _ _ (hI s))
    (fun s W W' hW hb => by obtain ⟨c, hc⟩ := hW; exact ⟨c, firm2 _ _ _ (hIx c s) W W' hc hb⟩) ?_ ⟨hI _ _ _ h0 b1, l1, d1⟩).mono ?_
  · -- one round
    rintro pre x W ⟨hi, hl, hd⟩ hlen hsz
    have hy := run_yield (P := P) (args := encs x) hl (hps x)
    refine ⟨fn, _, assign, body, hy, roundIn_of_wpIn hfn (hassign _ pre x W _ hi (by omega) ?_)⟩
    intro a' V hkf hkp hi' hax
    have hl' := hkf.same _ _ (by omega) hl rfl
    have hd' := hkf.same _ _ (Nat.le_refl _) hd rfl
    have hlV : B + 1 < V.heap.size := (Array.getElem?_eq_some_iff.1 hl').1
    refine ⟨_, run_beginRound hl' rfl, ?_⟩
    have hl2 : (V.putObj (B + 1) (R .busy none)).heap[B + 1]? = some (R .busy none) := World.putObj_heap_same hlV
    have hd2 : (V.putObj (B + 1) (R .busy none)).heap[B]? = some (.deferred (some [])) := (World.putObj_heap_other (by omega)).trans hd'
    have hk2 : Kp V (V.putObj (B + 1) (R .busy none)) := hKb _ _ _ _ (by omega) hl' rfl
    refine wpIn_mono (hbody _ pre x a' _ (by simp [World.putObj]; omega) (hI _ _ _ hi' (below_turn (by omega) _ _)) (hAx _ _ _ _ _ _ hax (by omega) hl' rfl) hlen) ?_
    have ends : ∀ (jump : Option Code) (W3 : World), KeepsFrom B (V.putObj (B + 1) (R .busy none)) W3 →
        (Instr.endRound (B + 1) jump).run P W3 = .ok (.bool jump.isNone) (W3.putObj (B + 1) (R (if jump.isNone then .ready else .done) jump)) ∧ W3.heap[B + 1]? = some (R .busy none) ∧
        (W3.putObj (B + 1) (R (if jump.isNone then .ready else .done) jump)).heap[B + 1]? = some (R (if jump.isNone then .ready else .done) jump) ∧
        (W3.putObj (B + 1) (R (if jump.isNone then .ready else .done) jump)).heap[B]? = some (.deferred (some [])) := by
      intro jump W3 hk3
      have hl3 := hk3.same _ _ (by omega) hl2 rfl
      exact ⟨run_endRound (P := P) jump hl3, hl3, World.putObj_heap_same (Array.getElem?_eq_some_iff.1 hl3).1, (World.putObj_heap_other (by omega)).trans (hk3.same _ _ (Nat.le_refl _) hd2 rfl)⟩
    have leaves : ∀ (c : Code) (W3 : World), KeepsFrom B (V.putObj (B + 1) (R .busy none)) W3 → Ix c (pre ++ [x]) W3 →
        ∃ b W4, (Instr.endRound (B + 1) (some c)).run P W3 = .ok b W4 ∧ ((Ending.returned b = .returned (.bool true) ∧ (I (pre ++ [x]) W4 ∧ W4.heap[B + 1]? = some (R .ready none) ∧ W4.heap[B]? = some (.deferred (some []))) ∧ Kp W W4) ∨
          (Ending.returned b = .returned (.bool false) ∧ ∃ c, Ix c (pre ++ [x]) W4 ∧ W4.heap[B + 1]? = some (R .done (some c)) ∧ W4.heap[B]? = some (.deferred (some [])))) := by
      intro c W3 hk3 hx
      obtain ⟨e1, -, e3, e4⟩ := ends (some c) W3 hk3
      exact ⟨_, _, e1, .inr ⟨rfl, c, hIx _ _ _ _ hx (below_turn (by omega) _ _), e3, e4⟩⟩
    rintro e a3 W3 hp
    cases e with
    | normal =>
      obtain ⟨hk3, hkp3, hi3⟩ := hp
      obtain ⟨e1, e2, e3, e4⟩ := ends none W3 hk3
      exact ⟨_, _, e1, .inl ⟨rfl, ⟨hI _ _ _ hi3 (below_turn (by omega) _ _), e3, e4⟩, hKt hkp (hKt (hKt hk2 hkp3) (hKb _ _ _ _ (by omega) e2 rfl))⟩⟩
    | ret => exact leaves _ _ hp.1 hp.2
    | exit id => exact leaves _ _ hp.1 hp.2
    | goto t => exact leaves _ _ hp.1 hp.2
    | panic ch => exact hp.elim
    | outgrown => exact hp.elim
  · rintro e W2 ⟨⟨v, rfl⟩, (⟨xs, hS, hi, hl, hd⟩ | ⟨pre, hSp, c, hi, hl, hd⟩)⟩
    · exact ⟨none, _, run_endLoop (P := P) hl (by simp), hdone _ xs _ (Nat.le_refl _) hS (hI _ _ _ hi (below_turn (by omega) _ _)) ((World.putObj_heap_other (by omega)).trans hd)⟩
    · exact ⟨some c, _, run_endLoop (P := P) hl (by simp), hstop _ c pre _ (Nat.le_refl _) hSp (hIx _ _ _ _ hi (below_turn (by omega) _ _)) ((World.putObj_heap_other (by omega)).trans hd)⟩
end
end Go.Proofs.Ytaigbhhmmdfdcaa
/- Scent, plainly: shops, batches, truths, and what the functions say of them. -/
namespace Go.Proofs.Ytaigbhhmmdfdcaa
structure Thing where
  name : ByteArray
  kind : Int
  limit : Int
  weak : Int
  fade : Int
instance : Inhabited Thing := ⟨⟨ByteArray.empty, 0, 0, 0, 0⟩⟩
structure Lot where
  name : ByteArray
  parts : List (Int × Int)
instance : Inhabited Lot := ⟨⟨ByteArray.empty, []⟩⟩
structure Shop where
  things : List Thing
  lots : List Lot
structure Bat where
  grams : List Int
  back : List Int
  added : List (Int × Int)
instance : Inhabited Bat := ⟨⟨[], [], []⟩⟩
structure Tru where
  lots : List (List Int)
  back : List (List Int)
  added : List Int

def outOne (lo hi n : Int) : Bool := decide (n < lo) || decide (hi < n)
def outB (lo hi : Int) (l : List Int) : Bool := l.any (outOne lo hi)
/-- A letter (its byte), after another one, that makes a string no name. -/
def badN (last c : Int) : Bool := (c != 45 && (decide (c < 97) || decide (122 < c))) || (c == 45 && last == 45)
def nameL : Int → List UInt8 → Bool
  | last, [] => last != 45
  | last, c :: cs => !badN last c.toNat && nameL c.toNat cs
/-- A string is a name. -/
def nameB (s : ByteArray) : Bool := nameL 45 s.data.toList && decide (s.size ≤ 20)

/-- The first thing with an error: its index and its error; else 0, 0. -/
def findE : List Int → Int → Int × Int
  | [], _ => (0, 0)
  | e :: es, i => if e = 0 then findE es (i + 1) else (i, e)
theorem findE_drop (es : List Int) (k : Nat) (h : k < es.length) (i : Int) : findE (es.drop k) i = if es.getD k 0 = 0 then findE (es.drop (k + 1)) (i + 1) else (i, es.getD k 0) := by
  rw [List.drop_eq_getElem_cons h, findE]
  simp [List.getD, h]
/-- The error of a range, of ranges, from 0 to a number. -/
def spanE (hi : Int) (p : Int × Int) : Int := if outB 0 hi [p.1, p.2] then 7 else if p.2 < p.1 then 2 else 0
def spansE (hi : Int) (l : List (Int × Int)) : Int := if l.any (fun p => outB 0 hi [p.1, p.2]) then 7 else if l.any (fun p => decide (p.2 < p.1)) then 2 else 0
def sameN (n m : ByteArray) : Bool := m.toList == n.toList
/-- The error of a thing, of a lot, among those before it. -/
def weakM (x : Thing) : Int := if x.kind = 0 then 100 else 0
def fadeM (x : Thing) : Int := if x.kind = 1 then 1000 else 0
def thingE (before : List Thing) (x : Thing) : Int :=
  if nameB x.name = false then 6 else if before.any (fun y => sameN x.name y.name) then 5 else if outOne 0 2 x.kind then 2
  else if outOne 0 1000000 x.limit || outOne 0 (weakM x) x.weak || outOne 0 (fadeM x) x.fade then 7 else 0
def lotE (many : Nat) (before : List Lot) (x : Lot) : Int :=
  if nameB x.name = false then 6 else if before.any (fun y => sameN x.name y.name) then 5 else if x.parts.length ≠ many then 3 else spansE 1000000 x.parts
def thingEs (s : Shop) : List Int := (List.range s.things.length).map fun i => thingE (s.things.take i) (s.things.getD i default)
def lotEs (s : Shop) : List Int := (List.range s.lots.length).map fun i => lotE s.things.length (s.lots.take i) (s.lots.getD i default)
/-- Check: part, place and error. -/
def checkV (s : Shop) : Int × Int × Int :=
  if outOne 1 5 s.things.length || outOne 1 6 s.lots.length then (1, 0, 3)
  else if (findE (thingEs s) 0).2 ≠ 0 then (2, (findE (thingEs s) 0).1, (findE (thingEs s) 0).2)
  else if (findE (lotEs s) 0).2 ≠ 0 then (3, (findE (lotEs s) 0).1, (findE (lotEs s) 0).2)
  else (0, 0, 0)
def checkE (s : Shop) : Int := (checkV s).2.2

/-- A sum, term by term. -/
def dot (f : Nat → Int) : Nat → Int
  | 0 => 0
  | n + 1 => dot f n + f n
def sumTo (l : List Int) (n : Nat) : Int := dot (fun i => l.getD i 0) n
def sumL (l : List Int) : Int := sumTo l l.length
def weightV (b : Bat) : Int := sumL b.grams + sumL b.back
/-- What the first batches take of a batch. -/
def takenV (l : List Bat) (i : Nat) (many : Nat) : Int := dot (fun k => (l.getD k default).back.getD i 0) many
/-- One end of a range. -/
def sd (e : Bool) (p : Int × Int) : Int := if e then p.2 else p.1
def partsV (w : Int) (p : Int × Int) : Int × Int := (min 1000000 (p.1 / w), min 1000000 ((p.2 + w - 1) / w))
def lotT (s : Shop) (b : Bat) (t : Nat) (e : Bool) (i : Nat) : Int := b.grams.getD i 0 * sd e ((s.lots.getD i default).parts.getD t (0, 0))
def backT (l : List Bat) (prev : List (List (Int × Int))) (b : Bat) (t : Nat) (e : Bool) (i : Nat) : Int :=
  b.back.getD i 0 * sd e (partsV (weightV (l.getD i default)) ((prev.getD i []).getD t (0, 0)))
def cellS (s : Shop) (l : List Bat) (prev : List (List (Int × Int))) (b : Bat) (t : Nat) (e : Bool) : Int :=
  1000 * sd e (b.added.getD t (0, 0)) + dot (lotT s b t e) s.lots.length + dot (backT l prev b t e) b.back.length
def cellV (s : Shop) (l : List Bat) (prev : List (List (Int × Int))) (b : Bat) (t : Nat) : Int × Int := (cellS s l prev b t false, cellS s l prev b t true)
def rowV (s : Shop) (l : List Bat) (prev : List (List (Int × Int))) (b : Bat) : List (Int × Int) := (List.range s.things.length).map (cellV s l prev b)
/-- The ranges of the first batches. -/
def rowsV (s : Shop) (l : List Bat) : Nat → List (List (Int × Int))
  | 0 => []
  | k + 1 => rowsV s l k ++ [rowV s l (rowsV s l k) (l.getD k default)]
def rangesV (s : Shop) (l : List Bat) : List (List (Int × Int)) := rowsV s l l.length
/-- The error of a batch behind valid ones: ahead of its weight, and whole. -/
def batchE0 (s : Shop) (l : List Bat) (k : Nat) : Int :=
  if (l.getD k default).grams.length ≠ s.lots.length ∨ k < (l.getD k default).back.length ∨ (l.getD k default).added.length ≠ s.things.length then 3
  else if outB 0 100000 (l.getD k default).grams || outB 0 100000 (l.getD k default).back then 7 else spansE 10000000 (l.getD k default).added
def overB (l : List Bat) (k many : Nat) : Bool := (List.range many).any fun i => decide (weightV (l.getD i default) < takenV l i (k + 1))
def batchE (s : Shop) (l : List Bat) (k : Nat) : Int :=
  if batchE0 s l k ≠ 0 then batchE0 s l k else if weightV (l.getD k default) = 0 then 8 else if overB l k k then 9 else 0
/-- The error of a shop and batches. -/
def batchEs (s : Shop) (l : List Bat) : List Int := (List.range l.length).map (batchE s l)
def batchesE (s : Shop) (l : List Bat) : Int :=
  if checkE s ≠ 0 then checkE s else if outOne 1 6 l.length then 3 else (findE (batchEs s l) 0).2
/-- A truth of a batch. -/
def truthIn (s : Shop) (l : List Bat) (prev : List (List (Int × Int))) (b : Bat) (x : Tru) (t : Nat) : Bool :=
  !outOne (b.added.getD t (0, 0)).1 (b.added.getD t (0, 0)).2 (x.added.getD t 0) &&
  (List.range s.lots.length).all (fun i => !outOne ((s.lots.getD i default).parts.getD t (0, 0)).1 ((s.lots.getD i default).parts.getD t (0, 0)).2 ((x.lots.getD i []).getD t 0)) &&
  (List.range b.back.length).all (fun i => !outOne (partsV (weightV (l.getD i default)) ((prev.getD i []).getD t (0, 0))).1 (partsV (weightV (l.getD i default)) ((prev.getD i []).getD t (0, 0))).2 ((x.back.getD i []).getD t 0))
def lensB (s : Shop) (b : Bat) (x : Tru) : Bool :=
  decide (x.lots.length = s.lots.length) && x.lots.all (fun y => decide (y.length = s.things.length)) && decide (x.back.length = b.back.length) && x.back.all (fun y => decide (y.length = s.things.length)) && decide (x.added.length = s.things.length)
def truthE (s : Shop) (l : List Bat) (k : Nat) (x : Tru) : Int :=
  if lensB s (l.getD k default) x = false then 3 else if (List.range s.things.length).all (truthIn s l (rangesV s l) (l.getD k default) x) then 0 else 7
def madeT (s : Shop) (b : Bat) (x : Tru) (t : Nat) : Int :=
  1000 * x.added.getD t 0 + dot (fun i => b.grams.getD i 0 * (x.lots.getD i []).getD t 0) s.lots.length + dot (fun i => b.back.getD i 0 * (x.back.getD i []).getD t 0) b.back.length
def madeE (s : Shop) (l : List Bat) (k : Int) (x : Tru) : Int :=
  if batchesE s l ≠ 0 then batchesE s l else if outOne 0 (l.length - 1) k then 4 else truthE s l k.toNat x
def madeV (s : Shop) (l : List Bat) (k : Int) (x : Tru) : List Int :=
  if madeE s l k x ≠ 0 then [] else (List.range s.things.length).map (madeT s (l.getD k.toNat default) x)
def contentV (s : Shop) (l : List Bat) : List (List (Int × Int)) := if batchesE s l ≠ 0 then [] else rangesV s l
def leftV (s : Shop) (l : List Bat) : List Int := if batchesE s l ≠ 0 then [] else (List.range l.length).map fun k => weightV (l.getD k default) - takenV l k l.length
/-- The first thing of a batch, and the first batch, above a limit. -/
def aboveB (s : Shop) (b : Bat) (row : List (Int × Int)) (t : Nat) : Bool := decide ((s.things.getD t default).limit * weightV b < (row.getD t (0, 0)).2)
def firstOf (f : Nat → Bool) : Nat → Option Nat
  | 0 => none
  | n + 1 => match firstOf f n with
    | some i => some i
    | none => if f n then some n else none
def keepsT (s : Shop) (l : List Bat) (k : Nat) : Option Nat := firstOf (aboveB s (l.getD k default) ((rangesV s l).getD k [])) s.things.length
def keepsTo (s : Shop) (l : List Bat) : Nat → Int × Int
  | 0 => (-1, -1)
  | k + 1 => if (keepsTo s l k).1 = -1 then (match keepsT s l k with | some t => ((k : Int), (t : Int)) | none => (-1, -1)) else keepsTo s l k
def keepsV (s : Shop) (l : List Bat) : Int × Int × Int := if batchesE s l ≠ 0 then (0, 0, batchesE s l) else ((keepsTo s l l.length).1, (keepsTo s l l.length).2, 0)
/-- How many grams more. -/
def takeStep (limit weight : Int) (m p : Int × Int) (g : Int × Int) : Int × Int :=
  if 0 < p.2 - limit then (g.1, min g.2 ((limit * weight - m.2) / (p.2 - limit)))
  else if p.2 - limit < 0 then (max g.1 (-((limit * weight - m.2) / (limit - p.2))), g.2)
  else if limit * weight - m.2 < 0 then (g.1, -1) else g
def takeTo (s : Shop) (b : Bat) (row : List (Int × Int)) (lot : Nat) : Nat → Int × Int
  | 0 => (0, 100000 - b.grams.getD lot 0)
  | t + 1 => takeStep (s.things.getD t default).limit (weightV b) (row.getD t (0, 0)) ((s.lots.getD lot default).parts.getD t (0, 0)) (takeTo s b row lot t)
def takeV (s : Shop) (l : List Bat) (lot : Int) : (Int × Int) × Int :=
  if batchesE s l ≠ 0 then ((0, 0), batchesE s l) else if outOne 0 (s.lots.length - 1) lot then ((0, 0), 4)
  else if (takeTo s (l.getD (l.length - 1) default) ((rangesV s l).getD (l.length - 1) []) lot.toNat s.things.length).2 < (takeTo s (l.getD (l.length - 1) default) ((rangesV s l).getD (l.length - 1) []) lot.toNat s.things.length).1 then ((0, 0), 9)
  else (takeTo s (l.getD (l.length - 1) default) ((rangesV s l).getD (l.length - 1) []) lot.toNat s.things.length, 0)
/-- What weakens a wick. -/
def weakS (s : Shop) (micro : Nat → Int) (n : Nat) : Int := dot (fun t => (s.things.getD t default).weak * micro t) n
def pullOf (s : Shop) (b : Bat) (row : List (Int × Int)) : Int × Int :=
  ((max 0 (1000 * (1000 * weightV b) - weakS s (fun t => (row.getD t (0, 0)).2) s.things.length)) / (1000 * weightV b),
   (max 0 (1000 * (1000 * weightV b) - weakS s (fun t => (row.getD t (0, 0)).1) s.things.length) + 1000 * weightV b - 1) / (1000 * weightV b))
def pullV (s : Shop) (l : List Bat) : List (Int × Int) :=
  if batchesE s l ≠ 0 then [] else (List.range l.length).map fun k => pullOf s (l.getD k default) ((rangesV s l).getD k [])
def paleB (fade micro weight shows days : Int) : Bool := decide (micro * max 0 (1000 - fade * days) < 1000 * weight * shows)
/-- The first day of some at which it is pale; if none, the day past MaxDay. -/
def paleV (fade micro weight shows : Int) : Int := match firstOf (fun d => paleB fade micro weight shows (d : Int)) 1001 with | some d => (d : Int) | none => 40001
def paleE (s : Shop) (l : List Bat) (dye shows : Int) : Int :=
  if batchesE s l ≠ 0 then batchesE s l else if outOne 0 (s.things.length - 1) dye then 4 else if (s.things.getD dye.toNat default).kind ≠ 1 then 2 else if outOne 0 1000000 shows then 7 else 0
def paleVV (s : Shop) (l : List Bat) (dye shows : Int) : Int × Int × Int :=
  if paleE s l dye shows ≠ 0 then (0, 0, paleE s l dye shows)
  else (paleV (s.things.getD dye.toNat default).fade (((rangesV s l).getD (l.length - 1) []).getD dye.toNat (0, 0)).1 (weightV (l.getD (l.length - 1) default)) shows,
    paleV (s.things.getD dye.toNat default).fade (((rangesV s l).getD (l.length - 1) []).getD dye.toNat (0, 0)).2 (weightV (l.getD (l.length - 1) default)) shows, 0)
end Go.Proofs.Ytaigbhhmmdfdcaa
/- Slices that read as lists: ints, ranges, things, lots, batches, lists of lists. -/
namespace Go.Proofs.Ytaigbhhmmdfdcaa
open Go.RowKit
theorem ret_bool {a b : Bool} (h : a = b) : Ending.returned (.bool a) = .returned (.bool b) := by rw [h]
theorem ret_int {k : IntKind} {a b : Int} (h : a = b) : Ending.returned (.int k a) = .returned (.int k b) := by rw [h]
/-- The slice value reads as these ints; its block lies below B. -/
def IntsIn (k : IntKind) (B : Nat) (w : World) (v : Value) (l : List Int) : Prop :=
  ∃ a c, v = .slice a l.length c ∧ l.length ≤ 1000000000000000 ∧ (l = [] ∨ ∃ b o, a = some ⟨b, o, none⟩ ∧ b < B ∧ ∀ i, i < l.length → w.cell? ⟨b, o + i, none⟩ = some (.int k (l.getD i 0)))
theorem IntsIn.below {k : IntKind} {B : Nat} {w w' : World} {v : Value} {l : List Int} (h : IntsIn k B w v l) (hb : Below B w w') : IntsIn k B w' v l := by
  obtain ⟨a, c, rfl, hl, h⟩ := h
  refine ⟨a, c, rfl, hl, ?_⟩
  rcases h with h | ⟨b, o, rfl, hbb, h⟩
  · exact .inl h
  · exact .inr ⟨b, o, rfl, hbb, fun i hi => (hb.cell (p := ⟨b, o + i, none⟩) hbb).trans (h i hi)⟩
theorem IntsIn.mono {k : IntKind} {B B' : Nat} {w : World} {v : Value} {l : List Int} (h : IntsIn k B w v l) (hb : B ≤ B') : IntsIn k B' w v l := by
  obtain ⟨a, c, rfl, hl, h⟩ := h
  refine ⟨a, c, rfl, hl, ?_⟩
  rcases h with h | ⟨b, o, rfl, hbb, h⟩
  · exact .inl h
  · exact .inr ⟨b, o, rfl, by omega, h⟩
theorem IntsIn.next {k : IntKind} {w w' : World} {v : Value} {l : List Int} (h : IntsIn k w.heap.size w v l) (hb : Below w.heap.size w w') : IntsIn k w'.heap.size w' v l := (h.below hb).mono hb.size
/-- How an element lies in the cells from a place on. -/
structure Rd (α : Type) where
  sz : Nat
  rd : Nat → World → Nat → Nat → α → Prop
  below : ∀ {B : Nat} {w w' : World} {b o : Nat} {x : α}, b < B → Below B w w' → rd B w b o x → rd B w' b o x
  mono : ∀ {B B' : Nat} {w : World} {b o : Nat} {x : α}, B ≤ B' → rd B w b o x → rd B' w b o x
/-- The slice value reads as this list. -/
def SlIn {α : Type} [Inhabited α] (R : Rd α) (B : Nat) (w : World) (v : Value) (l : List α) : Prop :=
  ∃ a c, v = .slice a l.length c ∧ l.length ≤ 1000000000000000 ∧ l.length ≤ c ∧ (l = [] ∨ ∃ b o, a = some ⟨b, o, none⟩ ∧ b < B ∧ ∀ i, i < l.length → R.rd B w b (o + i * R.sz) (l.getD i default))
section
variable {α : Type} [Inhabited α] {R : Rd α} {B B' : Nat} {w w' : World} {v : Value} {l : List α}
theorem SlIn.below (h : SlIn R B w v l) (hb : Below B w w') : SlIn R B w' v l := by
  obtain ⟨a, c, rfl, hl, hlc, h⟩ := h
  refine ⟨a, c, rfl, hl, hlc, ?_⟩
  rcases h with h | ⟨b, o, rfl, hbb, h⟩
  · exact .inl h
  · exact .inr ⟨b, o, rfl, hbb, fun i hi => R.below hbb hb (h i hi)⟩
theorem SlIn.mono (h : SlIn R B w v l) (hb : B ≤ B') : SlIn R B' w v l := by
  obtain ⟨a, c, rfl, hl, hlc, h⟩ := h
  refine ⟨a, c, rfl, hl, hlc, ?_⟩
  rcases h with h | ⟨b, o, rfl, hbb, h⟩
  · exact .inl h
  · exact .inr ⟨b, o, rfl, by omega, fun i hi => R.mono hb (h i hi)⟩
theorem SlIn.next (h : SlIn R w.heap.size w v l) (hb : Below w.heap.size w w') : SlIn R w'.heap.size w' v l := (h.below hb).mono hb.size
theorem SlIn.len (h : SlIn R B w v l) : l.length ≤ 1000000000000000 := by obtain ⟨a, c, rfl, hl, -⟩ := h; exact hl
/-- What lies at a place. -/
theorem SlIn.at (h : SlIn R B w v l) {i : Nat} (hi : i < l.length) : ∃ b o c, v = .slice (some ⟨b, o, none⟩) l.length c ∧ l.length ≤ c ∧ b < B ∧ R.rd B w b (o + i * R.sz) (l.getD i default) := by
  obtain ⟨a, c, rfl, hl, hlc, h⟩ := h
  rcases h with rfl | ⟨b, o, rfl, hbb, h⟩
  · simp at hi
  · exact ⟨b, o, c, rfl, hlc, hbb, h i hi⟩
theorem SlIn.at' {a : Option Addr} {n c : Nat} (h : SlIn R B w (.slice a n c) l) {i : Nat} (hi : i < l.length) : ∃ b o, a = some ⟨b, o, none⟩ ∧ b < B ∧ R.rd B w b (o + i * R.sz) (l.getD i default) := by
  obtain ⟨b, o, c', e, -, hbb, hh⟩ := h.at hi
  cases e
  exact ⟨b, o, rfl, hbb, hh⟩
/-- The first elements. -/
theorem SlIn.take {a : Option Addr} {n c : Nat} (h : SlIn R B w (.slice a n c) l) (i : Nat) (hi : i ≤ l.length) : SlIn R B w (.slice a i c) (l.take i) := by
  obtain ⟨a', c', he, hl, hlc, h⟩ := h
  cases he
  refine ⟨a, c, by rw [List.length_take]; congr 1; omega, by rw [List.length_take]; omega, by rw [List.length_take]; omega, ?_⟩
  rcases h with rfl | ⟨b, o, rfl, hbb, h⟩
  · exact .inl (by simp)
  · refine .inr ⟨b, o, rfl, hbb, fun k hk => ?_⟩
    rw [List.length_take] at hk
    have e : (l.take i).getD k default = l.getD k default := by
      simp only [List.getD_eq_getElem?_getD, List.getElem?_take]
      rw [if_pos (by omega)]
    rw [e]
    exact h k (by omega)
/-- A slice that is nothing. -/
theorem SlIn.nil {o : Option Addr} {c : Nat} (B : Nat) (w : World) : SlIn R B w (.slice o 0 c) ([] : List α) := ⟨o, c, rfl, by simp, Nat.zero_le _, .inl rfl⟩
end
def rdInt : Rd Int where
  sz := 1
  rd _ w b o x := w.cell? ⟨b, o, none⟩ = some (.int .i64 x)
  below hbb hb h := (hb.cell (p := ⟨_, _, none⟩) hbb).trans h
  mono _ h := h
def rdSpan : Rd (Int × Int) where
  sz := 2
  rd _ w b o x := w.cell? ⟨b, o, none⟩ = some (.int .i64 x.1) ∧ w.cell? ⟨b, o + 1, none⟩ = some (.int .i64 x.2)
  below hbb hb h := ⟨(hb.cell (p := ⟨_, _, none⟩) hbb).trans h.1, (hb.cell (p := ⟨_, _, none⟩) hbb).trans h.2⟩
  mono _ h := h
abbrev SpansIn := SlIn rdSpan
def rdThing : Rd Thing where
  sz := 5
  rd _ w b o x := w.cell? ⟨b, o, none⟩ = some (.string x.name) ∧ w.cell? ⟨b, o + 1, none⟩ = some (.int .i64 x.kind) ∧ w.cell? ⟨b, o + 2, none⟩ = some (.int .i64 x.limit) ∧
    w.cell? ⟨b, o + 3, none⟩ = some (.int .i64 x.weak) ∧ w.cell? ⟨b, o + 4, none⟩ = some (.int .i64 x.fade) ∧ x.name.size ≤ 1000000000000000
  below hbb hb h := ⟨(hb.cell (p := ⟨_, _, none⟩) hbb).trans h.1, (hb.cell (p := ⟨_, _, none⟩) hbb).trans h.2.1, (hb.cell (p := ⟨_, _, none⟩) hbb).trans h.2.2.1,
    (hb.cell (p := ⟨_, _, none⟩) hbb).trans h.2.2.2.1, (hb.cell (p := ⟨_, _, none⟩) hbb).trans h.2.2.2.2.1, h.2.2.2.2.2⟩
  mono _ h := h
def rdLot : Rd Lot where
  sz := 2
  rd B w b o x := w.cell? ⟨b, o, none⟩ = some (.string x.name) ∧ x.name.size ≤ 1000000000000000 ∧ ∃ v, w.cell? ⟨b, o + 1, none⟩ = some v ∧ SpansIn B w v x.parts
  below hbb hb h := by
    obtain ⟨h1, h2, v, h3, h4⟩ := h
    exact ⟨(hb.cell (p := ⟨_, _, none⟩) hbb).trans h1, h2, v, (hb.cell (p := ⟨_, _, none⟩) hbb).trans h3, h4.below hb⟩
  mono hb h := by
    obtain ⟨h1, h2, v, h3, h4⟩ := h
    exact ⟨h1, h2, v, h3, h4.mono hb⟩
/-- Three slices are a batch. -/
def BatAt (B : Nat) (w : World) (vg vb va : Value) (x : Bat) : Prop := IntsIn .i64 B w vg x.grams ∧ IntsIn .i64 B w vb x.back ∧ SpansIn B w va x.added
theorem BatAt.below {B : Nat} {w w' : World} {vg vb va : Value} {x : Bat} (h : BatAt B w vg vb va x) (hb : Below B w w') : BatAt B w' vg vb va x := ⟨h.1.below hb, h.2.1.below hb, h.2.2.below hb⟩
theorem BatAt.mono {B B' : Nat} {w : World} {vg vb va : Value} {x : Bat} (h : BatAt B w vg vb va x) (hb : B ≤ B') : BatAt B' w vg vb va x := ⟨h.1.mono hb, h.2.1.mono hb, h.2.2.mono hb⟩
theorem BatAt.next {w w' : World} {vg vb va : Value} {x : Bat} (h : BatAt w.heap.size w vg vb va x) (hb : Below w.heap.size w w') : BatAt w'.heap.size w' vg vb va x := (h.below hb).mono hb.size
def rdBat : Rd Bat where
  sz := 3
  rd B w b o x := ∃ vg vb va, w.cell? ⟨b, o, none⟩ = some vg ∧ w.cell? ⟨b, o + 1, none⟩ = some vb ∧ w.cell? ⟨b, o + 2, none⟩ = some va ∧ BatAt B w vg vb va x
  below hbb hb h := by
    obtain ⟨vg, vb, va, h1, h2, h3, h4⟩ := h
    exact ⟨vg, vb, va, (hb.cell (p := ⟨_, _, none⟩) hbb).trans h1, (hb.cell (p := ⟨_, _, none⟩) hbb).trans h2, (hb.cell (p := ⟨_, _, none⟩) hbb).trans h3, h4.below hb⟩
  mono hb h := by
    obtain ⟨vg, vb, va, h1, h2, h3, h4⟩ := h
    exact ⟨vg, vb, va, h1, h2, h3, h4.mono hb⟩
def rdInts : Rd (List Int) where
  sz := 1
  rd B w b o x := ∃ v, w.cell? ⟨b, o, none⟩ = some v ∧ IntsIn .i64 B w v x
  below hbb hb h := by
    obtain ⟨v, h1, h2⟩ := h
    exact ⟨v, (hb.cell (p := ⟨_, _, none⟩) hbb).trans h1, h2.below hb⟩
  mono hb h := by
    obtain ⟨v, h1, h2⟩ := h
    exact ⟨v, h1, h2.mono hb⟩
def rdSpans : Rd (List (Int × Int)) where
  sz := 1
  rd B w b o x := ∃ v, w.cell? ⟨b, o, none⟩ = some v ∧ SpansIn B w v x
  below hbb hb h := by
    obtain ⟨v, h1, h2⟩ := h
    exact ⟨v, (hb.cell (p := ⟨_, _, none⟩) hbb).trans h1, h2.below hb⟩
  mono hb h := by
    obtain ⟨v, h1, h2⟩ := h
    exact ⟨v, h1, h2.mono hb⟩
abbrev ThingsIn := SlIn rdThing
abbrev LotsIn := SlIn rdLot
abbrev BatsIn := SlIn rdBat
abbrev IntsLIn := SlIn rdInts
abbrev TableIn := SlIn rdSpans
/-- Two slices are a shop. -/
def ShopAt (B : Nat) (w : World) (vt vl : Value) (s : Shop) : Prop := ThingsIn B w vt s.things ∧ LotsIn B w vl s.lots
theorem ShopAt.below {B : Nat} {w w' : World} {vt vl : Value} {s : Shop} (h : ShopAt B w vt vl s) (hb : Below B w w') : ShopAt B w' vt vl s := ⟨h.1.below hb, h.2.below hb⟩
theorem ShopAt.mono {B B' : Nat} {w : World} {vt vl : Value} {s : Shop} (h : ShopAt B w vt vl s) (hb : B ≤ B') : ShopAt B' w vt vl s := ⟨h.1.mono hb, h.2.mono hb⟩
theorem ShopAt.next {w w' : World} {vt vl : Value} {s : Shop} (h : ShopAt w.heap.size w vt vl s) (hb : Below w.heap.size w w') : ShopAt w'.heap.size w' vt vl s := (h.below hb).mono hb.size
/-- Three slices are a truth. -/
def TruAt (B : Nat) (w : World) (vl vb va : Value) (x : Tru) : Prop := IntsLIn B w vl x.lots ∧ IntsLIn B w vb x.back ∧ IntsIn .i64 B w va x.added
theorem TruAt.below {B : Nat} {w w' : World} {vl vb va : Value} {x : Tru} (h : TruAt B w vl vb va x) (hb : Below B w w') : TruAt B w' vl vb va x := ⟨h.1.below hb, h.2.1.below hb, h.2.2.below hb⟩
theorem TruAt.mono {B B' : Nat} {w : World} {vl vb va : Value} {x : Tru} (h : TruAt B w vl vb va x) (hb : B ≤ B') : TruAt B' w vl vb va x := ⟨h.1.mono hb, h.2.1.mono hb, h.2.2.mono hb⟩
theorem TruAt.next {w w' : World} {vl vb va : Value} {x : Tru} (h : TruAt w.heap.size w vl vb va x) (hb : Below w.heap.size w w') : TruAt w'.heap.size w' vl vb va x := (h.below hb).mono hb.size
/-- The bounds of a world, through a call. -/
theorem bcell {W w1 : World} (hb : Below W.heap.size W w1) : (∀ b o, b < W.heap.size → w1.cell? ⟨b, o, none⟩ = W.cell? ⟨b, o, none⟩) ∧ (∀ b o, b < W.heap.size → w1.frozen? ⟨b, o, none⟩ = W.frozen? ⟨b, o, none⟩) :=
  ⟨fun b o h => hb.cell (p := ⟨b, o, none⟩) h, fun b o h => hb.frozen (p := ⟨b, o, none⟩) h⟩
end Go.Proofs.Ytaigbhhmmdfdcaa
/- Plain facts: sums, rows, valid batches. -/
namespace Go.Proofs.Ytaigbhhmmdfdcaa
theorem dot_bound (f : Nat → Int) (M : Int) : ∀ n, (∀ i, i < n → 0 ≤ f i ∧ f i ≤ M) → 0 ≤ dot f n ∧ dot f n ≤ n * M
  | 0, _ => by simp [dot]
  | n + 1, h => by
    have ih := dot_bound f M n (fun i hi => h i (by omega))
    have := h n (by omega)
    simp only [dot]
    refine ⟨by omega, ?_⟩
    push_cast
    rw [Int.add_mul, Int.one_mul]
    omega
theorem dot_congr {f g : Nat → Int} : ∀ {n}, (∀ i, i < n → f i = g i) → dot f n = dot g n
  | 0, _ => rfl
  | n + 1, h => by simp only [dot]; rw [dot_congr (fun i hi => h i (by omega)), h n (by omega)]
theorem dot_le {f g : Nat → Int} : ∀ {n}, (∀ i, i < n → f i ≤ g i) → dot f n ≤ dot g n
  | 0, _ => Int.le_refl _
  | n + 1, h => by
    have h1 := dot_le (n := n) (fun i hi => h i (by omega))
    have h2 := h n (by omega)
    simp only [dot]; omega
theorem outOne_false {lo hi n : Int} : outOne lo hi n = false ↔ lo ≤ n ∧ n ≤ hi := by
  unfold outOne
  simp
theorem outB_false {lo hi : Int} {l : List Int} : outB lo hi l = false ↔ ∀ i, i < l.length → lo ≤ l.getD i 0 ∧ l.getD i 0 ≤ hi := by
  unfold outB
  rw [List.any_eq_false]
  constructor
  · intro h i hi'
    have := h (l.getD i 0) (by rw [List.getD_eq_getElem?_getD, List.getElem?_eq_getElem hi']; simp)
    exact outOne_false.1 (by simpa using this)
  · intro h x hx
    obtain ⟨i, hi', rfl⟩ := List.mem_iff_getElem.1 hx
    have := h i hi'
    rw [List.getD_eq_getElem?_getD, List.getElem?_eq_getElem hi'] at this
    simpa using outOne_false.2 this
theorem spansE_zero {m : Int} {l : List (Int × Int)} (h : spansE m l = 0) : ∀ i, i < l.length → 0 ≤ (l.getD i (0, 0)).1 ∧ (l.getD i (0, 0)).1 ≤ (l.getD i (0, 0)).2 ∧ (l.getD i (0, 0)).2 ≤ m := by
  intro i hi
  unfold spansE at h
  have e : l.getD i (0, 0) = l[i] := by rw [List.getD_eq_getElem?_getD, List.getElem?_eq_getElem hi]; rfl
  rw [e]
  split at h
  · simp at h
  · rename_i h1
    split at h
    · simp at h
    · rename_i h2
      have h1' := List.any_eq_false.1 (Bool.eq_false_iff.2 h1) _ (List.getElem_mem hi)
      have h2' := List.any_eq_false.1 (Bool.eq_false_iff.2 h2) _ (List.getElem_mem hi)
      have h3 : outB 0 m [l[i].1, l[i].2] = false := by simpa using h1'
      have := outB_false.1 h3
      have a := this 0 (by simp)
      have b := this 1 (by simp)
      simp only [List.getD_cons_zero, List.getD_cons_succ, decide_eq_true_eq] at a b h2'
      omega
theorem findE_zero : ∀ {l : List Int} {i : Int}, (findE l i).2 = 0 ↔ ∀ e ∈ l, e = 0
  | [], _ => by simp [findE]
  | e :: es, i => by
    unfold findE
    by_cases h : e = 0
    · rw [if_pos h, findE_zero]
      simp [h]
    · rw [if_neg h]
      simp [h]
theorem map_range_zero {f : Nat → Int} {n : Nat} {i : Int} : (findE ((List.range n).map f) i).2 = 0 ↔ ∀ k, k < n → f k = 0 := by
  rw [findE_zero]
  simp
/-- A sound shop. -/
structure ShopOk (s : Shop) : Prop where
  nt1 : 1 ≤ s.things.length
  nt5 : s.things.length ≤ 5
  nl1 : 1 ≤ s.lots.length
  nl6 : s.lots.length ≤ 6
  kind : ∀ t, t < s.things.length → 0 ≤ (s.things.getD t default).kind ∧ (s.things.getD t default).kind ≤ 2
  limit : ∀ t, t < s.things.length → 0 ≤ (s.things.getD t default).limit ∧ (s.things.getD t default).limit ≤ 1000000
  weak : ∀ t, t < s.things.length → 0 ≤ (s.things.getD t default).weak ∧ (s.things.getD t default).weak ≤ 100
  weak0 : ∀ t, t < s.things.length → (s.things.getD t default).kind ≠ 0 → (s.things.getD t default).weak = 0
  fade : ∀ t, t < s.things.length → 0 ≤ (s.things.getD t default).fade ∧ (s.things.getD t default).fade ≤ 1000
  plen : ∀ i, i < s.lots.length → (s.lots.getD i default).parts.length = s.things.length
  part : ∀ i, i < s.lots.length → ∀ t, 0 ≤ ((s.lots.getD i default).parts.getD t (0, 0)).1 ∧ ((s.lots.getD i default).parts.getD t (0, 0)).1 ≤ ((s.lots.getD i default).parts.getD t (0, 0)).2 ∧ ((s.lots.getD i default).parts.getD t (0, 0)).2 ≤ 1000000
theorem spans_all {m : Int} (hm : 0 ≤ m) {l : List (Int × Int)} (h : spansE m l = 0) (t : Nat) : 0 ≤ (l.getD t (0, 0)).1 ∧ (l.getD t (0, 0)).1 ≤ (l.getD t (0, 0)).2 ∧ (l.getD t (0, 0)).2 ≤ m := by
  by_cases ht : t < l.length
  · exact spansE_zero h t ht
  · have : l.getD t (0, 0) = (0, 0) := by rw [List.getD_eq_getElem?_getD, List.getElem?_eq_none (by omega)]; rfl
    rw [this]
    simp [hm]
theorem checkE_cases (s : Shop) (h : checkE s = 0) : (outOne 1 5 s.things.length = false ∧ outOne 1 6 s.lots.length = false) ∧ (∀ k, k < s.things.length → thingE (s.things.take k) (s.things.getD k default) = 0) ∧
    (∀ k, k < s.lots.length → lotE s.things.length (s.lots.take k) (s.lots.getD k default) = 0) := by
  unfold checkE checkV at h
  split at h
  · simp at h
  · rename_i h1
    split at h
    · rename_i h2; exact absurd h h2
    · rename_i h2
      split at h
      · rename_i h3; exact absurd h h3
      · rename_i h3
        refine ⟨by simpa using h1, map_range_zero.1 (by simpa [thingEs] using h2), map_range_zero.1 (by simpa [lotEs] using h3)⟩
theorem thingE_zero {bef : List Thing} {x : Thing} (h : thingE bef x = 0) : (0 ≤ x.kind ∧ x.kind ≤ 2) ∧ (0 ≤ x.limit ∧ x.limit ≤ 1000000) ∧ (0 ≤ x.weak ∧ x.weak ≤ weakM x) ∧ (0 ≤ x.fade ∧ x.fade ≤ fadeM x) := by
  unfold thingE at h
  split at h
  · simp at h
  split at h
  · simp at h
  split at h
  · simp at h
  split at h
  · simp at h
  rename_i h1 h2
  simp only [Bool.or_eq_true, not_or, Bool.not_eq_true] at h1 h2
  exact ⟨outOne_false.1 h1, outOne_false.1 h2.1.1, outOne_false.1 h2.1.2, outOne_false.1 h2.2⟩
theorem lotE_zero {many : Nat} {bef : List Lot} {x : Lot} (h : lotE many bef x = 0) : x.parts.length = many ∧ spansE 1000000 x.parts = 0 := by
  unfold lotE at h
  split at h
  · simp at h
  split at h
  · simp at h
  split at h
  · simp at h
  rename_i h1
  exact ⟨by simpa using h1, h⟩
theorem shop_ok {s : Shop} (h : checkE s = 0) : ShopOk s := by
  obtain ⟨⟨h1, h2⟩, h3, h4⟩ := checkE_cases s h
  have h1 := outOne_false.1 h1
  have h2 := outOne_false.1 h2
  refine ⟨by omega, by omega, by omega, by omega, fun t ht => (thingE_zero (h3 t ht)).1, fun t ht => (thingE_zero (h3 t ht)).2.1, fun t ht => ?_, fun t ht hk => ?_, fun t ht => ?_, fun i hi => (lotE_zero (h4 i hi)).1, fun i hi t => spans_all (by omega) (lotE_zero (h4 i hi)).2 t⟩
  · have := (thingE_zero (h3 t ht)).2.2.1
    unfold weakM at this
    split at this <;> omega
  · have := (thingE_zero (h3 t ht)).2.2.1
    unfold weakM at this
    rw [if_neg hk] at this
    omega
  · have := (thingE_zero (h3 t ht)).2.2.2
    unfold fadeM at this
    split at this <;> omega
/-- A sound batch, ahead of its weight. -/
structure BatOk0 (s : Shop) (l : List Bat) (k : Nat) : Prop where
  glen : (l.getD k default).grams.length = s.lots.length
  blen : (l.getD k default).back.length ≤ k
  alen : (l.getD k default).added.length = s.things.length
  gram : ∀ i, 0 ≤ (l.getD k default).grams.getD i 0 ∧ (l.getD k default).grams.getD i 0 ≤ 100000
  back : ∀ i, 0 ≤ (l.getD k default).back.getD i 0 ∧ (l.getD k default).back.getD i 0 ≤ 100000
  add : ∀ t, 0 ≤ ((l.getD k default).added.getD t (0, 0)).1 ∧ ((l.getD k default).added.getD t (0, 0)).1 ≤ ((l.getD k default).added.getD t (0, 0)).2 ∧ ((l.getD k default).added.getD t (0, 0)).2 ≤ 10000000
theorem ints_all {m : Int} (hm : 0 ≤ m) {l : List Int} (h : outB 0 m l = false) (i : Nat) : 0 ≤ l.getD i 0 ∧ l.getD i 0 ≤ m := by
  by_cases hi : i < l.length
  · exact outB_false.1 h i hi
  · have : l.getD i 0 = 0 := by rw [List.getD_eq_getElem?_getD, List.getElem?_eq_none (by omega)]; rfl
    rw [this]; omega
theorem bat_ok0 {s : Shop} {l : List Bat} {k : Nat} (h : batchE0 s l k = 0) : BatOk0 s l k := by
  unfold batchE0 at h
  split at h
  · simp at h
  split at h
  · simp at h
  rename_i h1 h2
  simp only [not_or, Nat.not_lt, Decidable.not_not, ne_eq] at h1
  simp only [Bool.or_eq_true, not_or, Bool.not_eq_true] at h2
  exact ⟨h1.1, h1.2.1, h1.2.2, ints_all (by omega) h2.1, ints_all (by omega) h2.2, spans_all (by omega) h⟩
theorem batchE_zero {s : Shop} {l : List Bat} {k : Nat} (h : batchE s l k = 0) : batchE0 s l k = 0 ∧ weightV (l.getD k default) ≠ 0 ∧ overB l k k = false := by
  unfold batchE at h
  split at h
  · rename_i h1; exact absurd h h1
  split at h
  · simp at h
  split at h
  · simp at h
  rename_i h1 h2 h3
  exact ⟨by simpa using h1, h2, by simpa using h3⟩
theorem sumTo_bound {l : List Int} {m : Int} (h : ∀ i, 0 ≤ l.getD i 0 ∧ l.getD i 0 ≤ m) (n : Nat) : 0 ≤ sumTo l n ∧ sumTo l n ≤ n * m := dot_bound _ m n fun i _ => h i
theorem weight_bound {s : Shop} (hs : ShopOk s) {l : List Bat} {k : Nat} (hk : k ≤ 6) (h : BatOk0 s l k) : 0 ≤ weightV (l.getD k default) ∧ weightV (l.getD k default) ≤ 1200000 := by
  have h1 := sumTo_bound h.gram (l.getD k default).grams.length
  have h2 := sumTo_bound h.back (l.getD k default).back.length
  have h3 := h.glen
  have h4 := h.blen
  have h5 := hs.nl6
  unfold weightV sumL
  omega
theorem rowsV_length (s : Shop) (l : List Bat) : ∀ k, (rowsV s l k).length = k
  | 0 => rfl
  | k + 1 => by simp [rowsV, rowsV_length s l k]
theorem rowsV_last (s : Shop) (l : List Bat) (k : Nat) : (rowsV s l (k + 1)).getD k [] = rowV s l (rowsV s l k) (l.getD k default) := by
  simp [rowsV, List.getD_eq_getElem?_getD, rowsV_length]
theorem rowsV_get (s : Shop) (l : List Bat) {i : Nat} : ∀ {k : Nat}, i < k → (rowsV s l k).getD i [] = (rowsV s l (i + 1)).getD i []
  | 0, h => by omega
  | k + 1, h => by
    by_cases he : i = k
    · subst he; rfl
    · rw [← rowsV_get s l (show i < k by omega)]
      simp only [rowsV, List.getD_eq_getElem?_getD]
      rw [List.getElem?_append_left (by rw [rowsV_length]; omega)]
/-- The range of a thing in a batch. -/
def micV (s : Shop) (l : List Bat) (i : Nat) : Nat → Int × Int := fun t => ((rangesV s l).getD i []).getD t (0, 0)
def parV (s : Shop) (l : List Bat) (i : Nat) : Nat → Int × Int := fun t => partsV (weightV (l.getD i default)) (micV s l i t)
theorem rangesV_get (s : Shop) (l : List Bat) {i k : Nat} (hi : i < k) (hk : k ≤ l.length) : (rowsV s l k).getD i [] = (rangesV s l).getD i [] := by
  unfold rangesV
  rw [rowsV_get s l hi, rowsV_get s l (Nat.lt_of_lt_of_le hi hk)]
theorem micV_eq (s : Shop) (l : List Bat) {k : Nat} (hk : k < l.length) (t : Nat) : micV s l k t = if t < s.things.length then cellV s l (rowsV s l k) (l.getD k default) t else (0, 0) := by
  unfold micV rangesV
  rw [rowsV_get s l hk, rowsV_last]
  unfold rowV
  by_cases h : t < s.things.length
  · rw [if_pos h, List.getD_eq_getElem?_getD, List.getElem?_map, List.getElem?_range h]; rfl
  · rw [if_neg h, List.getD_eq_getElem?_getD, List.getElem?_eq_none (by simpa using h)]; rfl
theorem backT_eq (s : Shop) (l : List Bat) {k : Nat} (hk : k ≤ l.length) (b : Bat) (t : Nat) (e : Bool) {i : Nat} (hi : i < k) : backT l (rowsV s l k) b t e i = b.back.getD i 0 * sd e (parV s l i t) := by
  unfold backT parV micV
  rw [rangesV_get s l hi hk]
/-- The micrograms while a batch is melted: first its lots, then what comes back. -/
def midA (s : Shop) (l : List Bat) (k i : Nat) : Nat → Int × Int := fun t => if t < s.things.length then
    (1000 * ((l.getD k default).added.getD t (0, 0)).1 + dot (lotT s (l.getD k default) t false) i, 1000 * ((l.getD k default).added.getD t (0, 0)).2 + dot (lotT s (l.getD k default) t true) i) else (0, 0)
def midB (s : Shop) (l : List Bat) (k i : Nat) : Nat → Int × Int := fun t => if t < s.things.length then
    (1000 * ((l.getD k default).added.getD t (0, 0)).1 + dot (lotT s (l.getD k default) t false) s.lots.length + dot (backT l (rowsV s l k) (l.getD k default) t false) i,
     1000 * ((l.getD k default).added.getD t (0, 0)).2 + dot (lotT s (l.getD k default) t true) s.lots.length + dot (backT l (rowsV s l k) (l.getD k default) t true) i) else (0, 0)
theorem midB_zero (s : Shop) (l : List Bat) (k : Nat) : midB s l k 0 = midA s l k s.lots.length := by
  funext t; unfold midA midB; simp [dot]
theorem midB_end (s : Shop) (l : List Bat) {k : Nat} (hk : k < l.length) : midB s l k (l.getD k default).back.length = micV s l k := by
  funext t
  rw [micV_eq s l hk]
  rfl
theorem sd_nonneg {p : Int × Int} {m : Int} (h : 0 ≤ p.1 ∧ p.1 ≤ p.2 ∧ p.2 ≤ m) (e : Bool) : 0 ≤ sd e p ∧ sd e p ≤ m := by
  unfold sd; split <;> omega
theorem mul_bound {a b A B : Int} (h1 : 0 ≤ a ∧ a ≤ A) (h2 : 0 ≤ b ∧ b ≤ B) : 0 ≤ a * b ∧ a * b ≤ A * B :=
  ⟨Int.mul_nonneg h1.1 h2.1, Int.mul_le_mul h1.2 h2.2 h2.1 (by omega)⟩
theorem lotT_bound {s : Shop} (hs : ShopOk s) {l : List Bat} {k : Nat} (h : BatOk0 s l k) (t : Nat) (e : Bool) {i : Nat} (hi : i < s.lots.length) : 0 ≤ lotT s (l.getD k default) t e i ∧ lotT s (l.getD k default) t e i ≤ 100000000000 := by
  have := mul_bound (h.gram i) (sd_nonneg (hs.part i hi t) e)
  unfold lotT
  omega
theorem parts_bound {w : Int} (hw : 0 < w) {p : Int × Int} (hp : 0 ≤ p.1 ∧ p.1 ≤ p.2) : 0 ≤ (partsV w p).1 ∧ (partsV w p).1 ≤ (partsV w p).2 ∧ (partsV w p).2 ≤ 1000000 := by
  unfold partsV
  have h1 : 0 ≤ p.1 / w := Int.ediv_nonneg hp.1 (by omega)
  have h2 : p.1 / w ≤ (p.2 + w - 1) / w := Int.ediv_le_ediv hw (by omega)
  simp only
  omega
/-- The first batches are sound. -/
def Prefix (s : Shop) (l : List Bat) (k : Nat) : Prop := ∀ j, j < k → batchE s l j = 0
theorem Prefix.pos {s : Shop} (hs : ShopOk s) {l : List Bat} (hl : l.length ≤ 6) {k : Nat} (h : Prefix s l k) (hk : k ≤ l.length) {i : Nat} (hi : i < k) : 0 < weightV (l.getD i default) ∧ weightV (l.getD i default) ≤ 1200000 := by
  obtain ⟨h1, h2, -⟩ := batchE_zero (h i hi)
  have := weight_bound hs (show i ≤ 6 by omega) (bat_ok0 h1)
  omega
/-- The ranges are in order, and fit. -/
theorem mic_bound {s : Shop} (hs : ShopOk s) {l : List Bat} (hl : l.length ≤ 6) : ∀ (k : Nat), Prefix s l k → k < l.length → BatOk0 s l k →
    (∀ i t, i ≤ s.lots.length → 0 ≤ (midA s l k i t).1 ∧ (midA s l k i t).1 ≤ (midA s l k i t).2 ∧ (midA s l k i t).2 ≤ 1000000000000) ∧
    (∀ i t, i ≤ (l.getD k default).back.length → 0 ≤ (midB s l k i t).1 ∧ (midB s l k i t).1 ≤ (midB s l k i t).2 ∧ (midB s l k i t).2 ≤ 2000000000000) := by
  intro k
  induction k using Nat.strongRecOn with
  | _ k ih =>
    intro hp hk hb
    have A : ∀ i t, i ≤ s.lots.length → 0 ≤ (midA s l k i t).1 ∧ (midA s l k i t).1 ≤ (midA s l k i t).2 ∧ (midA s l k i t).2 ≤ 1000000000000 := by
      intro i t hi
      unfold midA
      split
      · have h1 := dot_bound (lotT s (l.getD k default) t false) 100000000000 i (fun j hj => lotT_bound hs hb t false (by omega))
        have h2 := dot_bound (lotT s (l.getD k default) t true) 100000000000 i (fun j hj => lotT_bound hs hb t true (by omega))
        have h3 : dot (lotT s (l.getD k default) t false) i ≤ dot (lotT s (l.getD k default) t true) i := dot_le fun j hj => by
          have hp := hs.part j (by omega) t
          exact Int.mul_le_mul_of_nonneg_left (by simpa [sd] using hp.2.1) (hb.gram j).1
        have h4 := hb.add t
        have h5 := hs.nl6
        simp only
        omega
      · simp
    refine ⟨A, fun i t hi => ?_⟩
    have PB : ∀ j, j < k → ∀ t, 0 ≤ (parV s l j t).1 ∧ (parV s l j t).1 ≤ (parV s l j t).2 ∧ (parV s l j t).2 ≤ 1000000 := by
      intro j hj t
      have hbj := bat_ok0 (batchE_zero (hp j hj)).1
      have := (ih j hj (fun i hi => hp i (by omega)) (by omega) hbj).2 _ t (Nat.le_refl _)
      rw [midB_end s l (by omega)] at this
      exact parts_bound (hp.pos hs hl (by omega) hj).1 ⟨this.1, this.2.1⟩
    unfold midB
    have hA := A s.lots.length t (Nat.le_refl _)
    unfold midA at hA
    split
    · rename_i ht
      rw [if_pos ht] at hA
      have hbl := hb.blen
      have e : ∀ e j, j < i → backT l (rowsV s l k) (l.getD k default) t e j = (l.getD k default).back.getD j 0 * sd e (parV s l j t) := fun e j hj => backT_eq s l (by omega) _ t e (by omega)
      have hbd : ∀ e j, j < i → 0 ≤ backT l (rowsV s l k) (l.getD k default) t e j ∧ backT l (rowsV s l k) (l.getD k default) t e j ≤ 100000000000 := by
        intro e' j hj
        rw [e e' j hj]
        have := mul_bound (hb.back j) (sd_nonneg (PB j (by omega) t) e')
        omega
      have h1 := dot_bound _ 100000000000 i (hbd false)
      have h2 := dot_bound _ 100000000000 i (hbd true)
      have h3 : dot (backT l (rowsV s l k) (l.getD k default) t false) i ≤ dot (backT l (rowsV s l k) (l.getD k default) t true) i := dot_le fun j hj => by
        rw [e _ j hj, e _ j hj]
        exact Int.mul_le_mul_of_nonneg_left (by simpa [sd] using (PB j (by omega) t).2.1) (hb.back j).1
      simp only at hA ⊢
      omega
    · simp
theorem mic_ok {s : Shop} (hs : ShopOk s) {l : List Bat} (hl : l.length ≤ 6) {k : Nat} (hp : Prefix s l (k + 1)) (hk : k < l.length) (t : Nat) : 0 ≤ (micV s l k t).1 ∧ (micV s l k t).1 ≤ (micV s l k t).2 ∧ (micV s l k t).2 ≤ 2000000000000 := by
  have hb := bat_ok0 (batchE_zero (hp k (by omega))).1
  have := (mic_bound hs hl k (fun i hi => hp i (by omega)) hk hb).2 _ t (Nat.le_refl _)
  rwa [midB_end s l hk] at this
theorem par_ok {s : Shop} (hs : ShopOk s) {l : List Bat} (hl : l.length ≤ 6) {k : Nat} (hp : Prefix s l k) (hk : k ≤ l.length) {i : Nat} (hi : i < k) (t : Nat) : 0 ≤ (parV s l i t).1 ∧ (parV s l i t).1 ≤ (parV s l i t).2 ∧ (parV s l i t).2 ≤ 1000000 := by
  have := mic_ok hs hl (fun j hj => hp j (by omega)) (show i < l.length by omega) t
  exact parts_bound (hp.pos hs hl hk hi).1 ⟨this.1, this.2.1⟩
end Go.Proofs.Ytaigbhhmmdfdcaa
/- Plain facts: what is taken of a batch. -/
namespace Go.Proofs.Ytaigbhhmmdfdcaa
theorem back_bound {s : Shop} {l : List Bat} {k : Nat} (hp : Prefix s l k) {m : Nat} (hm : m < k) (i : Nat) : 0 ≤ (l.getD m default).back.getD i 0 ∧ (l.getD m default).back.getD i 0 ≤ 100000 :=
  (bat_ok0 (batchE_zero (hp m hm)).1).back i
theorem taken_nonneg {s : Shop} {l : List Bat} {k : Nat} (hp : Prefix s l k) (i : Nat) : 0 ≤ takenV l i k ∧ takenV l i k ≤ k * 100000 :=
  dot_bound _ 100000 k fun _ hm => back_bound hp hm i
theorem back_none {l : List Bat} {m : Nat} {i : Nat} (hi : (l.getD m default).back.length ≤ i) : (l.getD m default).back.getD i 0 = 0 := by
  rw [List.getD_eq_getElem?_getD, List.getElem?_eq_none hi]; rfl
theorem dot_zero {f : Nat → Int} : ∀ {n}, (∀ i, i < n → f i = 0) → dot f n = 0
  | 0, _ => rfl
  | n + 1, h => by simp only [dot]; rw [dot_zero (fun i hi => h i (by omega)), h n (by omega)]; rfl
/-- Of a batch is not taken more than it weighs. -/
theorem taken_le {s : Shop} (hs : ShopOk s) {l : List Bat} (hl : l.length ≤ 6) {k : Nat} (hp : Prefix s l k) (hk : k ≤ l.length) {i : Nat} (hi : i < k) : takenV l i k ≤ weightV (l.getD i default) := by
  obtain ⟨m, rfl⟩ : ∃ m, k = m + 1 := ⟨k - 1, by omega⟩
  by_cases him : i < m
  · have h := (batchE_zero (hp m (by omega))).2.2
    unfold overB at h
    have := List.any_eq_false.1 h i (List.mem_range.2 him)
    simpa using this
  · obtain rfl : i = m := by omega
    have h0 : takenV l i (i + 1) = 0 := dot_zero fun j hj => back_none (by have := (bat_ok0 (batchE_zero (hp j hj)).1).blen; omega)
    rw [h0]
    have := hp.pos hs hl hk hi
    omega
theorem over_all {s : Shop} (hs : ShopOk s) {l : List Bat} (hl : l.length ≤ 6) {k : Nat} (hp : Prefix s l k) (hk : k < l.length) (hb : BatOk0 s l k) : overB l k (l.getD k default).back.length = overB l k k := by
  have hbl := hb.blen
  unfold overB
  rw [Bool.eq_iff_iff]
  simp only [List.any_eq_true, List.mem_range, decide_eq_true_eq]
  constructor
  · rintro ⟨i, hi, h⟩
    exact ⟨i, by omega, h⟩
  · rintro ⟨i, hi, h⟩
    refine ⟨i, ?_, h⟩
    by_cases hc : i < (l.getD k default).back.length
    · exact hc
    · exfalso
      have h1 : takenV l i (k + 1) = takenV l i k + (l.getD k default).back.getD i 0 := rfl
      rw [back_none (by omega)] at h1
      have := taken_le hs hl hp (by omega) hi
      omega
end Go.Proofs.Ytaigbhhmmdfdcaa
/- Plain facts: the first of some, what is above a limit. -/
namespace Go.Proofs.Ytaigbhhmmdfdcaa
theorem firstOf_some {f : Nat → Bool} {t : Nat} (h0 : firstOf f t = none) (ht : f t = true) : ∀ {n : Nat}, t < n → firstOf f n = some t
  | 0, h => by omega
  | n + 1, h => by
    by_cases hn : t = n
    · subst hn; simp [firstOf, h0, ht]
    · simp [firstOf, firstOf_some h0 ht (show t < n by omega)]
theorem firstOf_none {f : Nat → Bool} : ∀ {n : Nat}, firstOf f n = none ↔ ∀ i, i < n → f i = false
  | 0 => by simp [firstOf]
  | n + 1 => by
    have ih := firstOf_none (f := f) (n := n)
    constructor
    · intro h i hi
      unfold firstOf at h
      cases hq : firstOf f n with
      | some j => simp [hq] at h
      | none =>
        simp only [hq] at h
        by_cases hin : i = n
        · subst hin
          by_cases hf : f i = true
          · simp [hf] at h
          · simpa using hf
        · exact ih.1 hq i (by omega)
    · intro h
      have := ih.2 (fun i hi => h i (by omega))
      simp [firstOf, this, h n (by omega)]
theorem firstOf_spec {f : Nat → Bool} : ∀ {n t : Nat}, firstOf f n = some t → t < n ∧ f t = true ∧ ∀ i, i < t → f i = false
  | 0, t, h => by simp [firstOf] at h
  | n + 1, t, h => by
    unfold firstOf at h
    cases hq : firstOf f n with
    | some j =>
      simp only [hq, Option.some.injEq] at h
      subst h
      have := firstOf_spec hq
      exact ⟨by omega, this.2⟩
    | none =>
      simp only [hq] at h
      by_cases hf : f n = true
      · simp only [hf, if_true, Option.some.injEq] at h
        subst h
        exact ⟨by omega, hf, fun i hi => firstOf_none.1 hq i hi⟩
      · simp [hf] at h
theorem keepsTo_next {s : Shop} {l : List Bat} {k : Nat} (h : keepsTo s l k = (-1, -1)) (hk : keepsT s l k = none) : keepsTo s l (k + 1) = (-1, -1) := by
  simp [keepsTo, h, hk]
theorem keepsTo_found {s : Shop} {l : List Bat} {k t : Nat} (h : keepsTo s l k = (-1, -1)) (hk : keepsT s l k = some t) : ∀ {n : Nat}, k < n → keepsTo s l n = ((k : Int), (t : Int))
  | 0, hn => by omega
  | n + 1, hn => by
    by_cases hkn : k = n
    · subst hkn; simp [keepsTo, h, hk]
    · have ih := keepsTo_found h hk (show k < n by omega)
      unfold keepsTo
      rw [ih, if_neg (by simp only; omega)]
/-- A batch of nothing is above no limit. -/
theorem keepsT_zero {s : Shop} (hs : ShopOk s) {l : List Bat} {k : Nat} (hw : 0 ≤ weightV (l.getD k default)) (h : ∀ t, t < 5 → (micV s l k t).2 = 0) : keepsT s l k = none := by
  unfold keepsT
  rw [firstOf_none]
  intro t ht
  have h5 := hs.nt5
  have h1 := h t (by omega)
  have h2 := hs.limit t ht
  unfold micV at h1
  unfold aboveB
  rw [h1]
  have := Int.mul_nonneg h2.1 hw
  exact decide_eq_false (by omega)
end Go.Proofs.Ytaigbhhmmdfdcaa
