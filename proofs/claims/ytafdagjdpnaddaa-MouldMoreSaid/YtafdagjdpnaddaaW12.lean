/- When rings set: the map that mould.when fills. -/
import Derived.Test.YtafdagjdpnaddaaW10
import Derived.Maps.OwnIn
import Derived.Maps.OwnOps
import Derived.Maps.RangeWalk
import Derived.WalkArith
namespace Go.Proofs.Ytafdagjdpnaddaa
open Go.RowKit Go.Shelf Go.Maps
section
variable {P : Program} {F : Fence} {nF : Nat} {ops : Array Oper} {rest : List Oper} {o : Oper} {a : Act} {w : World} {Q : Exit → Act → World → Prop}
theorem wpListIn_len_map (hg : o.guard = none) (m : Operand) (t : TypeId) (hop : o.op = Op.call { callee := Callee.builtin Builtin.len, args := #[m], argTypes := #[t] })
    (k e : TypeId) (ht : P.underlying t = some (.map k e)) (R : Value → Option (DataW Unit × List MemPlace)) (b n : Nat) (D : DataW Unit) (hm : a.eval m = .map (some b)) (hown : w.ownsMap P k R b n D)
    (hK : wpListIn F nF P ops Q rest (a.put o.dst (.int .i64 (Maps.size D))) w) : wpListIn F nF P ops Q (o :: rest) a w := by
  refine wpListIn_plain hg fun K' hK' => ?_
  unfold Oper.wpIn
  refine ⟨by simp [Oper.about, hop, resolve, Target.leads, Sem.run_pure], ?_⟩
  rw [Oper.semAt_plain F _ _ (by rw [hop]; intro c hc'; cases hc')]
  simp [execOp, hop, resolve, invoke, builtin, hm, hown.len ht o.type, Result.andThen]
  exact hK' _ _ hK
theorem wpListIn_range_map (hg : o.guard = none) (m : Operand) (t : TypeId) (hop : o.op = Op.range t m) (k e : TypeId) (K : Keyed P k) (ht : P.underlying t = some (.map k e)) (R : Value → Option (DataW Unit × List MemPlace)) (b n : Nat) (D : DataW Unit)
    (hm : a.eval m = .map (some b)) (hown : w.ownsMap P k R b n D)
    (hK : ∀ w', w'.ranges P k R b w.heap.size n D (Maps.has D) (Maps.size D) → w.grownBy w' none → w'.heap.size = w.heap.size + 1 → wpListIn F nF P ops Q rest (a.put o.dst (.pointer (some ⟨w.heap.size, 0, none⟩))) w') :
    wpListIn F nF P ops Q (o :: rest) a w := by
  refine wpListIn_plain hg fun K' hK' => ?_
  obtain ⟨w', hrun, r1, r2, r3⟩ := hown.range K ht
  unfold Oper.wpIn
  refine ⟨by simp [Oper.about, hop], ?_⟩
  rw [Oper.semAt_plain F _ _ (by rw [hop]; intro c hc'; cases hc')]
  simp [execOp, hop, hm, hrun, Result.andThen]
  exact hK' _ _ (hK w' r1 r2 r3)
end
/-- A minute. -/
abbrev Mi := { n : Nat // n < 601 }
def dayM (k : Nat) : Mi := if h : k < 601 then ⟨k, h⟩ else ⟨0, by omega⟩
theorem dayM_val {k : Nat} (h : k < 601) : (dayM k).1 = k := by unfold dayM; rw [dif_pos h]
/-- Ring i sets up to these minutes. -/
def stepW (m : Mou) (hot : Bool) (i : Nat) (acc : Int) (x : Mi) : Int := if acc < 0 ∧ (warmL m hot x.1).getD i 0 ≤ m.set then (x.1 : Int) else acc
def whenF (m : Mou) (hot : Bool) (pre : List Mi) (i : Nat) : Int := pre.foldl (stepW m hot i) (-1)
theorem whenF_snoc (m : Mou) (hot : Bool) (pre : List Mi) (x : Mi) (i : Nat) : whenF m hot (pre ++ [x]) i = stepW m hot i (whenF m hot pre i) x := by simp [whenF]
def setP (m : Mou) (hot : Bool) (i n : Nat) : Bool := decide ((warmL m hot n).getD i 0 ≤ m.set)
theorem whenF_up (m : Mou) (hot : Bool) (i : Nat) : ∀ k, k ≤ 601 → whenF m hot (upA dayM k) i = firstTo (setP m hot i) k
  | 0, _ => rfl
  | k + 1, h => by
    rw [upA_succ, whenF_snoc, whenF_up m hot i k (by omega), stepW, dayM_val (by omega)]
    simp only [firstTo, setP, decide_eq_true_eq]
theorem stepW_range {m : Mou} {hot : Bool} {i : Nat} {acc : Int} {x : Mi} (h : -1 ≤ acc ∧ acc ≤ 600) : -1 ≤ stepW m hot i acc x ∧ stepW m hot i acc x ≤ 600 := by
  unfold stepW
  have := x.2
  split <;> omega
theorem whenF_range (m : Mou) (hot : Bool) (i : Nat) (pre : List Mi) : -1 ≤ whenF m hot pre i ∧ whenF m hot pre i ≤ 600 := by
  unfold whenF
  have : ∀ (l : List Mi) (acc : Int), -1 ≤ acc ∧ acc ≤ 600 → -1 ≤ l.foldl (stepW m hot i) acc ∧ l.foldl (stepW m hot i) acc ≤ 600 := by
    intro l
    induction l with
    | nil => intro acc h; exact h
    | cons x l ih => intro acc h; exact ih _ (stepW_range h)
  exact this pre (-1) (by omega)
/-- How many of the first r are found. -/
def found (f : Nat → Int) : Nat → Nat
  | 0 => 0
  | r + 1 => found f r + if 0 ≤ f r then 1 else 0
theorem found_le (f : Nat → Int) : ∀ r, found f r ≤ r
  | 0 => Nat.le_refl _
  | r + 1 => by have := found_le f r; simp only [found]; split <;> omega
theorem found_all {f : Nat → Int} : ∀ {r : Nat}, found f r = r ↔ ∀ i, i < r → 0 ≤ f i
  | 0 => by simp [found]
  | r + 1 => by
    have h := found_le f r
    have ih := found_all (f := f) (r := r)
    simp only [found]
    constructor
    · intro e i hi
      by_cases hr : 0 ≤ f r
      · rw [if_pos hr] at e
        by_cases hir : i < r
        · exact ih.1 (by omega) i hir
        · obtain rfl : i = r := by omega
          exact hr
      · rw [if_neg hr] at e; omega
    · intro e
      rw [if_pos (e r (by omega)), ih.2 (fun i hi => e i (by omega))]
theorem found_congr {f g : Nat → Int} : ∀ {r : Nat}, (∀ i, i < r → f i = g i) → found f r = found g r
  | 0, _ => rfl
  | r + 1, h => by simp only [found]; rw [found_congr (fun i hi => h i (by omega)), h r (by omega)]
def putF (f : Nat → Int) (i : Nat) (x : Int) : Nat → Int := fun j => if j = i then x else f j
theorem found_put {f : Nat → Int} {i : Nat} {x : Int} (hx : 0 ≤ x) (hf : f i < 0) : ∀ {r : Nat}, i < r → found (putF f i x) r = found f r + 1
  | 0, h => by omega
  | r + 1, h => by
    simp only [found]
    by_cases hi : i = r
    · subst hi
      rw [found_congr (g := f) (fun j hj => by simp [putF, show j ≠ i by omega])]
      simp only [putF, if_true]
      rw [if_pos hx, if_neg (by omega)]
    · rw [found_put hx hf (r := r) (by omega)]
      have : putF f i x r = f r := by simp [putF, show r ≠ i by omega]
      rw [this]
      omega
theorem law3 : Keyed Try.prog 3 := int_keyed Try.underlying3
theorem zeroValue3 (w : World) : (zeroValue 3).run Try.prog w = .ok (.int .i64 0) w := by kernel_rfl
/-- The map holds when each of r rings has set. -/
def SetM (M r : Nat) (f : Nat → Int) (w : World) : Prop :=
  ∃ D : DataW Unit, w.ownsMap Try.prog 3 (plainElem Try.prog 3) M (found f r) D ∧ Tidy D ∧ Maps.size D = found f r ∧ (∀ i : Nat, i < r → Maps.has D (.int .i64 i) = decide (0 ≤ f i)) ∧
    (∀ i : Nat, i < r → 0 ≤ f i → ∀ z, D.atKey (.int .i64 i) z = .lit (.int .i64 (f i))) ∧ ∀ kl, Maps.has D kl = true → ∃ i : Nat, i < r ∧ kl = .int .i64 i
theorem SetM.start (w : World) (r : Nat) {f : Nat → Int} (hf : ∀ i, i < r → f i < 0) : SetM w.heap.size r f (w.alloc (.map #[] 0)) := by
  have h0 : found f r = 0 := by
    have : ∀ r, (∀ i, i < r → f i < 0) → found f r = 0 := by
      intro r
      induction r with
      | zero => intro _; rfl
      | succ r ih => intro h; simp only [found]; rw [ih (fun i hi => h i (by omega)), if_neg (by have := h r (by omega); omega)]
    exact this r hf
  refine ⟨.map [], by rw [h0]; exact World.ownsMap_made w _ _ _, tidy_empty, by rw [h0]; rfl, fun i hi => ?_, fun i hi h => ?_, fun kl h => by cases h⟩
  · have := hf i hi
    rw [show decide (0 ≤ f i) = false from decide_eq_false (by omega)]
    rfl
  · have := hf i hi; omega
theorem SetM.keep {M r : Nat} {f : Nat → Int} {w w' : World} (h : SetM M r f w) (hk : w'.heap[M]? = w.heap[M]?) : SetM M r f w' := by
  obtain ⟨D, ho, h⟩ := h
  obtain ⟨es, clock, hb, h2⟩ := ho
  exact ⟨D, ⟨es, clock, hk.trans hb, h2⟩, h⟩
theorem SetM.congr {M r : Nat} {f g : Nat → Int} {w : World} (h : SetM M r f w) (e : ∀ i, i < r → f i = g i) : SetM M r g w := by
  obtain ⟨D, ho, h1, h2, h3, h4, h5⟩ := h
  rw [found_congr e] at ho h2
  exact ⟨D, ho, h1, h2, fun i hi => by rw [← e i hi]; exact h3 i hi, fun i hi h0 => by rw [← e i hi] at h0 ⊢; exact h4 i hi h0, h5⟩
theorem keyI (i : Nat) (h : i ≤ 1000) : keyOf Try.prog 3 (.int .i64 (i : Int)) = some (.int .i64 (i : Int)) := keyOf_int_mk Try.underlying3 (WalkArith.wf_i64 (by omega))
theorem lit_ne {i j : Nat} (h : i ≠ j) : (Lit.int .i64 (i : Int)) ≠ .int .i64 (j : Int) := fun e => h (by injection e with _ e; omega)
/-- One more. -/
theorem SetM.put {M r : Nat} {f : Nat → Int} {w' : World} {D : DataW Unit} (hT : Tidy D) (hs : Maps.size D = found f r) (hh : ∀ i : Nat, i < r → Maps.has D (.int .i64 i) = decide (0 ≤ f i))
    (ha : ∀ i : Nat, i < r → 0 ≤ f i → ∀ z, D.atKey (.int .i64 i) z = .lit (.int .i64 (f i))) (hk : ∀ kl, Maps.has D kl = true → ∃ i : Nat, i < r ∧ kl = .int .i64 i) {i : Nat} {x : Int} (hi : i < r) (hx : 0 ≤ x) (hf : f i < 0)
    (h : w'.ownsMap Try.prog 3 (plainElem Try.prog 3) M (found f r + 1) (D.put (.int .i64 i) (.lit (.int .i64 x)))) : SetM M r (putF f i x) w' := by
  have hki : WideAt.IsKeyLit (Lit.int .i64 (i : Int)) := trivial
  refine ⟨_, by rw [found_put hx hf hi]; exact h, hT.put hki _, ?_, fun j hj => ?_, fun j hj h0 z => ?_, fun kl h => ?_⟩
  · rw [size_put hT, hh i hi, decide_eq_false (by omega), hs, found_put hx hf hi]
    rfl
  · by_cases e : j = i
    · subst e
      rw [has_put_same hT.isMap hki]
      simp [putF, hx]
    · rw [has_put_other (lit_ne e), hh j hj]
      simp [putF, e]
  · by_cases e : j = i
    · subst e
      rw [atKey_put_same hT.isMap hki]
      simp [putF]
    · rw [atKey_put_other (lit_ne e)]
      have hj' : putF f i x j = f j := by simp [putF, e]
      rw [hj'] at h0 ⊢
      exact ha j hj h0 z
  · by_cases e : kl = .int .i64 i
    · exact ⟨i, hi, e⟩
    · rw [has_put_other e] at h
      exact hk kl h
end Go.Proofs.Ytafdagjdpnaddaa
