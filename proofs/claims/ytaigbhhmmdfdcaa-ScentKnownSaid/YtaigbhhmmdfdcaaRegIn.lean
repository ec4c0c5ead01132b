/- The law for regions that draw their order, in a fence (for the body of a range over a function). -/
import Derived.Test.YtaigbhhmmdfdcaaReg
import Derived.RangeFuncNested
import Derived.RangeFuncBound
import Derived.RangeFuncCalls
import Derived.RangeFuncLeaves
import Derived.RangeFuncBox
import Derived.OwnWalkIn
import Derived.TacticsInMore
import Derived.LoopNIn
import Derived.LoopIn
namespace Go.Proofs.Ytaigbhhmmdfdcaa
open Go.RowKit
section
variable {P : Program} {Fe : Fence} {n : Nat}
/-- One operation, whose value the text's frame shows (F'), or whose value is private. -/
def ObOneIn (Fe : Fence) (n : Nat) (P : Program) (l : List Oper) (priv : List Tmp) (W : (Nat → Bool) → (Tmp → Value) → World → Prop) (i : Nat) (o : Oper) (F F' : (Tmp → Value) → Act) : Prop :=
  ((∀ D y w, W D y w → Due l D i → ∀ R : Exit → Act → World → Prop, (∀ w', W (fun k => k == i || D k) y w' → R .normal (F' y) w') → wpListIn Fe n P l.toArray R [o] (F y) w) ∧
    (∀ d, o.dst = some d → d ∉ priv) ∧ (∃ v, ∀ y, F' y = (F y).put o.dst v)) ∨
  (∃ d, o.dst = some d ∧ d ∈ priv ∧ F' = F ∧ (∀ D y w, W D y w → Due l D i → ∀ R : Exit → Act → World → Prop, (∀ x w', W (fun k => k == i || D k) (upd y d x) w' → R .normal (F (upd y d x)) w') → wpListIn Fe n P l.toArray R [o] (F y) w))

/-- What is owed for each operation, in the text's order. -/
def OblIn (Fe : Fence) (n : Nat) (P : Program) (l : List Oper) (priv : List Tmp) (W : (Nat → Bool) → (Tmp → Value) → World → Prop) (Q : Exit → Act → World → Prop) : Nat → List Oper → ((Tmp → Value) → Act) → Prop
  | _, [], F => ∀ D y w, (∀ k, k < l.length → D k = true) → W D y w → Q .normal (F y) w
  | i, o :: rest, F => ∃ F', ObOneIn Fe n P l priv W i o F F' ∧ OblIn Fe n P l priv W Q (i + 1) rest F'

theorem obl_framesIn {l : List Oper} {priv : List Tmp} {W : (Nat → Bool) → (Tmp → Value) → World → Prop} {Q : Exit → Act → World → Prop} : ∀ (rest : List Oper) (i : Nat) (F : (Tmp → Value) → Act), OblIn Fe n P l priv W Q i rest F →
    ∃ A : Nat → (Tmp → Value) → Act, A i = F ∧ (∀ k o, rest[k]? = some o → ObOneIn Fe n P l priv W (i + k) o (A (i + k)) (A (i + k + 1))) ∧ (∀ D y w, (∀ k, k < l.length → D k = true) → W D y w → Q .normal (A (i + rest.length) y) w)
  | [], i, F, h => ⟨fun _ => F, rfl, by simp, h⟩
  | o :: rest, i, F, ⟨F', h1, h3⟩ => by
    obtain ⟨A, hA, hk, hq⟩ := obl_framesIn rest (i + 1) F' h3
    refine ⟨fun m => if m = i then F else A m, by simp, ?_, ?_⟩
    · intro k u hu
      cases k with
      | zero =>
        simp only [List.getElem?_cons_zero, Option.some.injEq] at hu
        subst hu
        simp only [Nat.add_zero, if_true]
        rw [if_neg (by omega), hA]
        exact h1
      | succ k =>
        have := hk k u (by simpa using hu)
        dsimp only
        rw [if_neg (by omega), if_neg (by omega)]
        rw [show i + (k + 1) = i + 1 + k from by omega]
        exact this
    · rw [List.length_cons]
      dsimp only
      rw [if_neg (by omega), show i + (rest.length + 1) = i + 1 + rest.length from by omega]
      exact hq

theorem semAt_congr {ρ ρ' : Operand → Value} (ro : Option Nat) (o : Oper) (hs : ∀ cs b, o.op ≠ .select cs b) (h : ∀ x ∈ o.op.operands, ρ x = ρ' x) : Oper.semAt ro ρ o = Oper.semAt ro ρ' o := by
  unfold Oper.semAt
  cases ro with
  | none => exact execOp_congr o hs h
  | some l =>
    cases ho : o.op with
    | defer c =>
      simp only []
      rw [resolve_congr (ρ := ρ) (ρ' := ρ') c o.type (fun x hx => h x (by rw [ho]; simpa [Op.operands] using hx))]
    | _ => exact execOp_congr o hs h

/-- One operation, carried out in a frame that reads as another frame does. -/
theorem op_putIn {ops : Array Oper} {o : Oper} {a b : Act} {w : World} {S : Act → World → Prop} (hsel : ∀ cs x, o.op ≠ .select cs x) (hdef : ∀ b' w', S b' w' → b'.defers = b.defers)
    (hx : ∀ x ∈ o.op.operands, a.eval x = b.eval x) (hg : Region.wanted o (yielded ops a.tmps) = Region.wanted o (yielded ops b.tmps))
    (h : wpListIn Fe n P ops (fun e a' w' => e = .normal ∧ S a' w') [o] b w) (K : Act → World → Prop) (Q : Exit → Act → World → Prop)
    (hK : ∀ v w', S (b.put o.dst v) w' → K (a.put o.dst v) w') :
    if Region.wanted o (yielded ops a.tmps) then o.wpIn Fe n P a w K Q else (∀ f, o.about P w a.eval = some f → Fe.fn f) ∧ K (a.put o.dst undef) w := by
  simp only [wpListIn] at h
  rw [hg]
  by_cases hw : Region.wanted o (yielded ops b.tmps) = true
  · rw [if_pos hw] at h ⊢
    unfold Oper.wpIn at h ⊢
    rw [semAt_congr Fe.round o hsel (fun x hx' => hx x hx'), about_congr o w (fun x hx' => hx x hx')]
    refine ⟨h.1, ?_⟩
    have h := h.2
    generalize (o.semAt Fe.round b.eval).run P w = r at h ⊢
    cases r with
    | halt x w1 =>
      cases x <;> simp only [Oper.uponIn] at h
      exact absurd h.1 (by simp)
    | ok m w1 =>
      cases m <;> simp only [Oper.uponIn] at h ⊢
      all_goals first
        | exact hK _ _ h.2
        | (exfalso; have h2 := hdef _ _ h.2; cases hd : o.dst <;> simp [Act.put, hd] at h2)
        | (refine ⟨h.1, CallsIn.mono h.2 ?_⟩
           rintro e w2 he
           cases e with
           | returned v => exact hK _ _ he.2
           | panicked c => exact absurd he.1 (by simp)
           | outgrown => obtain ⟨a2, w3, he, _⟩ := he; exact absurd he (by simp))
        | (refine ⟨h.1, RoundIn.mono h.2 ?_⟩
           rintro e w2 he
           cases e with
           | returned v => exact hK _ _ he.2
           | panicked c => exact absurd he.1 (by simp)
           | outgrown => obtain ⟨a2, w3, he, _⟩ := he; exact absurd he (by simp))
        | exact ⟨h.1, RowsIn.mono h.2 (fun v w2 he => hK _ _ he.2)⟩
  · rw [if_neg hw] at h ⊢
    refine ⟨?_, hK _ _ h.2.2⟩
    rw [about_congr o w (fun x hx' => hx x hx')]
    exact h.1

/-- **A REGION THAT DRAWS ITS ORDER**: owed is each operation alone. -/
theorem wpIn_region_inv {id : Nat} {l : List Oper} {Q : Exit → Act → World → Prop} {a0 : Act} {w0 : World} (hm : P.follows .mixedOrders = true) (hlex : regLex l = true) (priv : List Tmp)
    (W : (Nat → Bool) → (Tmp → Value) → World → Prop) (hW0 : W (fun _ => false) (fun d => a0.tmps.getD d undef) w0.drew) (h : OblIn Fe n P l priv W Q 0 l (fill priv a0)) :
    (Code.region id l.toArray true).wpIn Fe n P Q a0 w0 := by
  obtain ⟨A, hA0, hOb, hfin⟩ := obl_framesIn l 0 (fill priv a0) h
  simp only [Nat.zero_add] at hOb hfin
  let y0 : Tmp → Value := fun d => a0.tmps.getD d undef
  -- what each frame of the text is
  have step : ∀ i o, l[i]? = some o → ∀ y, (∃ v, A (i + 1) y = (A i y).put o.dst v ∧ (∀ d, o.dst = some d → d ∉ priv) ∧ ∀ y', A (i + 1) y' = (A i y').put o.dst v) ∨ (A (i + 1) = A i ∧ ∃ d, o.dst = some d ∧ d ∈ priv) := by
    intro i o ho y
    rcases hOb i o ho with ⟨_, hp, v, hv⟩ | ⟨d, hd, hp, he, _⟩
    · exact .inl ⟨v, hv y, hp, hv⟩
    · exact .inr ⟨he, d, hd, hp⟩
  have sizes : ∀ i, i ≤ l.length → ∀ y, (A i y).tmps.size = a0.tmps.size ∧ (A i y).defers = a0.defers := by
    intro i
    induction i with
    | zero => intro _ y; rw [hA0]; exact fill_size priv a0 y
    | succ i ih =>
      intro hi y
      have ⟨o, ho⟩ : ∃ o, l[i]? = some o := ⟨l[i], List.getElem?_eq_getElem (by omega)⟩
      rcases step i o ho y with ⟨v, hv, _, _⟩ | ⟨he, _⟩
      · rw [hv, put_size, put_defs]; exact ih (by omega) y
      · rw [he]; exact ih (by omega) y
  have fills : ∀ i, i ≤ l.length → ∀ y t, (A i y).tmps[t]? = if t ∈ priv ∧ t < a0.tmps.size then some (y t) else (A i y0).tmps[t]? := by
    intro i
    induction i with
    | zero =>
      intro _ y t
      rw [hA0, fill_get, fill_get]
      split <;> simp_all
    | succ i ih =>
      intro hi y t
      have ⟨o, ho⟩ : ∃ o, l[i]? = some o := ⟨l[i], List.getElem?_eq_getElem (by omega)⟩
      rcases step i o ho y with ⟨v, _, hp, hv⟩ | ⟨he, _⟩
      · rw [hv y, hv y0, put_get, put_get, (sizes i (by omega) y).1, (sizes i (by omega) y0).1, ih (by omega) y t]
        by_cases h1 : o.dst = some t
        · have := hp t h1
          simp [h1, this]
        · simp [h1]
      · rw [he]; exact ih (by omega) y t
  -- a temporary that is written by none of the operations between reads the same
  have keep : ∀ i k, i + k ≤ l.length → ∀ t, t ∉ priv → (∀ m o, i ≤ m → m < i + k → l[m]? = some o → o.dst ≠ some t) → (A (i + k) y0).tmps[t]? = (A i y0).tmps[t]? := by
    intro i k
    induction k with
    | zero => intro _ t _ _; rfl
    | succ k ih =>
      intro hi t hp hw
      have ⟨o, ho⟩ : ∃ o, l[i + k]? = some o := ⟨l[i + k], List.getElem?_eq_getElem (by omega)⟩
      rw [← ih (by omega) t hp (fun m o h1 h2 h3 => hw m o h1 (by omega) h3)]
      rcases step (i + k) o ho y0 with ⟨v, hv, _, _⟩ | ⟨he, _⟩
      · rw [show i + (k + 1) = i + k + 1 from rfl, hv, put_get, if_neg (fun h => hw (i + k) o (by omega) (by omega) ho h.1)]
      · rw [show i + (k + 1) = i + k + 1 from rfl, he]
  have keep' : ∀ i m, i ≤ m → m ≤ l.length → ∀ t, t ∉ priv → (∀ q o, i ≤ q → q < m → l[q]? = some o → o.dst ≠ some t) → (A m y0).tmps[t]? = (A i y0).tmps[t]? := by
    intro i m h1 h2 t hp hw
    have := keep i (m - i) (by omega) t hp (fun q o h3 h4 h5 => hw q o h3 (by omega) h5)
    rwa [show i + (m - i) = m from by omega] at this
  have only : ∀ (j q : Nat) (o u : Oper) (t : Tmp), l[j]? = some u → u.dst = some t → l[q]? = some o → q ≠ j → o.dst ≠ some t := by
    intro j q o u t hu ht ho hne
    exact (regLex_rd hlex ho hu ht).1.resolve_left hne
  let Inv : (Nat → Bool) → (Tmp → Value) → Act → Prop := fun D y a => a.defers = a0.defers ∧ a.tmps.size = a0.tmps.size ∧
    ∀ t, (t ∈ priv ∧ t < a0.tmps.size → a.tmps[t]? = some (y t)) ∧ (t ∉ priv → ((∃ j o, l[j]? = some o ∧ o.dst = some t ∧ D j = true) → a.tmps[t]? = (A l.length y0).tmps[t]?) ∧ ((¬ ∃ j o, l[j]? = some o ∧ o.dst = some t ∧ D j = true) → a.tmps[t]? = (A 0 y0).tmps[t]?))
  -- what an operation that is due reads
  have reads : ∀ D y a i o, Inv D y a → Due l D i → l[i]? = some o → ∀ t : Nat, t ∈ o.looksAt l.toArray → a.tmps[t]? = (A i y).tmps[t]? := by
    intro D y a i o hI hD ho t ht
    have hil : i < l.length := (List.getElem?_eq_some_iff.1 ho).1
    rw [fills i (by omega) y t]
    by_cases hp : t ∈ priv
    · by_cases hs : t < a0.tmps.size
      · rw [if_pos ⟨hp, hs⟩]; exact (hI.2.2 t).1 ⟨hp, hs⟩
      · rw [if_neg (fun h => hs h.2), Array.getElem?_eq_none (by rw [hI.2.1]; omega), Array.getElem?_eq_none (by rw [(sizes i (by omega) y0).1]; omega)]
    · rw [if_neg (fun h => hp h.1)]
      by_cases hw : ∃ j u, l[j]? = some u ∧ u.dst = some t ∧ D j = true
      · rw [((hI.2.2 t).2 hp).1 hw]
        obtain ⟨j, u, hu, hdt, hDj⟩ := hw
        have hjl : j < l.length := (List.getElem?_eq_some_iff.1 hu).1
        rcases (regLex_rd hlex ho hu hdt).2 ht with ⟨h1, _⟩ | ⟨_, h2⟩ | h1
        · rw [keep' i l.length (by omega) (Nat.le_refl _) t hp (fun q o' h3 h4 h5 => only j q o' u t hu hdt h5 (by omega))]
        · rw [hD.post u j hu h2] at hDj; cases hDj
        · rw [h1] at hD; rw [hD.not] at hDj; cases hDj
      · rw [((hI.2.2 t).2 hp).2 hw]
        exact (keep' 0 i (by omega) (by omega) t hp (fun q u _ h4 h5 hdt => hw ⟨q, u, h5, hdt, by
          rcases (regLex_rd hlex ho h5 hdt).2 ht with ⟨_, h2⟩ | ⟨h2, _⟩ | h2
          · exact hD.pre o q ho h2
          · omega
          · omega⟩)).symm
  have evals : ∀ D y a i o, Inv D y a → Due l D i → l[i]? = some o → (∀ x ∈ o.op.operands, a.eval x = (A i y).eval x) ∧ Region.wanted o (yielded l.toArray a.tmps) = Region.wanted o (yielded l.toArray (A i y).tmps) := by
    intro D y a i o hI hD ho
    refine ⟨fun x hx => ?_, ?_⟩
    · cases x with
      | tmp t =>
        have hr := reads D y a i o hI hD ho t (by
          unfold Oper.looksAt
          refine List.mem_append_left _ ?_
          rw [List.mem_filterMap]
          exact ⟨.tmp t, Array.mem_toList_iff.2 hx, rfl⟩)
        show a.tmps.getD t undef = (A i y).tmps.getD t undef
        rw [Array.getD_eq_getD_getElem?, Array.getD_eq_getD_getElem?, hr]
      | const v => rfl
      | global g => rfl
      | func f => rfl
    · unfold Region.wanted
      cases hg : o.guard with
      | none => rfl
      | some jb =>
        obtain ⟨j, b⟩ := jb
        simp only []
        have : yielded l.toArray a.tmps j = yielded l.toArray (A i y).tmps j := by
          unfold yielded
          cases hd : (l.toArray[j]?).bind (·.dst) with
          | none => rfl
          | some t =>
            have hr := reads D y a i o hI hD ho t (by
              unfold Oper.looksAt
              refine List.mem_append_right _ ?_
              rw [hg]
              simpa using hd)
            simp only [Option.bind_some, hr]
        rw [this]
  have final : ∀ D y a w, Inv D y a → (∀ k, k < l.length → D k = true) → W D y w → Q .normal a w := by
    intro D y a w hI hD hw
    have : a = A l.length y := by
      have h1 : a.tmps = (A l.length y).tmps := by
        apply Array.ext_getElem?
        intro t
        rw [fills l.length (Nat.le_refl _) y t]
        by_cases hp : t ∈ priv
        · by_cases hs : t < a0.tmps.size
          · rw [if_pos ⟨hp, hs⟩]; exact (hI.2.2 t).1 ⟨hp, hs⟩
          · rw [if_neg (fun h => hs h.2), Array.getElem?_eq_none (by rw [hI.2.1]; omega), Array.getElem?_eq_none (by rw [(sizes _ (Nat.le_refl _) y0).1]; omega)]
        · rw [if_neg (fun h => hp h.1)]
          by_cases hw : ∃ j u, l[j]? = some u ∧ u.dst = some t ∧ D j = true
          · exact ((hI.2.2 t).2 hp).1 hw
          · rw [((hI.2.2 t).2 hp).2 hw]
            exact (keep' 0 l.length (by omega) (Nat.le_refl _) t hp (fun q u _ h4 h5 hdt => hw ⟨q, u, h5, hdt, hD q h4⟩)).symm
      have h2 : a.defers = (A l.length y).defers := hI.1.trans (sizes _ (Nat.le_refl _) y).2.symm
      show (⟨a.tmps, a.defers⟩ : Act) = ⟨(A l.length y).tmps, (A l.length y).defers⟩
      rw [h1, h2]
    rw [this]
    exact hfin D y w hD hw
  -- the orders
  have run : ∀ fuel (listed : Array Bool) y a w, listed.size = l.length → (∀ k o j, l[k]? = some o → listed.getD k false = true → bindsTo o j = true → listed.getD j false = true) → trues listed.toList + fuel = l.length → Inv (fun k => listed.getD k false) y a → W (fun k => listed.getD k false) y w →
      wpAnyIn Fe n P .any l.toArray Q fuel listed a w := by
    intro fuel
    induction fuel with
    | zero =>
      intro listed y a w hs hcl hc hI hw
      have hall : ∀ k, k < l.length → listed.getD k false = true := by
        intro k hk
        have := trues_all listed.toList (by simp [hs]; omega) k (by simpa [hs] using hk)
        rw [Array.getElem?_toList] at this
        rw [Array.getD_eq_getD_getElem?, this]; rfl
      refine ⟨?_, final _ _ _ _ hI hall hw⟩
      apply List.eq_nil_iff_forall_not_mem.2
      intro j hj
      obtain ⟨h1, o, ho, _⟩ := mem_ready.1 hj
      have hjl : j < l.length := by
        have := (Array.getElem?_eq_some_iff.1 ho).1
        simpa using this
      have := hall j hjl
      rw [Array.getD_eq_getD_getElem?, Array.getElem?_eq_getElem (by omega)] at this h1
      simp only [Option.getD_some] at this h1
      rw [this] at h1; cases h1
    | succ fuel ih =>
      intro listed y a w hs hcl hc hI hw
      constructor
      · intro hr
        exfalso
        have none : ∀ i, i < l.length → listed.getD i false = true := by
          intro i
          induction i using Nat.strongRecOn with
          | _ i ihi =>
            intro hi
            by_cases hb : listed.getD i false = true
            · exact hb
            · exfalso
              have : i ∈ Region.ready .any l.toArray listed := by
                rw [mem_ready]
                refine ⟨?_, l[i], by simp [hi], fun e he hbn => ihi e.on ?_ ?_⟩
                · rw [Array.getD_eq_getD_getElem?, Array.getElem?_eq_getElem (by omega)] at hb ⊢
                  simp only [Option.getD_some] at hb ⊢
                  simpa using hb
                · exact regLex_edge hlex (List.getElem?_eq_getElem hi) (j := e.on) (by unfold bindsTo; rw [Array.any_eq_true']; exact ⟨e, he, by simp [hbn]⟩)
                · have := regLex_edge hlex (List.getElem?_eq_getElem hi) (j := e.on) (by unfold bindsTo; rw [Array.any_eq_true']; exact ⟨e, he, by simp [hbn]⟩)
                  omega
              rw [hr] at this; cases this
        have : trues listed.toList = l.length := by
          have h2 : ∀ (L : List Bool), (∀ i, i < L.length → L[i]? = some true) → trues L = L.length := by
            intro L
            induction L with
            | nil => intro _; rfl
            | cons b L ih => intro h; have h0 := h 0 (by simp); simp at h0; subst h0; simp only [trues, List.length_cons, if_true]; rw [ih (fun i hi => by simpa using h (i + 1) (by simpa using hi))]; omega
          rw [h2 listed.toList (fun i hi => ?_)]
          · simp [hs]
          · have hi' : i < listed.size := by simpa using hi
            have := none i (by omega)
            rw [Array.getD_eq_getD_getElem?, Array.getElem?_eq_getElem hi'] at this
            rw [Array.getElem?_toList, Array.getElem?_eq_getElem hi']
            simpa using this
        omega
      · intro i hi
        obtain ⟨h1, o, ho, hpre⟩ := mem_ready.1 hi
        have hil : i < l.length := by
          have := (Array.getElem?_eq_some_iff.1 ho).1
          simpa using this
        have ho' : l[i]? = some o := by simpa using ho
        have hnot : listed.getD i false = false := by
          rw [Array.getD_eq_getD_getElem?, Array.getElem?_eq_getElem (by omega)] at h1 ⊢
          simpa using h1
        have hpre' : ∀ j, bindsTo o j = true → listed.getD j false = true := by
          intro j hb
          unfold bindsTo at hb
          rw [Array.any_eq_true'] at hb
          obtain ⟨e, he, hb⟩ := hb
          simp only [Bool.and_eq_true, beq_iff_eq] at hb
          have := hpre e he hb.1
          rwa [hb.2] at this
        have hD : Due l (fun k => listed.getD k false) i := by
          refine ⟨hnot, fun o' j ho2 hb => ?_, fun o' k hk hb => ?_⟩
          · rw [ho'] at ho2; cases ho2; exact hpre' j hb
          · cases hv : listed.getD k false with
            | false => rfl
            | true => have := hcl k o' i hk hv hb; rw [hnot] at this; cases this
        obtain ⟨hev, hwt⟩ := evals _ y a i o hI hD ho'
        have hset : (fun k => (listed.setIfInBounds i true).getD k false) = fun k => k == i || listed.getD k false := by
          funext k
          by_cases hk : k = i
          · subst hk
            simp [hs, hil]
          · rw [getD_set_ne false (Ne.symm hk)]
            have : (k == i) = false := by simpa using hk
            rw [this]; rfl
        have next : ∀ y' a' w', Inv (fun k => k == i || listed.getD k false) y' a' → W (fun k => k == i || listed.getD k false) y' w' → wpAnyIn Fe n P .any l.toArray Q fuel (listed.setIfInBounds i true) a' w' := by
          intro y' a' w' hI' hw'
          refine ih _ y' a' w' (by simp [hs]) ?_ ?_ (by rw [hset]; exact hI') (by rw [hset]; exact hw')
          · intro k u j hu hk hb
            by_cases hki : k = i
            · subst hki
              rw [ho'] at hu; cases hu
              exact getD_set_true (hpre' j hb)
            · rw [getD_set_ne false (Ne.symm hki)] at hk
              exact getD_set_true (hcl k u j hu hk hb)
          · rw [Array.toList_setIfInBounds, trues_set _ _ (by
              rw [Array.getElem?_toList, Array.getElem?_eq_getElem (by omega)]
              rw [Array.getD_eq_getD_getElem?, Array.getElem?_eq_getElem (by omega)] at hnot
              simpa using hnot)]
            omega
        unfold wpOpIn
        rw [ho]
        simp only []
        rcases hOb i o ho' with ⟨hrun, hnp, v0, hv0⟩ | ⟨d, hd, hdp, he, hrun⟩
        · refine op_putIn (b := A i y) (S := fun a' w' => a' = A (i + 1) y ∧ W (fun k => k == i || listed.getD k false) y w') (Region.noSelect_spec (ops := l.toArray) (by unfold regLex at hlex; exact (Bool.and_eq_true_iff.1 hlex).1) i o · · ho) ?_ hev hwt
            (hrun _ y w hw hD _ fun w' hw' => ⟨rfl, rfl, hw'⟩) _ _ ?_
          · rintro b' w' ⟨rfl, _⟩
            rw [(sizes (i + 1) (by omega) y).2, (sizes i (by omega) y).2]
          · rintro v w' ⟨hb, hw'⟩
            refine next y _ w' ⟨(put_defs _ _ _).trans hI.1, (put_size _ _ _).trans hI.2.1, fun (t : Nat) => ⟨fun ht => ?_, fun ht => ⟨fun hx => ?_, fun hx => ?_⟩⟩⟩ hw'
            · rw [put_get, if_neg (fun h => hnp t h.1 ht.1)]; exact (hI.2.2 t).1 ht
            · rw [put_get]
              by_cases hdt : o.dst = some t
              · have e1 : (A l.length y0).tmps[t]? = (A (i + 1) y0).tmps[t]? := keep' (i + 1) l.length (by omega) (Nat.le_refl _) t ht (fun q o' h3 h4 h5 => only i q o' o t ho' hdt h5 (by omega))
                have e2 : (A (i + 1) y).tmps[t]? = (A (i + 1) y0).tmps[t]? := by rw [fills (i + 1) (by omega) y t, if_neg (fun h => ht h.1)]
                rw [e1, ← e2, ← hb, put_get, (sizes i (by omega) y).1, hI.2.1]
                by_cases hts : t < a0.tmps.size
                · rw [if_pos ⟨hdt, hts⟩, if_pos ⟨hdt, hts⟩]
                · rw [if_neg (fun h => hts h.2), if_neg (fun h => hts h.2), Array.getElem?_eq_none (by rw [hI.2.1]; omega), Array.getElem?_eq_none (by rw [(sizes i (by omega) y).1]; omega)]
              · rw [if_neg (fun h => hdt h.1)]
                refine ((hI.2.2 t).2 ht).1 ?_
                obtain ⟨j, u, hu, hut, hDj⟩ := hx
                refine ⟨j, u, hu, hut, ?_⟩
                by_cases hji : j = i
                · subst hji; rw [ho'] at hu; cases hu; exact absurd hut hdt
                · have : (j == i) = false := by simpa using hji
                  simpa [this] using hDj
            · rw [put_get]
              by_cases hdt : o.dst = some t
              · exact absurd ⟨i, o, ho', hdt, by simp⟩ hx
              · rw [if_neg (fun h => hdt h.1)]
                refine ((hI.2.2 t).2 ht).2 ?_
                rintro ⟨j, u, hu, hut, hDj⟩
                exact hx ⟨j, u, hu, hut, by simp only at hDj ⊢; rw [hDj, Bool.or_true]⟩
        · refine op_putIn (b := A i y) (S := fun a' w' => ∃ x, a' = A i (upd y d x) ∧ W (fun k => k == i || listed.getD k false) (upd y d x) w') (Region.noSelect_spec (ops := l.toArray) (by unfold regLex at hlex; exact (Bool.and_eq_true_iff.1 hlex).1) i o · · ho) ?_ hev hwt
            (hrun _ y w hw hD _ fun x w' hw' => ⟨rfl, x, rfl, hw'⟩) _ _ ?_
          · rintro b' w' ⟨x, rfl, _⟩
            rw [(sizes i (by omega) _).2, (sizes i (by omega) y).2]
          · rintro v w' ⟨x, hb, hw'⟩
            refine next (upd y d x) _ w' ⟨(put_defs _ _ _).trans hI.1, (put_size _ _ _).trans hI.2.1, fun (t : Nat) => ⟨fun ht => ?_, fun ht => ⟨fun hx => ?_, fun hx => ?_⟩⟩⟩ hw'
            · rw [put_get, hI.2.1]
              by_cases hdt : d = t
              · subst hdt
                have e1 := fills i (by omega) (upd y d x) d
                rw [← hb, if_pos ht, put_get, (sizes i (by omega) y).1, if_pos ⟨hd, ht.2⟩] at e1
                rw [if_pos ⟨hd, ht.2⟩, e1]
              · rw [if_neg (fun h => hdt (by rw [hd] at h; exact Option.some.inj h.1)), (hI.2.2 t).1 ht]
                unfold upd
                rw [if_neg (fun h => hdt h.symm)]
            · have hdt : ¬ o.dst = some t := fun h => ht (by rw [hd] at h; cases h; exact hdp)
              rw [put_get, if_neg (fun h => hdt h.1)]
              refine ((hI.2.2 t).2 ht).1 ?_
              obtain ⟨j, u, hu, hut, hDj⟩ := hx
              refine ⟨j, u, hu, hut, ?_⟩
              by_cases hji : j = i
              · subst hji; rw [ho'] at hu; cases hu; exact absurd hut hdt
              · have : (j == i) = false := by simpa using hji
                simpa [this] using hDj
            · have hdt : ¬ o.dst = some t := fun h => ht (by rw [hd] at h; cases h; exact hdp)
              rw [put_get, if_neg (fun h => hdt h.1)]
              refine ((hI.2.2 t).2 ht).2 ?_
              rintro ⟨j, u, hu, hut, hDj⟩
              exact hx ⟨j, u, hu, hut, by simp only at hDj ⊢; rw [hDj, Bool.or_true]⟩
  refine wpIn_region_any hm (run _ _ y0 _ _ (by simp) ?_ ?_ ?_ ?_)
  · intro k o j _ hk
    simp [Array.getElem?_replicate] at hk
    split at hk <;> simp at hk
  · have : ∀ n, trues (List.replicate n false) = 0 := by
      intro n
      induction n with
      | zero => rfl
      | succ n ih => rw [List.replicate_succ, trues, ih]; rfl
    rw [Array.toList_replicate, this]; simp
  · have hf : (fun k => (Array.replicate l.toArray.size false).getD k false) = fun _ => false := by
      funext k
      simp [Array.getElem?_replicate]
      split <;> rfl
    rw [hf]
    refine ⟨rfl, rfl, fun (t : Nat) => ⟨fun ht => ?_, fun ht => ⟨fun hx => ?_, fun _ => ?_⟩⟩⟩
    · show a0.tmps[t]? = some (a0.tmps.getD t undef)
      rw [Array.getD_eq_getD_getElem?, Array.getElem?_eq_getElem ht.2]; rfl
    · obtain ⟨_, _, _, _, h⟩ := hx; cases h
    · rw [hA0, fill_get, if_neg (fun h => ht h.1)]
  · have hf : (fun k => (Array.replicate l.toArray.size false).getD k false) = fun _ => false := by
      funext k
      simp [Array.getElem?_replicate]
      split <;> rfl
    rw [hf]
    exact hW0

/-- The next operation's value is the same in every world and order. -/
theorem obl_detIn {l : List Oper} {priv : List Tmp} {W : (Nat → Bool) → (Tmp → Value) → World → Prop} {Q : Exit → Act → World → Prop} {i : Nat} {o : Oper} {rest : List Oper} {F F' : (Tmp → Value) → Act}
    (hrun : ∀ D y w, W D y w → Due l D i → ∀ R : Exit → Act → World → Prop, (∀ w', W (fun k => k == i || D k) y w' → R .normal (F' y) w') → wpListIn Fe n P l.toArray R [o] (F y) w)
    (hnp : (match o.dst with | some d => !priv.contains d | none => true) = true) (hv : ∃ v, ∀ y, F' y = (F y).put o.dst v) (h : OblIn Fe n P l priv W Q (i + 1) rest F') : OblIn Fe n P l priv W Q i (o :: rest) F :=
  ⟨F', .inl ⟨hrun, fun d hd => by rw [hd] at hnp; simpa using hnp, hv⟩, h⟩
/-- The next operation's value is private. -/
theorem obl_privIn {l : List Oper} {priv : List Tmp} {W : (Nat → Bool) → (Tmp → Value) → World → Prop} {Q : Exit → Act → World → Prop} {i : Nat} {o : Oper} {rest : List Oper} {F : (Tmp → Value) → Act} (d : Tmp)
    (hd : o.dst = some d) (hp : priv.contains d = true)
    (hrun : ∀ D y w, W D y w → Due l D i → ∀ R : Exit → Act → World → Prop, (∀ x w', W (fun k => k == i || D k) (upd y d x) w' → R .normal (F (upd y d x)) w') → wpListIn Fe n P l.toArray R [o] (F y) w)
    (h : OblIn Fe n P l priv W Q (i + 1) rest F) : OblIn Fe n P l priv W Q i (o :: rest) F :=
  ⟨F, .inr ⟨d, hd, by simpa using hp, rfl, hrun⟩, h⟩
theorem obl_nilIn {l : List Oper} {priv : List Tmp} {W : (Nat → Bool) → (Tmp → Value) → World → Prop} {Q : Exit → Act → World → Prop} {i : Nat} {F : (Tmp → Value) → Act}
    (h : ∀ D y w, (∀ k, k < l.length → D k = true) → W D y w → Q .normal (F y) w) : OblIn Fe n P l priv W Q i [] F := h
/-- The region, the private temporaries shown in a frame that is written out. -/
theorem wpIn_region_inv1 {id : Nat} {l : List Oper} {Q : Exit → Act → World → Prop} {a0 : Act} {w0 : World} (hm : P.follows .mixedOrders = true) (hlex : regLex l = true) (priv : List Tmp)
    (W : (Nat → Bool) → (Tmp → Value) → World → Prop) (hW0 : W (fun _ => false) (fun d => a0.tmps.getD d undef) w0.drew) (F : (Tmp → Value) → Act) (hF : ∀ y, fill priv a0 y = F y)
    (h : OblIn Fe n P l priv W Q 0 l F) : (Code.region id l.toArray true).wpIn Fe n P Q a0 w0 :=
  wpIn_region_inv hm hlex priv W hW0 (by rw [show fill priv a0 = F from funext hF]; exact h)
/-- The region, no temporary private. -/
theorem wpIn_region_inv0 {id : Nat} {l : List Oper} {Q : Exit → Act → World → Prop} {a0 : Act} {w0 : World} (hm : P.follows .mixedOrders = true) (hlex : regLex l = true)
    (W : (Nat → Bool) → World → Prop) (hW0 : W (fun _ => false) w0.drew) (h : OblIn Fe n P l [] (fun D _ w => W D w) Q 0 l (fun _ => a0)) :
    (Code.region id l.toArray true).wpIn Fe n P Q a0 w0 :=
  wpIn_region_inv hm hlex [] (fun D _ w => W D w) hW0 h
end
end Go.Proofs.Ytaigbhhmmdfdcaa
