/- Plain: the hollow, toppings, and the order of truths. -/
import Derived.Test.YtafdagjdpnaddaaP1
namespace Go.Proofs.Ytafdagjdpnaddaa

theorem LeL.take {a b : List Int} (h : LeL a b) (n : Nat) : LeL (a.take n) (b.take n) := by
  have hl := h.1
  refine ⟨by simp [h.1], fun i hi => ?_⟩
  simp only [List.length_take] at hi
  have := h.2 i (by omega)
  simp only [List.getD_eq_getElem?_getD, List.getElem?_take] at this ⊢
  rw [if_pos (by omega), if_pos (by omega)]
  exact this
/-- Which ring sets when, in a truth that is nowhere warmer. -/
theorem whenI_mono {m : Mou} (hm : Valid m) {l l' ws ws' : List Int} (hl : LeL l l') (hw : LeL ws ws') (N i : Nat) (hi : i < l.length) (h : 0 ≤ whenI m l' ws' N i) : 0 ≤ whenI m l ws N i ∧ whenI m l ws N i ≤ whenI m l' ws' N i := by
  refine firstTo_mono (fun k _ hk => ?_) h
  have hr := runL_mono (show 0 ≤ m.give by have := hm.g1; omega) hm.g5 (ws.take k) (ws'.take k) l l' hl (hw.take k)
  have := hr.2 i (by rw [runL_length]; exact hi)
  simp only [setsAt, decide_eq_true_eq] at hk ⊢
  omega
/-- Each ring sets no later (-1: never). -/
def NoLater (a b : List Int) : Prop := a.length = b.length ∧ ∀ i, i < a.length → -1 ≤ a.getD i 0 ∧ (0 ≤ b.getD i 0 → 0 ≤ a.getD i 0 ∧ a.getD i 0 ≤ b.getD i 0)
theorem NoLater.trans {a b c : List Int} (h : NoLater a b) (k : NoLater b c) : NoLater a c :=
  ⟨h.1.trans k.1, fun i hi => ⟨(h.2 i hi).1, fun hc => by have h1 := (k.2 i (by rw [← h.1]; exact hi)).2 hc; have h2 := (h.2 i hi).2 h1.1; omega⟩⟩
theorem whenL_mono {m : Mou} (hm : Valid m) {l l' ws ws' : List Int} (hl : LeL l l') (hw : LeL ws ws') : NoLater (whenL m l ws) (whenL m l' ws') := by
  refine ⟨by rw [whenL_length, whenL_length, hl.1], fun i hi => ?_⟩
  rw [whenL_length] at hi
  rw [whenL_getD _ _ _ _ hi, whenL_getD _ _ _ _ (by rw [← hl.1]; exact hi), ← hw.1]
  exact ⟨(firstTo_bound _ _).1, fun h => whenI_mono hm hl hw _ i hi h⟩
theorem skin_grows {when : List Int} {n n' : Int} (h : n ≤ n') : skinN when n ≤ skinN when n' := by
  unfold skinN
  refine List.countP_mono_left (fun x _ hx => ?_)
  simp only [skinB, Bool.and_eq_true, decide_eq_true_eq] at hx ⊢
  omega
theorem skin_le (when : List Int) (n : Int) : skinN when n ≤ when.length := List.countP_le_length
theorem countP_index {p : Int → Bool} : ∀ {a b : List Int}, a.length = b.length → (∀ i, i < a.length → p (b.getD i 0) = true → p (a.getD i 0) = true) → b.countP p ≤ a.countP p
  | [], [], _, _ => Nat.le_refl _
  | [], _ :: _, h, _ => by simp at h
  | _ :: _, [], h, _ => by simp at h
  | x :: a, y :: b, h, k => by
    have ih := countP_index (p := p) (a := a) (b := b) (by simpa using h) (fun i hi hp => by have := k (i + 1) (by simpa using hi); simpa using this (by simpa using hp))
    have h0 := k 0 (by simp)
    simp only [List.getD_cons_zero] at h0
    rw [List.countP_cons, List.countP_cons]
    split
    · rw [if_pos (h0 ‹_›)]; omega
    · split <;> omega
theorem skin_mono {a b : List Int} (h : NoLater a b) (n : Int) : skinN b n ≤ skinN a n := by
  refine countP_index h.1 (fun i hi hp => ?_)
  have := (h.2 i hi).2
  simp only [skinB, Bool.and_eq_true, decide_eq_true_eq] at hp ⊢
  omega

/-- What the first k rings have shrunk up to a minute. -/
def fallTo (m : Mou) (when : List Int) (t : Int) : Nat → Int
  | 0 => 0
  | k + 1 => fallTo m when t k + if skinB t (when.getD k 0) = true then shrI m k else 0
def fall (m : Mou) (when : List Int) (t : Int) : Int := fallTo m when t when.length
/-- What the first k rings shrink. -/
def allTo (m : Mou) : Nat → Int
  | 0 => 0
  | k + 1 => allTo m k + shrI m k
theorem shrI_nonneg {m : Mou} (hm : Valid m) {i : Nat} (h : (i : Int) < m.rings) : 0 ≤ shrI m i := by
  unfold shrI
  exact Int.mul_nonneg hm.s0 (by omega)
theorem shrI_le {m : Mou} (hm : Valid m) (i : Nat) (h : (i : Int) < m.rings) : shrI m i ≤ 200 * 15 := by
  unfold shrI
  have h1 : m.shrink * (1 + 2 * (m.rings - 1 - i)) ≤ 200 * (1 + 2 * (m.rings - 1 - i)) := Int.mul_le_mul_of_nonneg_right hm.s2 (by omega)
  have := hm.r8
  omega
theorem fallTo_bound {m : Mou} (hm : Valid m) (when : List Int) (t : Int) : ∀ k : Nat, (k : Int) ≤ m.rings → 0 ≤ fallTo m when t k ∧ fallTo m when t k ≤ allTo m k
  | 0, _ => by simp [fallTo, allTo]
  | k + 1, h => by
    have ih := fallTo_bound hm when t k (by omega)
    have := shrI_nonneg hm (i := k) (by omega)
    simp only [fallTo, allTo]
    split <;> omega
theorem allTo_bound {m : Mou} (hm : Valid m) : ∀ k : Nat, (k : Int) ≤ m.rings → 0 ≤ allTo m k ∧ allTo m k ≤ 3000 * k
  | 0, _ => by simp [allTo]
  | k + 1, h => by
    have ih := allTo_bound hm k (by omega)
    have h1 := shrI_nonneg hm (i := k) (by omega)
    have h2 := shrI_le hm k (by omega)
    simp only [allTo]
    omega
theorem fallTo_all {m : Mou} {when : List Int} {t : Int} : ∀ k : Nat, (∀ i, i < k → skinB t (when.getD i 0) = true) → fallTo m when t k = allTo m k
  | 0, _ => rfl
  | k + 1, h => by
    simp only [fallTo, allTo]
    rw [fallTo_all k (fun i hi => h i (by omega)), if_pos (h k (by omega))]
theorem fallTo_le {m : Mou} (hm : Valid m) {a b : List Int} {t t' : Int} : ∀ k : Nat, (k : Int) ≤ m.rings → (∀ i, i < k → skinB t (a.getD i 0) = true → skinB t' (b.getD i 0) = true) → fallTo m a t k ≤ fallTo m b t' k
  | 0, _, _ => Int.le_refl _
  | k + 1, hk, h => by
    have ih := fallTo_le hm k (by omega) (fun i hi => h i (by omega))
    have h1 := shrI_nonneg hm (i := k) (by omega)
    have h2 := h k (by omega)
    simp only [fallTo]
    split
    · rw [if_pos (h2 ‹_›)]; omega
    · split <;> omega
theorem fall_grows {m : Mou} (hm : Valid m) {when : List Int} (hl : (when.length : Int) = m.rings) {t t' : Int} (h : t ≤ t') : fall m when t ≤ fall m when t' :=
  fallTo_le hm _ (by omega) (fun i _ hp => by simp only [skinB, Bool.and_eq_true, decide_eq_true_eq] at hp ⊢; omega)
theorem fall_mono {m : Mou} (hm : Valid m) {a b : List Int} (h : NoLater a b) (hl : (b.length : Int) = m.rings) (t : Int) : fall m b t ≤ fall m a t := by
  unfold fall
  rw [h.1]
  refine fallTo_le hm _ (by omega) (fun i hi hp => ?_)
  have := (h.2 i (by rw [h.1]; exact hi)).2
  simp only [skinB, Bool.and_eq_true, decide_eq_true_eq] at hp ⊢
  omega
theorem fall_nonneg {m : Mou} (hm : Valid m) {when : List Int} (hl : (when.length : Int) = m.rings) (t : Int) : 0 ≤ fall m when t := (fallTo_bound hm when t _ (by omega)).1
theorem fall_le {m : Mou} (hm : Valid m) {when : List Int} (hl : (when.length : Int) = m.rings) (t : Int) : fall m when t ≤ allTo m when.length := (fallTo_bound hm when t _ (by omega)).2

/-- What toppings pour, from p on. -/
def pourF (F : Int → Int) (fill : Int) (p : Int) (plan : List Int) : Int := plan.foldl (fun p t => min (p + fill) (F t)) p
def pourL (F : Int → Int) (fill : Int) (plan : List Int) : Int := pourF F fill 0 plan
theorem pourF_cons (F : Int → Int) (fill p t : Int) (plan : List Int) : pourF F fill p (t :: plan) = pourF F fill (min (p + fill) (F t)) plan := rfl
theorem pourF_append (F : Int → Int) (fill p : Int) (a b : List Int) : pourF F fill p (a ++ b) = pourF F fill (pourF F fill p a) b := by simp [pourF]
theorem pourF_le {F G : Int → Int} {fill : Int} : ∀ {a b : List Int} {p q : Int}, p ≤ q → a.length = b.length → (∀ i, i < a.length → F (a.getD i 0) ≤ G (b.getD i 0)) → pourF F fill p a ≤ pourF G fill q b
  | [], [], p, q, h, _, _ => h
  | [], _ :: _, _, _, _, h, _ => by simp at h
  | _ :: _, [], _, _, _, h, _ => by simp at h
  | x :: a, y :: b, p, q, h, hl, hk => by
    rw [pourF_cons, pourF_cons]
    have h0 := hk 0 (by simp)
    simp only [List.getD_cons_zero] at h0
    refine pourF_le (by omega) (by simpa using hl) (fun i hi => ?_)
    have := hk (i + 1) (by simpa using hi)
    simpa using this
theorem pourF_step {F : Int → Int} {fill : Int} {p : Int} {plan : List Int} {B : Int} (hp : p ≤ B) (h : ∀ t ∈ plan, F t ≤ B) : pourF F fill p plan ≤ B := by
  induction plan generalizing p with
  | nil => exact hp
  | cons t plan ih =>
    rw [pourF_cons]
    have := h t (by simp)
    exact ih (by omega) (fun x hx => h x (by simp [hx]))
theorem pourF_nonneg {F : Int → Int} {fill : Int} (hf : 0 ≤ fill) : ∀ {plan : List Int} {p : Int}, 0 ≤ p → (∀ t ∈ plan, 0 ≤ F t) → 0 ≤ pourF F fill p plan
  | [], p, h, _ => h
  | t :: plan, p, h, hk => by
    rw [pourF_cons]
    have := hk t (by simp)
    exact pourF_nonneg hf (by omega) (fun x hx => hk x (by simp [hx]))
/-- A topping more pours no less. -/
theorem pourF_more {F : Int → Int} {fill p : Int} (hf : 0 ≤ fill) {a b : List Int} {n : Int} (h : pourF F fill p a ≤ F n) : pourF F fill p (a ++ b) ≤ pourF F fill p (a ++ n :: b) := by
  rw [pourF_append, pourF_append, pourF_cons]
  exact pourF_le (by omega) rfl (fun _ _ => Int.le_refl _)
/-- The hollow in the end. -/
def holV (m : Mou) (when plan : List Int) : Int := allTo m when.length - pourL (fall m when) m.fill plan

/-- The first error of a list of errors. -/
def firstErr (f : Nat → Int) : Nat → Int
  | 0 => 0
  | k + 1 => if firstErr f k = 0 then f k else firstErr f k
theorem firstErr_ok {f : Nat → Int} : ∀ {N : Nat}, firstErr f N = 0 → ∀ i, i < N → f i = 0
  | 0, _, i, hi => by omega
  | n + 1, h, i, hi => by
    unfold firstErr at h
    by_cases h0 : firstErr f n = 0
    · rw [if_pos h0] at h
      by_cases hin : i < n
      · exact firstErr_ok h0 i hin
      · obtain rfl : i = n := by omega
        exact h
    · rw [if_neg h0] at h
      exact absurd h h0
theorem firstErr_of {f : Nat → Int} : ∀ {N : Nat}, (∀ i, i < N → f i = 0) → firstErr f N = 0
  | 0, _ => rfl
  | n + 1, h => by
    unfold firstErr
    rw [if_pos (firstErr_of (fun i hi => h i (by omega)))]
    exact h n (by omega)
theorem firstErr_at {f : Nat → Int} {k : Nat} (h : ∀ i, i < k → f i = 0) (hk : f k ≠ 0) : ∀ N, k < N → firstErr f N = f k := by
  intro N
  induction N with
  | zero => intro h; omega
  | succ N ih =>
    intro hN
    unfold firstErr
    by_cases he : k = N
    · subst he
      rw [if_pos (firstErr_of h)]
    · have := ih (by omega)
      rw [this, if_neg hk]
def planAt (m : Mou) (plan : List Int) (i : Nat) : Int :=
  if within (plan.getD i 0) 0 600 = false then 7 else if 0 < i ∧ plan.getD i 0 - plan.getD (i - 1) 0 < m.gap then 2 else 0
def planE (m : Mou) (plan : List Int) : Int := if 40 < plan.length then 3 else firstErr (planAt m plan) plan.length
structure PlanOk (m : Mou) (plan : List Int) : Prop where
  len : plan.length ≤ 40
  r0 : ∀ i, i < plan.length → 0 ≤ plan.getD i 0 ∧ plan.getD i 0 ≤ 600
  gap : ∀ i, i + 1 < plan.length → m.gap ≤ plan.getD (i + 1) 0 - plan.getD i 0
theorem planAt_zero {m : Mou} {plan : List Int} {i : Nat} : planAt m plan i = 0 ↔ (0 ≤ plan.getD i 0 ∧ plan.getD i 0 ≤ 600) ∧ (0 < i → m.gap ≤ plan.getD i 0 - plan.getD (i - 1) 0) := by
  unfold planAt
  by_cases h1 : within (plan.getD i 0) 0 600 = true
  · rw [if_neg (by rw [h1]; simp)]
    have := within_iff.1 h1
    by_cases h2 : 0 < i ∧ plan.getD i 0 - plan.getD (i - 1) 0 < m.gap
    · rw [if_pos h2]; constructor
      · intro h; omega
      · rintro ⟨_, h⟩; have := h h2.1; omega
    · rw [if_neg h2]; constructor
      · intro _; exact ⟨this, fun h => by omega⟩
      · intro _; rfl
  · rw [if_pos (by simpa using h1)]
    constructor
    · intro h; omega
    · rintro ⟨h, _⟩; exact absurd (within_iff.2 h) h1
theorem plan_ok {m : Mou} {plan : List Int} : planE m plan = 0 ↔ PlanOk m plan := by
  unfold planE
  constructor
  · intro h
    by_cases hl : 40 < plan.length
    · rw [if_pos hl] at h; omega
    · rw [if_neg hl] at h
      refine ⟨by omega, fun i hi => (planAt_zero.1 (firstErr_ok h i hi)).1, fun i hi => ?_⟩
      have := (planAt_zero.1 (firstErr_ok h (i + 1) hi)).2 (by omega)
      simpa using this
  · intro h
    rw [if_neg (by have := h.len; omega)]
    refine firstErr_of (fun i hi => planAt_zero.2 ⟨h.r0 i hi, fun h0 => ?_⟩)
    have := h.gap (i - 1) (by omega)
    rwa [show i - 1 + 1 = i from by omega] at this
/-- Minutes of toppings grow. -/
theorem PlanOk.lt {m : Mou} (hm : Valid m) {plan : List Int} (h : PlanOk m plan) {i : Nat} : ∀ {j : Nat}, i < j → j < plan.length → plan.getD i 0 + m.gap * (j - i : Nat) ≤ plan.getD j 0
  | 0, hij, _ => by omega
  | j + 1, hij, hj => by
    have h1 := h.gap j hj
    by_cases he : i = j
    · subst he
      rw [show i + 1 - i = 1 from by omega]
      omega
    · have ih := h.lt hm (i := i) (j := j) (by omega) (by omega)
      rw [show j + 1 - i = (j - i) + 1 from by omega]
      push_cast
      rw [Int.mul_add]
      omega
theorem PlanOk.le {m : Mou} (hm : Valid m) {plan : List Int} (h : PlanOk m plan) {i j : Nat} (hij : i < j) (hj : j < plan.length) : plan.getD i 0 < plan.getD j 0 := by
  have := h.lt hm hij hj
  have h2 : m.gap * 1 ≤ m.gap * (j - i : Nat) := Int.mul_le_mul_of_nonneg_left (by omega) (by have := hm.a1; omega)
  have := hm.a1
  omega

/-- The last minute before N for which p is true; -1: none. -/
def downTo (p : Nat → Bool) : Nat → Int
  | 0 => -1
  | n + 1 => if p n = true then (n : Int) else downTo p n
theorem downTo_bound (p : Nat → Bool) : ∀ N, -1 ≤ downTo p N ∧ downTo p N < N
  | 0 => by simp [downTo]
  | n + 1 => by have := downTo_bound p n; unfold downTo; split <;> omega
theorem downTo_pos {p : Nat → Bool} : ∀ {N : Nat}, 0 ≤ downTo p N → p (downTo p N).toNat = true
  | 0, h => by simp [downTo] at h
  | n + 1, h => by
    unfold downTo at h ⊢
    by_cases hp : p n = true
    · rw [if_pos hp]; simpa using hp
    · rw [if_neg hp] at h ⊢; exact downTo_pos h
theorem downTo_ge {p : Nat → Bool} : ∀ {N k : Nat}, k < N → p k = true → (k : Int) ≤ downTo p N
  | 0, k, hk, _ => by omega
  | n + 1, k, hk, hp => by
    unfold downTo
    by_cases h : p n = true
    · rw [if_pos h]; omega
    · rw [if_neg h]
      refine downTo_ge (k := k) ?_ hp
      by_cases he : k = n
      · subst he; exact absurd hp h
      · omega
def pourAt (m : Mou) (first : List Int) (n : Nat) : Bool := decide ((skinN first n : Int) ≤ m.skin)
def lastM (m : Mou) (first : List Int) : Int := downTo (pourAt m first) 601
/-- The latest plan with so many toppings. -/
def lateP (last gap : Int) (n : Nat) : List Int := (List.range n).map fun (k : Nat) => last - ((n : Int) - 1 - (k : Int)) * gap
theorem lateP_length (last gap : Int) (n : Nat) : (lateP last gap n).length = n := by simp [lateP]
theorem lateP_getD (last gap : Int) (n i : Nat) (h : i < n) : (lateP last gap n).getD i 0 = last - ((n : Int) - 1 - i) * gap := by simp [lateP, List.getD, h]
theorem lateP_succ (last gap : Int) (n : Nat) : lateP last gap (n + 1) = (last - n * gap) :: lateP last gap n := by
  refine List.ext_getElem? (fun i => ?_)
  cases i with
  | zero => simp [lateP]
  | succ i =>
    rw [List.getElem?_cons_succ]
    by_cases h : i < n
    · simp only [lateP, List.getElem?_map, List.getElem?_range (show i + 1 < n + 1 by omega), List.getElem?_range h, Option.map_some]
      congr 3
      push_cast
      omega
    · rw [List.getElem?_eq_none (by simp [lateP]; omega), List.getElem?_eq_none (by simp [lateP]; omega)]
def fewB (m : Mou) (first last : List Int) (n : Nat) : Bool := (decide (n = 0) || decide (0 ≤ lastM m first - ((n : Int) - 1) * m.gap)) && decide (holV m last (lateP (lastM m first) m.gap n) ≤ m.deep)
def fewN (m : Mou) (first last : List Int) : Int := firstTo (fewB m first last) 41
def neverB (last : List Int) : Bool := last.any fun x => decide (x < 0)
def setsE (m : Mou) : Int := if checkE m ≠ 0 then checkE m else if neverB (endsL m true) = true then 9 else 0
def setsV (m : Mou) : List (Int × Int) × Int := if setsE m = 0 then ((endsL m false).zip (endsL m true), 0) else ([], setsE m)
def warmV (m : Mou) (n : Int) : List (Int × Int) × Int := if checkE m ≠ 0 then ([], checkE m) else if within n 0 600 = false then ([], 7) else ((warmL m false n.toNat).zip (warmL m true n.toNat), 0)
def skinV (m : Mou) (n : Int) : (Int × Int) × Int := if checkE m ≠ 0 then ((0, 0), checkE m) else if within n 0 600 = false then ((0, 0), 7) else (((skinN (endsL m true) n : Int), (skinN (endsL m false) n : Int)), 0)
def truthE (m : Mou) (p ws : List Int) : Int := if (p.length : Int) ≠ m.rings ∨ 600 < ws.length then 3 else if p.all (fun x => within x m.pl m.ph) = false ∨ ws.all (fun x => within x m.wl m.wh) = false then 7 else 0
def coolV (m : Mou) (p ws : List Int) : List Int × Int := if checkE m ≠ 0 then ([], checkE m) else if truthE m p ws ≠ 0 then ([], truthE m p ws) else (runL m.give p ws, 0)
def poursB (m : Mou) (when plan : List Int) : Bool := plan.all fun t => decide ((skinN when t : Int) ≤ m.skin)
def hollowE (m : Mou) (plan : List Int) : Int := if checkE m ≠ 0 then checkE m else if planE m plan ≠ 0 then planE m plan else if neverB (endsL m true) = true then 9 else if poursB m (endsL m false) plan = false then 9 else 0
/-- The hollow's ends, and those of what is poured, and the error. -/
def hollowV (m : Mou) (plan : List Int) : (Int × Int) × (Int × Int) × Int :=
  if hollowE m plan ≠ 0 then ((0, 0), (0, 0), hollowE m plan)
  else ((holV m (endsL m false) plan, holV m (endsL m true) plan), (pourL (fall m (endsL m true)) m.fill plan, pourL (fall m (endsL m false)) m.fill plan), 0)
def fewE (m : Mou) : Int := if setsE m ≠ 0 then setsE m else if fewN m (endsL m false) (endsL m true) < 0 then 9 else 0
def fewV (m : Mou) : List Int × Int := if fewE m ≠ 0 then ([], fewE m) else (lateP (lastM m (endsL m false)) m.gap (fewN m (endsL m false) (endsL m true)).toNat, 0)
end Go.Proofs.Ytafdagjdpnaddaa
