/- Plain: minutes one by one. -/
import Derived.Test.YtafdagjdpnaddaaP16
namespace Go.Proofs.Ytafdagjdpnaddaa
/-- What rings shrink that set just in minute n, of the first k. -/
def riseTo (m : Mou) (when : List Int) (n : Int) : Nat → Int
  | 0 => 0
  | k + 1 => riseTo m when n k + if when.getD k 0 = n then shrI m k else 0
theorem fallTo_rise (m : Mou) (when : List Int) {n : Int} (hn : 0 ≤ n) : ∀ k, fallTo m when n k = fallTo m when (n - 1) k + riseTo m when n k
  | 0 => rfl
  | k + 1 => by
    simp only [fallTo, riseTo]
    rw [fallTo_rise m when hn k]
    generalize when.getD k 0 = x
    by_cases h1 : skinB n x = true
    · rw [if_pos h1]
      simp only [skinB, Bool.and_eq_true, decide_eq_true_eq] at h1
      by_cases h2 : x = n
      · rw [if_pos h2, if_neg (by simp only [skinB, Bool.and_eq_true, decide_eq_true_eq]; omega)]
        omega
      · rw [if_neg h2, if_pos (by simp only [skinB, Bool.and_eq_true, decide_eq_true_eq]; omega)]
        omega
    · rw [if_neg h1]
      simp only [skinB, Bool.and_eq_true, decide_eq_true_eq] at h1
      rw [if_neg (by simp only [skinB, Bool.and_eq_true, decide_eq_true_eq]; omega), if_neg (by omega)]
      omega
theorem riseTo_bound {m : Mou} (hm : Valid m) (when : List Int) (n : Int) : ∀ k : Nat, (k : Int) ≤ m.rings → 0 ≤ riseTo m when n k ∧ riseTo m when n k ≤ allTo m k
  | 0, _ => by simp [riseTo, allTo]
  | k + 1, h => by
    have ih := riseTo_bound hm when n k (by omega)
    have := shrI_nonneg hm (i := k) (by omega)
    simp only [riseTo, allTo]
    split <;> omega
/-- Toppings before minute n, and of the first k those in it. -/
def upTo (plan : List Int) (n : Int) (k : Nat) : List Int := plan.filter (fun t => decide (t < n)) ++ (plan.take k).filter (fun t => decide (t = n))
theorem upTo_zero (plan : List Int) (n : Int) : upTo plan n 0 = plan.filter (fun t => decide (t < n)) := by simp [upTo]
theorem upTo_hit {plan : List Int} {n : Int} {k : Nat} (hk : k < plan.length) (h : plan.getD k 0 = n) : upTo plan n (k + 1) = upTo plan n k ++ [n] := by
  unfold upTo
  rw [List.take_succ_eq_append_getElem hk, List.filter_append]
  have e : plan[k] = n := by simpa [List.getD, hk] using h
  simp [e]
theorem upTo_miss {plan : List Int} {n : Int} {k : Nat} (hk : k < plan.length) (h : plan.getD k 0 ≠ n) : upTo plan n (k + 1) = upTo plan n k := by
  unfold upTo
  rw [List.take_succ_eq_append_getElem hk, List.filter_append]
  have e : plan[k] ≠ n := by simpa [List.getD, hk] using h
  simp [e]
theorem filter_split (n : Int) : ∀ {l : List Int}, l.Pairwise (· ≤ ·) → l.filter (fun t => decide (t < n)) ++ l.filter (fun t => decide (t = n)) = l.filter (fun t => decide (t < n + 1))
  | [], _ => rfl
  | x :: l, h => by
    obtain ⟨h1, h2⟩ := List.pairwise_cons.1 h
    have ih := filter_split n h2
    by_cases hx : x < n
    · rw [List.filter_cons_of_pos (by simpa using hx), List.filter_cons_of_neg (by simp; omega), List.filter_cons_of_pos (by simp; omega), List.cons_append, ih]
    · have hnil : l.filter (fun t => decide (t < n)) = [] := by
        rw [List.filter_eq_nil_iff]
        intro t ht
        have := h1 t ht
        simp
        omega
      rw [hnil, List.nil_append] at ih
      by_cases he : x = n
      · rw [List.filter_cons_of_neg (by simpa using hx), hnil, List.nil_append, List.filter_cons_of_pos (by simpa using he), List.filter_cons_of_pos (by simp; omega), ih]
      · rw [List.filter_cons_of_neg (by simpa using hx), hnil, List.nil_append, List.filter_cons_of_neg (by simpa using he), List.filter_cons_of_neg (by simp; omega), ih]
theorem order_pairwise {l : List Int} (h : ∀ i j, i < j → j < l.length → l.getD i 0 ≤ l.getD j 0) : l.Pairwise (· ≤ ·) := by
  rw [List.pairwise_iff_getElem]
  intro i j hi hj hij
  have := h i j hij hj
  simpa [List.getD, hi, hj] using this
theorem upTo_all {plan : List Int} (h : plan.Pairwise (· ≤ ·)) (n : Int) : upTo plan n plan.length = upTo plan (n + 1) 0 := by
  rw [upTo_zero]
  unfold upTo
  rw [List.take_of_length_le (Nat.le_refl _)]
  exact filter_split n h
theorem upTo_end {plan : List Int} (h : ∀ t ∈ plan, t ≤ 600) : upTo plan 601 0 = plan := by
  rw [upTo_zero, List.filter_eq_self]
  intro t ht
  have := h t ht
  simp
  omega
theorem upTo_start {plan : List Int} (h : ∀ t ∈ plan, 0 ≤ t) : upTo plan 0 0 = [] := by
  rw [upTo_zero, List.filter_eq_nil_iff]
  intro t ht
  have := h t ht
  simp
  omega
/-- What has been poured. -/
def pourU (m : Mou) (when plan : List Int) (n : Int) (k : Nat) : Int := pourL (fall m when) m.fill (upTo plan n k)
theorem pourU_hit {m : Mou} {when plan : List Int} {n : Int} {k : Nat} (hk : k < plan.length) (h : plan.getD k 0 = n) : pourU m when plan n (k + 1) = pourU m when plan n k + min m.fill (fall m when n - pourU m when plan n k) := by
  unfold pourU
  rw [upTo_hit hk h]
  unfold pourL
  rw [pourF_append]
  show min (_ + m.fill) (fall m when n) = _
  omega
theorem pourU_bound {m : Mou} (hm : Valid m) {when : List Int} (hl : (when.length : Int) = m.rings) (plan : List Int) (n : Int) (k : Nat) : 0 ≤ pourU m when plan n k ∧ pourU m when plan n k ≤ 24000 := by
  have hA := allTo_bound hm when.length (by omega)
  have h8 := hm.r8
  unfold pourU pourL
  refine ⟨pourF_nonneg (by have := hm.f1; omega) (Int.le_refl _) (fun t _ => fall_nonneg hm hl t), pourF_step (by omega) (fun t _ => ?_)⟩
  have := fall_le hm hl t
  omega
theorem fall_bound {m : Mou} (hm : Valid m) {when : List Int} (hl : (when.length : Int) = m.rings) (n : Int) : 0 ≤ fall m when n ∧ fall m when n ≤ 24000 := by
  have hA := allTo_bound hm when.length (by omega)
  have h8 := hm.r8
  have := fall_le hm hl n
  have := fall_nonneg hm hl n
  omega
theorem fallB0 (m : Mou) {when : List Int} : fall m when (-1) = 0 := by
  unfold fall
  generalize when.length = k
  induction k with
  | zero => rfl
  | succ k ih =>
    simp only [fallTo]
    rw [ih, if_neg (by simp only [skinB, Bool.and_eq_true, decide_eq_true_eq]; omega)]
    rfl
theorem fall600 (m : Mou) {when : List Int} (h : ∀ i, i < when.length → 0 ≤ when.getD i 0 ∧ when.getD i 0 ≤ 600) : fall m when 600 = allTo m when.length :=
  fallTo_all _ (fun i hi => by have := h i hi; simp only [skinB, Bool.and_eq_true, decide_eq_true_eq]; omega)
end Go.Proofs.Ytafdagjdpnaddaa
