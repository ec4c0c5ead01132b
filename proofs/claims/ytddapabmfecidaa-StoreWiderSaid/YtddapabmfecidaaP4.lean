/- Truths that are drawn, and when candles bend and bloom in a truth: plainly. -/
import Derived.Test.YtddapabmfecidaaP3
import Derived.Test.YtddapabmfecidaaP6
import Derived.Test.YtddapabmfecidaaH2
import Derived.Test.YtddapabmfecidaaH4
import Derived.Test.YtddapabmfecidaaW20
namespace Go.Proofs.Ytddapabmfecidaa

theorem revTake_pre (l : List Int) (x : Int) : ∀ k, k ≤ l.length → revTake (l ++ [x]) k = revTake l k
  | 0, _ => rfl
  | k + 1, h => by
    rw [revTake, revTake, revTake_pre l x k (by omega)]
    congr 1
    rw [List.getD_eq_getElem?_getD, List.getD_eq_getElem?_getD, List.getElem?_append_left (by omega)]
theorem revTake_snoc (l : List Int) (x : Int) : revTake (l ++ [x]) (l.length + 1) = x :: revTake l l.length := by
  rw [revTake, revTake_pre l x _ (Nat.le_refl _)]
  congr 1
  rw [List.getD_eq_getElem?_getD, List.getElem?_append_right (Nat.le_refl _), Nat.sub_self]
  rfl
theorem revTake_rev : ∀ l : List Int, revTake l l.length = l.reverse := by
  intro l
  induction h : l.length generalizing l with
  | zero => rw [List.eq_nil_of_length_eq_zero h]; rfl
  | succ n ih =>
    obtain ⟨l', x, rfl⟩ : ∃ l' x, l = l' ++ [x] := ⟨l.dropLast, l.getLast (by intro e; rw [e] at h; simp at h), (List.dropLast_concat_getLast _).symm⟩
    have hl : l'.length = n := by simpa using h
    rw [← hl, revTake_snoc, hl, ih l' hl]
    simp
theorem bendAt_iff (be days : Int) : ∀ (t u : List Int) (d : Nat), mr be u < days → ((0 ≤ bendAt be days t (hr be u) d) ↔ days ≤ mr be (t.reverse ++ u)) ∧ bendAt be days t (hr be u) d < d + t.length ∧ -1 ≤ bendAt be days t (hr be u) d
  | [], u, d, h => by
    simp only [bendAt, List.reverse_nil, List.nil_append, List.length_nil]
    omega
  | x :: t, u, d, h => by
    have e : bendN be x (hr be u) = hr be (x :: u) := rfl
    have h1 : mr be (x :: u) = max (mr be u) (hr be (x :: u)) := rfl
    have h2 := hr_le_mr be u
    have h3 : hr be (x :: u) ≤ hr be u + 1 ∨ hr be (x :: u) = 0 := by
      rw [show hr be (x :: u) = if x < be then 0 else hr be u + 1 from rfl]
      split
      · exact .inr rfl
      · exact .inl (Int.le_refl _)
    have h0 := (mr_bound be u).1
    simp only [bendAt, List.reverse_cons, List.append_assoc, List.singleton_append, List.length_cons]
    rw [e]
    split
    · rename_i hd
      have := mr_app be (x :: u) t.reverse
      refine ⟨⟨fun _ => by omega, fun _ => by omega⟩, by push_cast; omega, by omega⟩
    · rename_i hd
      have := bendAt_iff be days t (x :: u) (d + 1) (by omega)
      refine ⟨this.1, ?_, this.2.2⟩
      have := this.2.1
      push_cast at this ⊢
      omega
theorem jr_app (jm : Int) (u : List Int) : ∀ t, jr jm u ≤ jr jm (t ++ u)
  | [] => Int.le_refl _
  | x :: t => by
    have := jr_app jm u t
    have := jr_step jm x (t ++ u)
    rw [List.cons_append]
    omega
theorem bloomAt_iff (jm times : Int) : ∀ (t : List Int) (y : Int) (u : List Int) (d : Nat), jr jm (y :: u) < times → ((0 ≤ bloomAt jm times t y (jr jm (y :: u)) d) ↔ times ≤ jr jm (t.reverse ++ y :: u)) ∧ bloomAt jm times t y (jr jm (y :: u)) d < d + t.length ∧ -1 ≤ bloomAt jm times t y (jr jm (y :: u)) d
  | [], y, u, d, h => by
    simp only [bloomAt, List.reverse_nil, List.nil_append, List.length_nil]
    omega
  | x :: t, y, u, d, h => by
    have e : jr jm (x :: y :: u) = jb jm y x + jr jm (y :: u) := rfl
    simp only [bloomAt, List.reverse_cons, List.append_assoc, List.singleton_append, List.length_cons]
    split
    · rename_i hj
      have e1 : jb jm y x = 1 := by unfold jb; rw [if_pos hj]
      split
      · have := jr_app jm (x :: y :: u) t.reverse
        refine ⟨⟨fun _ => by omega, fun _ => by omega⟩, by push_cast; omega, by omega⟩
      · have e2 : jr jm (y :: u) + 1 = jr jm (x :: y :: u) := by omega
        rw [e2]
        have := bloomAt_iff jm times t x (y :: u) (d + 1) (by omega)
        refine ⟨this.1, ?_, this.2.2⟩
        have := this.2.1
        push_cast at this ⊢
        omega
    · rename_i hj
      have e1 : jb jm y x = 0 := by unfold jb; rw [if_neg hj]
      have e2 : jr jm (y :: u) = jr jm (x :: y :: u) := by omega
      rw [e2]
      have := bloomAt_iff jm times t x (y :: u) (d + 1) (by omega)
      refine ⟨this.1, ?_, this.2.2⟩
      have := this.2.1
      push_cast at this ⊢
      omega
theorem bloomF_iff (jm times : Int) (h1 : 1 ≤ times) (t : List Int) (hne : 0 < t.length) : ((0 ≤ bloomF jm times t) ↔ times ≤ jr jm t.reverse) ∧ bloomF jm times t < t.length ∧ -1 ≤ bloomF jm times t := by
  cases t with
  | nil => simp at hne
  | cons x t =>
    have := bloomAt_iff jm times t x [] 1 (show (0 : Int) < times by omega)
    rw [show jr jm [x] = 0 from rfl] at this
    simp only [bloomF, List.reverse_cons, List.length_cons]
    refine ⟨this.1, ?_, this.2.2⟩
    have := this.2.1
    push_cast at this ⊢
    omega
/-- **The truth that is drawn** is one. -/
theorem truthL_TR {s : Sea} {way ys : List Int} (hg : Good s) (hl : way.length ≤ s.len) (hw : WayIn s way) : ∀ k, k ≤ way.length → TR (rl s way k) (truthL s way ys k).reverse
  | 0, _ => .nil
  | k + 1, h => by
    have ih := truthL_TR (ys := ys) hg hl hw k (by omega)
    have hok := at_ok hg hl hw (k := k) (by omega)
    simp only [truthL, List.reverse_append, List.reverse_cons, List.reverse_nil, List.nil_append, List.singleton_append, rl]
    refine .cons ?_ ?_ ih
    · have := Int.emod_nonneg (turnV ys k) (show (s.at (way.getD k 0).toNat k).2 - (s.at (way.getD k 0).toNat k).1 + 1 ≠ 0 by omega)
      omega
    · have := Int.emod_lt_of_pos (turnV ys k) (show 0 < (s.at (way.getD k 0).toNat k).2 - (s.at (way.getD k 0).toNat k).1 + 1 by omega)
      omega
/-- A truth in the order of the days is one of the spans in the order of the days. -/
def InSp (s : Sea) (way warm : List Int) : Prop := ∀ d, d < way.length → (s.at (way.getD d 0).toNat d).1 ≤ warm.getD d 0 ∧ warm.getD d 0 ≤ (s.at (way.getD d 0).toNat d).2
theorem truthL_at (s : Sea) (way ys : List Int) : ∀ n d, d < n → (truthL s way ys n).getD d 0 = (s.at (way.getD d 0).toNat d).1 + turnV ys d % ((s.at (way.getD d 0).toNat d).2 - (s.at (way.getD d 0).toNat d).1 + 1)
  | 0, d, h => by omega
  | n + 1, d, h => by
    rw [truthL, List.getD_eq_getElem?_getD]
    by_cases hk : d < n
    · rw [List.getElem?_append_left (by rw [truthL_len]; exact hk), ← List.getD_eq_getElem?_getD]; exact truthL_at s way ys n d hk
    · obtain rfl : d = n := by omega
      rw [List.getElem?_append_right (by rw [truthL_len]; omega), truthL_len, Nat.sub_self]; rfl
theorem truthL_in {s : Sea} {way ys : List Int} (hg : Good s) (hl : way.length ≤ s.len) (hw : WayIn s way) : InSp s way (truthL s way ys way.length) := by
  intro d hd
  have hok := at_ok hg hl hw (k := d) hd
  rw [truthL_at s way ys _ d hd]
  have h1 := Int.emod_nonneg (turnV ys d) (show (s.at (way.getD d 0).toNat d).2 - (s.at (way.getD d 0).toNat d).1 + 1 ≠ 0 by omega)
  have h2 := Int.emod_lt_of_pos (turnV ys d) (show 0 < (s.at (way.getD d 0).toNat d).2 - (s.at (way.getD d 0).toNat d).1 + 1 by omega)
  omega
theorem InSp.out {s : Sea} {way warm : List Int} (h : InSp s way warm) : outTo s way warm way.length = false := by
  unfold outTo
  rw [List.any_eq_false]
  intro d hd
  rw [List.mem_range] at hd
  have := h d hd
  unfold outB outOne
  simp only [List.any_cons, List.any_nil, Bool.or_false, Bool.or_eq_true, decide_eq_true_eq]
  omega
theorem InSp.TRto {s : Sea} {way warm : List Int} (h : InSp s way warm) : ∀ k, k ≤ way.length → TR (rl s way k) (revTake warm k)
  | 0, _ => .nil
  | k + 1, hk => .cons (h k (by omega)).1 (h k (by omega)).2 (h.TRto k (by omega))
theorem InSp.TR {s : Sea} {way warm : List Int} (h : InSp s way warm) : TR (rl s way way.length) (revTake warm way.length) := h.TRto _ (Nat.le_refl _)
theorem InSp.bound {s : Sea} {way warm : List Int} (h : InSp s way warm) (hg : Good s) (hl : way.length ≤ s.len) (hw : WayIn s way) : ∀ k, k < way.length → 0 ≤ warm.getD k 0 ∧ warm.getD k 0 ≤ 60 := by
  intro k hk
  have := at_ok hg hl hw hk
  have := h k hk
  omega
/-- What Fate says of a truth. -/
theorem fate_in {s : Sea} {way warm : List Int} (he : openE s way = 0) (hwl : warm.length = way.length) (h : InSp s way warm) :
    ∃ f1 f2, fateV s way warm = (f1, f2, 0) ∧ (0 ≤ f1 ↔ s.days ≤ mr s.bend (revTake warm way.length)) ∧ (0 ≤ f2 ↔ s.times ≤ jr s.jump (revTake warm way.length)) ∧ f1 < way.length ∧ f2 < way.length ∧ -1 ≤ f1 ∧ -1 ≤ f2 := by
  have hg := good_of_ok (openE_ok he).1
  have hw := way_ok (openE_ok he).2
  refine ⟨bendAt s.bend s.days warm 0 0, bloomF s.jump s.times warm, ?_, ?_⟩
  · unfold fateV
    rw [if_pos he, if_pos hwl, h.out]
    rfl
  · have h1 := bendAt_iff s.bend s.days warm [] 0 (show (0 : Int) < s.days by have := hg.days; omega)
    have h2 := bloomF_iff s.jump s.times (by have := hg.times; omega) warm (by omega)
    have e : hr s.bend [] = 0 := rfl
    rw [e, List.append_nil] at h1
    have er := revTake_rev warm
    rw [hwl] at er
    rw [er]
    refine ⟨h1.1, h2.1, ?_, ?_, h1.2.2, h2.2.2⟩
    · have := h1.2.1; push_cast at this; omega
    · have := h2.2.1; omega
/-- **In any truth** there are no more hot days and jumps than Risks says. -/
theorem risk_in {s : Sea} {way warm : List Int} (he : openE s way = 0) (h : InSp s way warm) :
    mr s.bend (revTake warm way.length) ≤ (riskV s way).1 ∧ jr s.jump (revTake warm way.length) ≤ (riskV s way).2.1 := by
  have hg := good_of_ok (openE_ok he).1
  have hw := way_ok (openE_ok he).2
  rw [riskV_ok he]
  refine ⟨mr_le_MV _ h.TR, JM_upper _ h.TR (rl_ok hg hw.2.1 hw.2.2 _ (Nat.le_refl _)) ?_⟩
  intro e
  have := rl_length s way way.length
  rw [e] at this
  simp at this
  omega
end Go.Proofs.Ytddapabmfecidaa
