/- Truths of a list of spans (the last day first): jumps, hot days, and what Risks says of them. -/
import Derived.Test.YtddapabmfecidaaW16
namespace Go.Proofs.Ytddapabmfecidaa

/-- t is a truth of the spans l (both the last day first). -/
inductive TR : List (Int × Int) → List Int → Prop
  | nil : TR [] []
  | cons {p : Int × Int} {l : List (Int × Int)} {x : Int} {t : List Int} : p.1 ≤ x → x ≤ p.2 → TR l t → TR (p :: l) (x :: t)
theorem TR.length {l : List (Int × Int)} {t : List Int} (h : TR l t) : t.length = l.length := by induction h <;> simp_all
/-- Spans in order. -/
def SpOk (l : List (Int × Int)) : Prop := ∀ p ∈ l, 0 ≤ p.1 ∧ p.1 ≤ p.2 ∧ p.2 ≤ 60
theorem SpOk.tail {p : Int × Int} {l : List (Int × Int)} (h : SpOk (p :: l)) : SpOk l := fun q hq => h q (List.mem_cons_of_mem _ hq)
theorem SpOk.head {p : Int × Int} {l : List (Int × Int)} (h : SpOk (p :: l)) : 0 ≤ p.1 ∧ p.1 ≤ p.2 ∧ p.2 ≤ 60 := h p List.mem_cons_self

def jb (jm x y : Int) : Int := if jumpB jm x y then 1 else 0
/-- How many jumps. -/
def jr (jm : Int) : List Int → Int
  | [] => 0
  | x :: t => (match t with | [] => 0 | y :: _ => jb jm y x) + jr jm t
/-- The hot days up to the last one; the most of them one after the other. -/
def hr (bend : Int) : List Int → Int
  | [] => 0
  | x :: t => if x < bend then 0 else hr bend t + 1
def mr (bend : Int) : List Int → Int
  | [] => 0
  | x :: t => max (mr bend t) (hr bend (x :: t))

def JV (jm : Int) : List (Int × Int) → List Int
  | [] => List.replicate 61 0
  | p :: l => nextTo jm p.1 (p.2 + 1) (JV jm l)
def HV (bend : Int) : List (Int × Int) → Int
  | [] => 0
  | p :: l => hotV bend (HV bend l) p.2
def MV (bend : Int) : List (Int × Int) → Int
  | [] => 0
  | p :: l => max (MV bend l) (HV bend (p :: l))
/-- The most jumps. -/
def JM (jm : Int) (l : List (Int × Int)) : Int := maxTo (JV jm l) 61 - 1

theorem jb_bound (jm x y : Int) : 0 ≤ jb jm x y ∧ jb jm x y ≤ 1 := by unfold jb; split <;> omega
theorem jr_nonneg (jm : Int) : ∀ t, 0 ≤ jr jm t
  | [] => by simp [jr]
  | x :: t => by
    have h1 := jr_nonneg jm t
    unfold jr
    split
    · omega
    · have := jb_bound jm; rename_i y _; have := this y x; omega
theorem jr_le (jm : Int) : ∀ x t, jr jm (x :: t) ≤ t.length
  | x, [] => by simp [jr]
  | x, y :: t => by
    have h1 := jr_le jm y t
    have h2 := jb_bound jm y x
    unfold jr
    simp only [List.length_cons]
    omega
theorem hr_le_HV (bend : Int) {l : List (Int × Int)} {t : List Int} (h : TR l t) : 0 ≤ hr bend t ∧ hr bend t ≤ HV bend l := by
  induction h with
  | nil => simp [hr, HV]
  | cons h1 h2 _ ih =>
    unfold hr HV hotV
    split <;> split <;> omega
theorem mr_le_MV (bend : Int) {l : List (Int × Int)} {t : List Int} (h : TR l t) : mr bend t ≤ MV bend l := by
  induction h with
  | nil => simp [mr, MV]
  | cons h1 h2 h3 ih =>
    have := (hr_le_HV bend (.cons h1 h2 h3)).2
    unfold mr MV
    omega
theorem hr_hi (bend : Int) : ∀ l : List (Int × Int), hr bend (l.map (·.2)) = HV bend l
  | [] => rfl
  | p :: l => by
    have := hr_hi bend l
    simp only [List.map_cons, hr, HV, hotV]
    rw [this]
theorem mr_hi (bend : Int) : ∀ l : List (Int × Int), mr bend (l.map (·.2)) = MV bend l
  | [] => rfl
  | p :: l => by
    have h1 := mr_hi bend l
    have h2 := hr_hi bend (p :: l)
    rw [List.map_cons] at h2
    simp only [List.map_cons, mr, MV]
    rw [h1, h2]

theorem foldV_le (jm : Int) (j : List Int) (now : Int) : ∀ b i, i < b → stepV jm (j.getD i 0) i now ≤ foldV jm j now b
  | 0, i, h => by omega
  | b + 1, i, h => by
    unfold foldV
    by_cases hb : i = b
    · subst hb; omega
    · have := foldV_le jm j now b i (by omega); omega
theorem foldV_ge0 (jm : Int) (j : List Int) (now : Int) : ∀ b, startV j ≤ foldV jm j now b
  | 0 => Int.le_refl _
  | b + 1 => by have := foldV_ge0 jm j now b; unfold foldV; omega
theorem foldV_at (jm : Int) (j : List Int) (now : Int) : ∀ b, foldV jm j now b = startV j ∨ ∃ i, i < b ∧ foldV jm j now b = stepV jm (j.getD i 0) i now
  | 0 => .inl rfl
  | b + 1 => by
    unfold foldV
    rcases Int.le_total (foldV jm j now b) (stepV jm (j.getD b 0) b now) with h | h
    · exact .inr ⟨b, by omega, by omega⟩
    · rw [show max (foldV jm j now b) (stepV jm (j.getD b 0) b now) = foldV jm j now b by omega]
      rcases foldV_at jm j now b with h1 | ⟨i, h1, h2⟩
      · exact .inl h1
      · exact .inr ⟨i, by omega, h2⟩

theorem JV_nil_zero (jm : Int) : startV (JV jm []) = 1 := by rw [JV]; unfold startV; rw [if_pos rfl]
theorem JV_len (jm : Int) : ∀ l, (JV jm l).length = 61
  | [] => by simp [JV]
  | p :: l => nextTo_len _ _ _ _
theorem JV_nil_at (jm : Int) (i : Nat) : (JV jm []).getD i 0 = 0 := by
  unfold JV
  rw [List.getD_eq_getElem?_getD, List.getElem?_replicate]
  split <;> rfl
theorem JV_at (jm : Int) (p : Int × Int) (l : List (Int × Int)) (i : Nat) (hi : i < 61) : (JV jm (p :: l)).getD i 0 = if p.1 ≤ (i : Int) ∧ (i : Int) ≤ p.2 then foldV jm (JV jm l) i 61 else 0 := by
  rw [JV, nextTo_at _ _ _ _ _ hi]
  unfold cellV
  have : ((i : Int) < p.2 + 1) ↔ ((i : Int) ≤ p.2) := by omega
  simp only [this]
/-- In every truth there are at most as many jumps as the vector says at its last warmth. -/
theorem JV_upper (jm : Int) {l : List (Int × Int)} {t : List Int} (h : TR l t) : SpOk l → ∀ x t', t = x :: t' → jr jm t + 1 ≤ (JV jm l).getD x.toNat 0 := by
  induction h with
  | nil => intro _ x t' h; cases h
  | @cons p l x t h1 h2 h3 ih =>
    rintro hok y t' ⟨⟩
    have hp := hok.head
    rw [JV_at jm p l x.toNat (by omega), if_pos (by omega)]
    cases h3 with
    | nil =>
      have := foldV_ge0 jm (JV jm []) (x.toNat) 61
      rw [JV_nil_zero] at this
      have e0 : jr jm [x] = 0 := rfl
      rw [e0]
      omega
    | @cons q l' y t' h4 h5 h6 =>
      have hq := hok.tail.head
      have := ih hok.tail y t' rfl
      have hs := foldV_le jm (JV jm (q :: l')) (x.toNat) 61 y.toNat (by omega)
      have hn := jr_nonneg jm (y :: t')
      have e1 : ((y.toNat : Nat) : Int) = y := by omega
      have e2 : ((x.toNat : Nat) : Int) = x := by omega
      rw [e2] at hs ⊢
      rw [show jr jm (x :: y :: t') = jb jm y x + jr jm (y :: t') from rfl]
      refine Int.le_trans ?_ hs
      unfold stepV jb
      rw [e1]
      have : decide (0 < (JV jm (q :: l')).getD y.toNat 0) = true := decide_eq_true (by omega)
      rw [this, Bool.true_and]
      split <;> omega
theorem JV_pos {l : List (Int × Int)} (hok : SpOk l) (p : Int × Int) (hp : 0 ≤ p.1 ∧ p.1 ≤ p.2 ∧ p.2 ≤ 60) : ∃ t, TR (p :: l) t := by
  induction l generalizing p with
  | nil => exact ⟨[p.1], .cons (Int.le_refl _) hp.2.1 .nil⟩
  | cons q l ih =>
    obtain ⟨t, ht⟩ := ih hok.tail q hok.head
    exact ⟨p.1 :: t, .cons (Int.le_refl _) hp.2.1 ht⟩
theorem JV_zeroB (jm : Int) {p : Int × Int} {l : List (Int × Int)} (hok : SpOk (p :: l)) : zeroB (JV jm (p :: l)) = false := by
  obtain ⟨t, ht⟩ := JV_pos hok.tail p hok.head
  cases ht with
  | @cons _ _ x t h1 h2 h3 =>
    have hu := JV_upper jm (.cons h1 h2 h3) hok x t rfl
    have hn := jr_nonneg jm (x :: t)
    cases hz : zeroB (JV jm (p :: l)) with
    | false => rfl
    | true =>
      unfold zeroB at hz
      have := of_decide_eq_true hz
      rw [this, List.getD_eq_getElem?_getD, List.getElem?_replicate] at hu
      split at hu <;> simp at hu <;> omega
/-- Where the vector says a number, there is a truth with so many jumps. -/
theorem JV_reach (jm : Int) : ∀ (l : List (Int × Int)), SpOk l → ∀ i, i < 61 → 0 < (JV jm l).getD i 0 → ∃ t, TR l ((i : Int) :: t) ∧ jr jm ((i : Int) :: t) + 1 = (JV jm l).getD i 0
  | [], _, i, _, h => by rw [JV_nil_at] at h; omega
  | [p], hok, i, hi, h => by
    rw [JV_at _ _ _ _ hi] at h ⊢
    split at h
    · rename_i hp
      rw [if_pos hp]
      refine ⟨[], .cons hp.1 hp.2 .nil, ?_⟩
      have h0 : startV (JV jm []) = 1 := JV_nil_zero jm
      rcases foldV_at jm (JV jm []) i 61 with h1 | ⟨b, _, h1⟩
      · rw [h1, h0]; simp [jr]
      · unfold stepV at h1
        rw [JV_nil_at] at h1
        simp at h1
        omega
    · omega
  | p :: q :: l, hok, i, hi, h => by
    rw [JV_at _ _ _ _ hi] at h ⊢
    split at h
    · rename_i hp
      rw [if_pos hp]
      have h0 : startV (JV jm (q :: l)) = 0 := startV_not (JV_zeroB jm hok.tail)
      rcases foldV_at jm (JV jm (q :: l)) i 61 with h1 | ⟨b, hb, h1⟩
      · omega
      · rw [h1] at h ⊢
        unfold stepV at h ⊢
        have hpos : 0 < (JV jm (q :: l)).getD b 0 := by
          split at h
          · rename_i hh; simp at hh; exact hh.1
          · exact h
        obtain ⟨t, ht, hj⟩ := JV_reach jm (q :: l) hok.tail b hb hpos
        refine ⟨(b : Int) :: t, .cons hp.1 hp.2 ht, ?_⟩
        rw [show jr jm ((i : Int) :: (b : Int) :: t) = jb jm b i + jr jm ((b : Int) :: t) from rfl]
        unfold jb
        rw [show decide (0 < (JV jm (q :: l)).getD b 0) = true by simpa using hpos, Bool.true_and]
        split <;> omega
    · omega

theorem maxTo_ge (l : List Int) : ∀ k i, i < k → l.getD i 0 ≤ maxTo l k
  | 0, i, h => by omega
  | k + 1, i, h => by
    unfold maxTo
    by_cases hb : i = k
    · subst hb; omega
    · have := maxTo_ge l k i (by omega); omega
theorem maxTo_at (l : List Int) : ∀ k, 0 < k → ∃ i, i < k ∧ maxTo l k = l.getD i 0
  | 0, h => by omega
  | 1, h => ⟨0, by omega, by simp [maxTo]⟩
  | k + 2, h => by
    obtain ⟨i, h1, h2⟩ := maxTo_at l (k + 1) (by omega)
    unfold maxTo
    rcases Int.le_total (maxTo l (k + 1)) (l.getD (k + 1) 0) with h | h
    · exact ⟨k + 1, by omega, by omega⟩
    · exact ⟨i, by omega, by omega⟩

/-- **What Risks says of jumps**: no truth has more, some truth has as many. -/
theorem JM_upper (jm : Int) {l : List (Int × Int)} {t : List Int} (h : TR l t) (hok : SpOk l) (hne : l ≠ []) : jr jm t ≤ JM jm l := by
  cases h with
  | nil => exact absurd rfl hne
  | @cons p l x t h1 h2 h3 =>
    have hp := hok.head
    have := JV_upper jm (.cons h1 h2 h3) hok x t rfl
    have hm := maxTo_ge (JV jm (p :: l)) 61 x.toNat (by omega)
    unfold JM
    omega
theorem JM_reach (jm : Int) {l : List (Int × Int)} (hok : SpOk l) (hne : l ≠ []) : ∃ t, TR l t ∧ jr jm t = JM jm l := by
  obtain ⟨i, hi, he⟩ := maxTo_at (JV jm l) 61 (by omega)
  have hpos : 0 < (JV jm l).getD i 0 := by
    cases l with
    | nil => exact absurd rfl hne
    | cons p l =>
      obtain ⟨t, ht⟩ := JV_pos hok.tail p hok.head
      have := JM_upper jm ht hok (by simp)
      have := jr_nonneg jm t
      unfold JM at *
      omega
  obtain ⟨t, ht, hj⟩ := JV_reach jm l hok i hi hpos
  exact ⟨_, ht, by unfold JM; omega⟩
theorem JM_nonneg (jm : Int) {l : List (Int × Int)} (hok : SpOk l) (hne : l ≠ []) : 0 ≤ JM jm l := by
  obtain ⟨t, _, h⟩ := JM_reach jm hok hne
  have := jr_nonneg jm t
  omega
/-- Two lists of which every truth of one gives a truth of the other with as many jumps or more. -/
theorem JM_mono {jm jm' : Int} {l l' : List (Int × Int)} (hok : SpOk l) (hok' : SpOk l') (hne : l ≠ []) (hne' : l' ≠ []) (h : ∀ t, TR l t → ∃ t', TR l' t' ∧ jr jm t ≤ jr jm' t') : JM jm l ≤ JM jm' l' := by
  obtain ⟨t, ht, he⟩ := JM_reach jm hok hne
  obtain ⟨t', ht', hle⟩ := h t ht
  have := JM_upper jm' ht' hok' hne'
  omega
end Go.Proofs.Ytddapabmfecidaa
