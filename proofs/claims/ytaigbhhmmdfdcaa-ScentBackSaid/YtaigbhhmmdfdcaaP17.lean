/- A lot of which the last batch has more. -/
import Derived.Test.YtaigbhhmmdfdcaaP7
import Derived.Test.YtaigbhhmmdfdcaaK4
namespace Go.Proofs.Ytaigbhhmmdfdcaa
def moreB (b : Bat) (lot : Nat) (g : Int) : Bat := ⟨b.grams.set lot (b.grams.getD lot 0 + g), b.back, b.added⟩
def moreL (l : List Bat) (lot : Nat) (g : Int) : List Bat := l.set (l.length - 1) (moreB (l.getD (l.length - 1) default) lot g)
theorem moreL_len (l : List Bat) (lot : Nat) (g : Int) : (moreL l lot g).length = l.length := by simp [moreL]
theorem moreL_other {l : List Bat} {lot : Nat} {g : Int} {i : Nat} (h : i ≠ l.length - 1) : (moreL l lot g).getD i default = l.getD i default := by
  unfold moreL
  simp only [List.getD_eq_getElem?_getD]
  rw [List.getElem?_set_ne (fun e => h e.symm)]
theorem moreL_last {l : List Bat} {lot : Nat} {g : Int} (h : 1 ≤ l.length) : (moreL l lot g).getD (l.length - 1) default = moreB (l.getD (l.length - 1) default) lot g := by
  unfold moreL
  rw [List.getD_eq_getElem?_getD, List.getElem?_set_self (by omega)]
  rfl
theorem moreB_gram (b : Bat) {lot : Nat} (g : Int) (hl : lot < b.grams.length) (i : Nat) : (moreB b lot g).grams.getD i 0 = b.grams.getD i 0 + if i = lot then g else 0 := by
  unfold moreB
  simp only [List.getD_eq_getElem?_getD]
  by_cases hi : i = lot
  · subst hi
    rw [List.getElem?_set_self hl, if_pos rfl]
    rfl
  · rw [List.getElem?_set_ne (fun e => hi e.symm), if_neg hi]
    omega
theorem dot_bump (f : Nat → Int) (lot : Nat) (d : Int) : ∀ n, dot (fun i => f i + if i = lot then d else 0) n = dot f n + if lot < n then d else 0
  | 0 => by simp [dot]
  | n + 1 => by
    simp only [dot]
    rw [dot_bump f lot d n]
    by_cases h1 : lot < n
    · rw [if_pos h1, if_neg (show ¬ n = lot by omega), if_pos (show lot < n + 1 by omega)]; omega
    · rw [if_neg h1]
      by_cases h2 : n = lot
      · rw [if_pos h2, if_pos (by omega)]; omega
      · rw [if_neg h2, if_neg (by omega)]; omega
theorem moreB_weight (b : Bat) {lot : Nat} (g : Int) (hl : lot < b.grams.length) : weightV (moreB b lot g) = weightV b + g := by
  unfold weightV sumL sumTo
  rw [show (moreB b lot g).grams.length = b.grams.length by simp [moreB], show (moreB b lot g).back = b.back from rfl, dot_congr (fun i _ => moreB_gram b g hl i), dot_bump, if_pos hl]
  omega
theorem outB_ints {m : Int} {l : List Int} (h : ∀ i, i < l.length → 0 ≤ l.getD i 0 ∧ l.getD i 0 ≤ m) : outB 0 m l = false := outB_false.2 h
theorem more_ok {s : Shop} {l : List Bat} (hz : batchesE s l = 0) {lot : Nat} (hl : lot < s.lots.length) {g : Int} (hg : 0 ≤ g ∧ (l.getD (l.length - 1) default).grams.getD lot 0 + g ≤ 100000) : batchesE s (moreL l lot g) = 0 := by
  have h := all_good hz
  have hn1 := h.n1
  obtain ⟨hc, hn, hp⟩ := batches_zero.1 hz
  refine batches_zero.2 ⟨hc, by rw [moreL_len]; exact hn, fun k hk => ?_⟩
  rw [moreL_len] at hk
  by_cases hkl : k < l.length - 1
  · rw [batchE_congr (m := l) fun j hj => moreL_other (by omega)]
    exact hp k hk
  obtain rfl : k = l.length - 1 := by omega
  obtain ⟨h0, hw, ho⟩ := batchE_zero (hp _ hk)
  have hb := bat_ok0 h0
  have hgl : lot < (l.getD (l.length - 1) default).grams.length := by rw [hb.glen]; exact hl
  have e0 : batchE0 s (moreL l lot g) (l.length - 1) = 0 := by
    unfold batchE0 at h0 ⊢
    rw [moreL_last hn1]
    rw [show (moreB (l.getD (l.length - 1) default) lot g).grams.length = (l.getD (l.length - 1) default).grams.length by simp [moreB], show (moreB (l.getD (l.length - 1) default) lot g).back = (l.getD (l.length - 1) default).back from rfl, show (moreB (l.getD (l.length - 1) default) lot g).added = (l.getD (l.length - 1) default).added from rfl]
    split at h0
    · cases h0
    split at h0
    · cases h0
    rename_i h1 h2
    rw [if_neg h1, if_neg]
    · exact h0
    · simp only [Bool.or_eq_true, not_or, Bool.not_eq_true] at h2 ⊢
      refine ⟨outB_ints fun i hi => ?_, h2.2⟩
      rw [moreB_gram _ g hgl]
      have := hb.gram i
      split
      · rename_i e
        subst e
        omega
      · omega
  have ht : ∀ i m, takenV (moreL l lot g) i m = takenV l i m := fun i m => dot_congr fun k _ => by
    by_cases hk : k = l.length - 1
    · subst hk; rw [moreL_last hn1]; rfl
    · rw [moreL_other hk]
  have ho' : overB (moreL l lot g) (l.length - 1) (l.length - 1) = false := by
    unfold overB
    rw [List.any_eq_false]
    intro i hi
    have hi := List.mem_range.1 hi
    rw [moreL_other (by omega), ht, decide_eq_true_eq]
    have := overB_false ho hi
    omega
  have hwp := hp.pos h.sh h.n6 (Nat.le_refl _) hk
  unfold batchE
  rw [if_neg (by simp [e0]), moreL_last hn1, moreB_weight _ g hgl, if_neg (by omega), ho']
  rfl
theorem more_rows {s : Shop} {l : List Bat} (h : AllGood s l) (lot : Nat) (g : Int) : ∀ k, k ≤ l.length - 1 → rowsV s (moreL l lot g) k = rowsV s l k := fun k hk =>
  rowsV_congr (fun j hj => moreL_other (by omega)) fun j hj => (bat_ok0 (batchE_zero (h.pre j (by omega))).1).blen
theorem more_mic {s : Shop} {l : List Bat} (hz : batchesE s l = 0) {lot : Nat} (hl : lot < s.lots.length) (g : Int) {t : Nat} (ht : t < s.things.length) :
    (micV s (moreL l lot g) (l.length - 1) t).2 = (micV s l (l.length - 1) t).2 + g * ((s.lots.getD lot default).parts.getD t (0, 0)).2 := by
  have h := all_good hz
  have hn1 := h.n1
  have hb := bat_ok0 (batchE_zero (h.pre (l.length - 1) (by omega))).1
  have hgl : lot < (l.getD (l.length - 1) default).grams.length := by rw [hb.glen]; exact hl
  have hbl := hb.blen
  rw [micV_eq s l (by omega), micV_eq s (moreL l lot g) (by rw [moreL_len]; omega), if_pos ht, if_pos ht, more_rows h lot g _ (Nat.le_refl _), moreL_last hn1]
  unfold cellV cellS
  simp only
  have e1 : dot (lotT s (moreB (l.getD (l.length - 1) default) lot g) t true) s.lots.length = dot (lotT s (l.getD (l.length - 1) default) t true) s.lots.length + g * ((s.lots.getD lot default).parts.getD t (0, 0)).2 := by
    rw [dot_congr (g := fun i => lotT s (l.getD (l.length - 1) default) t true i + if i = lot then g * ((s.lots.getD lot default).parts.getD t (0, 0)).2 else 0), dot_bump, if_pos hl]
    intro i _
    unfold lotT
    rw [moreB_gram _ g hgl]
    by_cases hi : i = lot
    · subst hi
      rw [if_pos rfl, if_pos rfl, Int.add_mul]
      simp [sd]
    · rw [if_neg hi, if_neg hi, Int.add_zero, Int.add_zero]
  have e2 : dot (backT (moreL l lot g) (rowsV s l (l.length - 1)) (moreB (l.getD (l.length - 1) default) lot g) t true) (moreB (l.getD (l.length - 1) default) lot g).back.length = dot (backT l (rowsV s l (l.length - 1)) (l.getD (l.length - 1) default) t true) (l.getD (l.length - 1) default).back.length := by
    show dot _ (l.getD (l.length - 1) default).back.length = _
    refine dot_congr fun i hi => ?_
    unfold backT
    rw [moreL_other (show i ≠ l.length - 1 by omega)]
    rfl
  rw [e1, e2]
  rw [show (moreB (l.getD (l.length - 1) default) lot g).added = (l.getD (l.length - 1) default).added from rfl]
  omega
/-- The grams that Take names are those with which all limits are kept. -/
theorem take_iff (s : Shop) (b : Bat) (row : List (Int × Int)) (lot : Nat) (g : Int) (hg : 0 ≤ g ∧ b.grams.getD lot 0 + g ≤ 100000) : ∀ n, ((takeTo s b row lot n).1 ≤ g ∧ g ≤ (takeTo s b row lot n).2) ↔
    ∀ t, t < n → (row.getD t (0, 0)).2 + g * ((s.lots.getD lot default).parts.getD t (0, 0)).2 ≤ (s.things.getD t default).limit * (weightV b + g)
  | 0 => by
    simp only [takeTo]
    constructor
    · intro _ t ht; omega
    · intro _; omega
  | n + 1 => by
    have ih := take_iff s b row lot g hg n
    have step : ((takeTo s b row lot (n + 1)).1 ≤ g ∧ g ≤ (takeTo s b row lot (n + 1)).2) ↔ ((takeTo s b row lot n).1 ≤ g ∧ g ≤ (takeTo s b row lot n).2) ∧ (row.getD n (0, 0)).2 + g * ((s.lots.getD lot default).parts.getD n (0, 0)).2 ≤ (s.things.getD n default).limit * (weightV b + g) := by
      simp only [takeTo]
      generalize (takeTo s b row lot n) = G
      generalize (s.things.getD n default).limit = li
      generalize (row.getD n (0, 0)) = mm
      generalize ((s.lots.getD lot default).parts.getD n (0, 0)) = pp
      generalize weightV b = W
      have hx : mm.2 + g * pp.2 ≤ li * (W + g) ↔ g * (pp.2 - li) ≤ li * W - mm.2 := by
        rw [Int.mul_add, Int.mul_sub, Int.mul_comm li g]
        omega
      rw [hx]
      unfold takeStep
      by_cases h1 : 0 < pp.2 - li
      · rw [if_pos h1]
        simp only
        have : g ≤ (li * W - mm.2) / (pp.2 - li) ↔ g * (pp.2 - li) ≤ li * W - mm.2 := Int.le_ediv_iff_mul_le h1
        rw [← this]
        omega
      · rw [if_neg h1]
        by_cases h2 : pp.2 - li < 0
        · rw [if_pos h2]
          simp only
          have h3 : -g ≤ (li * W - mm.2) / (li - pp.2) ↔ -g * (li - pp.2) ≤ li * W - mm.2 := Int.le_ediv_iff_mul_le (by omega)
          have h4 : -g * (li - pp.2) = g * (pp.2 - li) := by rw [Int.neg_mul, Int.mul_sub, Int.mul_sub]; omega
          rw [h4] at h3
          rw [← h3]
          omega
        · rw [if_neg h2]
          have h5 : pp.2 - li = 0 := by omega
          rw [h5, Int.mul_zero]
          by_cases h6 : li * W - mm.2 < 0
          · rw [if_pos h6]
            simp only
            omega
          · rw [if_neg h6]
            omega
    rw [step, ih]
    constructor
    · intro ⟨ha, hb⟩ t ht
      by_cases e : t < n
      · exact ha t e
      · obtain rfl : t = n := by omega
        exact hb
    · intro hh
      exact ⟨fun t ht => hh t (by omega), hh n (by omega)⟩
theorem take_lo (s : Shop) (b : Bat) (row : List (Int × Int)) (lot : Nat) : ∀ n, 0 ≤ (takeTo s b row lot n).1 ∧ (takeTo s b row lot n).2 ≤ max (-1) (100000 - b.grams.getD lot 0)
  | 0 => by simp only [takeTo]; omega
  | n + 1 => by
    have ih := take_lo s b row lot n
    simp only [takeTo]
    unfold takeStep
    split
    · simp only; omega
    · split
      · simp only; omega
      · split
        · simp only; omega
        · exact ih
/-- What Take says, and when the limits are kept. -/
theorem back_facts {s : Shop} {l : List Bat} (hz : batchesE s l = 0) {lot : Nat} (hl : lot < s.lots.length) {g : Int} (hg : 0 ≤ g ∧ (l.getD (l.length - 1) default).grams.getD lot 0 + g ≤ 100000) :
    ∃ lo hi e : Int, takeV s l lot = ((lo, hi), e) ∧ (e = 0 ∨ e = 9) ∧ (e = 0 → 0 ≤ lo ∧ hi ≤ 100000 - (l.getD (l.length - 1) default).grams.getD lot 0 ∧ lo ≤ hi) ∧
      ((e = 0 ∧ lo ≤ g ∧ g ≤ hi) ↔ ∀ t, t < s.things.length → (micV s (moreL l lot g) (l.length - 1) t).2 ≤ (s.things.getD t default).limit * (weightV (l.getD (l.length - 1) default) + g)) := by
  have hi := take_iff s (l.getD (l.length - 1) default) ((rangesV s l).getD (l.length - 1) []) lot g hg s.things.length
  have hlo := take_lo s (l.getD (l.length - 1) default) ((rangesV s l).getD (l.length - 1) []) lot s.things.length
  have hiff : (∀ t, t < s.things.length → (micV s (moreL l lot g) (l.length - 1) t).2 ≤ (s.things.getD t default).limit * (weightV (l.getD (l.length - 1) default) + g)) ↔ ∀ t, t < s.things.length → ((((rangesV s l).getD (l.length - 1) []).getD t (0, 0))).2 + g * ((s.lots.getD lot default).parts.getD t (0, 0)).2 ≤ (s.things.getD t default).limit * (weightV (l.getD (l.length - 1) default) + g) := by
    constructor
    · intro h t ht
      have := h t ht
      rw [more_mic hz hl g ht] at this
      exact this
    · intro h t ht
      rw [more_mic hz hl g ht]
      exact h t ht
  rw [hiff, ← hi]
  have ho : outOne 0 ((s.lots.length : Int) - 1) (lot : Int) = false := outOne_false.2 (by omega)
  unfold takeV
  rw [if_neg (by simp [hz]), ho, if_neg (by simp), Int.toNat_natCast]
  generalize takeTo s (l.getD (l.length - 1) default) ((rangesV s l).getD (l.length - 1) []) lot s.things.length = G at *
  by_cases h : G.2 < G.1
  · rw [if_pos h]
    exact ⟨0, 0, 9, rfl, .inr rfl, fun h => absurd h (by decide), by omega⟩
  · rw [if_neg h]
    obtain ⟨G1, G2⟩ := G
    exact ⟨G1, G2, 0, rfl, .inl rfl, fun _ => by simp only at hlo h; omega, by simp⟩
end Go.Proofs.Ytaigbhhmmdfdcaa
