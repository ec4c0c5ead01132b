/- Seasons that are made of others are in order; and what Keeps says, plainly. -/
import Derived.Test.YtddapabmfecidaaP4
import Derived.Test.YtddapabmfecidaaP5
import Derived.Test.YtddapabmfecidaaH6
import Derived.Test.YtddapabmfecidaaW15
namespace Go.Proofs.Ytddapabmfecidaa
/-- Names in order, and each once. -/
def NamesOk (l : List Sto) : Prop := ∀ i, i < l.length → nameB (l.getD i default).name = true ∧ (l.take i).any (nameIs (l.getD i default).name) = false
theorem names_of_ok {s : Sea} (h : (checkV s).2.2 = 0) : NamesOk s.stores := by
  unfold checkV at h
  split at h
  · simp at h
  · split at h
    · simp at h
    · split at h
      · rename_i h3
        intro i hi
        have h4 : stoE s.stores i = 0 := findE_zero _ _ h3 _ (List.mem_map.mpr ⟨i, List.mem_range.mpr hi, rfl⟩)
        unfold stoE at h4
        split at h4
        · rename_i hn
          split at h4
          · simp at h4
          · rename_i ht
            exact ⟨hn, by simpa using ht⟩
        · simp at h4
      · rename_i h3
        exact absurd h h3
theorem findE_none : ∀ (es : List Int) (i : Int), (∀ e ∈ es, e = 0) → findE es i = (0, 0)
  | [], _, _ => rfl
  | e :: es, i, h => by
    rw [findE, if_pos (h e List.mem_cons_self)]
    exact findE_none es _ (fun x hx => h x (List.mem_cons_of_mem _ hx))
theorem outB_in {lo hi : Int} {l : List Int} (h : ∀ x ∈ l, lo ≤ x ∧ x ≤ hi) : outB lo hi l = false := by
  unfold outB
  rw [List.any_eq_false]
  intro x hx
  have := h x hx
  unfold outOne
  simp
  omega
theorem spanE_mk {p : Int × Int} (h : 0 ≤ p.1 ∧ p.1 ≤ p.2 ∧ p.2 ≤ 60) : spanE p = 0 := by
  unfold spanE
  rw [if_neg, if_neg (by omega)]
  rw [outB_in]
  · simp
  · intro x hx
    simp only [List.mem_cons, List.not_mem_nil, or_false] at hx
    rcases hx with rfl | rfl <;> omega
/-- A season is in order, if its numbers and its names are. -/
theorem check_mk {s : Sea} (hg : Good s) (hn : NamesOk s.stores) : (checkV s).2.2 = 0 := by
  have hst : ∀ i, i < s.stores.length → stoE s.stores i = 0 := by
    intro i hi
    have h1 := hn i hi
    have h2 := hg.lens i hi
    have h3 := hg.len
    have h4 := hg.rent i hi
    have e0 : (s.stores.getD 0 default).warm.length = s.len := rfl
    unfold stoE
    rw [if_pos h1.1, h1.2, if_neg (by simp), outB_in (l := [(s.stores.getD i default).rent]) (by intro x hx; simp at hx; subst hx; simpa using h4), if_neg (by simp), if_neg]
    · unfold spansE
      rw [findE_none]
      intro e he
      obtain ⟨p, hp, rfl⟩ := List.mem_map.1 he
      obtain ⟨d, hd, rfl⟩ := List.getElem_of_mem hp
      have := hg.span i hi d (by omega)
      rw [List.getD_eq_getElem?_getD (l := (s.stores.getD i default).warm), List.getElem?_eq_getElem hd] at this
      exact spanE_mk this
    · rw [e0, h2, outB_in (by intro x hx; simp at hx; subst hx; omega)]
      simp
  unfold checkV
  rw [if_neg, if_neg, if_pos]
  · unfold stosE
    rw [findE_none]
    intro e he
    obtain ⟨i, hi, rfl⟩ := List.mem_map.1 he
    exact hst i (List.mem_range.1 hi)
  · have := hg.stores
    rw [outB_in (by intro x hx; simp at hx; subst hx; omega)]
    simp
  · unfold headE
    have h1 := hg.bend
    have h2 := hg.jump
    have h3 := hg.days
    have h4 := hg.times
    have h5 := hg.move
    rw [outB_in, outB_in, outB_in]
    · simp
    · intro x hx; simp at hx; omega
    · intro x hx; simp at hx; omega
    · intro x hx; simp at hx; omega
/-! A season from a day on. -/
theorem fromS_get (s : Sea) (day i : Nat) (hi : i < s.stores.length) : (fromS s day).stores.getD i default = { (s.stores.getD i default) with warm := (s.stores.getD i default).warm.drop day } := by
  rw [List.getD_eq_getElem?_getD, List.getD_eq_getElem?_getD]
  simp [fromS, List.getElem?_eq_getElem hi]
theorem fromS_at (s : Sea) (day i d : Nat) (hi : i < s.stores.length) : (fromS s day).at i d = s.at i (day + d) := by
  unfold Sea.at
  rw [fromS_get s day i hi, List.getD_eq_getElem?_getD, List.getD_eq_getElem?_getD (l := (s.stores.getD i default).warm), List.getElem?_drop]
theorem fromS_count (s : Sea) (day : Nat) : (fromS s day).stores.length = s.stores.length := by simp [fromS]
theorem fromS_len {s : Sea} (hg : Good s) (day : Nat) : (fromS s day).len = s.len - day := by
  have h := hg.stores
  unfold Sea.len
  rw [fromS_get s day 0 (by omega), List.length_drop]
theorem fromS_good {s : Sea} (hg : Good s) {day : Nat} (hd : day < s.len) : Good (fromS s day) := by
  have hc := fromS_count s day
  have hl := fromS_len hg day
  have h8 := hg.len
  refine ⟨hg.bend, hg.jump, hg.days, hg.times, hg.move, by rw [hc]; exact hg.stores, by omega, ?_, ?_, ?_⟩
  · intro i hi
    rw [hc] at hi
    rw [fromS_get s day i hi]
    exact hg.rent i hi
  · intro i hi
    rw [hc] at hi
    rw [fromS_get s day i hi, List.length_drop, hg.lens i hi, hl]
  · intro i hi d hd2
    rw [hc] at hi
    have h := fromS_at s day i d hi
    unfold Sea.at at h
    rw [h]
    exact hg.span i hi (day + d) (by omega)
theorem names_same {l l' : List Sto} (h : l'.length = l.length) (hn : ∀ i, i < l.length → (l'.getD i default).name = (l.getD i default).name) (hok : NamesOk l) : NamesOk l' := by
  intro i hi
  have h1 := hok i (by omega)
  rw [hn i (by omega)]
  refine ⟨h1.1, ?_⟩
  rw [List.any_eq_false]
  intro x hx
  obtain ⟨k, hk, rfl⟩ := List.getElem_of_mem hx
  rw [List.length_take] at hk
  have h2 := List.any_eq_false.1 h1.2 (l.getD k default) (by
    rw [List.getD_eq_getElem?_getD, List.getElem?_eq_getElem (by omega)]
    exact List.mem_take_iff_getElem.2 ⟨k, by omega, rfl⟩)
  have h3 := hn k (by omega)
  rw [List.getD_eq_getElem?_getD (l := l'), List.getElem?_eq_getElem (by omega)] at h3
  rw [List.getElem_take]
  unfold nameIs at h2 ⊢
  rw [show (l'[k]'(by omega)).name = (l.getD k default).name from h3]
  exact h2
theorem fromS_ok {s : Sea} (hc : (checkV s).2.2 = 0) {day : Nat} (hd : day < s.len) : (checkV (fromS s day)).2.2 = 0 :=
  check_mk (fromS_good (good_of_ok hc) hd) (names_same (fromS_count s day) (fun i hi => by rw [fromS_get s day i hi]) (names_of_ok hc))
/-- The spans of one store from a day on, the last one first. -/
def kl (s : Sea) (i day : Nat) : Nat → List (Int × Int)
  | 0 => []
  | k + 1 => s.at i (day + k) :: kl s i day k
theorem rl_kl (s : Sea) (i day m : Nat) (hi : i < s.stores.length) : ∀ k, k ≤ m → rl (fromS s day) (List.replicate m (i : Int)) k = kl s i day k
  | 0, _ => rfl
  | k + 1, h => by
    rw [rl, kl, rl_kl s i day m hi k (by omega)]
    congr 1
    have : (List.replicate m (i : Int)).getD k 0 = i := by rw [List.getD_eq_getElem?_getD, List.getElem?_replicate, if_pos (by omega)]; rfl
    rw [this, Int.toNat_natCast, fromS_at s day i k hi]
def KSafe (s : Sea) (i day m : Nat) : Prop := HV s.bend (kl s i day m) < s.days ∧ JM s.jump (kl s i day m) < s.times
theorem keepRun_is (s : Sea) (i day : Nat) : ∀ f k, ∃ r : Nat, keepRun s i f (day + k) (HV s.bend (kl s i day k)) (JV s.jump (kl s i day k)) = r ∧ r ≤ f ∧ (∀ m, k < m → m ≤ k + r → KSafe s i day m) ∧ (r < f → ¬ KSafe s i day (k + r + 1))
  | 0, k => ⟨0, rfl, by omega, fun m h1 h2 => by omega, fun h => by omega⟩
  | f + 1, k => by
    have e1 : s.hotN (s.at i (day + k)) (HV s.bend (kl s i day k)) = HV s.bend (kl s i day (k + 1)) := rfl
    have e2 : s.jumpN (s.at i (day + k)) (JV s.jump (kl s i day k)) = JV s.jump (kl s i day (k + 1)) := rfl
    have e3 : s.safe (HV s.bend (kl s i day (k + 1))) (JV s.jump (kl s i day (k + 1))) = true ↔ KSafe s i day (k + 1) := by
      unfold Sea.safe KSafe JM
      simp
    rw [keepRun, e1, e2]
    by_cases h : s.safe (HV s.bend (kl s i day (k + 1))) (JV s.jump (kl s i day (k + 1))) = true
    · rw [if_pos h]
      obtain ⟨r, h1, h2, h3, h4⟩ := keepRun_is s i day f (k + 1)
      rw [show day + (k + 1) = day + k + 1 by omega] at h1
      refine ⟨r + 1, by rw [h1]; omega, by omega, ?_, ?_⟩
      · intro m hm1 hm2
        by_cases hm : m = k + 1
        · subst hm; exact e3.1 h
        · exact h3 m (by omega) (by omega)
      · intro hr
        have := h4 (by omega)
        rwa [show k + 1 + r + 1 = k + (r + 1) + 1 by omega] at this
    · rw [if_neg h]
      exact ⟨0, rfl, by omega, fun m h1 h2 => by omega, fun _ => fun hk => h (e3.2 hk)⟩
theorem replicate_in (s : Sea) (i m : Nat) (hi : i < s.stores.length) : WayIn s (List.replicate m (i : Int)) := by
  intro d hd
  rw [List.length_replicate] at hd
  rw [List.getD_eq_getElem?_getD, List.getElem?_replicate, if_pos hd]
  simp
  omega
theorem MV_kl (s : Sea) (i day : Nat) (b : Int) (hb : 0 < b) : ∀ n, (∀ m, 0 < m → m ≤ n → HV s.bend (kl s i day m) < b) → MV s.bend (kl s i day n) < b
  | 0, _ => by simpa [kl, MV] using hb
  | n + 1, h => by
    have h1 := MV_kl s i day b hb n (fun m h1 h2 => h m h1 (by omega))
    have h2 := h (n + 1) (by omega) (Nat.le_refl _)
    rw [kl] at h2 ⊢
    rw [show ∀ p l, MV s.bend (p :: l) = max (MV s.bend l) (HV s.bend (p :: l)) from fun _ _ => rfl]
    omega
/-- **What Keeps says.** -/
theorem keep_plain {s : Sea} (hc : (checkV s).2.2 = 0) {i day : Nat} (hi : i < s.stores.length) (hd : day < s.len) :
    ∃ n : Nat, keepV s i day = ((n : Int), 0) ∧ n ≤ s.len - day ∧
      (0 < n → openE (fromS s day) (List.replicate n (i : Int)) = 0 ∧ (riskV (fromS s day) (List.replicate n (i : Int))).1 < s.days ∧ (riskV (fromS s day) (List.replicate n (i : Int))).2.1 < s.times) ∧
      (n < s.len - day → ∃ h j, riskV (fromS s day) (List.replicate (n + 1) (i : Int)) = (h, j, 0) ∧ (s.days ≤ h ∨ s.times ≤ j)) := by
  have hg := good_of_ok hc
  have hfl := fromS_len hg day
  have hop : ∀ m, 1 ≤ m → m ≤ s.len - day → openE (fromS s day) (List.replicate m (i : Int)) = 0 := fun m h1 h2 =>
    openE_mk (fromS_ok hc hd) (by rw [List.length_replicate]; exact h1) (by rw [List.length_replicate, hfl]; exact h2) (replicate_in _ i m (by rw [fromS_count]; exact hi))
  have hrk : ∀ m, 1 ≤ m → m ≤ s.len - day → riskV (fromS s day) (List.replicate m (i : Int)) = (MV s.bend (kl s i day m), JM s.jump (kl s i day m), 0) := by
    intro m h1 h2
    rw [riskV_ok (hop m h1 h2), List.length_replicate, rl_kl s i day m hi m (Nat.le_refl _)]
    rfl
  obtain ⟨r, h1, h2, h3, h4⟩ := keepRun_is s i day (s.len - day) 0
  have h8 := hg.stores
  have h9 := hg.len
  have hdays := hg.days
  rw [Nat.zero_add] at h4
  rw [Nat.add_zero, Nat.zero_add] at *
  refine ⟨r, ?_, h2, ?_, ?_⟩
  · unfold keepV
    rw [if_pos hc, outB_in (by intro x hx; simp at hx; subst hx; omega), outB_in (by intro x hx; simp at hx; subst hx; omega)]
    simp only [Bool.or_self, Bool.false_eq_true, if_false, Int.toNat_natCast]
    have e : keepRun s i (s.len - day) day 0 (List.replicate 61 0) = r := h1
    rw [e]
  · intro hr
    rw [hrk r hr h2]
    exact ⟨hop r hr h2, MV_kl s i day s.days (by omega) r (fun m a b => (h3 m a b).1), (h3 r hr (Nat.le_refl _)).2⟩
  · intro hr
    have h5 := h4 hr
    refine ⟨_, _, hrk (r + 1) (by omega) (by omega), ?_⟩
    have h6 := HV_le_MV s.bend (kl s i day (r + 1)) (by simp [kl])
    unfold KSafe at h5
    rcases Int.lt_or_le (MV s.bend (kl s i day (r + 1))) s.days with h7 | h7
    · right
      rcases Int.lt_or_le (JM s.jump (kl s i day (r + 1))) s.times with h10 | h10
      · exact absurd ⟨by omega, h10⟩ h5
      · exact h10
    · exact .inl h7
end Go.Proofs.Ytddapabmfecidaa
