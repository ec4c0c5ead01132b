/- Plain facts: sums, rows, valid batches. -/
import Derived.Test.YtaigbhhmmdfdcaaP1
namespace Go.Proofs.Ytaigbhhmmdfdcaa
theorem dot_bound (f : Nat → Int) (M : Int) : ∀ n, (∀ i, i < n → 0 ≤ f i ∧ f i ≤ M) → 0 ≤ dot f n ∧ dot f n ≤ n * M
  | 0, _ => by simp [dot]
  | n + 1, h => by
    have ih := dot_bound f M n (fun i hi => h i (by omega))
    have := h n (by omega)
    simp only [dot]
    refine ⟨by omega, ?_⟩
    push_cast
    rw [Int.add_mul, Int.one_mul]
    omega
theorem dot_congr {f g : Nat → Int} : ∀ {n}, (∀ i, i < n → f i = g i) → dot f n = dot g n
  | 0, _ => rfl
  | n + 1, h => by simp only [dot]; rw [dot_congr (fun i hi => h i (by omega)), h n (by omega)]
theorem dot_le {f g : Nat → Int} : ∀ {n}, (∀ i, i < n → f i ≤ g i) → dot f n ≤ dot g n
  | 0, _ => Int.le_refl _
  | n + 1, h => by
    have h1 := dot_le (n := n) (fun i hi => h i (by omega))
    have h2 := h n (by omega)
    simp only [dot]; omega
theorem outOne_false {lo hi n : Int} : outOne lo hi n = false ↔ lo ≤ n ∧ n ≤ hi := by
  unfold outOne
  simp
theorem outB_false {lo hi : Int} {l : List Int} : outB lo hi l = false ↔ ∀ i, i < l.length → lo ≤ l.getD i 0 ∧ l.getD i 0 ≤ hi := by
  unfold outB
  rw [List.any_eq_false]
  constructor
  · intro h i hi'
    have := h (l.getD i 0) (by rw [List.getD_eq_getElem?_getD, List.getElem?_eq_getElem hi']; simp)
    exact outOne_false.1 (by simpa using this)
  · intro h x hx
    obtain ⟨i, hi', rfl⟩ := List.mem_iff_getElem.1 hx
    have := h i hi'
    rw [List.getD_eq_getElem?_getD, List.getElem?_eq_getElem hi'] at this
    simpa using outOne_false.2 this
theorem spansE_zero {m : Int} {l : List (Int × Int)} (h : spansE m l = 0) : ∀ i, i < l.length → 0 ≤ (l.getD i (0, 0)).1 ∧ (l.getD i (0, 0)).1 ≤ (l.getD i (0, 0)).2 ∧ (l.getD i (0, 0)).2 ≤ m := by
  intro i hi
  unfold spansE at h
  have e : l.getD i (0, 0) = l[i] := by rw [List.getD_eq_getElem?_getD, List.getElem?_eq_getElem hi]; rfl
  rw [e]
  split at h
  · simp at h
  · rename_i h1
    split at h
    · simp at h
    · rename_i h2
      have h1' := List.any_eq_false.1 (Bool.eq_false_iff.2 h1) _ (List.getElem_mem hi)
      have h2' := List.any_eq_false.1 (Bool.eq_false_iff.2 h2) _ (List.getElem_mem hi)
      have h3 : outB 0 m [l[i].1, l[i].2] = false := by simpa using h1'
      have := outB_false.1 h3
      have a := this 0 (by simp)
      have b := this 1 (by simp)
      simp only [List.getD_cons_zero, List.getD_cons_succ, decide_eq_true_eq] at a b h2'
      omega
theorem findE_zero : ∀ {l : List Int} {i : Int}, (findE l i).2 = 0 ↔ ∀ e ∈ l, e = 0
  | [], _ => by simp [findE]
  | e :: es, i => by
    unfold findE
    by_cases h : e = 0
    · rw [if_pos h, findE_zero]
      simp [h]
    · rw [if_neg h]
      simp [h]
theorem map_range_zero {f : Nat → Int} {n : Nat} {i : Int} : (findE ((List.range n).map f) i).2 = 0 ↔ ∀ k, k < n → f k = 0 := by
  rw [findE_zero]
  simp
/-- A sound shop. -/
structure ShopOk (s : Shop) : Prop where
  nt1 : 1 ≤ s.things.length
  nt5 : s.things.length ≤ 5
  nl1 : 1 ≤ s.lots.length
  nl6 : s.lots.length ≤ 6
  kind : ∀ t, t < s.things.length → 0 ≤ (s.things.getD t default).kind ∧ (s.things.getD t default).kind ≤ 2
  limit : ∀ t, t < s.things.length → 0 ≤ (s.things.getD t default).limit ∧ (s.things.getD t default).limit ≤ 1000000
  weak : ∀ t, t < s.things.length → 0 ≤ (s.things.getD t default).weak ∧ (s.things.getD t default).weak ≤ 100
  weak0 : ∀ t, t < s.things.length → (s.things.getD t default).kind ≠ 0 → (s.things.getD t default).weak = 0
  fade : ∀ t, t < s.things.length → 0 ≤ (s.things.getD t default).fade ∧ (s.things.getD t default).fade ≤ 1000
  plen : ∀ i, i < s.lots.length → (s.lots.getD i default).parts.length = s.things.length
  part : ∀ i, i < s.lots.length → ∀ t, 0 ≤ ((s.lots.getD i default).parts.getD t (0, 0)).1 ∧ ((s.lots.getD i default).parts.getD t (0, 0)).1 ≤ ((s.lots.getD i default).parts.getD t (0, 0)).2 ∧ ((s.lots.getD i default).parts.getD t (0, 0)).2 ≤ 1000000
theorem spans_all {m : Int} (hm : 0 ≤ m) {l : List (Int × Int)} (h : spansE m l = 0) (t : Nat) : 0 ≤ (l.getD t (0, 0)).1 ∧ (l.getD t (0, 0)).1 ≤ (l.getD t (0, 0)).2 ∧ (l.getD t (0, 0)).2 ≤ m := by
  by_cases ht : t < l.length
  · exact spansE_zero h t ht
  · have : l.getD t (0, 0) = (0, 0) := by rw [List.getD_eq_getElem?_getD, List.getElem?_eq_none (by omega)]; rfl
    rw [this]
    simp [hm]
theorem checkE_cases (s : Shop) (h : checkE s = 0) : (outOne 1 5 s.things.length = false ∧ outOne 1 6 s.lots.length = false) ∧ (∀ k, k < s.things.length → thingE (s.things.take k) (s.things.getD k default) = 0) ∧
    (∀ k, k < s.lots.length → lotE s.things.length (s.lots.take k) (s.lots.getD k default) = 0) := by
  unfold checkE checkV at h
  split at h
  · simp at h
  · rename_i h1
    split at h
    · rename_i h2; exact absurd h h2
    · rename_i h2
      split at h
      · rename_i h3; exact absurd h h3
      · rename_i h3
        refine ⟨by simpa using h1, map_range_zero.1 (by simpa [thingEs] using h2), map_range_zero.1 (by simpa [lotEs] using h3)⟩
theorem thingE_zero {bef : List Thing} {x : Thing} (h : thingE bef x = 0) : (0 ≤ x.kind ∧ x.kind ≤ 2) ∧ (0 ≤ x.limit ∧ x.limit ≤ 1000000) ∧ (0 ≤ x.weak ∧ x.weak ≤ weakM x) ∧ (0 ≤ x.fade ∧ x.fade ≤ fadeM x) := by
  unfold thingE at h
  split at h
  · simp at h
  split at h
  · simp at h
  split at h
  · simp at h
  split at h
  · simp at h
  rename_i h1 h2
  simp only [Bool.or_eq_true, not_or, Bool.not_eq_true] at h1 h2
  exact ⟨outOne_false.1 h1, outOne_false.1 h2.1.1, outOne_false.1 h2.1.2, outOne_false.1 h2.2⟩
theorem lotE_zero {many : Nat} {bef : List Lot} {x : Lot} (h : lotE many bef x = 0) : x.parts.length = many ∧ spansE 1000000 x.parts = 0 := by
  unfold lotE at h
  split at h
  · simp at h
  split at h
  · simp at h
  split at h
  · simp at h
  rename_i h1
  exact ⟨by simpa using h1, h⟩
theorem shop_ok {s : Shop} (h : checkE s = 0) : ShopOk s := by
  obtain ⟨⟨h1, h2⟩, h3, h4⟩ := checkE_cases s h
  have h1 := outOne_false.1 h1
  have h2 := outOne_false.1 h2
  refine ⟨by omega, by omega, by omega, by omega, fun t ht => (thingE_zero (h3 t ht)).1, fun t ht => (thingE_zero (h3 t ht)).2.1, fun t ht => ?_, fun t ht hk => ?_, fun t ht => ?_, fun i hi => (lotE_zero (h4 i hi)).1, fun i hi t => spans_all (by omega) (lotE_zero (h4 i hi)).2 t⟩
  · have := (thingE_zero (h3 t ht)).2.2.1
    unfold weakM at this
    split at this <;> omega
  · have := (thingE_zero (h3 t ht)).2.2.1
    unfold weakM at this
    rw [if_neg hk] at this
    omega
  · have := (thingE_zero (h3 t ht)).2.2.2
    unfold fadeM at this
    split at this <;> omega
/-- A sound batch, ahead of its weight. -/
structure BatOk0 (s : Shop) (l : List Bat) (k : Nat) : Prop where
  glen : (l.getD k default).grams.length = s.lots.length
  blen : (l.getD k default).back.length ≤ k
  alen : (l.getD k default).added.length = s.things.length
  gram : ∀ i, 0 ≤ (l.getD k default).grams.getD i 0 ∧ (l.getD k default).grams.getD i 0 ≤ 100000
  back : ∀ i, 0 ≤ (l.getD k default).back.getD i 0 ∧ (l.getD k default).back.getD i 0 ≤ 100000
  add : ∀ t, 0 ≤ ((l.getD k default).added.getD t (0, 0)).1 ∧ ((l.getD k default).added.getD t (0, 0)).1 ≤ ((l.getD k default).added.getD t (0, 0)).2 ∧ ((l.getD k default).added.getD t (0, 0)).2 ≤ 10000000
theorem ints_all {m : Int} (hm : 0 ≤ m) {l : List Int} (h : outB 0 m l = false) (i : Nat) : 0 ≤ l.getD i 0 ∧ l.getD i 0 ≤ m := by
  by_cases hi : i < l.length
  · exact outB_false.1 h i hi
  · have : l.getD i 0 = 0 := by rw [List.getD_eq_getElem?_getD, List.getElem?_eq_none (by omega)]; rfl
    rw [this]; omega
theorem bat_ok0 {s : Shop} {l : List Bat} {k : Nat} (h : batchE0 s l k = 0) : BatOk0 s l k := by
  unfold batchE0 at h
  split at h
  · simp at h
  split at h
  · simp at h
  rename_i h1 h2
  simp only [not_or, Nat.not_lt, Decidable.not_not, ne_eq] at h1
  simp only [Bool.or_eq_true, not_or, Bool.not_eq_true] at h2
  exact ⟨h1.1, h1.2.1, h1.2.2, ints_all (by omega) h2.1, ints_all (by omega) h2.2, spans_all (by omega) h⟩
theorem batchE_zero {s : Shop} {l : List Bat} {k : Nat} (h : batchE s l k = 0) : batchE0 s l k = 0 ∧ weightV (l.getD k default) ≠ 0 ∧ overB l k k = false := by
  unfold batchE at h
  split at h
  · rename_i h1; exact absurd h h1
  split at h
  · simp at h
  split at h
  · simp at h
  rename_i h1 h2 h3
  exact ⟨by simpa using h1, h2, by simpa using h3⟩
theorem sumTo_bound {l : List Int} {m : Int} (h : ∀ i, 0 ≤ l.getD i 0 ∧ l.getD i 0 ≤ m) (n : Nat) : 0 ≤ sumTo l n ∧ sumTo l n ≤ n * m := dot_bound _ m n fun i _ => h i
theorem weight_bound {s : Shop} (hs : ShopOk s) {l : List Bat} {k : Nat} (hk : k ≤ 6) (h : BatOk0 s l k) : 0 ≤ weightV (l.getD k default) ∧ weightV (l.getD k default) ≤ 1200000 := by
  have h1 := sumTo_bound h.gram (l.getD k default).grams.length
  have h2 := sumTo_bound h.back (l.getD k default).back.length
  have h3 := h.glen
  have h4 := h.blen
  have h5 := hs.nl6
  unfold weightV sumL
  omega
theorem rowsV_length (s : Shop) (l : List Bat) : ∀ k, (rowsV s l k).length = k
  | 0 => rfl
  | k + 1 => by simp [rowsV, rowsV_length s l k]
theorem rowsV_last (s : Shop) (l : List Bat) (k : Nat) : (rowsV s l (k + 1)).getD k [] = rowV s l (rowsV s l k) (l.getD k default) := by
  simp [rowsV, List.getD_eq_getElem?_getD, rowsV_length]
theorem rowsV_get (s : Shop) (l : List Bat) {i : Nat} : ∀ {k : Nat}, i < k → (rowsV s l k).getD i [] = (rowsV s l (i + 1)).getD i []
  | 0, h => by omega
  | k + 1, h => by
    by_cases he : i = k
    · subst he; rfl
    · rw [← rowsV_get s l (show i < k by omega)]
      simp only [rowsV, List.getD_eq_getElem?_getD]
      rw [List.getElem?_append_left (by rw [rowsV_length]; omega)]
/-- The range of a thing in a batch. -/
def micV (s : Shop) (l : List Bat) (i : Nat) : Nat → Int × Int := fun t => ((rangesV s l).getD i []).getD t (0, 0)
def parV (s : Shop) (l : List Bat) (i : Nat) : Nat → Int × Int := fun t => partsV (weightV (l.getD i default)) (micV s l i t)
theorem rangesV_get (s : Shop) (l : List Bat) {i k : Nat} (hi : i < k) (hk : k ≤ l.length) : (rowsV s l k).getD i [] = (rangesV s l).getD i [] := by
  unfold rangesV
  rw [rowsV_get s l hi, rowsV_get s l (Nat.lt_of_lt_of_le hi hk)]
theorem micV_eq (s : Shop) (l : List Bat) {k : Nat} (hk : k < l.length) (t : Nat) : micV s l k t = if t < s.things.length then cellV s l (rowsV s l k) (l.getD k default) t else (0, 0) := by
  unfold micV rangesV
  rw [rowsV_get s l hk, rowsV_last]
  unfold rowV
  by_cases h : t < s.things.length
  · rw [if_pos h, List.getD_eq_getElem?_getD, List.getElem?_map, List.getElem?_range h]; rfl
  · rw [if_neg h, List.getD_eq_getElem?_getD, List.getElem?_eq_none (by simpa using h)]; rfl
theorem backT_eq (s : Shop) (l : List Bat) {k : Nat} (hk : k ≤ l.length) (b : Bat) (t : Nat) (e : Bool) {i : Nat} (hi : i < k) : backT l (rowsV s l k) b t e i = b.back.getD i 0 * sd e (parV s l i t) := by
  unfold backT parV micV
  rw [rangesV_get s l hi hk]
/-- The micrograms while a batch is melted: first its lots, then what comes back. -/
def midA (s : Shop) (l : List Bat) (k i : Nat) : Nat → Int × Int := fun t => if t < s.things.length then
    (1000 * ((l.getD k default).added.getD t (0, 0)).1 + dot (lotT s (l.getD k default) t false) i, 1000 * ((l.getD k default).added.getD t (0, 0)).2 + dot (lotT s (l.getD k default) t true) i) else (0, 0)
def midB (s : Shop) (l : List Bat) (k i : Nat) : Nat → Int × Int := fun t => if t < s.things.length then
    (1000 * ((l.getD k default).added.getD t (0, 0)).1 + dot (lotT s (l.getD k default) t false) s.lots.length + dot (backT l (rowsV s l k) (l.getD k default) t false) i,
     1000 * ((l.getD k default).added.getD t (0, 0)).2 + dot (lotT s (l.getD k default) t true) s.lots.length + dot (backT l (rowsV s l k) (l.getD k default) t true) i) else (0, 0)
theorem midB_zero (s : Shop) (l : List Bat) (k : Nat) : midB s l k 0 = midA s l k s.lots.length := by
  funext t; unfold midA midB; simp [dot]
theorem midB_end (s : Shop) (l : List Bat) {k : Nat} (hk : k < l.length) : midB s l k (l.getD k default).back.length = micV s l k := by
  funext t
  rw [micV_eq s l hk]
  rfl
theorem sd_nonneg {p : Int × Int} {m : Int} (h : 0 ≤ p.1 ∧ p.1 ≤ p.2 ∧ p.2 ≤ m) (e : Bool) : 0 ≤ sd e p ∧ sd e p ≤ m := by
  unfold sd; split <;> omega
theorem mul_bound {a b A B : Int} (h1 : 0 ≤ a ∧ a ≤ A) (h2 : 0 ≤ b ∧ b ≤ B) : 0 ≤ a * b ∧ a * b ≤ A * B :=
  ⟨Int.mul_nonneg h1.1 h2.1, Int.mul_le_mul h1.2 h2.2 h2.1 (by omega)⟩
theorem lotT_bound {s : Shop} (hs : ShopOk s) {l : List Bat} {k : Nat} (h : BatOk0 s l k) (t : Nat) (e : Bool) {i : Nat} (hi : i < s.lots.length) : 0 ≤ lotT s (l.getD k default) t e i ∧ lotT s (l.getD k default) t e i ≤ 100000000000 := by
  have := mul_bound (h.gram i) (sd_nonneg (hs.part i hi t) e)
  unfold lotT
  omega
theorem parts_bound {w : Int} (hw : 0 < w) {p : Int × Int} (hp : 0 ≤ p.1 ∧ p.1 ≤ p.2) : 0 ≤ (partsV w p).1 ∧ (partsV w p).1 ≤ (partsV w p).2 ∧ (partsV w p).2 ≤ 1000000 := by
  unfold partsV
  have h1 : 0 ≤ p.1 / w := Int.ediv_nonneg hp.1 (by omega)
  have h2 : p.1 / w ≤ (p.2 + w - 1) / w := Int.ediv_le_ediv hw (by omega)
  simp only
  omega
/-- The first batches are sound. -/
def Prefix (s : Shop) (l : List Bat) (k : Nat) : Prop := ∀ j, j < k → batchE s l j = 0
theorem Prefix.pos {s : Shop} (hs : ShopOk s) {l : List Bat} (hl : l.length ≤ 6) {k : Nat} (h : Prefix s l k) (hk : k ≤ l.length) {i : Nat} (hi : i < k) : 0 < weightV (l.getD i default) ∧ weightV (l.getD i default) ≤ 1200000 := by
  obtain ⟨h1, h2, -⟩ := batchE_zero (h i hi)
  have := weight_bound hs (show i ≤ 6 by omega) (bat_ok0 h1)
  omega
/-- The ranges are in order, and fit. -/
theorem mic_bound {s : Shop} (hs : ShopOk s) {l : List Bat} (hl : l.length ≤ 6) : ∀ (k : Nat), Prefix s l k → k < l.length → BatOk0 s l k →
    (∀ i t, i ≤ s.lots.length → 0 ≤ (midA s l k i t).1 ∧ (midA s l k i t).1 ≤ (midA s l k i t).2 ∧ (midA s l k i t).2 ≤ 1000000000000) ∧
    (∀ i t, i ≤ (l.getD k default).back.length → 0 ≤ (midB s l k i t).1 ∧ (midB s l k i t).1 ≤ (midB s l k i t).2 ∧ (midB s l k i t).2 ≤ 2000000000000) := by
  intro k
  induction k using Nat.strongRecOn with
  | _ k ih =>
    intro hp hk hb
    have A : ∀ i t, i ≤ s.lots.length → 0 ≤ (midA s l k i t).1 ∧ (midA s l k i t).1 ≤ (midA s l k i t).2 ∧ (midA s l k i t).2 ≤ 1000000000000 := by
      intro i t hi
      unfold midA
      split
      · have h1 := dot_bound (lotT s (l.getD k default) t false) 100000000000 i (fun j hj => lotT_bound hs hb t false (by omega))
        have h2 := dot_bound (lotT s (l.getD k default) t true) 100000000000 i (fun j hj => lotT_bound hs hb t true (by omega))
        have h3 : dot (lotT s (l.getD k default) t false) i ≤ dot (lotT s (l.getD k default) t true) i := dot_le fun j hj => by
          have hp := hs.part j (by omega) t
          exact Int.mul_le_mul_of_nonneg_left (by simpa [sd] using hp.2.1) (hb.gram j).1
        have h4 := hb.add t
        have h5 := hs.nl6
        simp only
        omega
      · simp
    refine ⟨A, fun i t hi => ?_⟩
    have PB : ∀ j, j < k → ∀ t, 0 ≤ (parV s l j t).1 ∧ (parV s l j t).1 ≤ (parV s l j t).2 ∧ (parV s l j t).2 ≤ 1000000 := by
      intro j hj t
      have hbj := bat_ok0 (batchE_zero (hp j hj)).1
      have := (ih j hj (fun i hi => hp i (by omega)) (by omega) hbj).2 _ t (Nat.le_refl _)
      rw [midB_end s l (by omega)] at this
      exact parts_bound (hp.pos hs hl (by omega) hj).1 ⟨this.1, this.2.1⟩
    unfold midB
    have hA := A s.lots.length t (Nat.le_refl _)
    unfold midA at hA
    split
    · rename_i ht
      rw [if_pos ht] at hA
      have hbl := hb.blen
      have e : ∀ e j, j < i → backT l (rowsV s l k) (l.getD k default) t e j = (l.getD k default).back.getD j 0 * sd e (parV s l j t) := fun e j hj => backT_eq s l (by omega) _ t e (by omega)
      have hbd : ∀ e j, j < i → 0 ≤ backT l (rowsV s l k) (l.getD k default) t e j ∧ backT l (rowsV s l k) (l.getD k default) t e j ≤ 100000000000 := by
        intro e' j hj
        rw [e e' j hj]
        have := mul_bound (hb.back j) (sd_nonneg (PB j (by omega) t) e')
        omega
      have h1 := dot_bound _ 100000000000 i (hbd false)
      have h2 := dot_bound _ 100000000000 i (hbd true)
      have h3 : dot (backT l (rowsV s l k) (l.getD k default) t false) i ≤ dot (backT l (rowsV s l k) (l.getD k default) t true) i := dot_le fun j hj => by
        rw [e _ j hj, e _ j hj]
        exact Int.mul_le_mul_of_nonneg_left (by simpa [sd] using (PB j (by omega) t).2.1) (hb.back j).1
      simp only at hA ⊢
      omega
    · simp
theorem mic_ok {s : Shop} (hs : ShopOk s) {l : List Bat} (hl : l.length ≤ 6) {k : Nat} (hp : Prefix s l (k + 1)) (hk : k < l.length) (t : Nat) : 0 ≤ (micV s l k t).1 ∧ (micV s l k t).1 ≤ (micV s l k t).2 ∧ (micV s l k t).2 ≤ 2000000000000 := by
  have hb := bat_ok0 (batchE_zero (hp k (by omega))).1
  have := (mic_bound hs hl k (fun i hi => hp i (by omega)) hk hb).2 _ t (Nat.le_refl _)
  rwa [midB_end s l hk] at this
theorem par_ok {s : Shop} (hs : ShopOk s) {l : List Bat} (hl : l.length ≤ 6) {k : Nat} (hp : Prefix s l k) (hk : k ≤ l.length) {i : Nat} (hi : i < k) (t : Nat) : 0 ≤ (parV s l i t).1 ∧ (parV s l i t).1 ≤ (parV s l i t).2 ∧ (parV s l i t).2 ≤ 1000000 := by
  have := mic_ok hs hl (fun j hj => hp j (by omega)) (show i < l.length by omega) t
  exact parts_bound (hp.pos hs hl hk hi).1 ⟨this.1, this.2.1⟩
end Go.Proofs.Ytaigbhhmmdfdcaa
