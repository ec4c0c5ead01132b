/- What is left of all batches is all grams of lots that were melted. -/
import Derived.Test.YtaigbhhmmdfdcaaP6
namespace Go.Proofs.Ytaigbhhmmdfdcaa
theorem dot_add (f g : Nat → Int) : ∀ n, dot (fun i => f i + g i) n = dot f n + dot g n
  | 0 => rfl
  | n + 1 => by simp only [dot, dot_add f g n]; omega
/-- Two sums change places. -/
theorem dot_swap (f : Nat → Nat → Int) (n : Nat) : ∀ m, dot (fun i => dot (f i) n) m = dot (fun j => dot (fun i => f i j) m) n
  | 0 => by simp only [dot]; exact (dot_zero (fun i _ => rfl)).symm
  | m + 1 => by
    simp only [dot]
    rw [dot_swap f n m, ← dot_add]
theorem dot_past (f : Nat → Int) (m : Nat) (h : ∀ i, m ≤ i → f i = 0) : ∀ k, dot f (m + k) = dot f m
  | 0 => rfl
  | k + 1 => by
    show dot f (m + k) + f (m + k) = _
    rw [dot_past f m h k, h _ (by omega)]; omega
theorem sumL_to (l : List Int) {n : Nat} (h : l.length ≤ n) : dot (fun i => l.getD i 0) n = sumL l := by
  obtain ⟨k, rfl⟩ : ∃ k, n = l.length + k := ⟨n - l.length, by omega⟩
  exact dot_past _ _ (fun i hi => by rw [List.getD_eq_getElem?_getD, List.getElem?_eq_none hi]; rfl) k
/-- What is taken of all batches together is what comes back in all. -/
theorem taken_all {s : Shop} {l : List Bat} (h : AllGood s l) : dot (fun i => takenV l i l.length) l.length = dot (fun k => sumL (l.getD k default).back) l.length := by
  unfold takenV
  rw [dot_swap (fun i k => (l.getD k default).back.getD i 0) l.length l.length]
  refine dot_congr fun k hk => ?_
  have hb := (bat_ok0 (batchE_zero (h.pre k hk)).1).blen
  exact sumL_to _ (by omega)
/-- One of them is left as much as it weighs less what is taken of it. -/
def leftK (l : List Bat) (k : Nat) : Int := weightV (l.getD k default) - takenV l k l.length
theorem left_get {s : Shop} {l : List Bat} (h : batchesE s l = 0) {k : Nat} (hk : k < l.length) : (leftV s l).getD k 0 = leftK l k := by
  unfold leftV
  rw [if_neg (by rw [h]; simp), List.getD_eq_getElem?_getD, List.getElem?_map, List.getElem?_range hk]; rfl
theorem left_len {s : Shop} {l : List Bat} (h : batchesE s l = 0) : (leftV s l).length = l.length := by
  unfold leftV
  rw [if_neg (by rw [h]; simp)]; simp
theorem left_bad {s : Shop} {l : List Bat} (h : batchesE s l ≠ 0) : leftV s l = [] := by unfold leftV; rw [if_pos h]
/-- The sum that the law makes: grams of lots, less what is left. -/
def leftSum (l : List Bat) (k : Nat) : Int := dot (fun k => sumL (l.getD k default).grams - leftK l k) k
theorem left_all {s : Shop} {l : List Bat} (h : AllGood s l) : leftSum l l.length = 0 := by
  have e : leftSum l l.length = dot (fun i => takenV l i l.length) l.length - dot (fun k => sumL (l.getD k default).back) l.length := by
    unfold leftSum
    have h1 : ∀ n, dot (fun k => sumL (l.getD k default).grams - leftK l k) n = dot (fun i => takenV l i l.length) n - dot (fun k => sumL (l.getD k default).back) n := by
      intro n
      induction n with
      | zero => rfl
      | succ n ih =>
        simp only [dot, ih]
        unfold leftK weightV
        omega
    exact h1 _
  rw [e, taken_all h]; omega
theorem overB_false {l : List Bat} {k m : Nat} (h : overB l k m = false) {i : Nat} (hi : i < m) : takenV l i (k + 1) ≤ weightV (l.getD i default) := by
  have := List.any_eq_false.1 h i (List.mem_range.2 hi)
  simpa using this
theorem taken_none {s : Shop} {l : List Bat} (h : AllGood s l) {i n : Nat} (hn : n ≤ i + 1) (hl : n ≤ l.length) : takenV l i n = 0 := by
  unfold takenV
  refine dot_zero fun k hk => ?_
  have hb := (bat_ok0 (batchE_zero (h.pre k (by omega))).1).blen
  rw [List.getD_eq_getElem?_getD, List.getElem?_eq_none (by omega)]; rfl
theorem leftK_bounds {s : Shop} {l : List Bat} (h : AllGood s l) {k : Nat} (hk : k < l.length) : 0 ≤ leftK l k ∧ leftK l k ≤ weightV (l.getD k default) ∧ 0 ≤ weightV (l.getD k default) ∧ weightV (l.getD k default) ≤ 1200000 := by
  have hn := h.n6
  have hw := weight_bound h.sh (show k ≤ 6 by omega) (bat_ok0 (batchE_zero (h.pre k hk)).1)
  have h0 : 0 ≤ takenV l k l.length := (dot_bound (fun j => (l.getD j default).back.getD k 0) 100000 l.length (fun j hj => (bat_ok0 (batchE_zero (h.pre j hj)).1).back k)).1
  have h1 : takenV l k l.length ≤ weightV (l.getD k default) := by
    by_cases hl : k + 1 = l.length
    · rw [taken_none h (by omega) (Nat.le_refl _)]; exact hw.1
    · have ho := (batchE_zero (h.pre (l.length - 1) (by omega))).2.2
      have := overB_false ho (show k < l.length - 1 by omega)
      rwa [show l.length - 1 + 1 = l.length by omega] at this
  unfold leftK
  omega
end Go.Proofs.Ytaigbhhmmdfdcaa
