/- A further batch of the last one alone. -/
import Derived.Test.YtaigbhhmmdfdcaaP10
namespace Go.Proofs.Ytaigbhhmmdfdcaa
def nextB (s : Shop) (l : List Bat) (g : Int) : Bat := ⟨List.replicate s.lots.length 0, (List.replicate l.length 0).set (l.length - 1) g, List.replicate s.things.length (0, 0)⟩
theorem rep_getD {α : Type} (n : Nat) (d : α) (i : Nat) : (List.replicate n d).getD i d = d := by
  rw [List.getD_eq_getElem?_getD, List.getElem?_replicate]
  split <;> rfl
theorem next_back {s : Shop} {l : List Bat} (h : 1 ≤ l.length) (g : Int) (i : Nat) : (nextB s l g).back.getD i 0 = if i = l.length - 1 then g else 0 := by
  unfold nextB
  simp only [List.getD_eq_getElem?_getD, List.getElem?_set, List.getElem?_replicate, List.length_replicate]
  by_cases hi : l.length - 1 = i
  · subst hi
    rw [if_pos rfl, if_pos (by omega), if_pos rfl]
    rfl
  · rw [if_neg hi, if_neg (show ¬ i = l.length - 1 from fun e => hi e.symm)]
    split <;> rfl
theorem next_gram (s : Shop) (l : List Bat) (g : Int) (i : Nat) : (nextB s l g).grams.getD i 0 = 0 := rep_getD _ _ _
theorem next_add (s : Shop) (l : List Bat) (g : Int) (i : Nat) : (nextB s l g).added.getD i (0, 0) = (0, 0) := rep_getD _ _ _
theorem next_blen (s : Shop) (l : List Bat) (g : Int) : (nextB s l g).back.length = l.length := by unfold nextB; simp
theorem dot_one {f : Nat → Int} {n : Nat} (hn : 1 ≤ n) (h : ∀ i, i < n → i ≠ n - 1 → f i = 0) : dot f n = f (n - 1) := by
  obtain ⟨m, rfl⟩ : ∃ m, n = m + 1 := ⟨n - 1, by omega⟩
  simp only [dot]
  rw [dot_zero (fun i hi => h i (by omega) (by omega)), Int.zero_add]; rfl
theorem next_weight {s : Shop} {l : List Bat} (h : 1 ≤ l.length) (g : Int) : weightV (nextB s l g) = g := by
  unfold weightV sumL sumTo
  rw [dot_zero (fun i _ => next_gram s l g i), next_blen, dot_one h (fun i _ hne => by rw [next_back h, if_neg hne]), next_back h, if_pos rfl]
  omega
theorem app_getD {l : List Bat} {x : Bat} {j : Nat} (h : j < l.length) : (l ++ [x]).getD j default = l.getD j default := by
  rw [List.getD_eq_getElem?_getD, List.getD_eq_getElem?_getD, List.getElem?_append_left h]
theorem app_last {l : List Bat} {x : Bat} : (l ++ [x]).getD l.length default = x := by
  rw [List.getD_eq_getElem?_getD]; simp
theorem again_pre {s : Shop} {l : List Bat} (x : Bat) (h : AllGood s l) : Prefix s (l ++ [x]) l.length := fun k hk => by
  rw [batchE_congr (m := l) fun j hj => app_getD (by omega)]
  exact h.pre k hk
theorem again_ok {s : Shop} {l : List Bat} (hz : batchesE s l = 0) (h6 : l.length ≠ 6) {g : Int} (h0 : 0 < g) (hg : g ≤ 1000) (hw : g ≤ weightV (l.getD (l.length - 1) default)) : batchesE s (l ++ [nextB s l g]) = 0 := by
  have h := all_good hz
  have hn1 := h.n1
  have hn6 := h.n6
  obtain ⟨hc, -, -⟩ := batches_zero.1 hz
  refine batches_zero.2 ⟨hc, by simp; omega, ?_⟩
  intro k hk
  rw [List.length_append, List.length_singleton] at hk
  by_cases hkl : k < l.length
  · exact again_pre _ h k hkl
  · obtain rfl : k = l.length := by omega
    have e0 : batchE0 s (l ++ [nextB s l g]) l.length = 0 := by
      unfold batchE0
      rw [app_last, if_neg (by rw [next_blen]; unfold nextB; simp)]
      rw [outB_false.2 (fun i _ => by rw [next_gram]; omega), outB_false.2 (fun i _ => by rw [next_back hn1]; split <;> omega)]
      unfold spansE nextB
      rw [List.any_replicate, List.any_replicate]
      simp [outB, outOne]
    have eo : overB (l ++ [nextB s l g]) l.length l.length = false := by
      unfold overB
      rw [List.any_eq_false]
      intro i hi
      have hi := List.mem_range.1 hi
      rw [app_getD hi]
      have ht : takenV (l ++ [nextB s l g]) i (l.length + 1) = takenV l i l.length + (if i = l.length - 1 then g else 0) := by
        unfold takenV
        simp only [dot]
        rw [app_last, next_back hn1]
        congr 1
        exact dot_congr fun k hk => by rw [app_getD hk]
      rw [ht]
      have hp : Prefix s l l.length := h.pre
      by_cases hil : i = l.length - 1
      · rw [if_pos hil, taken_none h (by omega) (Nat.le_refl _), hil]
        rw [decide_eq_true_eq]; omega
      · rw [if_neg hil]
        have := taken_le h.sh hn6 hp (Nat.le_refl _) hi
        rw [decide_eq_true_eq]; omega
    unfold batchE
    rw [if_neg (by simp [e0]), app_last, next_weight hn1, if_neg (by omega), eo]
    rfl
theorem again_rows {s : Shop} {l : List Bat} (h : AllGood s l) (x : Bat) : rangesV s (l ++ [x]) = rangesV s l ++ [rowV s (l ++ [x]) (rangesV s l) x] := by
  unfold rangesV
  rw [List.length_append, List.length_singleton, rowsV, app_last]
  rw [rowsV_congr (l := l ++ [x]) (m := l) (fun j hj => app_getD hj) fun j hj => (bat_ok0 (batchE_zero (h.pre j hj)).1).blen]
/-- What the further batch has. -/
def againV (s : Shop) (l : List Bat) (g : Int) (t : Nat) : Int × Int :=
  (g * (partsV (weightV (l.getD (l.length - 1) default)) (micV s l (l.length - 1) t)).1, g * (partsV (weightV (l.getD (l.length - 1) default)) (micV s l (l.length - 1) t)).2)
theorem again_row {s : Shop} {l : List Bat} (h : AllGood s l) (g : Int) : (rangesV s (l ++ [nextB s l g])).getD l.length [] = (List.range s.things.length).map (againV s l g) := by
  have hn1 := h.n1
  rw [again_rows h, List.getD_eq_getElem?_getD, List.getElem?_append_right (by rw [show (rangesV s l).length = l.length from rowsV_length _ _ _]; omega)]
  rw [show (rangesV s l).length = l.length from rowsV_length _ _ _, Nat.sub_self]
  show rowV s _ _ _ = _
  unfold rowV
  refine List.map_congr_left fun t _ => ?_
  have e : ∀ e, cellS s (l ++ [nextB s l g]) (rangesV s l) (nextB s l g) t e = g * sd e (partsV (weightV (l.getD (l.length - 1) default)) (micV s l (l.length - 1) t)) := fun e => by
    unfold cellS
    rw [next_add, dot_zero (fun i _ => by unfold lotT; rw [next_gram, Int.zero_mul]), next_blen, dot_one hn1 (fun i _ hne => by unfold backT; rw [next_back hn1, if_neg hne, Int.zero_mul])]
    unfold backT
    rw [next_back hn1, if_pos rfl, app_getD (by omega)]
    cases e <;> simp [sd, micV]
  unfold cellV againV
  rw [e, e]; rfl
theorem again_content {s : Shop} {l : List Bat} (hz : batchesE s l = 0) (h6 : l.length ≠ 6) {g : Int} (h0 : 0 < g) (hg : g ≤ 1000) (hw : g ≤ weightV (l.getD (l.length - 1) default)) :
    contentV s (l ++ [nextB s l g]) = rangesV s l ++ [(List.range s.things.length).map (againV s l g)] := by
  have h := all_good hz
  have hr := again_row h g
  unfold contentV
  rw [if_neg (by rw [again_ok hz h6 h0 hg hw]; simp), again_rows h]
  rw [again_rows h, List.getD_eq_getElem?_getD, List.getElem?_append_right (by rw [show (rangesV s l).length = l.length from rowsV_length _ _ _]; omega)] at hr
  rw [show (rangesV s l).length = l.length from rowsV_length _ _ _, Nat.sub_self] at hr
  rw [show ([rowV s (l ++ [nextB s l g]) (rangesV s l) (nextB s l g)] : List _)[0]?.getD [] = rowV s (l ++ [nextB s l g]) (rangesV s l) (nextB s l g) from rfl] at hr
  rw [hr]
/-- The range of parts holds what any truth makes. -/
theorem again_in {w m : Int} {p : Int × Int} (hw : 0 < w) (h1 : p.1 ≤ m) (h2 : m ≤ p.2) (hm : m ≤ w * 1000000) : (partsV w p).1 * w ≤ m ∧ m ≤ (partsV w p).2 * w := by
  unfold partsV
  simp only
  have a1 : p.1 / w * w ≤ p.1 := Int.ediv_mul_le _ (by omega)
  have a2 : p.2 ≤ (p.2 + w - 1) / w * w := by
    have hl := Int.lt_ediv_add_one_mul_self (p.2 + w - 1) hw
    rw [Int.add_mul] at hl
    omega
  constructor
  · have : min 1000000 (p.1 / w) * w ≤ p.1 / w * w := Int.mul_le_mul_of_nonneg_right (Int.min_le_right _ _) (by omega)
    omega
  · rcases Int.le_total 1000000 ((p.2 + w - 1) / w) with hc | hc
    · rw [Int.min_eq_left hc, Int.mul_comm]; exact hm
    · rw [Int.min_eq_right hc]; omega
end Go.Proofs.Ytaigbhhmmdfdcaa
