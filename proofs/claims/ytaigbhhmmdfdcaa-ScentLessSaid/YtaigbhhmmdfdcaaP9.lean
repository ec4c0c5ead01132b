/- Truths by turns, and at the ends, are truths. -/
import Derived.Test.YtaigbhhmmdfdcaaP8
import Derived.Test.YtaigbhhmmdfdcaaY19
import Derived.Test.YtaigbhhmmdfdcaaY18
namespace Go.Proofs.Ytaigbhhmmdfdcaa
theorem truthE_of {s : Shop} {l : List Bat} {k : Nat} {x : Tru} (h1 : x.lots.length = s.lots.length) (h2 : ∀ i, i < s.lots.length → (x.lots.getD i []).length = s.things.length) (h3 : x.back.length = (l.getD k default).back.length)
    (h4 : ∀ i, i < (l.getD k default).back.length → (x.back.getD i []).length = s.things.length) (h5 : x.added.length = s.things.length) (h6 : ∀ t, t < s.things.length → truthIn s l (rangesV s l) (l.getD k default) x t = true) : truthE s l k x = 0 := by
  have all : ∀ (m : List (List Int)) (n q : Nat), m.length = n → (∀ i, i < n → (m.getD i []).length = q) → m.all (fun y => decide (y.length = q)) = true := by
    intro m n q hm hh
    rw [List.all_eq_true]
    intro y hy
    obtain ⟨i, hi, rfl⟩ := List.mem_iff_getElem.1 hy
    have := hh i (by omega)
    rw [List.getD_eq_getElem?_getD, List.getElem?_eq_getElem hi] at this
    simpa using this
  unfold truthE lensB
  rw [all x.lots _ _ h1 h2, all x.back _ _ h3 h4]
  simp only [h1, h3, h5, decide_true, Bool.and_true, Bool.true_eq_false, if_false]
  rw [if_pos]
  rw [List.all_eq_true]
  intro t ht
  exact h6 t (List.mem_range.1 ht)
theorem truthIn_of {s : Shop} {l : List Bat} {prev : List (List (Int × Int))} {b : Bat} {x : Tru} {t : Nat} (h1 : (b.added.getD t (0, 0)).1 ≤ x.added.getD t 0 ∧ x.added.getD t 0 ≤ (b.added.getD t (0, 0)).2)
    (h2 : ∀ i, i < s.lots.length → ((s.lots.getD i default).parts.getD t (0, 0)).1 ≤ (x.lots.getD i []).getD t 0 ∧ (x.lots.getD i []).getD t 0 ≤ ((s.lots.getD i default).parts.getD t (0, 0)).2)
    (h3 : ∀ i, i < b.back.length → (partsV (weightV (l.getD i default)) ((prev.getD i []).getD t (0, 0))).1 ≤ (x.back.getD i []).getD t 0 ∧ (x.back.getD i []).getD t 0 ≤ (partsV (weightV (l.getD i default)) ((prev.getD i []).getD t (0, 0))).2) : truthIn s l prev b x t = true := by
  unfold truthIn
  simp only [Bool.and_eq_true, Bool.not_eq_true', List.all_eq_true, List.mem_range]
  exact ⟨⟨outOne_false.2 h1, fun i hi => outOne_false.2 (h2 i hi)⟩, fun i hi => outOne_false.2 (h3 i hi)⟩
theorem sd_in {p : Int × Int} (h : p.1 ≤ p.2) (e : Bool) : p.1 ≤ sd e p ∧ sd e p ≤ p.2 := by cases e <;> simp [sd] <;> omega
theorem endT_ok {s : Shop} {l : List Bat} (h : AllGood s l) {k : Nat} (hk : k < l.length) (e : Bool) : truthE s l k (endT s l k e) = 0 := by
  have hbo := bat_ok0 (batchE_zero (h.pre k hk)).1
  have hbl := hbo.blen
  refine truthE_of (by simp [endT]) (fun i hi => ?_) (by simp [endT]) (fun i hi => ?_) (by unfold endT; simp only; rw [List.length_map]; exact hbo.alen) (fun t ht => truthIn_of ?_ (fun i hi => ?_) (fun i hi => ?_))
  · unfold endT; simp only; rw [map_getD _ _ hi default, List.length_map]; exact h.sh.plen i hi
  · unfold endT; simp only; rw [mapr_get _ _ _ hi]; simp
  · unfold endT; simp only; rw [map_sd]; exact sd_in (hbo.add t).2.1 e
  · unfold endT; simp only; rw [map_getD _ _ hi default, map_sd]; exact sd_in (h.sh.part i hi t).2.1 e
  · unfold endT; simp only; rw [mapr_get _ _ _ hi, map_sd, mapr_get _ _ _ ht]
    exact sd_in (par_ok h.sh h.n6 (k := k) (fun j hj => h.pre j (by omega)) (by omega) (by omega) t).2.1 e
/-- ANY truth, by turns. -/
def turnT (s : Shop) (l : List Bat) (k : Nat) (x : List Int) : Tru :=
  ⟨(List.range s.lots.length).map (fun i => pickedV (s.lots.getD i default).parts x (3 * i + 1)), (List.range (l.getD k default).back.length).map (fun i => pickedV (backV s l i) x (5 * i + 2)), pickedV (l.getD k default).added x 0⟩
theorem pickedV_len (l : List (Int × Int)) (x : List Int) (n : Nat) : (pickedV l x n).length = l.length := by simp [pickedV]
theorem pickedV_in {l : List (Int × Int)} {t : Nat} (ht : t < l.length) (h : (l.getD t (0, 0)).1 ≤ (l.getD t (0, 0)).2) (x : List Int) (n : Nat) : (l.getD t (0, 0)).1 ≤ (pickedV l x n).getD t 0 ∧ (pickedV l x n).getD t 0 ≤ (l.getD t (0, 0)).2 := by
  unfold pickedV
  rw [mapr_get _ _ _ ht]
  exact amongV_in h _
theorem turnT_ok {s : Shop} {l : List Bat} (h : AllGood s l) {k : Nat} (hk : k < l.length) (x : List Int) : truthE s l k (turnT s l k x) = 0 := by
  have hbo := bat_ok0 (batchE_zero (h.pre k hk)).1
  have hbl := hbo.blen
  have hbv : ∀ i t, t < s.things.length → (backV s l i).getD t (0, 0) = partsV (weightV (l.getD i default)) (micV s l i t) := fun i t ht => by unfold backV; rw [mapr_get _ _ _ ht]
  have hbn : ∀ i, (backV s l i).length = s.things.length := fun i => by simp [backV]
  refine truthE_of (by simp [turnT]) (fun i hi => ?_) (by simp [turnT]) (fun i hi => ?_) (by unfold turnT; simp only; rw [pickedV_len]; exact hbo.alen) (fun t ht => truthIn_of ?_ (fun i hi => ?_) (fun i hi => ?_))
  · unfold turnT; simp only; rw [mapr_get _ _ _ hi, pickedV_len]; exact h.sh.plen i hi
  · unfold turnT; simp only; rw [mapr_get _ _ _ hi, pickedV_len]; exact hbn i
  · unfold turnT; simp only; exact pickedV_in (by rw [hbo.alen]; exact ht) (hbo.add t).2.1 x _
  · unfold turnT; simp only; rw [mapr_get _ _ _ hi]; exact pickedV_in (by rw [h.sh.plen i hi]; exact ht) (h.sh.part i hi t).2.1 x _
  · unfold turnT; simp only
    rw [mapr_get _ _ _ hi]
    have hp := par_ok h.sh h.n6 (k := k) (fun j hj => h.pre j (by omega)) (by omega) (show i < k by omega) t
    have := pickedV_in (l := backV s l i) (t := t) (by rw [hbn]; exact ht) (by rw [hbv i t ht]; exact hp.2.1) x (5 * i + 2)
    rw [hbv i t ht] at this
    exact this
end Go.Proofs.Ytaigbhhmmdfdcaa
