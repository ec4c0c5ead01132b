/- A batch that is weighed by a recipe, plainly: it weighs what was wanted, and when it keeps a limit. -/
import Derived.Test.YtohglbfeahofhaaGreatB1
namespace Go.Proofs.YtohglbfeahofhaaGreat
def doseT (limit : Int) : Thing := ⟨⟨#[116, 104, 105, 110, 103]⟩, 0, limit, 0, 0⟩
def doseL (x : BWax) : Lot := ⟨x.name, [(0, 0)]⟩
def doseS (l : List BWax) (limit : Int) : Shop := ⟨[doseT limit], l.map doseL⟩
def doseB (r : List Int) (g added : Int) : Bat := ⟨weighV r g, [], [(0, added)]⟩
theorem upTo_sum (r : List Int) : ∀ k, upTo r k = sumTo r k
  | 0 => rfl
  | k + 1 => by rw [upTo, upTo_sum r k]; rfl
theorem dose_weight {m : Nat} {r : List Int} (h : ROk m r) (g added : Int) : weightV (doseB r g added) = g := by
  unfold weightV
  simp only [doseB]
  unfold sumL
  rw [weigh_len, h.len, ← upTo_sum, weigh_sum h g]
  simp [sumTo, dot]
theorem dose_check {l : List BWax} (hl : BOk l) {limit : Int} (hm : 0 ≤ limit ∧ limit ≤ 1000000) : checkE (doseS l limit) = 0 := by
  have n1 := hl.n1
  have n5 := hl.n5
  have h1 : (findE (thingEs (doseS l limit)) 0).2 = 0 := by
    have e : thingEs (doseS l limit) = [thingE [] (doseT limit)] := rfl
    have e2 : thingE [] (doseT limit) = 0 := by
      unfold thingE
      have n : nameB (doseT limit).name = true := (show nameB ⟨#[116, 104, 105, 110, 103]⟩ = true by kernel_rfl)
      rw [n]
      have e3 : outOne 0 1000000 (doseT limit).limit = false := by unfold outOne doseT; simp; omega
      rw [e3]
      simp [doseT, weakM, fadeM, outOne]
    rw [e, e2]; rfl
  have h2 : (findE (lotEs (doseS l limit)) 0).2 = 0 := findE_zero.2 (by
    intro e he
    simp only [lotEs, List.mem_map, List.mem_range] at he
    obtain ⟨i, hi, rfl⟩ := he
    have hi' : i < l.length := by simpa [doseS] using hi
    have e1 : (doseS l limit).lots.getD i default = doseL (l.getD i default) := by simp [doseS, List.getD, hi']
    have e2 : (doseS l limit).lots.take i = (l.take i).map doseL := by simp [doseS, List.map_take]
    rw [e1, e2]
    unfold lotE
    rw [show (doseL (l.getD i default)).name = (l.getD i default).name from rfl, hl.name i hi', List.any_map]
    rw [show ((fun y : Lot => sameN (l.getD i default).name y.name) ∘ doseL) = fun y => sameN (l.getD i default).name y.name from rfl, hl.twice i hi']
    simp [doseL, doseS, spansE, outB, outOne])
  unfold checkE checkV
  have g1 : outOne 1 5 ((doseS l limit).things.length : Int) = false := rfl
  have g2 : outOne 1 6 ((doseS l limit).lots.length : Int) = false := by unfold outOne; simp [doseS]; omega
  rw [g1, g2]
  simp [h1, h2]
theorem dose_ok {l : List BWax} (hl : BOk l) {limit : Int} (hm : 0 ≤ limit ∧ limit ≤ 1000000) {r : List Int} (h : ROk l.length r) {g added : Int} (hg : 1 ≤ g ∧ g ≤ 100000) (ha : 0 ≤ added ∧ added ≤ 10000000) : batchesE (doseS l limit) [doseB r g added] = 0 := by
  have hb : batchE (doseS l limit) [doseB r g added] 0 = 0 := by
    have b0 : batchE0 (doseS l limit) [doseB r g added] 0 = 0 := by
      unfold batchE0
      have e0 : [doseB r g added].getD 0 default = doseB r g added := rfl
      rw [e0]
      have c1 : (doseB r g added).grams.length = (doseS l limit).lots.length := by simp [doseB, doseS, weigh_len, h.len]
      have c2 : outB 0 100000 (doseB r g added).grams = false := by
        unfold outB
        rw [List.any_eq_false]
        intro z hz
        have hz2 : ∃ i, i < l.length ∧ z = (weighV r g).getD i 0 := by
          obtain ⟨i, hi, rfl⟩ := List.mem_iff_getElem.1 hz
          refine ⟨i, by simpa [doseB, weigh_len, h.len] using hi, ?_⟩
          have hi2 : i < (weighV r g).length := hi
          rw [List.getD_eq_getElem?_getD, List.getElem?_eq_getElem hi2]
          rfl
        obtain ⟨i, hi, rfl⟩ := hz2
        have := weigh_bounds h (g := g) (by omega) hi
        generalize (weighV r g).getD i 0 = z at *
        unfold outOne
        simp
        omega
      rw [c2]
      have c3 : spansE 10000000 (doseB r g added).added = 0 := by
        unfold spansE outB outOne
        simp [doseB]
        omega
      rw [c3]
      simp [c1]
      simp [doseB, doseS, outB]
    unfold batchE
    rw [b0, show [doseB r g added].getD 0 default = doseB r g added from rfl, dose_weight h]
    have c4 : overB [doseB r g added] 0 0 = false := rfl
    rw [c4]
    simp
    omega
  unfold batchesE
  rw [dose_check hl hm]
  have g2 : outOne 1 6 (([doseB r g added] : List Bat).length : Int) = false := rfl
  rw [g2]
  have e : batchEs (doseS l limit) [doseB r g added] = [batchE (doseS l limit) [doseB r g added] 0] := rfl
  rw [e, hb]
  simp [findE]
theorem dose_left {l : List BWax} (hl : BOk l) {limit : Int} (hm : 0 ≤ limit ∧ limit ≤ 1000000) {r : List Int} (h : ROk l.length r) {g added : Int} (hg : 1 ≤ g ∧ g ≤ 100000) (ha : 0 ≤ added ∧ added ≤ 10000000) : leftV (doseS l limit) [doseB r g added] = [g] := by
  unfold leftV
  rw [dose_ok hl hm h hg ha]
  have e1 : takenV [doseB r g added] 0 1 = 0 := by simp [takenV, dot, doseB, List.getD]
  have e : ((List.range ([doseB r g added] : List Bat).length).map fun k => weightV ([doseB r g added].getD k default) - takenV [doseB r g added] k ([doseB r g added] : List Bat).length) = [weightV (doseB r g added) - takenV [doseB r g added] 0 1] := rfl
  rw [e, e1, dose_weight h]
  simp
theorem dotU_zero (f : Nat → Int) (n : Nat) (h : ∀ i, i < n → f i = 0) : dot f n = 0 := by
  induction n with
  | zero => rfl
  | succ n ih => rw [dot, ih (fun i hi => h i (by omega)), h n (by omega)]; rfl
theorem dose_row {l : List BWax} {limit : Int} {r : List Int} {g added : Int} : ((rangesV (doseS l limit) [doseB r g added]).getD 0 []).getD 0 (0, 0) = (0, 1000 * added) := by
  have e : rangesV (doseS l limit) [doseB r g added] = [rowV (doseS l limit) [doseB r g added] [] (doseB r g added)] := rfl
  have e2 : rowV (doseS l limit) [doseB r g added] [] (doseB r g added) = [cellV (doseS l limit) [doseB r g added] [] (doseB r g added) 0] := rfl
  rw [e, e2]
  have d : ∀ b, dot (lotT (doseS l limit) (doseB r g added) 0 b) (doseS l limit).lots.length = 0 := fun b => dotU_zero _ _ fun i hi => by
    have hi' : i < l.length := by simpa [doseS] using hi
    unfold lotT
    have e1 : (doseS l limit).lots.getD i default = doseL (l.getD i default) := by simp [doseS, List.getD, hi']
    rw [e1]
    have : sd b ((doseL (l.getD i default)).parts.getD 0 (0, 0)) = 0 := by cases b <;> rfl
    rw [this, Int.mul_zero]
  show cellV (doseS l limit) [doseB r g added] [] (doseB r g added) 0 = _
  unfold cellV cellS
  rw [d, d]
  simp [doseB, sd, dot]
theorem dose_keeps {l : List BWax} (hl : BOk l) {limit : Int} (hm : 0 ≤ limit ∧ limit ≤ 1000000) {r : List Int} (h : ROk l.length r) {g added : Int} (hg : 1 ≤ g ∧ g ≤ 100000) (ha : 0 ≤ added ∧ added ≤ 10000000) :
    keepsV (doseS l limit) [doseB r g added] = if 1000 * added ≤ limit * g then (-1, -1, 0) else (0, 0, 0) := by
  unfold keepsV
  rw [dose_ok hl hm h hg ha, if_neg (by simp)]
  have hb : aboveB (doseS l limit) (doseB r g added) ((rangesV (doseS l limit) [doseB r g added]).getD 0 []) 0 = decide (limit * g < 1000 * added) := by
    unfold aboveB
    rw [dose_row, dose_weight h]
    rfl
  have hk : keepsT (doseS l limit) [doseB r g added] 0 = if limit * g < 1000 * added then some 0 else none := by
    have e : keepsT (doseS l limit) [doseB r g added] 0 = firstOf (aboveB (doseS l limit) (doseB r g added) ((rangesV (doseS l limit) [doseB r g added]).getD 0 [])) 1 := rfl
    rw [e, firstOf, firstOf, hb]
    by_cases hc : limit * g < 1000 * added <;> simp [hc]
  have e : keepsTo (doseS l limit) [doseB r g added] ([doseB r g added] : List Bat).length = (match keepsT (doseS l limit) [doseB r g added] 0 with | some t => ((0 : Int), (t : Int)) | none => (-1, -1)) := rfl
  rw [e, hk]
  by_cases hc : limit * g < 1000 * added
  · rw [if_pos hc, if_neg (by omega)]; rfl
  · rw [if_neg hc, if_pos (by omega)]
end Go.Proofs.YtohglbfeahofhaaGreat
