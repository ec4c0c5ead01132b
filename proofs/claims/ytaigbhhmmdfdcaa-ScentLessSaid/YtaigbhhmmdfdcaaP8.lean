/- A truth of a batch: what it makes is between the ends, and the ends are made by the truths at the ends. -/
import Derived.Test.YtaigbhhmmdfdcaaP7
import Derived.Test.YtaigbhhmmdfdcaaK3
namespace Go.Proofs.Ytaigbhhmmdfdcaa
theorem truthIn_spec {s : Shop} {l : List Bat} {prev : List (List (Int × Int))} {b : Bat} {x : Tru} {t : Nat} (h : truthIn s l prev b x t = true) :
    ((b.added.getD t (0, 0)).1 ≤ x.added.getD t 0 ∧ x.added.getD t 0 ≤ (b.added.getD t (0, 0)).2) ∧
    (∀ i, i < s.lots.length → ((s.lots.getD i default).parts.getD t (0, 0)).1 ≤ (x.lots.getD i []).getD t 0 ∧ (x.lots.getD i []).getD t 0 ≤ ((s.lots.getD i default).parts.getD t (0, 0)).2) ∧
    (∀ i, i < b.back.length → (partsV (weightV (l.getD i default)) ((prev.getD i []).getD t (0, 0))).1 ≤ (x.back.getD i []).getD t 0 ∧ (x.back.getD i []).getD t 0 ≤ (partsV (weightV (l.getD i default)) ((prev.getD i []).getD t (0, 0))).2) := by
  unfold truthIn at h
  simp only [Bool.and_eq_true, Bool.not_eq_true', List.all_eq_true, List.mem_range] at h
  exact ⟨outOne_false.1 h.1.1, fun i hi => outOne_false.1 (h.1.2 i hi), fun i hi => outOne_false.1 (h.2 i hi)⟩
/-- What a truth makes is between the ends. -/
theorem madeT_in {s : Shop} {l : List Bat} {prev : List (List (Int × Int))} {b : Bat} {x : Tru} {t : Nat} (h : truthIn s l prev b x t = true) (hg : ∀ i, 0 ≤ b.grams.getD i 0) (hb : ∀ i, 0 ≤ b.back.getD i 0) :
    cellS s l prev b t false ≤ madeT s b x t ∧ madeT s b x t ≤ cellS s l prev b t true := by
  obtain ⟨h1, h2, h3⟩ := truthIn_spec h
  unfold cellS madeT
  have a1 : dot (lotT s b t false) s.lots.length ≤ dot (fun i => b.grams.getD i 0 * (x.lots.getD i []).getD t 0) s.lots.length := dot_le fun i hi => by
    simpa [lotT, sd] using Int.mul_le_mul_of_nonneg_left (h2 i hi).1 (hg i)
  have a2 : dot (fun i => b.grams.getD i 0 * (x.lots.getD i []).getD t 0) s.lots.length ≤ dot (lotT s b t true) s.lots.length := dot_le fun i hi => by
    simpa [lotT, sd] using Int.mul_le_mul_of_nonneg_left (h2 i hi).2 (hg i)
  have b1 : dot (backT l prev b t false) b.back.length ≤ dot (fun i => b.back.getD i 0 * (x.back.getD i []).getD t 0) b.back.length := dot_le fun i hi => by
    simpa [backT, sd] using Int.mul_le_mul_of_nonneg_left (h3 i hi).1 (hb i)
  have b2 : dot (fun i => b.back.getD i 0 * (x.back.getD i []).getD t 0) b.back.length ≤ dot (backT l prev b t true) b.back.length := dot_le fun i hi => by
    simpa [backT, sd] using Int.mul_le_mul_of_nonneg_left (h3 i hi).2 (hb i)
  simp only [sd, Bool.false_eq_true, if_false, if_true]
  omega
/-- The truth at the least (greatest) ends. -/
def endT (s : Shop) (l : List Bat) (k : Nat) (e : Bool) : Tru :=
  ⟨s.lots.map (fun x => x.parts.map (sd e)), (List.range (l.getD k default).back.length).map (fun i => ((List.range s.things.length).map fun t => partsV (weightV (l.getD i default)) (micV s l i t)).map (sd e)), (l.getD k default).added.map (sd e)⟩
theorem map_sd {l : List (Int × Int)} (e : Bool) (t : Nat) : (l.map (sd e)).getD t 0 = sd e (l.getD t (0, 0)) := by
  simp only [List.getD_eq_getElem?_getD, List.getElem?_map]
  cases l[t]? with
  | none => cases e <;> rfl
  | some p => rfl
theorem map_getD {α β : Type} (f : α → β) (l : List α) {i : Nat} (hi : i < l.length) (d : α) (d' : β) : (l.map f).getD i d' = f (l.getD i d) := by simp [List.getD, hi]
theorem endT_made {s : Shop} {l : List Bat} (h : AllGood s l) {k : Nat} (hk : k < l.length) (e : Bool) {t : Nat} (ht : t < s.things.length) : madeT s (l.getD k default) (endT s l k e) t = sd e (micV s l k t) := by
  have hbl := (bat_ok0 (batchE_zero (h.pre k hk)).1).blen
  rw [micV_eq s l hk, if_pos ht]
  have e1 : sd e (cellV s l (rowsV s l k) (l.getD k default) t) = cellS s l (rowsV s l k) (l.getD k default) t e := by cases e <;> rfl
  rw [e1]
  unfold madeT cellS endT
  simp only
  rw [map_sd]
  congr 1
  · congr 1
    refine dot_congr fun i hi => ?_
    unfold lotT
    congr 1
    rw [map_getD _ _ hi default, map_sd]
  · refine dot_congr fun i hi => ?_
    rw [backT_eq s l (by omega) _ t e (by omega)]
    congr 1
    rw [mapr_get _ _ _ hi, map_sd, mapr_get _ _ _ ht]
    rfl
end Go.Proofs.Ytaigbhhmmdfdcaa
