/- Narrower ranges, and less added: what they make. -/
import Derived.Test.YtaigbhhmmdfdcaaP11
import Derived.Test.YtaigbhhmmdfdcaaP13
import Derived.Test.YtaigbhhmmdfdcaaY20
namespace Go.Proofs.Ytaigbhhmmdfdcaa
theorem parts_mono {w : Int} (hw : 0 < w) {p q : Int × Int} (e : Bool) (h : sd e p ≤ sd e q) : sd e (partsV w p) ≤ sd e (partsV w q) := by
  unfold partsV
  cases e
  · simp only [sd, Bool.false_eq_true, if_false] at *
    have := Int.ediv_le_ediv hw h
    omega
  · simp only [sd, if_true] at *
    have := Int.ediv_le_ediv hw (show p.2 + w - 1 ≤ q.2 + w - 1 by omega)
    omega
/-- The same but for the ranges. -/
structure Alike (s s' : Shop) (l l' : List Bat) : Prop where
  th : s'.things = s.things
  nl : s'.lots.length = s.lots.length
  nb : l'.length = l.length
  gr : ∀ k, (l'.getD k default).grams = (l.getD k default).grams
  bk : ∀ k, (l'.getD k default).back = (l.getD k default).back
theorem Alike.symm {s s' : Shop} {l l' : List Bat} (h : Alike s s' l l') : Alike s' s l' l := ⟨h.th.symm, h.nl.symm, h.nb.symm, fun k => (h.gr k).symm, fun k => (h.bk k).symm⟩
theorem Alike.weight {s s' : Shop} {l l' : List Bat} (h : Alike s s' l l') (k : Nat) : weightV (l'.getD k default) = weightV (l.getD k default) := by
  unfold weightV
  rw [h.gr, h.bk]
theorem Alike.ok {s s' : Shop} {l l' : List Bat} (h : Alike s s' l l') (hz : batchesE s l = 0) (hc : checkE s' = 0) (ha : ∀ k, k < l.length → (l'.getD k default).added.length = s.things.length ∧ spansE 10000000 (l'.getD k default).added = 0) : batchesE s' l' = 0 := by
  obtain ⟨-, hn, hp⟩ := batches_zero.1 hz
  refine batches_zero.2 ⟨hc, by rw [h.nb]; exact hn, fun k hk => ?_⟩
  rw [h.nb] at hk
  obtain ⟨h0, hw, ho⟩ := batchE_zero (hp k hk)
  obtain ⟨ha1, ha2⟩ := ha k hk
  have hb := bat_ok0 h0
  have e0 : batchE0 s' l' k = 0 := by
    unfold batchE0 at h0 ⊢
    rw [h.gr, h.bk, h.nl, h.th, ha1]
    split at h0
    · cases h0
    split at h0
    · cases h0
    rename_i h1 h2
    rw [if_neg (fun hh => h1 (by rcases hh with hh | hh | hh; exact .inl hh; exact .inr (.inl hh); exact absurd rfl hh)), if_neg h2]
    exact ha2
  have ht : ∀ i, takenV l' i (k + 1) = takenV l i (k + 1) := fun i => dot_congr fun j _ => by rw [h.bk]
  have ho' : overB l' k k = overB l k k := by
    unfold overB
    congr 1
    funext i
    rw [h.weight, ht]
  unfold batchE
  rw [if_neg (by simp [e0]), h.weight, if_neg hw, ho', ho]
  rfl
/-- With smaller ends the ends of the micrograms are smaller. -/
theorem mic_mono {s s' : Shop} {l l' : List Bat} (e : Bool) (h : Alike s s' l l') (hg : AllGood s l) (ha : ∀ k t, k < l.length → sd e ((l.getD k default).added.getD t (0, 0)) ≤ sd e ((l'.getD k default).added.getD t (0, 0)))
    (hp : ∀ i t, i < s.lots.length → sd e ((s.lots.getD i default).parts.getD t (0, 0)) ≤ sd e ((s'.lots.getD i default).parts.getD t (0, 0))) (k : Nat) : k < l.length → ∀ t, sd e (micV s l k t) ≤ sd e (micV s' l' k t) := by
  induction k using Nat.strongRecOn with
  | ind k ih =>
    intro hk t
    have hb := bat_ok0 (batchE_zero (hg.pre k hk)).1
    have hbl := hb.blen
    rw [micV_eq s l hk, micV_eq s' l' (by rw [h.nb]; exact hk), h.th]
    by_cases ht : t < s.things.length
    · rw [if_pos ht, if_pos ht]
      have e1 : ∀ s l p b, sd e (cellV s l p b t) = cellS s l p b t e := fun s l p b => by cases e <;> rfl
      rw [e1, e1]
      unfold cellS
      rw [h.nl, h.bk]
      have h1 := ha k t hk
      have h2 : dot (lotT s (l.getD k default) t e) s.lots.length ≤ dot (lotT s' (l'.getD k default) t e) s.lots.length := dot_le fun i hi => by
        unfold lotT
        rw [h.gr]
        exact Int.mul_le_mul_of_nonneg_left (hp i t hi) (hb.gram i).1
      have h3 : dot (backT l (rowsV s l k) (l.getD k default) t e) (l.getD k default).back.length ≤ dot (backT l' (rowsV s' l' k) (l'.getD k default) t e) (l.getD k default).back.length := dot_le fun i hi => by
        rw [backT_eq s l (by omega) _ t e (by omega), backT_eq s' l' (by rw [h.nb]; omega) _ t e (by omega), h.bk]
        refine Int.mul_le_mul_of_nonneg_left ?_ (hb.back i).1
        unfold parV
        rw [h.weight]
        exact parts_mono (hg.pre.pos hg.sh hg.n6 (Nat.le_refl _) (by omega)).1 e (ih i (by omega) (by omega) t)
      omega
    · rw [if_neg ht, if_neg ht]
      exact Int.le_refl _
theorem spansE_of {m : Int} {l : List (Int × Int)} (h : ∀ i, i < l.length → 0 ≤ (l.getD i (0, 0)).1 ∧ (l.getD i (0, 0)).1 ≤ (l.getD i (0, 0)).2 ∧ (l.getD i (0, 0)).2 ≤ m) : spansE m l = 0 := by
  have hm : ∀ p, p ∈ l → 0 ≤ p.1 ∧ p.1 ≤ p.2 ∧ p.2 ≤ m := fun p hp => by
    obtain ⟨i, hi, rfl⟩ := List.mem_iff_getElem.1 hp
    have := h i hi
    rw [List.getD_eq_getElem?_getD, List.getElem?_eq_getElem hi] at this
    exact this
  unfold spansE
  rw [if_neg, if_neg]
  · rw [Bool.not_eq_true, List.any_eq_false]
    intro p hp
    have := hm p hp
    simp; omega
  · rw [Bool.not_eq_true, List.any_eq_false]
    intro p hp
    have := hm p hp
    simp [outB, outOne]; omega
theorem checkE_of {s : Shop} (h1 : outOne 1 5 s.things.length = false) (h2 : outOne 1 6 s.lots.length = false) (h3 : ∀ k, k < s.things.length → thingE (s.things.take k) (s.things.getD k default) = 0)
    (h4 : ∀ k, k < s.lots.length → lotE s.things.length (s.lots.take k) (s.lots.getD k default) = 0) : checkE s = 0 := by
  have e1 : (findE (thingEs s) 0).2 = 0 := map_range_zero.2 h3
  have e2 : (findE (lotEs s) 0).2 = 0 := map_range_zero.2 h4
  unfold checkE checkV
  rw [h1, h2, e1, e2]
  simp
/-- The finer shop. -/
def fineS (s : Shop) (x : List Int) : Shop := ⟨s.things, (List.range s.lots.length).map fun i => ⟨(s.lots.getD i default).name, narrowV (s.lots.getD i default).parts x i⟩⟩
/-- Batches of which narrower ranges are added. -/
def thinL (l : List Bat) (x : List Int) : List Bat := (List.range l.length).map fun k => ⟨(l.getD k default).grams, (l.getD k default).back, narrowV (l.getD k default).added x k⟩
def lessAt (p : Int × Int) (x : List Int) (n : Nat) : Int × Int := (min p.1 (amongV (0, p.2) (turnV x n)), amongV (0, p.2) (turnV x n))
def lessV (l : List (Int × Int)) (x : List Int) (n : Nat) : List (Int × Int) := (List.range l.length).map fun i => lessAt (l.getD i (0, 0)) x (n + i)
/-- Batches of which less is added. -/
def lessL (l : List Bat) (x : List Int) : List Bat := (List.range l.length).map fun k => ⟨(l.getD k default).grams, (l.getD k default).back, lessV (l.getD k default).added x k⟩
theorem narrowAt_in {p : Int × Int} (h : p.1 ≤ p.2) (x : List Int) (n : Nat) : p.1 ≤ (narrowAt p x n).1 ∧ (narrowAt p x n).1 ≤ (narrowAt p x n).2 ∧ (narrowAt p x n).2 ≤ p.2 := by
  have h1 := amongV_in h (turnV x n)
  have h2 := amongV_in (p := (amongV p (turnV x n), p.2)) h1.2 (turnV x (n + 1))
  exact ⟨h1.1, h2.1, h2.2⟩
theorem lessAt_in {p : Int × Int} (h0 : 0 ≤ p.1) (h : p.1 ≤ p.2) (x : List Int) (n : Nat) : 0 ≤ (lessAt p x n).1 ∧ (lessAt p x n).1 ≤ (lessAt p x n).2 ∧ (lessAt p x n).2 ≤ p.2 ∧ (lessAt p x n).1 ≤ p.1 := by
  have h1 := amongV_in (p := (0, p.2)) (show (0 : Int) ≤ p.2 by omega) (turnV x n)
  simp only at h1
  unfold lessAt
  simp only
  omega
theorem mapr_all {f : Nat → Int × Int} (n i : Nat) : ((List.range n).map f).getD i (0, 0) = if i < n then f i else (0, 0) := by
  by_cases h : i < n
  · rw [if_pos h, mapr_get _ _ _ h]
  · rw [if_neg h, List.getD_eq_getElem?_getD, List.getElem?_eq_none (by simp; omega)]; rfl
theorem sp_none {l : List (Int × Int)} {i : Nat} (h : ¬ i < l.length) : l.getD i (0, 0) = (0, 0) := by
  rw [List.getD_eq_getElem?_getD, List.getElem?_eq_none (by omega)]; rfl
theorem narrowV_in {l : List (Int × Int)} {m : Int} (h : ∀ t, 0 ≤ (l.getD t (0, 0)).1 ∧ (l.getD t (0, 0)).1 ≤ (l.getD t (0, 0)).2 ∧ (l.getD t (0, 0)).2 ≤ m) (x : List Int) (n t : Nat) :
    (l.getD t (0, 0)).1 ≤ ((narrowV l x n).getD t (0, 0)).1 ∧ ((narrowV l x n).getD t (0, 0)).1 ≤ ((narrowV l x n).getD t (0, 0)).2 ∧ ((narrowV l x n).getD t (0, 0)).2 ≤ (l.getD t (0, 0)).2 := by
  unfold narrowV
  rw [mapr_all]
  by_cases ht : t < l.length
  · rw [if_pos ht]; exact narrowAt_in (h t).2.1 x _
  · rw [if_neg ht, sp_none ht]; simp
theorem lessV_in {l : List (Int × Int)} {m : Int} (h : ∀ t, 0 ≤ (l.getD t (0, 0)).1 ∧ (l.getD t (0, 0)).1 ≤ (l.getD t (0, 0)).2 ∧ (l.getD t (0, 0)).2 ≤ m) (x : List Int) (n t : Nat) :
    0 ≤ ((lessV l x n).getD t (0, 0)).1 ∧ ((lessV l x n).getD t (0, 0)).1 ≤ ((lessV l x n).getD t (0, 0)).2 ∧ ((lessV l x n).getD t (0, 0)).2 ≤ (l.getD t (0, 0)).2 ∧ ((lessV l x n).getD t (0, 0)).1 ≤ (l.getD t (0, 0)).1 := by
  unfold lessV
  rw [mapr_all]
  by_cases ht : t < l.length
  · rw [if_pos ht]; exact lessAt_in (h t).1 (h t).2.1 x _
  · rw [if_neg ht, sp_none ht]; simp
theorem map_default {α : Type} [Inhabited α] (f : Nat → α) (n i : Nat) (h : ¬ i < n) : ((List.range n).map f).getD i default = default := by
  rw [List.getD_eq_getElem?_getD, List.getElem?_eq_none (by simp; omega)]; rfl
theorem get_default {α : Type} [Inhabited α] (l : List α) {i : Nat} (h : ¬ i < l.length) : l.getD i default = default := by
  rw [List.getD_eq_getElem?_getD, List.getElem?_eq_none (by omega)]; rfl
theorem thin_get (l : List Bat) (x : List Int) {k : Nat} (hk : k < l.length) : (thinL l x).getD k default = ⟨(l.getD k default).grams, (l.getD k default).back, narrowV (l.getD k default).added x k⟩ := mapr_get _ _ _ hk _
theorem less_get (l : List Bat) (x : List Int) {k : Nat} (hk : k < l.length) : (lessL l x).getD k default = ⟨(l.getD k default).grams, (l.getD k default).back, lessV (l.getD k default).added x k⟩ := mapr_get _ _ _ hk _
theorem fine_get (s : Shop) (x : List Int) {i : Nat} (hi : i < s.lots.length) : (fineS s x).lots.getD i default = ⟨(s.lots.getD i default).name, narrowV (s.lots.getD i default).parts x i⟩ := mapr_get _ _ _ hi _
theorem thin_alike (s : Shop) (l : List Bat) (x : List Int) : Alike s (fineS s x) l (thinL l x) := by
  refine ⟨rfl, by simp [fineS], by simp [thinL], fun k => ?_, fun k => ?_⟩
  · by_cases hk : k < l.length
    · rw [thin_get l x hk]
    · rw [get_default l hk]; unfold thinL; rw [map_default _ _ _ hk]
  · by_cases hk : k < l.length
    · rw [thin_get l x hk]
    · rw [get_default l hk]; unfold thinL; rw [map_default _ _ _ hk]
theorem less_alike (s : Shop) (l : List Bat) (x : List Int) : Alike s s l (lessL l x) := by
  refine ⟨rfl, rfl, by simp [lessL], fun k => ?_, fun k => ?_⟩
  · by_cases hk : k < l.length
    · rw [less_get l x hk]
    · rw [get_default l hk]; unfold lessL; rw [map_default _ _ _ hk]
  · by_cases hk : k < l.length
    · rw [less_get l x hk]
    · rw [get_default l hk]; unfold lessL; rw [map_default _ _ _ hk]
theorem narrowV_len (l : List (Int × Int)) (x : List Int) (n : Nat) : (narrowV l x n).length = l.length := by simp [narrowV]
theorem lessV_len (l : List (Int × Int)) (x : List Int) (n : Nat) : (lessV l x n).length = l.length := by simp [lessV]
theorem fine_ok {s : Shop} (h : checkE s = 0) (x : List Int) : checkE (fineS s x) = 0 := by
  have ho := shop_ok h
  obtain ⟨⟨h1, h2⟩, h3, h4⟩ := checkE_cases s h
  have hl : (fineS s x).lots.length = s.lots.length := by simp [fineS]
  have hn : (fineS s x).lots.map (·.name) = s.lots.map (·.name) := by
    apply List.ext_getElem?
    intro i
    rw [List.getElem?_map, List.getElem?_map]
    unfold fineS
    simp only
    rw [List.getElem?_map]
    by_cases hi : i < s.lots.length
    · rw [List.getElem?_range hi, List.getElem?_eq_getElem hi]
      simp [List.getD, hi]
    · rw [List.getElem?_eq_none (by simp; omega), List.getElem?_eq_none (by omega)]; rfl
  refine checkE_of h1 (by rw [hl]; exact h2) h3 fun k hk => ?_
  rw [hl] at hk
  have h5 := h4 k hk
  rw [fine_get s x hk]
  unfold lotE at h5 ⊢
  simp only [narrowV_len]
  have ha : ((fineS s x).lots.take k).any (fun y => sameN (s.lots.getD k default).name y.name) = (s.lots.take k).any (fun y => sameN (s.lots.getD k default).name y.name) := by
    have e : ∀ m : List Lot, m.any (fun y => sameN (s.lots.getD k default).name y.name) = (m.map (·.name)).any (sameN (s.lots.getD k default).name) := fun m => by rw [List.any_map]; rfl
    rw [e, e, List.map_take, List.map_take, hn]
  rw [ha]
  split at h5
  · cases h5
  split at h5
  · cases h5
  split at h5
  · cases h5
  rename_i g1 g2 g3
  rw [if_neg g1, if_neg g2, show (fineS s x).things = s.things from rfl, if_neg g3]
  exact spansE_of fun i _ => by
    have := narrowV_in (ho.part k hk) x k i
    have := ho.part k hk i
    omega
theorem thin_ok {s : Shop} {l : List Bat} (hz : batchesE s l = 0) (x : List Int) : batchesE (fineS s x) (thinL l x) = 0 := by
  have hg := all_good hz
  refine (thin_alike s l x).ok hz (fine_ok (batches_zero.1 hz).1 x) fun k hk => ?_
  have hb := bat_ok0 (batchE_zero (hg.pre k hk)).1
  rw [thin_get l x hk]
  refine ⟨by simp only; rw [narrowV_len]; exact hb.alen, spansE_of fun i _ => ?_⟩
  have := narrowV_in hb.add x k i
  have := hb.add i
  simp only
  omega
theorem less_ok {s : Shop} {l : List Bat} (hz : batchesE s l = 0) (x : List Int) : batchesE s (lessL l x) = 0 := by
  have hg := all_good hz
  refine (less_alike s l x).ok hz (batches_zero.1 hz).1 fun k hk => ?_
  have hb := bat_ok0 (batchE_zero (hg.pre k hk)).1
  rw [less_get l x hk]
  refine ⟨by simp only; rw [lessV_len]; exact hb.alen, spansE_of fun i _ => ?_⟩
  have := lessV_in hb.add x k i
  have := hb.add i
  simp only
  omega
/-- No range is wider. -/
theorem thin_mic {s : Shop} {l : List Bat} (hz : batchesE s l = 0) (x : List Int) {k : Nat} (hk : k < l.length) (t : Nat) :
    (micV s l k t).1 ≤ (micV (fineS s x) (thinL l x) k t).1 ∧ (micV (fineS s x) (thinL l x) k t).2 ≤ (micV s l k t).2 := by
  have hg := all_good hz
  have hg2 := all_good (thin_ok hz x)
  have hA := thin_alike s l x
  constructor
  · have := mic_mono false hA hg (fun k t hk => by rw [thin_get l x hk]; exact (narrowV_in (bat_ok0 (batchE_zero (hg.pre k hk)).1).add x k t).1) (fun i t hi => by rw [fine_get s x hi]; exact (narrowV_in (hg.sh.part i hi) x i t).1) k hk t
    exact this
  · have := mic_mono true hA.symm hg2 (fun k t hk => by rw [hA.nb] at hk; rw [thin_get l x hk]; exact (narrowV_in (bat_ok0 (batchE_zero (hg.pre k hk)).1).add x k t).2.2) (fun i t hi => by rw [hA.nl] at hi; rw [fine_get s x hi]; exact (narrowV_in (hg.sh.part i hi) x i t).2.2) k (by rw [hA.nb]; exact hk) t
    exact this
/-- No content is greater. -/
theorem less_mic {s : Shop} {l : List Bat} (hz : batchesE s l = 0) (x : List Int) {k : Nat} (hk : k < l.length) (t : Nat) :
    (micV s (lessL l x) k t).1 ≤ (micV s l k t).1 ∧ (micV s (lessL l x) k t).2 ≤ (micV s l k t).2 := by
  have hg := all_good hz
  have hg2 := all_good (less_ok hz x)
  have hA := less_alike s l x
  constructor
  · have := mic_mono false hA.symm hg2 (fun k t hk => by rw [hA.nb] at hk; rw [less_get l x hk]; exact (lessV_in (bat_ok0 (batchE_zero (hg.pre k hk)).1).add x k t).2.2.2) (fun i t hi => Int.le_refl _) k (by rw [hA.nb]; exact hk) t
    exact this
  · have := mic_mono true hA.symm hg2 (fun k t hk => by rw [hA.nb] at hk; rw [less_get l x hk]; exact (lessV_in (bat_ok0 (batchE_zero (hg.pre k hk)).1).add x k t).2.2.1) (fun i t hi => Int.le_refl _) k (by rw [hA.nb]; exact hk) t
    exact this
theorem thin_pull {s : Shop} {l : List Bat} (hz : batchesE s l = 0) (x : List Int) {k : Nat} (hk : k < l.length) :
    ((pullV s l).getD k (0, 0)).1 ≤ ((pullV (fineS s x) (thinL l x)).getD k (0, 0)).1 ∧ ((pullV (fineS s x) (thinL l x)).getD k (0, 0)).2 ≤ ((pullV s l).getD k (0, 0)).2 := by
  have hg := all_good hz
  have hA := thin_alike s l x
  have hw := (hg.pre.pos hg.sh hg.n6 (Nat.le_refl _) hk).1
  rw [pull_get hz hk, pull_get (thin_ok hz x) (by rw [hA.nb]; exact hk)]
  unfold pullOf
  rw [hA.weight]
  have h1 : weakS (fineS s x) (fun t => (((rangesV (fineS s x) (thinL l x)).getD k []).getD t (0, 0)).2) (fineS s x).things.length ≤ weakS s (fun t => (((rangesV s l).getD k []).getD t (0, 0)).2) s.things.length :=
    weakS_le hg.sh (Nat.le_refl _) fun t _ => (thin_mic hz x hk t).2
  have h2 : weakS s (fun t => (((rangesV s l).getD k []).getD t (0, 0)).1) s.things.length ≤ weakS (fineS s x) (fun t => (((rangesV (fineS s x) (thinL l x)).getD k []).getD t (0, 0)).1) (fineS s x).things.length :=
    weakS_le hg.sh (Nat.le_refl _) fun t _ => (thin_mic hz x hk t).1
  have hq : 0 < 1000 * weightV (l.getD k default) := by omega
  exact ⟨Int.ediv_le_ediv hq (by omega), Int.ediv_le_ediv hq (by omega)⟩
/-- A shop that kept its limits still does. -/
theorem thin_keeps {s : Shop} {l : List Bat} (hz : batchesE s l = 0) (x : List Int) (h : (keepsV s l).1 < 0) : (keepsV (fineS s x) (thinL l x)).1 < 0 := by
  have hA := thin_alike s l x
  rcases keeps_cases hz with ⟨e, h1⟩ | ⟨b, t, hb, ht, e, -⟩
  · rcases keeps_cases (thin_ok hz x) with ⟨e2, -⟩ | ⟨b2, t2, hb2, ht2, -, h3⟩
    · rw [e2]; simp
    · rw [hA.nb] at hb2
      have h4 := h1 b2 hb2 t2 ht2
      have h5 := (thin_mic hz x hb2 t2).2
      rw [hA.weight] at h3
      have h6 : (s.things.getD t2 default).limit * weightV (l.getD b2 default) < (micV (fineS s x) (thinL l x) b2 t2).2 := h3
      omega
  · rw [e] at h
    simp only at h
    omega
end Go.Proofs.Ytaigbhhmmdfdcaa
