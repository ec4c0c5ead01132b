/- A season backwards, plainly. -/
import Derived.Test.YtddapabmfecidaaP7
import Derived.Test.YtddapabmfecidaaP6
namespace Go.Proofs.Ytddapabmfecidaa
/-- The first k spans, the last one first. -/
def revSp (l : List (Int × Int)) : Nat → List (Int × Int)
  | 0 => []
  | k + 1 => l.getD k (0, 0) :: revSp l k
theorem revSp_len (l : List (Int × Int)) : ∀ k, (revSp l k).length = k
  | 0 => rfl
  | k + 1 => by simp [revSp, revSp_len l k]
theorem revSp_at (l : List (Int × Int)) : ∀ n d, d < n → (revSp l n).getD d (0, 0) = l.getD (n - 1 - d) (0, 0)
  | 0, d, h => by omega
  | n + 1, 0, _ => by simp [revSp]
  | n + 1, d + 1, h => by
    have := revSp_at l n d (by omega)
    rw [revSp, List.getD_cons_succ, this, show n - 1 - d = n + 1 - 1 - (d + 1) by omega]
theorem revTake_at (l : List Int) : ∀ n d, d < n → (revTake l n).getD d 0 = l.getD (n - 1 - d) 0
  | 0, d, h => by omega
  | n + 1, 0, _ => by simp [revTake]
  | n + 1, d + 1, h => by
    have := revTake_at l n d (by omega)
    rw [revTake, List.getD_cons_succ, this, show n - 1 - d = n + 1 - 1 - (d + 1) by omega]
def backS (s : Sea) (n : Nat) : Sea := { s with stores := s.stores.map fun x => { x with warm := revSp x.warm n } }
theorem backS_get (s : Sea) (n i : Nat) (hi : i < s.stores.length) : (backS s n).stores.getD i default = { (s.stores.getD i default) with warm := revSp (s.stores.getD i default).warm n } := by
  rw [List.getD_eq_getElem?_getD, List.getD_eq_getElem?_getD]
  simp [backS, List.getElem?_eq_getElem hi]
theorem backS_count (s : Sea) (n : Nat) : (backS s n).stores.length = s.stores.length := by simp [backS]
theorem backS_at (s : Sea) (n i d : Nat) (hi : i < s.stores.length) (hd : d < n) : (backS s n).at i d = s.at i (n - 1 - d) := by
  unfold Sea.at
  rw [backS_get s n i hi, revSp_at _ _ _ hd]
theorem backS_ok {s : Sea} (hc : (checkV s).2.2 = 0) : (checkV (backS s s.len)).2.2 = 0 ∧ (backS s s.len).len = s.len := by
  have hg := good_of_ok hc
  have hcn := backS_count s s.len
  have h3 := hg.stores
  have hl : (backS s s.len).len = s.len := by
    unfold Sea.len
    rw [backS_get s _ 0 (by omega), revSp_len]
  refine ⟨check_mk ⟨hg.bend, hg.jump, hg.days, hg.times, hg.move, by rw [hcn]; exact hg.stores, by rw [hl]; exact hg.len, ?_, ?_, ?_⟩ (names_same hcn (fun i hi => by rw [backS_get s _ i hi]) (names_of_ok hc)), hl⟩
  · intro i hi
    rw [hcn] at hi
    rw [backS_get s _ i hi]
    exact hg.rent i hi
  · intro i hi
    rw [hcn] at hi
    rw [backS_get s _ i hi, revSp_len, hl]
  · intro i hi d hd
    rw [hcn] at hi
    rw [hl] at hd
    have h := backS_at s s.len i d hi hd
    unfold Sea.at at h
    rw [h]
    exact hg.span i hi (s.len - 1 - d) (by omega)
theorem rl_back {s : Sea} {way : List Int} (hw : WayIn s way) (n : Nat) (hn : way.length = n) : ∀ k, k ≤ n → rl (backS s n) (revTake way n) k = ((rl s way n).reverse).drop (n - k)
  | 0, _ => by
    rw [Nat.sub_zero, List.drop_eq_nil_of_le (by rw [List.length_reverse, rl_length]; omega)]
    rfl
  | k + 1, h => by
    have ih := rl_back hw n hn k (by omega)
    have hlen : (rl s way n).reverse.length = n := by rw [List.length_reverse, rl_length]
    rw [rl, ih, revTake_at _ _ _ (by omega), List.drop_eq_getElem_cons (show n - (k + 1) < _ by omega), show n - (k + 1) + 1 = n - k by omega]
    congr 1
    have hwk := hw (n - 1 - k) (by omega)
    rw [backS_at s n _ k (by omega) (by omega)]
    -- the span of a day, from the list that begins with the last one
    have hat : ∀ m j, j < m → (rl s way m).getD j (0, 0) = s.at (way.getD (m - 1 - j) 0).toNat (m - 1 - j) := by
      intro m
      induction m with
      | zero => intro j hj; omega
      | succ m ihm =>
        intro j hj
        cases j with
        | zero => simp [rl]
        | succ j =>
          rw [rl, List.getD_cons_succ, ihm j (by omega), show m - 1 - j = m + 1 - 1 - (j + 1) by omega]
    have h2 := hat n k (by omega)
    rw [List.getElem_reverse]
    rw [List.getD_eq_getElem?_getD, List.getElem?_eq_getElem (by rw [rl_length]; omega)] at h2
    simp only [Option.getD_some] at h2
    rw [← h2]
    congr 1
    rw [rl_length]
    omega
/-- **Backwards** Risks says the same. -/
theorem risk_back {s : Sea} {way : List Int} (he : openE s way = 0) (hn : way.length = s.len) : riskV (backS s s.len) (revTake way s.len) = riskV s way := by
  have hc := (openE_ok he).1
  have hg := good_of_ok hc
  have hw := way_ok (openE_ok he).2
  have hb := backS_ok hc
  have hin : WayIn (backS s s.len) (revTake way s.len) := by
    intro d hd
    rw [revTake_len] at hd
    rw [revTake_at _ _ _ hd, backS_count]
    exact hw.2.2 _ (by omega)
  have hoe : openE (backS s s.len) (revTake way s.len) = 0 := openE_mk hb.1 (by rw [revTake_len]; have := hg.len; omega) (by rw [revTake_len, hb.2]; exact Nat.le_refl _) hin
  have hrl := rl_back hw.2.2 s.len hn s.len (Nat.le_refl _)
  rw [Nat.sub_self, List.drop_zero] at hrl
  have hne : rl s way s.len ≠ [] := rl_ne s way (by have := hg.len; omega)
  rw [riskV_ok hoe, riskV_ok he, revTake_len, hrl, hn, MV_reverse]
  have := JM_reverse s.jump (rl_ok hg hw.2.1 hw.2.2 s.len (by omega)) hne
  rw [show (backS s s.len).jump = s.jump from rfl, show (backS s s.len).bend = s.bend from rfl, this]
end Go.Proofs.Ytddapabmfecidaa
