/- Cheapest, plainly: the first one of the cheapest sound ways. -/
import Derived.Test.YtddapabmfecidaaP3
import Derived.Test.YtddapabmfecidaaW24
import Derived.Test.YtddapabmfecidaaW14
namespace Go.Proofs.Ytddapabmfecidaa

def lexLe : List Int → List Int → Prop
  | x :: a, y :: b => x < y ∨ x = y ∧ lexLe a b
  | _, _ => True
theorem lexLe_refl : ∀ l, lexLe l l
  | [] => trivial
  | _ :: l => .inr ⟨rfl, lexLe_refl l⟩
theorem lexLe_anti : ∀ {a b : List Int}, a.length = b.length → lexLe a b → lexLe b a → a = b
  | [], [], _, _, _ => rfl
  | x :: a, y :: b, hl, h1, h2 => by
    simp only [List.length_cons] at hl
    rcases h1 with h1 | ⟨rfl, h1⟩
    · rcases h2 with h2 | ⟨h2, -⟩ <;> omega
    · rcases h2 with h2 | ⟨-, h2⟩
      · omega
      · rw [lexLe_anti (by omega) h1 h2]
  | [], _ :: _, hl, _, _ => by simp at hl
  | _ :: _, [], hl, _, _ => by simp at hl
/-- Stores from a day on, behind hot days and jumps: is it safe? -/
def runOk (s : Sea) : List Int → Nat → Int → List Int → Prop
  | [], _, _, _ => True
  | x :: t, d, h, j => (0 ≤ x ∧ x < s.stores.length) ∧ s.safe (s.hotN (s.at x.toNat d) h) (s.jumpN (s.at x.toNat d) j) = true ∧ runOk s t (d + 1) (s.hotN (s.at x.toNat d) h) (s.jumpN (s.at x.toNat d) j)
def runCost (s : Sea) : List Int → Int → Int
  | [], _ => 0
  | x :: t, st => runCost s t x + s.rent x.toNat + s.moveC st x.toNat
theorem bestTo_min (s : Sea) (rec : Nat → Int → List Int → Int × Int) (d : Nat) (st h : Int) (j : List Int) (hp : ∀ i : Nat, i < s.stores.length → 0 ≤ (rec i (s.hotN (s.at i d) h) (s.jumpN (s.at i d) j)).1 → 0 ≤ (rec i (s.hotN (s.at i d) h) (s.jumpN (s.at i d) j)).1 + s.rent i + s.moveC st i) : ∀ k, k ≤ s.stores.length → ∀ i : Nat, i < k → s.safe (s.hotN (s.at i d) h) (s.jumpN (s.at i d) j) = true → 0 ≤ (rec i (s.hotN (s.at i d) h) (s.jumpN (s.at i d) j)).1 →
    0 ≤ (bestTo s rec d st h j k).1 ∧ (bestTo s rec d st h j k).1 ≤ (rec i (s.hotN (s.at i d) h) (s.jumpN (s.at i d) j)).1 + s.rent i + s.moveC st i ∧
      ((bestTo s rec d st h j k).1 = (rec i (s.hotN (s.at i d) h) (s.jumpN (s.at i d) j)).1 + s.rent i + s.moveC st i → (bestTo s rec d st h j k).2 ≤ i)
  | 0, _, i, hi, _, _ => by omega
  | k + 1, hk, i, hi, hs, h0 => by
    have ih := bestTo_min s rec d st h j hp k (by omega)
    rw [show bestTo s rec d st h j (k + 1) = bestStep s rec d st h j (bestTo s rec d st h j k) k from rfl]
    by_cases hik : i = k
    · subst hik
      have hpi := hp i (by omega) h0
      unfold bestStep
      rw [if_pos hs, if_neg (by omega)]
      split
      · exact ⟨hpi, Int.le_refl _, fun _ => Int.le_refl _⟩
      · rename_i hc
        refine ⟨by omega, by omega, fun he => ?_⟩
        -- the one before is as cheap: it is an earlier one
        obtain ⟨m, hm, hm2, -⟩ := bestTo_next s rec d st h j i (by omega)
        rw [hm2]
        omega
    · have hp2 := ih i (by omega) hs h0
      unfold bestStep
      split
      · split
        · exact hp2
        · rename_i hsk hnk
          have hpk := hp k (by omega) (by omega)
          split
          · refine ⟨hpk, by omega, fun he => ?_⟩
            rename_i hc
            omega
          · exact hp2
      · exact hp2
theorem bestR_min (s : Sea) (hg : Good s) : ∀ (t : List Int) (d : Nat) (st h : Int) (j : List Int), runOk s t d h j →
    0 ≤ (bestR s t.length d st h j).1 ∧ (bestR s t.length d st h j).1 ≤ runCost s t st ∧ ((bestR s t.length d st h j).1 = runCost s t st → lexLe (wayRun s t.length d st h j) t)
  | [], d, st, h, j, _ => by simp [bestR, runCost, lexLe]
  | x :: t, d, st, h, j, hok => by
    obtain ⟨hx, hs, hok⟩ := hok
    obtain ⟨i, rfl⟩ : ∃ i : Nat, x = i := ⟨x.toNat, by omega⟩
    simp only [Int.toNat_natCast] at hs hok
    have ih := bestR_min s hg t (d + 1) i _ _ hok
    have hm := bestTo_min s (fun i h' j' => bestR s t.length (d + 1) i h' j') d st h j (fun i hi h0 => by
      have h2 := (hg.rent i hi).1
      have h3 := hg.move
      have h4 : 0 ≤ s.moveC st i := by unfold Sea.moveC; split <;> omega
      unfold Sea.rent
      omega) s.stores.length (Nat.le_refl _) i (by omega) hs ih.1
    rw [show bestR s ((i : Int) :: t).length d st h j = bestTo s (fun i h' j' => bestR s t.length (d + 1) i h' j') d st h j s.stores.length from rfl]
    have hrc : runCost s ((i : Int) :: t) st = runCost s t i + s.rent i + s.moveC st i := rfl
    refine ⟨hm.1, by omega, fun he => ?_⟩
    have h2 := hm.2.2 (by omega)
    rw [List.length_cons, wayRun_succ]
    have hb : bestR s (t.length + 1) d st h j = bestTo s (fun i h' j' => bestR s t.length (d + 1) i h' j') d st h j s.stores.length := rfl
    obtain ⟨m, hm1, hm2, hm3, hm4, hm5⟩ := bestR_next s t.length d st h j (by rw [hb]; exact hm.1)
    rw [hm2]
    have e2 : (bestTo s (fun i h' j' => bestR s t.length (d + 1) i h' j') d st h j s.stores.length).2 = m := by rw [← hb]; exact hm2
    rw [e2] at h2
    by_cases hlt : m < i
    · exact .inl (by omega)
    · obtain rfl : m = i := by omega
      refine .inr ⟨rfl, ?_⟩
      simp only [Int.toNat_natCast]
      refine ih.2.2 ?_
      have e1 : (bestTo s (fun i h' j' => bestR s t.length (d + 1) i h' j') d st h j s.stores.length).1 = (bestR s t.length (d + 1) m (s.hotN (s.at m d) h) (s.jumpN (s.at m d) j)).1 + s.rent m + s.moveC st m := by rw [← hb]; exact hm5
      omega
theorem wayRun_ok (s : Sea) : ∀ (r d : Nat) (st h : Int) (j : List Int), 0 ≤ (bestR s r d st h j).1 → runOk s (wayRun s r d st h j) d h j ∧ runCost s (wayRun s r d st h j) st = (bestR s r d st h j).1 ∧ (wayRun s r d st h j).length = r
  | 0, d, st, h, j, _ => ⟨trivial, rfl, rfl⟩
  | r + 1, d, st, h, j, h0 => by
    obtain ⟨m, hm1, hm2, hm3, hm4, hm5⟩ := bestR_next s r d st h j h0
    have ih := wayRun_ok s r (d + 1) m _ _ hm4
    rw [wayRun_succ, hm2]
    refine ⟨⟨by omega, by simpa using hm3, by simpa using ih.1⟩, ?_, by simpa using ih.2.2⟩
    rw [hm5]
    simp only [runCost, Int.toNat_natCast]
    rw [ih.2.1]
/-- Safe behind its first days: as Risks says it. -/
theorem runOk_iff {s : Sea} (hg : Good s) {way : List Int} (hl : way.length ≤ s.len) (hw : WayIn s way) : ∀ (f d : Nat), d + f = way.length →
    (runOk s (way.drop d) d (HV s.bend (rl s way d)) (JV s.jump (rl s way d)) ↔ ∀ k, d < k → k ≤ way.length → HV s.bend (rl s way k) < s.days ∧ JM s.jump (rl s way k) < s.times)
  | 0, d, h => by
    rw [List.drop_eq_nil_of_le (by omega)]
    exact ⟨fun _ k h1 h2 => by omega, fun _ => trivial⟩
  | f + 1, d, h => by
    have hd : d < way.length := by omega
    have ih := runOk_iff hg hl hw f (d + 1) (by omega)
    have hwd := hw d hd
    have e : way.drop d = way.getD d 0 :: way.drop (d + 1) := by
      rw [List.drop_eq_getElem_cons hd, List.getD_eq_getElem?_getD, List.getElem?_eq_getElem hd]
      rfl
    have e1 : s.hotN (s.at (way.getD d 0).toNat d) (HV s.bend (rl s way d)) = HV s.bend (rl s way (d + 1)) := rfl
    have e2 : s.jumpN (s.at (way.getD d 0).toNat d) (JV s.jump (rl s way d)) = JV s.jump (rl s way (d + 1)) := rfl
    rw [e]
    simp only [runOk]
    rw [e1, e2, ih]
    unfold Sea.safe
    simp only [Bool.and_eq_true, decide_eq_true_eq]
    constructor
    · rintro ⟨-, h1, h2⟩ k hk1 hk2
      by_cases hk : k = d + 1
      · subst hk; exact h1
      · exact h2 k (by omega) hk2
    · intro h1
      exact ⟨by omega, h1 (d + 1) (by omega) (by omega), fun k hk1 hk2 => h1 k (by omega) hk2⟩
/-- A way for all days in which candles neither bend nor bloom. -/
def Sound (s : Sea) (way : List Int) : Prop := way.length = s.len ∧ WayIn s way ∧ MV s.bend (rl s way s.len) < s.days ∧ JM s.jump (rl s way s.len) < s.times
theorem HV_le_MV (be : Int) : ∀ (l : List (Int × Int)), l ≠ [] → HV be l ≤ MV be l
  | [], h => absurd rfl h
  | p :: l, _ => by rw [show MV be (p :: l) = max (MV be l) (HV be (p :: l)) from rfl]; omega
theorem MV_all (s : Sea) (way : List Int) (m : Int) (hm : 0 < m) : ∀ n, (∀ k, 0 < k → k ≤ n → HV s.bend (rl s way k) < m) → MV s.bend (rl s way n) < m
  | 0, _ => by simpa [rl, MV] using hm
  | n + 1, h => by
    have := MV_all s way m hm n (fun k h1 h2 => h k h1 (by omega))
    have := h (n + 1) (by omega) (Nat.le_refl _)
    rw [rl] at this ⊢
    rw [show ∀ p l, MV s.bend (p :: l) = max (MV s.bend l) (HV s.bend (p :: l)) from fun _ _ => rfl]
    omega
theorem rl_ne (s : Sea) (way : List Int) {k : Nat} (h : 0 < k) : rl s way k ≠ [] := by
  intro e
  have := rl_length s way k
  rw [e] at this
  simp at this
  omega
theorem sound_runOk {s : Sea} (hg : Good s) {way : List Int} (hl : way.length = s.len) (hw : WayIn s way) : Sound s way ↔ runOk s way 0 0 zeros61 := by
  have h := runOk_iff hg (Nat.le_of_eq hl) hw way.length 0 (by omega)
  have e : runOk s (way.drop 0) 0 (HV s.bend (rl s way 0)) (JV s.jump (rl s way 0)) = runOk s way 0 0 zeros61 := rfl
  rw [e] at h
  rw [h]
  constructor
  · rintro ⟨-, -, h1, h2⟩ k hk1 hk2
    have a := MV_first s way k (s.len - k)
    have b := JM_first hg (Nat.le_of_eq hl) hw hk1 (s.len - k) (by omega)
    rw [show k + (s.len - k) = s.len by omega] at a b
    have c := HV_le_MV s.bend (rl s way k) (rl_ne s way hk1)
    omega
  · intro h1
    have hn := hg.len
    refine ⟨hl, hw, MV_all s way s.days (by have := hg.days; omega) s.len (fun k hk1 hk2 => (h1 k hk1 (by omega)).1), (h1 s.len (by omega) (by omega)).2⟩
theorem runOk_in (s : Sea) : ∀ (t : List Int) (d : Nat) (h : Int) (j : List Int), runOk s t d h j → WayIn s t
  | [], _, _, _, _ => by intro d hd; simp at hd
  | x :: t, d, h, j, ho => by
    have ih := runOk_in s t _ _ _ ho.2.2
    intro k hk
    match k, hk with
    | 0, _ => exact ho.1
    | k + 1, hk => exact ih k (by simpa using hk)
/-- What a way costs from a day on. -/
theorem runCost_to (s : Sea) (way : List Int) (hw : WayIn s way) : ∀ (f d : Nat), d + f = way.length → runCost s (way.drop d) (if d = 0 then -1 else way.getD (d - 1) 0) + costTo s way d = costTo s way way.length
  | 0, d, h => by
    rw [List.drop_eq_nil_of_le (by omega), show d = way.length by omega, runCost]
    omega
  | f + 1, d, h => by
    have hd : d < way.length := by omega
    have ih := runCost_to s way hw f (d + 1) (by omega)
    have hwd := hw d hd
    have e : way.drop d = way.getD d 0 :: way.drop (d + 1) := by
      rw [List.drop_eq_getElem_cons hd, List.getD_eq_getElem?_getD, List.getElem?_eq_getElem hd]
      rfl
    rw [e]
    rw [if_neg (by omega), Nat.add_sub_cancel, costTo.eq_2] at ih
    simp only [runCost]
    rw [← ih]
    have hmc : s.moveC (if d = 0 then -1 else way.getD (d - 1) 0) (way.getD d 0).toNat = if (decide (0 < d) && (way.getD d 0 != way.getD (d - 1) 0)) = true then s.move else 0 := by
      unfold Sea.moveC
      by_cases h0 : d = 0
      · subst h0; simp
      · have hp := hw (d - 1) (by omega)
        rw [if_neg h0, decide_eq_true (show 0 < d by omega), Bool.true_and]
        by_cases hq : way.getD d 0 = way.getD (d - 1) 0
        · rw [if_neg (by omega), if_neg (by rw [hq]; simp)]
        · rw [if_pos (by omega), if_pos (by simpa using hq)]
    rw [hmc]
    unfold Sea.rent
    omega
theorem runCost_is {s : Sea} {way : List Int} (hw : WayIn s way) : runCost s way (-1) = costTo s way way.length := by
  have := runCost_to s way hw way.length 0 (by omega)
  rw [if_pos rfl] at this
  have e : costTo s way 0 = 0 := rfl
  rw [e] at this
  simpa using this
/-- **What Cheapest says**: the first one of the cheapest sound ways. -/
theorem cheap_spec {s : Sea} (hc : (checkV s).2.2 = 0) :
    ((cheapV s) = ([], 0, 9) ∧ ∀ way, ¬ Sound s way) ∨
    ∃ way, cheapV s = (way, costTo s way way.length, 0) ∧ Sound s way ∧ ∀ way', Sound s way' → costTo s way way.length ≤ costTo s way' way'.length ∧ (costTo s way way.length = costTo s way' way'.length → lexLe way way') := by
  have hg := good_of_ok hc
  have min : ∀ way', Sound s way' → 0 ≤ (bestR s s.len 0 (-1) 0 zeros61).1 ∧ (bestR s s.len 0 (-1) 0 zeros61).1 ≤ costTo s way' way'.length ∧ ((bestR s s.len 0 (-1) 0 zeros61).1 = costTo s way' way'.length → lexLe (wayRun s s.len 0 (-1) 0 zeros61) way') := by
    intro way' hs
    have h := bestR_min s hg way' 0 (-1) 0 zeros61 ((sound_runOk hg hs.1 hs.2.1).1 hs)
    rw [hs.1, runCost_is hs.2.1] at h
    exact h
  unfold cheapV
  rw [if_pos hc]
  by_cases h0 : (bestR s s.len 0 (-1) 0 zeros61).1 < 0
  · left
    rw [if_pos h0]
    refine ⟨rfl, fun way hs => ?_⟩
    have := (min way hs).1
    omega
  · right
    rw [if_neg h0]
    have hr := wayRun_ok s s.len 0 (-1) 0 zeros61 (by omega)
    have hwi := runOk_in s _ _ _ _ hr.1
    have hcost := runCost_is hwi
    rw [hr.2.1] at hcost
    refine ⟨wayRun s s.len 0 (-1) 0 zeros61, by rw [hcost], (sound_runOk hg hr.2.2 hwi).2 hr.1, fun way' hs => ?_⟩
    rw [← hcost]
    exact (min way' hs).2
theorem cheapV_bad {s : Sea} (hc : (checkV s).2.2 ≠ 0) : cheapV s = ([], 0, (checkV s).2.2) := by unfold cheapV; rw [if_neg hc]
end Go.Proofs.Ytddapabmfecidaa
