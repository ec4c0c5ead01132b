/- Backwards: jumps and hot days of a list that is turned; and the truth of Show. -/
import Derived.Test.YtddapabmfecidaaP3
import Derived.Test.YtddapabmfecidaaH2
import Derived.Test.YtddapabmfecidaaP2
namespace Go.Proofs.Ytddapabmfecidaa

theorem hr_le_mr (be : Int) : ∀ t, hr be t ≤ mr be t
  | [] => Int.le_refl _
  | x :: t => by rw [show mr be (x :: t) = max (mr be t) (hr be (x :: t)) from rfl]; omega
theorem mr_app (be : Int) (u : List Int) : ∀ t, mr be u ≤ mr be (t ++ u)
  | [] => Int.le_refl _
  | x :: t => by
    have := mr_app be u t
    rw [List.cons_append, show mr be (x :: (t ++ u)) = max (mr be (t ++ u)) (hr be (x :: (t ++ u))) from rfl]
    omega
theorem jb_symm (jm x y : Int) : jb jm x y = jb jm y x := by unfold jb; rw [jumpB_symm]
theorem jr_cons2 (jm x y : Int) (t : List Int) : jr jm (x :: y :: t) = jb jm y x + jr jm (y :: t) := rfl
theorem jr_snoc (jm : Int) : ∀ (t : List Int) (y x : Int), jr jm (t ++ [y, x]) = jr jm (t ++ [y]) + jb jm y x
  | [], y, x => by
    show jb jm x y + 0 = 0 + jb jm y x
    rw [jb_symm]; omega
  | [z], y, x => by
    show jb jm y z + (jb jm x y + 0) = jb jm y z + 0 + jb jm y x
    rw [jb_symm jm x y]; omega
  | z :: u :: t, y, x => by
    have ih := jr_snoc jm (u :: t) y x
    simp only [List.cons_append] at ih ⊢
    rw [jr_cons2, jr_cons2, ih]
    omega
theorem jr_reverse (jm : Int) : ∀ t : List Int, jr jm t.reverse = jr jm t
  | [] => rfl
  | [x] => rfl
  | x :: y :: t => by
    have ih := jr_reverse jm (y :: t)
    rw [List.reverse_cons] at ih
    rw [List.reverse_cons, List.reverse_cons, List.append_assoc, List.singleton_append, jr_snoc, ih, jr_cons2]
    omega
/-- So many hot days one after the other. -/
theorem hr_pre (be : Int) : ∀ (t : List Int), ∃ b c, t = b ++ c ∧ (b.length : Int) = hr be t ∧ ∀ x ∈ b, be ≤ x
  | [] => ⟨[], [], rfl, rfl, by simp⟩
  | x :: t => by
    obtain ⟨b, c, rfl, hl, hb⟩ := hr_pre be t
    unfold hr
    split
    · exact ⟨[], x :: (b ++ c), rfl, rfl, by simp⟩
    · refine ⟨x :: b, c, rfl, by simp only [List.length_cons]; omega, fun y hy => ?_⟩
      rcases List.mem_cons.1 hy with rfl | hy
      · omega
      · exact hb y hy
theorem hr_ge (be : Int) (c : List Int) : ∀ b : List Int, (∀ x ∈ b, be ≤ x) → (b.length : Int) ≤ hr be (b ++ c)
  | [], _ => (hr_bound be c).1
  | x :: b, h => by
    have := hr_ge be c b (fun y hy => h y (List.mem_cons_of_mem _ hy))
    have hx := h x List.mem_cons_self
    rw [List.cons_append]
    unfold hr
    rw [if_neg (by omega)]
    simp only [List.length_cons]
    omega
theorem mr_run (be : Int) : ∀ t : List Int, ∃ a b c, t = a ++ (b ++ c) ∧ (b.length : Int) = mr be t ∧ ∀ x ∈ b, be ≤ x
  | [] => ⟨[], [], [], rfl, rfl, by simp⟩
  | x :: t => by
    obtain ⟨a, b, c, ht, hl, hb⟩ := mr_run be t
    rcases Int.le_total (hr be (x :: t)) (mr be t) with h | h
    · refine ⟨x :: a, b, c, by rw [ht]; rfl, ?_, hb⟩
      rw [show mr be (x :: t) = max (mr be t) (hr be (x :: t)) from rfl]; omega
    · obtain ⟨b', c', ht', hl', hb'⟩ := hr_pre be (x :: t)
      refine ⟨[], b', c', ht', ?_, hb'⟩
      rw [show mr be (x :: t) = max (mr be t) (hr be (x :: t)) from rfl]; omega
theorem mr_ge (be : Int) (a b c : List Int) (h : ∀ x ∈ b, be ≤ x) : (b.length : Int) ≤ mr be (a ++ (b ++ c)) := by
  have h1 := hr_ge be c b h
  have h2 := hr_le_mr be (b ++ c)
  have h3 := mr_app be (b ++ c) a
  omega
theorem mr_reverse_le (be : Int) (t : List Int) : mr be t ≤ mr be t.reverse := by
  obtain ⟨a, b, c, ht, hl, hb⟩ := mr_run be t
  have h := mr_ge be c.reverse b.reverse a.reverse (fun x hx => hb x (List.mem_reverse.1 hx))
  rw [← hl]
  have e : t.reverse = c.reverse ++ (b.reverse ++ a.reverse) := by rw [ht]; simp
  rw [e]
  simpa using h
theorem mr_reverse (be : Int) (t : List Int) : mr be t.reverse = mr be t := by
  have h1 := mr_reverse_le be t
  have h2 := mr_reverse_le be t.reverse
  rw [List.reverse_reverse] at h2
  omega
theorem TR.append {l m : List (Int × Int)} {t u : List Int} (h : TR l t) (h2 : TR m u) : TR (l ++ m) (t ++ u) := by
  induction h with
  | nil => exact h2
  | cons a b _ ih => exact .cons a b ih
theorem TR.reverse {l : List (Int × Int)} {t : List Int} (h : TR l t) : TR l.reverse t.reverse := by
  induction h with
  | nil => exact .nil
  | cons a b _ ih =>
    rw [List.reverse_cons, List.reverse_cons]
    exact ih.append (.cons a b .nil)
theorem SpOk.reverse {l : List (Int × Int)} (h : SpOk l) : SpOk l.reverse := fun p hp => h p (List.mem_reverse.1 hp)
theorem JM_reverse_le (jm : Int) {l : List (Int × Int)} (hok : SpOk l) (hne : l ≠ []) : JM jm l ≤ JM jm l.reverse :=
  JM_mono hok hok.reverse hne (by simpa using hne) (fun t ht => ⟨t.reverse, ht.reverse, by rw [jr_reverse]; omega⟩)
theorem JM_reverse (jm : Int) {l : List (Int × Int)} (hok : SpOk l) (hne : l ≠ []) : JM jm l.reverse = JM jm l := by
  have h1 := JM_reverse_le jm hok hne
  have h2 := JM_reverse_le jm hok.reverse (by simpa using hne)
  rw [List.reverse_reverse] at h2
  omega
theorem MV_reverse (be : Int) (l : List (Int × Int)) : MV be l.reverse = MV be l := by
  rw [← mr_hi, ← mr_hi, List.map_reverse, mr_reverse]

/-! Show -/
theorem rl_SF (s : Sea) (way : List Int) : ∀ (f d : Nat), rl s way (d + f) = (SF s way f d).reverse ++ rl s way d
  | 0, d => rfl
  | f + 1, d => by
    have := rl_SF s way f (d + 1)
    rw [show d + (f + 1) = d + 1 + f by omega, this, SF, List.reverse_cons, List.append_assoc]
    rfl
theorem rl_SF0 (s : Sea) (way : List Int) (n : Nat) : rl s way n = (SF s way n 0).reverse := by
  have := rl_SF s way n 0
  rw [Nat.zero_add] at this
  rw [this, rl, List.append_nil]
/-- What the days that are shown have to do with what is left. -/
structure ShownOk (s : Sea) (way l : List Int) : Prop where
  len : l.length = way.length
  pos : ∀ d, d < way.length → (0 ≤ l.getD d 0 ∧ l.getD d 0 ≤ 60) ∧ 0 < (RV s way d).getD (l.getD d 0).toNat 0
  zero : (RV s way 0).getD (l.getD 0 0).toNat 0 = maxTo (RV s way 0) 61
  least0 : ∀ x, 0 ≤ x → x < l.getD 0 0 → 0 < (RV s way 0).getD x.toNat 0 → (RV s way 0).getD x.toNat 0 ≠ maxTo (RV s way 0) 61
  step : ∀ d, d + 1 < way.length → (RV s way d).getD (l.getD d 0).toNat 0 = (RV s way (d + 1)).getD (l.getD (d + 1) 0).toNat 0 + jb s.jump (l.getD d 0) (l.getD (d + 1) 0)
  least : ∀ d x, d + 1 < way.length → 0 ≤ x → x < l.getD (d + 1) 0 → 0 < (RV s way (d + 1)).getD x.toNat 0 → (RV s way d).getD (l.getD d 0).toNat 0 ≠ (RV s way (d + 1)).getD x.toNat 0 + jb s.jump (l.getD d 0) x
theorem showSt_pre {s : Sea} {way : List Int} (hg : Good s) (hwl : way.length ≤ s.len) (hw : WayIn s way) (hne : 0 < way.length) {d : Nat} (hd : d < way.length) :
    ∃ w : Nat, w < 61 ∧ showSt s way (d + 1) = ((showSt s way d).1 ++ [(w : Int)], (RV s way d).getD w 0) ∧ pickB s.jump (RV s way d) (showSt s way d).1 d (showSt s way d).2 w = true ∧ ∀ k, k < w → pickB s.jump (RV s way d) (showSt s way d).1 d (showSt s way d).2 k = false := by
  obtain ⟨w, hf, hw61, hp⟩ := find_is (show_found hg hwl hw hd (show_ok hg hwl hw hne d (by omega)))
  refine ⟨w, hw61, by rw [showSt, hf], hp, fun k hk => ?_⟩
  have := (List.find?_range_eq_some.1 hf).2.2 k hk
  simpa using this
theorem showSt_getD {s : Sea} {way : List Int} (hg : Good s) (hwl : way.length ≤ s.len) (hw : WayIn s way) (hne : 0 < way.length) : ∀ n k, n ≤ way.length → k < n → ∀ m, n ≤ m → m ≤ way.length → (showSt s way m).1.getD k 0 = (showSt s way n).1.getD k 0 := by
  intro n k hn hk m hm hml
  induction m with
  | zero => omega
  | succ m ih =>
    by_cases h : n = m + 1
    · rw [h]
    · obtain ⟨w, -, e, -⟩ := showSt_pre hg hwl hw hne (show m < way.length by omega)
      rw [← ih (by omega) (by omega), e]
      have hl := (show_ok hg hwl hw hne m (by omega)).len
      simp only
      rw [List.getD_eq_getElem?_getD, List.getElem?_append_left (by omega), ← List.getD_eq_getElem?_getD]
theorem shown_ok {s : Sea} {way : List Int} (hg : Good s) (hwl : way.length ≤ s.len) (hw : WayIn s way) (hne : 0 < way.length) : ShownOk s way (showSt s way way.length).1 := by
  have hat : ∀ d, d < way.length → ∃ w : Nat, w < 61 ∧ (showSt s way way.length).1.getD d 0 = w ∧ (showSt s way (d + 1)).2 = (RV s way d).getD w 0 ∧ pickB s.jump (RV s way d) (showSt s way d).1 d (showSt s way d).2 w = true ∧ ∀ k, k < w → pickB s.jump (RV s way d) (showSt s way d).1 d (showSt s way d).2 k = false := by
    intro d hd
    obtain ⟨w, h1, e, h2, h3⟩ := showSt_pre hg hwl hw hne hd
    refine ⟨w, h1, ?_, by rw [e], h2, h3⟩
    rw [showSt_getD hg hwl hw hne (d + 1) d (by omega) (by omega) way.length (by omega) (Nat.le_refl _), e]
    have hl := (show_ok hg hwl hw hne d (by omega)).len
    simp only
    rw [List.getD_eq_getElem?_getD, List.getElem?_append_right (by omega), hl, Nat.sub_self]
    rfl
  have hprev : ∀ d, d + 1 < way.length → (showSt s way (d + 1)).1.getD d 0 = (showSt s way way.length).1.getD d 0 := fun d hd =>
    (showSt_getD hg hwl hw hne (d + 1) d (by omega) (by omega) way.length (by omega) (Nat.le_refl _)).symm
  generalize hL : (showSt s way way.length).1 = L at *
  have hlen : L.length = way.length := by rw [← hL]; exact (show_ok hg hwl hw hne way.length (Nat.le_refl _)).len
  have pk : ∀ (v l : List Int) (d : Nat) (left : Int) (w : Nat), pickB s.jump v l d left w = true ↔ 0 < v.getD w 0 ∧ hereV s.jump v l d w = left := by
    intro v l d left w; unfold pickB; simp
  have hv1 : ∀ (v l : List Int) (d w : Nat), hereV s.jump v l (d + 1) w = v.getD w 0 + jb s.jump (l.getD d 0) w := by
    intro v l d w
    unfold hereV jb
    rw [decide_eq_true (show 0 < d + 1 by omega), Bool.true_and, Nat.add_sub_cancel]
    split <;> omega
  have hv0 : ∀ (v l : List Int) (w : Nat), hereV s.jump v l 0 w = v.getD w 0 := by intro v l w; unfold hereV; simp
  refine ⟨hlen, ?_, ?_, ?_, ?_, ?_⟩
  · intro d hd
    obtain ⟨w, h1, h2, h3, h4, h5⟩ := hat d hd
    rw [h2]
    have := (pk _ _ _ _ _).1 h4
    simp only [Int.toNat_natCast]
    exact ⟨by omega, this.1⟩
  · obtain ⟨w, h1, h2, h3, h4, h5⟩ := hat 0 hne
    have := ((pk _ _ _ _ _).1 h4).2
    rw [hv0] at this
    rw [h2]
    exact this
  · intro x hx0 hx hp
    obtain ⟨w, h1, h2, h3, h4, h5⟩ := hat 0 hne
    have h6 := h5 x.toNat (by omega)
    intro he
    have h7 : pickB s.jump (RV s way 0) (showSt s way 0).1 0 (showSt s way 0).2 x.toNat = true := (pk _ _ _ _ _).2 ⟨hp, by rw [hv0]; exact he⟩
    rw [h7] at h6
    cases h6
  · intro d hd
    obtain ⟨w, h1, h2, h3, h4, h5⟩ := hat d (by omega)
    obtain ⟨w', h1', h2', h3', h4', h5'⟩ := hat (d + 1) hd
    have := ((pk _ _ _ _ _).1 h4').2
    rw [hv1, hprev d hd, h3] at this
    rw [h2, h2'] at *
    simp only [Int.toNat_natCast]
    omega
  · intro d x hd hx0 hx hp he
    obtain ⟨w, h1, h2, h3, h4, h5⟩ := hat d (by omega)
    obtain ⟨w', h1', h2', h3', h4', h5'⟩ := hat (d + 1) hd
    have h6 := h5' x.toNat (by omega)
    have hxe : ((x.toNat : Nat) : Int) = x := by omega
    have h7 : pickB s.jump (RV s way (d + 1)) (showSt s way (d + 1)).1 (d + 1) (showSt s way (d + 1)).2 x.toNat = true := (pk _ _ _ _ _).2 ⟨hp, by rw [hv1, hprev d hd, h3, hxe]; rw [h2] at he ⊢; simpa using he.symm⟩
    rw [h7] at h6
    cases h6
theorem RV_at (s : Sea) (way : List Int) (d : Nat) (hd : d < way.length) (i : Nat) (hi : i < 61) : (RV s way d).getD i 0 = if (spW s way d).1 ≤ (i : Int) ∧ (i : Int) ≤ (spW s way d).2 then foldV s.jump (RV s way (d + 1)) i 61 else 0 := by
  unfold RV
  rw [show way.length - d = way.length - (d + 1) + 1 by omega]
  exact JV_at s.jump _ _ i hi
/-- The days that are shown lie in their spans. -/
theorem ShownOk.inSp {s : Sea} {way l : List Int} (h : ShownOk s way l) : ∀ d, d < way.length → (spW s way d).1 ≤ l.getD d 0 ∧ l.getD d 0 ≤ (spW s way d).2 := by
  intro d hd
  obtain ⟨h1, h2⟩ := h.pos d hd
  rw [RV_at s way d hd _ (by omega)] at h2
  split at h2
  · omega
  · omega
theorem drop_cons {l : List Int} {d : Nat} (hd : d < l.length) : l.drop d = l.getD d 0 :: l.drop (d + 1) := by
  rw [List.drop_eq_getElem_cons hd, List.getD_eq_getElem?_getD, List.getElem?_eq_getElem hd]
  rfl
/-- Truths of the days from one on. -/
theorem TR_drop {s : Sea} {way l : List Int} (hl : l.length = way.length) (h : ∀ d, d < way.length → (spW s way d).1 ≤ l.getD d 0 ∧ l.getD d 0 ≤ (spW s way d).2) : ∀ f d, d + f = way.length → TR (SF s way f d) (l.drop d)
  | 0, d, hd => by rw [List.drop_eq_nil_of_le (by omega)]; exact .nil
  | f + 1, d, hd => by
    rw [drop_cons (by omega)]
    exact .cons (h d (by omega)).1 (h d (by omega)).2 (TR_drop hl h f (d + 1) (by omega))
theorem ShownOk.rest {s : Sea} {way l : List Int} (h : ShownOk s way l) : ∀ f d, d + f + 1 = way.length → jr s.jump (l.drop d) + 1 = (RV s way d).getD (l.getD d 0).toNat 0
  | 0, d, hd => by
    have hlen := h.len
    obtain ⟨h1, h2⟩ := h.pos d (by omega)
    rw [drop_cons (by omega), List.drop_eq_nil_of_le (by omega), RV_at s way d (by omega) _ (by omega)]
    rw [RV_at s way d (by omega) _ (by omega)] at h2
    split at h2
    · rename_i hc
      rw [if_pos hc, show d + 1 = way.length by omega, RV_end]
      have e : jr s.jump [l.getD d 0] = 0 := rfl
      rw [e]
      have h3 := foldV_ge0 s.jump (JV s.jump []) ((l.getD d 0).toNat : Int) 61
      rw [JV_nil_zero] at h3
      have e2 : JV s.jump [] = List.replicate 61 0 := rfl
      rw [e2] at h3
      rcases foldV_at s.jump (List.replicate 61 0) ((l.getD d 0).toNat : Int) 61 with h4 | ⟨i, hi, h4⟩
      · rw [h4]
        unfold startV
        rw [if_pos rfl]
        rfl
      · have hz : (List.replicate 61 (0 : Int)).getD i 0 = 0 := by rw [List.getD_eq_getElem?_getD, List.getElem?_replicate]; split <;> rfl
        rw [h4] at h3
        rw [hz] at h3
        unfold stepV at h3
        simp at h3
    · omega
  | f + 1, d, hd => by
    have hlen := h.len
    have ih := h.rest f (d + 1) (by omega)
    have hs := h.step d (by omega)
    rw [hs, ← ih, drop_cons (show d < l.length by omega), drop_cons (show d + 1 < l.length by omega), jr_cons2, jb_symm]
    omega
theorem JM_SF {s : Sea} {way : List Int} (hg : Good s) (hwl : way.length ≤ s.len) (hw : WayIn s way) (hne : 0 < way.length) : maxTo (RV s way 0) 61 = JM s.jump (rl s way way.length) + 1 := by
  have hok := SF_ok hg hwl hw way.length 0 (by omega)
  have hn : SF s way way.length 0 ≠ [] := by rw [show way.length = way.length - 1 + 1 by omega]; simp [SF]
  have := JM_reverse s.jump hok hn
  rw [← rl_SF0] at this
  rw [this]
  unfold JM RV
  rw [Nat.sub_zero]
  omega
/-- **In the truth of Show** there are as many jumps as Risks says. -/
theorem ShownOk.jumps {s : Sea} {way l : List Int} (h : ShownOk s way l) (hg : Good s) (hwl : way.length ≤ s.len) (hw : WayIn s way) (hne : 0 < way.length) : jr s.jump l = JM s.jump (rl s way way.length) := by
  have h1 := h.rest (way.length - 1) 0 (by omega)
  have h2 := JM_SF hg hwl hw hne
  have h3 := h.zero
  rw [List.drop_zero] at h1
  omega
/-- With one day less warm there are fewer. -/
theorem ShownOk.less {s : Sea} {way l : List Int} (h : ShownOk s way l) (hg : Good s) (hwl : way.length ≤ s.len) (hw : WayIn s way) (hne : 0 < way.length) {k : Nat} (hk : k < way.length) {x : Int} (hx1 : (spW s way k).1 ≤ x) (hx2 : x < l.getD k 0) :
    jr s.jump (l.set k x) < JM s.jump (rl s way way.length) := by
  have hlen := h.len
  have hin := h.inSp
  have h60 := (h.pos k hk).1
  have hsp : 0 ≤ (spW s way k).1 := by
    have := hw k hk
    exact (hg.span (way.getD k 0).toNat (by omega) k (by omega)).1
  -- the changed truth
  have hset : ∀ d, (l.set k x).getD d 0 = if d = k then x else l.getD d 0 := by
    intro d
    rw [List.getD_eq_getElem?_getD, List.getD_eq_getElem?_getD, List.getElem?_set]
    by_cases hd : k = d
    · rw [if_pos hd, if_pos (by omega), if_pos hd.symm]; rfl
    · rw [if_neg hd, if_neg (fun e => hd e.symm)]
  have hin' : ∀ d, d < way.length → (spW s way d).1 ≤ (l.set k x).getD d 0 ∧ (l.set k x).getD d 0 ≤ (spW s way d).2 := by
    intro d hd
    rw [hset]
    split
    · rename_i e; subst e; have := hin d hd; omega
    · exact hin d hd
  have hsl : (l.set k x).length = way.length := by rw [List.length_set, hlen]
  have hT : ∀ d, d < way.length → jr s.jump ((l.set k x).drop d) + 1 ≤ (RV s way d).getD ((l.set k x).getD d 0).toNat 0 := by
    intro d hd
    have ht := TR_drop hsl hin' (way.length - d) d (by omega)
    have hok := SF_ok hg hwl hw (way.length - d) d (by omega)
    exact JV_upper s.jump ht hok _ _ (drop_cons (by omega))
  have hTk := hT k hk
  rw [hset, if_pos rfl] at hTk
  have hjk := jr_nonneg s.jump ((l.set k x).drop k)
  have hmx := JM_SF hg hwl hw hne
  by_cases hk0 : k = 0
  · subst hk0
    have h1 := h.least0 x (by omega) hx2 (by omega)
    have h2 := maxTo_ge (RV s way 0) 61 x.toNat (by omega)
    rw [List.drop_zero] at hTk
    omega
  · -- up to the day before
    have hdown : ∀ f d, d + f + 1 = k → jr s.jump ((l.set k x).drop d) + 1 < (RV s way d).getD (l.getD d 0).toNat 0 := by
      intro f
      induction f with
      | zero =>
        intro d hd
        obtain rfl : k = d + 1 := by omega
        have e1 : (l.set (d + 1) x).getD d 0 = l.getD d 0 := by rw [hset, if_neg (by omega)]
        have e2 : (l.set (d + 1) x).getD (d + 1) 0 = x := by rw [hset, if_pos rfl]
        rw [drop_cons (show d < (l.set (d + 1) x).length by omega), e1]
        rw [drop_cons (show d + 1 < (l.set (d + 1) x).length by omega), e2] at hTk hjk ⊢
        rw [jr_cons2]
        have h1 := h.least d x hk (by omega) hx2 (by omega)
        -- the most that there can be
        have hp := h.pos d (by omega)
        have hin1 := hin d (by omega)
        have h3 : (RV s way (d + 1)).getD x.toNat 0 + jb s.jump (l.getD d 0) x ≤ (RV s way d).getD (l.getD d 0).toNat 0 := by
          rw [RV_at s way d (by omega) _ (by omega), if_pos (by omega)]
          have h4 := foldV_le s.jump (RV s way (d + 1)) ((l.getD d 0).toNat : Int) 61 x.toNat (by omega)
          refine Int.le_trans ?_ h4
          unfold stepV
          have e3 : ((x.toNat : Nat) : Int) = x := by omega
          have e4 : (((l.getD d 0).toNat : Nat) : Int) = l.getD d 0 := by omega
          rw [e3, e4, decide_eq_true (show 0 < (RV s way (d + 1)).getD x.toNat 0 by omega), Bool.true_and, jumpB_symm]
          unfold jb
          split <;> omega
        have h5 := jb_symm s.jump x (l.getD d 0)
        omega
      | succ f ih =>
        intro d hd
        have ih := ih (d + 1) (by omega)
        have e1 : (l.set k x).getD d 0 = l.getD d 0 := by rw [hset, if_neg (by omega)]
        have e2 : (l.set k x).getD (d + 1) 0 = l.getD (d + 1) 0 := by rw [hset, if_neg (by omega)]
        have hs := h.step d (by omega)
        rw [drop_cons (show d < (l.set k x).length by omega), e1]
        rw [drop_cons (show d + 1 < (l.set k x).length by omega), e2] at ih ⊢
        rw [jr_cons2, jb_symm]
        omega
    have h1 := hdown (k - 1) 0 (by omega)
    rw [List.drop_zero, h.zero] at h1
    omega
end Go.Proofs.Ytddapabmfecidaa
