/- Seasons that are wider, milder, warmer and dearer, plainly. -/
import Derived.Test.YtddapabmfecidaaP7
import Derived.Test.YtddapabmfecidaaHu
import Derived.Test.YtddapabmfecidaaP6
namespace Go.Proofs.Ytddapabmfecidaa
/-- Two seasons with the same sound ways, of which one costs c times as much as the other. -/
theorem cheap_same {s s' : Sea} (hc : (checkV s).2.2 = 0) (hc' : (checkV s').2.2 = 0) (c : Int) (h1 : 1 ≤ c) (hs : ∀ way, Sound s way ↔ Sound s' way) (hcost : ∀ way, Sound s way → costTo s' way way.length = c * costTo s way way.length) :
    cheapV s' = ((cheapV s).1, c * (cheapV s).2.1, (cheapV s).2.2) := by
  rcases cheap_spec hc with ⟨e, hn⟩ | ⟨w, e, hw, hmin⟩
  · rcases cheap_spec hc' with ⟨e', -⟩ | ⟨w', -, hw', -⟩
    · rw [e, e']; simp
    · exact absurd ((hs w').2 hw') (hn w')
  · rcases cheap_spec hc' with ⟨-, hn'⟩ | ⟨w', e', hw', hmin'⟩
    · exact absurd ((hs w).1 hw) (hn' w)
    · have hsw' := (hs w').2 hw'
      have a := hmin w' hsw'
      have b := hmin' w ((hs w).1 hw)
      rw [hcost w' hsw', hcost w hw] at b
      have hle : costTo s w' w'.length ≤ costTo s w w.length := Int.le_of_mul_le_mul_left b.1 (by omega)
      have heq : costTo s w w.length = costTo s w' w'.length := by omega
      have hww : w = w' := lexLe_anti (by rw [hw.1, hsw'.1]) (a.2 heq) (b.2 (by rw [heq]))
      rw [e, e', ← hww, hcost w hw]
/-! Wider. -/
theorem chS_at (s : Sea) (hg : Good s) (less more : Int) (i d : Nat) (hi : i < s.stores.length) (hd : d < s.len) : (chS s less more).at i d = chP less more (s.at i d) := by
  have hl := hg.lens i hi
  unfold Sea.at
  rw [chS_get s less more i hi]
  generalize s.stores.getD i default = x at *
  rw [List.getD_eq_getElem?_getD, List.getD_eq_getElem?_getD, List.getElem?_map, List.getElem?_eq_getElem (by omega)]
  rfl
theorem chS_len {s : Sea} (hg : Good s) (less more : Int) : (chS s less more).len = s.len := by
  have := hg.stores
  unfold Sea.len
  rw [chS_get s less more 0 (by omega), List.length_map]
theorem chS_good {s : Sea} (hg : Good s) {less more : Int} (hp : ∀ i, i < s.stores.length → ∀ d, d < s.len → 0 ≤ (chP less more (s.at i d)).1 ∧ (chP less more (s.at i d)).1 ≤ (chP less more (s.at i d)).2 ∧ (chP less more (s.at i d)).2 ≤ 60) : Good (chS s less more) := by
  have hc := chS_count s less more
  have hl := chS_len hg less more
  refine ⟨hg.bend, hg.jump, hg.days, hg.times, hg.move, by rw [hc]; exact hg.stores, by rw [hl]; exact hg.len, ?_, ?_, ?_⟩
  · intro i hi
    rw [hc] at hi
    rw [chS_get s less more i hi]
    exact hg.rent i hi
  · intro i hi
    rw [hc] at hi
    rw [chS_get s less more i hi, List.length_map, hg.lens i hi, hl]
  · intro i hi d hd
    rw [hc] at hi
    rw [hl] at hd
    have h := chS_at s hg less more i d hi hd
    unfold Sea.at at h
    rw [h]
    exact hp i hi d hd
theorem chS_names {s : Sea} (hn : NamesOk s.stores) (less more : Int) : NamesOk (chS s less more).stores :=
  names_same (chS_count s less more) (fun i hi => by rw [chS_get s less more i hi]) hn
theorem wide_ok {s : Sea} (hc : (checkV s).2.2 = 0) {less more : Int} (hl : 0 ≤ less) (hm : 0 ≤ more) : (checkV (chS s less more)).2.2 = 0 := by
  have hg := good_of_ok hc
  refine check_mk (chS_good hg fun i hi d hd => ?_) (chS_names (names_of_ok hc) less more)
  have := hg.span i hi d hd
  unfold chP Sea.at
  simp only
  omega
theorem wayE_same {s s' : Sea} (h1 : s'.len = s.len) (h2 : s'.stores.length = s.stores.length) (way : List Int) : wayE s' way = wayE s way := by
  unfold wayE
  rw [h1, h2]
theorem openE_same {s s' : Sea} (hc : (checkV s).2.2 = 0) (hc' : (checkV s').2.2 = 0) (h1 : s'.len = s.len) (h2 : s'.stores.length = s.stores.length) (way : List Int) : openE s' way = openE s way := by
  unfold openE
  rw [if_pos hc, if_pos hc', wayE_same h1 h2]
/-- Spans of which one list lies in the other, day by day. -/
inductive InL : List (Int × Int) → List (Int × Int) → Prop
  | nil : InL [] []
  | cons {p q : Int × Int} {l m : List (Int × Int)} : q.1 ≤ p.1 → p.2 ≤ q.2 → InL l m → InL (p :: l) (q :: m)
theorem InL.tr {l m : List (Int × Int)} (h : InL l m) : ∀ {t}, TR l t → TR m t := by
  induction h with
  | nil => intro t ht; exact ht
  | cons a b _ ih =>
    intro t ht
    cases ht with
    | cons c d e => exact .cons (by omega) (by omega) (ih e)
theorem InL.ne {l m : List (Int × Int)} (h : InL l m) (hl : l ≠ []) : m ≠ [] := by cases h <;> simp_all
theorem HV_mono {be be' : Int} (hb : be' ≤ be) {l m : List (Int × Int)} (h : InL l m) : HV be l ≤ HV be' m ∧ MV be l ≤ MV be' m := by
  induction h with
  | nil => simp [HV, MV]
  | @cons p q l m a b _ ih =>
    have hn := (MV_le be' m).1
    have h1 : HV be (p :: l) ≤ HV be' (q :: m) := by
      rw [show HV be (p :: l) = hotV be (HV be l) p.2 from rfl, show HV be' (q :: m) = hotV be' (HV be' m) q.2 from rfl]
      unfold hotV
      split <;> split <;> omega
    refine ⟨h1, ?_⟩
    rw [show MV be (p :: l) = max (MV be l) (HV be (p :: l)) from rfl, show MV be' (q :: m) = max (MV be' m) (HV be' (q :: m)) from rfl]
    omega
theorem jb_mono {jm jm' : Int} (h : jm' ≤ jm) (x y : Int) : jb jm x y ≤ jb jm' x y := by
  unfold jb jumpB
  by_cases h1 : jm < max (x - y) (y - x)
  · rw [if_pos (by simpa using h1), if_pos (by simp; omega)]; omega
  · rw [if_neg (by simpa using h1)]; split <;> omega
theorem jr_mono {jm jm' : Int} (h : jm' ≤ jm) : ∀ t, jr jm t ≤ jr jm' t
  | [] => Int.le_refl _
  | [x] => Int.le_refl _
  | x :: y :: t => by
    have := jr_mono h (y :: t)
    have := jb_mono h y x
    rw [jr_cons2, jr_cons2]
    omega
theorem JM_in {jm jm' : Int} (h : jm' ≤ jm) {l m : List (Int × Int)} (hlm : InL l m) (hok : SpOk l) (hok' : SpOk m) (hne : l ≠ []) : JM jm l ≤ JM jm' m :=
  JM_mono hok hok' hne (hlm.ne hne) fun t ht => ⟨t, hlm.tr ht, jr_mono h t⟩
theorem InL.refl : ∀ l, InL l l
  | [] => .nil
  | _ :: l => .cons (Int.le_refl _) (Int.le_refl _) (InL.refl l)
theorem rl_wide {s : Sea} (hg : Good s) {less more : Int} (hl : 0 ≤ less) (hm : 0 ≤ more) {way : List Int} (hwl : way.length ≤ s.len) (hw : WayIn s way) : ∀ k, k ≤ way.length → InL (rl s way k) (rl (chS s less more) way k)
  | 0, _ => .nil
  | k + 1, h => by
    have ih := rl_wide hg hl hm hwl hw k (by omega)
    have hwk := hw k (by omega)
    have hok := at_ok hg hwl hw (k := k) (by omega)
    rw [rl, rl, chS_at s hg less more _ k (by omega) (by omega)]
    refine .cons ?_ ?_ ih
    · unfold chP; simp only; omega
    · unfold chP; simp only; omega
/-- **With a wider Warm** Risks says no less. -/
theorem risk_wide {s : Sea} (hc : (checkV s).2.2 = 0) {less more : Int} (hl : 0 ≤ less) (hm : 0 ≤ more) (way : List Int) :
    (riskV (chS s less more) way).2.2 = (riskV s way).2.2 ∧ (riskV s way).1 ≤ (riskV (chS s less more) way).1 ∧ (riskV s way).2.1 ≤ (riskV (chS s less more) way).2.1 := by
  have hg := good_of_ok hc
  have hc' := wide_ok hc hl hm
  have he := openE_same hc hc' (chS_len hg less more) (chS_count s less more) way
  refine ⟨by rw [riskV_err, riskV_err, he], ?_⟩
  by_cases h0 : openE s way = 0
  · have hw := way_ok (openE_ok h0).2
    have h0' : openE (chS s less more) way = 0 := by rw [he]; exact h0
    have hin := rl_wide hg hl hm hw.2.1 hw.2.2 way.length (Nat.le_refl _)
    have hok := rl_ok hg hw.2.1 hw.2.2 way.length (Nat.le_refl _)
    have hw' := way_ok (openE_ok h0').2
    have hok' := rl_ok (good_of_ok hc') hw'.2.1 hw'.2.2 way.length (Nat.le_refl _)
    rw [riskV_ok h0, riskV_ok h0']
    exact ⟨(HV_mono (Int.le_refl _) hin).2, JM_in (Int.le_refl _) hin hok hok' (rl_ne s way (by omega))⟩
  · rw [riskV_bad h0, riskV_bad (by rw [he]; exact h0)]
    exact ⟨Int.le_refl _, Int.le_refl _⟩
/-! A further store. -/
def moreS (s : Sea) (y : Sto) : Sea := { s with stores := s.stores ++ [y] }
theorem moreS_get (s : Sea) (y : Sto) (i : Nat) (hi : i < s.stores.length) : (moreS s y).stores.getD i default = s.stores.getD i default := by
  unfold moreS
  rw [List.getD_eq_getElem?_getD, List.getD_eq_getElem?_getD, List.getElem?_append_left hi]
theorem moreS_last (s : Sea) (y : Sto) : (moreS s y).stores.getD s.stores.length default = y := by
  unfold moreS
  rw [List.getD_eq_getElem?_getD, List.getElem?_append_right (Nat.le_refl _), Nat.sub_self]
  rfl
theorem moreS_count (s : Sea) (y : Sto) : (moreS s y).stores.length = s.stores.length + 1 := by simp [moreS]
theorem more_ok {s : Sea} (hc : (checkV s).2.2 = 0) {y : Sto} (h3 : s.stores.length < 3) (hname : nameB y.name = true) (hnot : ∀ i, i < s.stores.length → nameIs y.name (s.stores.getD i default) = false) (hrent : 0 ≤ y.rent ∧ y.rent ≤ 100000) (hlen : y.warm.length = s.len)
    (hsp : ∀ d, d < s.len → 0 ≤ (y.warm.getD d (0, 0)).1 ∧ (y.warm.getD d (0, 0)).1 ≤ (y.warm.getD d (0, 0)).2 ∧ (y.warm.getD d (0, 0)).2 ≤ 60) : (checkV (moreS s y)).2.2 = 0 ∧ (moreS s y).len = s.len := by
  have hg := good_of_ok hc
  have hs := hg.stores
  have hcn := moreS_count s y
  have hl : (moreS s y).len = s.len := by unfold Sea.len; rw [moreS_get s y 0 (by omega)]
  have hn := names_of_ok hc
  refine ⟨check_mk ⟨hg.bend, hg.jump, hg.days, hg.times, hg.move, by omega, by rw [hl]; exact hg.len, ?_, ?_, ?_⟩ ?_, hl⟩
  · intro i hi
    by_cases h : i < s.stores.length
    · rw [moreS_get s y i h]; exact hg.rent i h
    · obtain rfl : i = s.stores.length := by omega
      rw [moreS_last]; exact hrent
  · intro i hi
    by_cases h : i < s.stores.length
    · rw [moreS_get s y i h, hl]; exact hg.lens i h
    · obtain rfl : i = s.stores.length := by omega
      rw [moreS_last, hl]; exact hlen
  · intro i hi d hd
    rw [hl] at hd
    by_cases h : i < s.stores.length
    · rw [moreS_get s y i h]; exact hg.span i h d hd
    · obtain rfl : i = s.stores.length := by omega
      rw [moreS_last]; exact hsp d hd
  · intro i hi
    by_cases h : i < s.stores.length
    · rw [moreS_get s y i h]
      have := hn i h
      refine ⟨this.1, ?_⟩
      unfold moreS
      simp only
      rw [List.take_append_of_le_length (by omega)]
      exact this.2
    · obtain rfl : i = s.stores.length := by omega
      rw [moreS_last]
      refine ⟨hname, ?_⟩
      unfold moreS
      simp only
      rw [List.take_append_of_le_length (Nat.le_refl _), List.take_length, List.any_eq_false]
      intro x hx
      obtain ⟨k, hk, rfl⟩ := List.getElem_of_mem hx
      have := hnot k hk
      rw [List.getD_eq_getElem?_getD, List.getElem?_eq_getElem hk] at this
      simpa using this
theorem rl_more {s : Sea} {y : Sto} {way : List Int} (hw : WayIn s way) : ∀ k, k ≤ way.length → rl (moreS s y) way k = rl s way k ∧ costTo (moreS s y) way k = costTo s way k
  | 0, _ => ⟨rfl, rfl⟩
  | k + 1, h => by
    have ih := rl_more (y := y) hw k (by omega)
    have hwk := hw k (by omega)
    have hg := moreS_get s y (way.getD k 0).toNat (by omega)
    refine ⟨?_, ?_⟩
    · rw [rl, rl, ih.1]
      unfold Sea.at
      rw [hg]
    · rw [costTo.eq_2, costTo.eq_2, ih.2, hg]
      rfl
/-- **With a further store** Cheapest is no dearer. -/
theorem cheap_more {s : Sea} (hc : (checkV s).2.2 = 0) {y : Sto} (hc' : (checkV (moreS s y)).2.2 = 0) (hl : (moreS s y).len = s.len) :
    ((cheapV s).2.2 = 0 ∨ (cheapV s).2.2 = 9) ∧ ((cheapV (moreS s y)).2.2 = 0 ∨ (cheapV (moreS s y)).2.2 = 9) ∧ ((cheapV s).2.2 = 0 → (cheapV (moreS s y)).2.2 = 0 ∧ (cheapV (moreS s y)).2.1 ≤ (cheapV s).2.1) := by
  have hs : ∀ way, Sound s way → Sound (moreS s y) way := by
    intro way h
    have hr := rl_more (y := y) h.2.1 s.len (by rw [h.1]; exact Nat.le_refl _)
    refine ⟨by rw [hl]; exact h.1, fun d hd => ?_, ?_, ?_⟩
    · have := h.2.1 d hd
      rw [moreS_count]
      omega
    · rw [hl, hr.1]; exact h.2.2.1
    · rw [hl, hr.1]; exact h.2.2.2
  rcases cheap_spec hc with ⟨e, hn⟩ | ⟨w, e, hw, hmin⟩
  · rcases cheap_spec hc' with ⟨e', -⟩ | ⟨w', e', -, -⟩
    · rw [e, e']; simp
    · rw [e, e']; simp
  · rcases cheap_spec hc' with ⟨-, hn'⟩ | ⟨w', e', hw', hmin'⟩
    · exact absurd (hs w hw) (hn' w)
    · have b := (hmin' w (hs w hw)).1
      rw [(rl_more hw.2.1 w.length (Nat.le_refl _)).2] at b
      rw [e, e']
      simp only
      exact ⟨.inl trivial, .inl trivial, fun _ => ⟨trivial, b⟩⟩
end Go.Proofs.Ytddapabmfecidaa
namespace Go.Proofs.Ytddapabmfecidaa
/-! Milder candles. -/
def mildS (s : Sea) (be d jm t : Int) : Sea := { s with bend := be, days := d, jump := jm, times := t }
theorem mild_ok {s : Sea} (hc : (checkV s).2.2 = 0) {be d jm t : Int} (h1 : s.bend ≤ be ∧ be ≤ 60) (h2 : s.days ≤ d ∧ d ≤ 8) (h3 : s.jump ≤ jm ∧ jm ≤ 60) (h4 : s.times ≤ t ∧ t ≤ 8) : (checkV (mildS s be d jm t)).2.2 = 0 := by
  have hg := good_of_ok hc
  have a := hg.bend
  have b := hg.days
  have c := hg.jump
  have e := hg.times
  exact check_mk ⟨⟨by show 0 ≤ be; omega, h1.2⟩, ⟨by show 0 ≤ jm; omega, h3.2⟩, ⟨by show 1 ≤ d; omega, h2.2⟩, ⟨by show 1 ≤ t; omega, h4.2⟩, hg.move, hg.stores, hg.len, hg.rent, hg.lens, hg.span⟩ (names_of_ok (s := s) hc)
theorem rl_mild (s : Sea) (be d jm t : Int) (way : List Int) : ∀ k, rl (mildS s be d jm t) way k = rl s way k
  | 0 => rfl
  | k + 1 => by rw [rl, rl, rl_mild s be d jm t way k]; rfl
/-- **With milder candles** there are no more hot days and jumps. -/
theorem risk_mild {s : Sea} {way : List Int} (he : openE s way = 0) {be d jm t : Int} (h1 : s.bend ≤ be ∧ be ≤ 60) (h2 : s.days ≤ d ∧ d ≤ 8) (h3 : s.jump ≤ jm ∧ jm ≤ 60) (h4 : s.times ≤ t ∧ t ≤ 8) :
    (riskV (mildS s be d jm t) way).2.2 = 0 ∧ (riskV (mildS s be d jm t) way).1 ≤ (riskV s way).1 ∧ (riskV (mildS s be d jm t) way).2.1 ≤ (riskV s way).2.1 := by
  have hc := (openE_ok he).1
  have hg := good_of_ok hc
  have hw := way_ok (openE_ok he).2
  have hc' := mild_ok hc h1 h2 h3 h4
  have he' : openE (mildS s be d jm t) way = 0 := by rw [openE_same hc hc' rfl rfl way]; exact he
  have hok := rl_ok hg hw.2.1 hw.2.2 way.length (Nat.le_refl _)
  rw [riskV_ok he', riskV_ok he, rl_mild]
  exact ⟨rfl, (HV_mono h1.1 (InL.refl _)).2, JM_in h3.1 (InL.refl _) hok hok (rl_ne s way (by omega))⟩
/-! Warmer by the same number. -/
def shP (n : Int) (p : Int × Int) : Int × Int := (p.1 + n, p.2 + n)
def warmS (s : Sea) (n : Int) : Sea := { chS s (-n) n with bend := s.bend + n }
/-- How much warmer all can be. -/
def Fit (s : Sea) (n : Int) : Prop := 0 ≤ n ∧ n ≤ 60 - s.bend ∧ ∀ i, i < s.stores.length → ∀ d, d < s.len → n ≤ 60 - (s.at i d).2
theorem warm_at {s : Sea} (hg : Good s) {n : Int} (hf : Fit s n) (i d : Nat) (hi : i < s.stores.length) (hd : d < s.len) : (warmS s n).at i d = shP n (s.at i d) := by
  have h := chS_at s hg (-n) n i d hi hd
  have h1 := hf.2.2 i hi d hd
  have h2 := hg.span i hi d hd
  have h3 : (warmS s n).at i d = (chS s (-n) n).at i d := rfl
  rw [h3, h]
  unfold chP shP
  have h0 := hf.1
  unfold Sea.at at h1 ⊢
  simp only [Prod.mk.injEq]
  omega
theorem warm_ok {s : Sea} (hc : (checkV s).2.2 = 0) {n : Int} (hf : Fit s n) : (checkV (warmS s n)).2.2 = 0 ∧ (warmS s n).len = s.len := by
  have hg := good_of_ok hc
  have hgc : Good (chS s (-n) n) := chS_good hg fun i hi d hd => by
    have h1 := hf.2.2 i hi d hd
    have h2 := hg.span i hi d hd
    have h0 := hf.1
    unfold chP
    unfold Sea.at at h1 ⊢
    simp only
    omega
  have hb := hg.bend
  have h0 := hf.1
  have h1 := hf.2.1
  exact ⟨check_mk ⟨⟨by show 0 ≤ s.bend + n; omega, by show s.bend + n ≤ 60; omega⟩, hgc.jump, hgc.days, hgc.times, hgc.move, hgc.stores, hgc.len, hgc.rent, hgc.lens, hgc.span⟩ (chS_names (names_of_ok hc) (-n) n), chS_len hg (-n) n⟩
theorem rl_warm {s : Sea} (hg : Good s) {n : Int} (hf : Fit s n) {way : List Int} (hwl : way.length ≤ s.len) (hw : WayIn s way) : ∀ k, k ≤ way.length → rl (warmS s n) way k = (rl s way k).map (shP n)
  | 0, _ => rfl
  | k + 1, h => by
    have hwk := hw k (by omega)
    rw [rl, rl, rl_warm hg hf hwl hw k (by omega), List.map_cons, warm_at hg hf _ k (by omega) (by omega)]
theorem HV_sh (be n : Int) : ∀ l : List (Int × Int), HV (be + n) (l.map (shP n)) = HV be l ∧ MV (be + n) (l.map (shP n)) = MV be l
  | [] => ⟨rfl, rfl⟩
  | p :: l => by
    have ih := HV_sh be n l
    have h1 : HV (be + n) ((p :: l).map (shP n)) = HV be (p :: l) := by
      rw [List.map_cons, show HV (be + n) (shP n p :: l.map (shP n)) = hotV (be + n) (HV (be + n) (l.map (shP n))) (shP n p).2 from rfl, show HV be (p :: l) = hotV be (HV be l) p.2 from rfl, ih.1]
      unfold hotV shP
      simp only
      split <;> split <;> omega
    refine ⟨h1, ?_⟩
    rw [List.map_cons] at h1 ⊢
    rw [show MV (be + n) (shP n p :: l.map (shP n)) = max (MV (be + n) (l.map (shP n))) (HV (be + n) (shP n p :: l.map (shP n))) from rfl, show MV be (p :: l) = max (MV be l) (HV be (p :: l)) from rfl, h1, ih.2]
theorem jr_sh (jm n : Int) : ∀ t : List Int, jr jm (t.map (· + n)) = jr jm t
  | [] => rfl
  | [x] => rfl
  | x :: y :: t => by
    have ih := jr_sh jm n (y :: t)
    simp only [List.map_cons] at ih ⊢
    rw [jr_cons2, jr_cons2, ih]
    congr 1
    unfold jb jumpB
    rw [show x + n - (y + n) = x - y by omega, show y + n - (x + n) = y - x by omega]
theorem TR_sh (n : Int) {l : List (Int × Int)} {t : List Int} (h : TR l t) : TR (l.map (shP n)) (t.map (· + n)) := by
  induction h with
  | nil => exact .nil
  | cons a b _ ih => exact .cons (by unfold shP; simp only; omega) (by unfold shP; simp only; omega) ih
theorem sh_sh (n : Int) (l : List (Int × Int)) : (l.map (shP n)).map (shP (-n)) = l := by
  rw [List.map_map]
  have : (shP (-n)) ∘ (shP n) = id := by
    funext p
    unfold shP
    simp only [Function.comp, id]
    exact Prod.ext (by simp only; omega) (by simp only; omega)
  rw [this, List.map_id]
theorem JM_sh (jm n : Int) {l : List (Int × Int)} (hok : SpOk l) (hok' : SpOk (l.map (shP n))) (hne : l ≠ []) : JM jm (l.map (shP n)) = JM jm l := by
  have hne' : l.map (shP n) ≠ [] := by simpa using hne
  have a : JM jm l ≤ JM jm (l.map (shP n)) := JM_mono hok hok' hne hne' fun t ht => ⟨_, TR_sh n ht, by rw [jr_sh]; omega⟩
  have b : JM jm (l.map (shP n)) ≤ JM jm l := JM_mono hok' hok hne' hne fun t ht => by
    have h := TR_sh (-n) ht
    rw [sh_sh] at h
    exact ⟨_, h, by rw [jr_sh]; omega⟩
  omega
/-- **If all is warmer** by the same number, all is the same. -/
theorem risk_warm {s : Sea} {n : Int} (hf : Fit s n) {way : List Int} (he : openE s way = 0) : riskV (warmS s n) way = riskV s way := by
  have hc := (openE_ok he).1
  have hg := good_of_ok hc
  have hw := way_ok (openE_ok he).2
  have hwm := warm_ok hc hf
  have he' : openE (warmS s n) way = 0 := by rw [openE_same hc hwm.1 hwm.2 (chS_count s (-n) n) way]; exact he
  have hw' := way_ok (openE_ok he').2
  have hok := rl_ok hg hw.2.1 hw.2.2 way.length (Nat.le_refl _)
  have hok' := rl_ok (good_of_ok hwm.1) hw'.2.1 hw'.2.2 way.length (Nat.le_refl _)
  have hr := rl_warm hg hf hw.2.1 hw.2.2 way.length (Nat.le_refl _)
  rw [hr] at hok'
  rw [riskV_ok he', riskV_ok he, hr]
  have h1 := (HV_sh s.bend n (rl s way way.length)).2
  have h2 := JM_sh s.jump n hok hok' (rl_ne s way (by omega))
  rw [show (warmS s n).bend = s.bend + n from rfl, show (warmS s n).jump = s.jump from rfl, h1, h2]
theorem sound_warm {s : Sea} (hc : (checkV s).2.2 = 0) {n : Int} (hf : Fit s n) (way : List Int) : Sound s way ↔ Sound (warmS s n) way := by
  have hg := good_of_ok hc
  have hwm := warm_ok hc hf
  have hcn := chS_count s (-n) n
  have key : way.length = s.len → WayIn s way → (MV (warmS s n).bend (rl (warmS s n) way s.len) = MV s.bend (rl s way s.len) ∧ JM (warmS s n).jump (rl (warmS s n) way s.len) = JM s.jump (rl s way s.len)) := by
    intro hl hw
    have he : openE s way = 0 := openE_mk hc (by have := hg.len; omega) (by omega) hw
    have h := risk_warm hf he
    have he' : openE (warmS s n) way = 0 := by rw [openE_same hc hwm.1 hwm.2 hcn way]; exact he
    rw [riskV_ok he, riskV_ok he', hl] at h
    simp only [Prod.mk.injEq] at h
    exact ⟨h.1, h.2.1⟩
  have hin : WayIn s way ↔ WayIn (warmS s n) way := by
    unfold WayIn
    rw [show (warmS s n).stores.length = s.stores.length from hcn]
  unfold Sound
  rw [hwm.2]
  constructor
  · rintro ⟨h1, h2, h3, h4⟩
    have k := key h1 h2
    exact ⟨h1, hin.1 h2, by rw [k.1]; exact h3, by rw [k.2]; exact h4⟩
  · rintro ⟨h1, h2, h3, h4⟩
    have k := key h1 (hin.2 h2)
    exact ⟨h1, hin.2 h2, by rw [← k.1]; exact h3, by rw [← k.2]; exact h4⟩
theorem cost_warm {s : Sea} (n : Int) {way : List Int} (hw : WayIn s way) : ∀ k, k ≤ way.length → costTo (warmS s n) way k = costTo s way k
  | 0, _ => rfl
  | k + 1, h => by
    have hwk := hw k (by omega)
    have hg := chS_get s (-n) n (way.getD k 0).toNat (by omega)
    rw [costTo.eq_2, costTo.eq_2, cost_warm n hw k (by omega), show (warmS s n).stores = (chS s (-n) n).stores from rfl, hg]
    rfl
theorem cheap_warm {s : Sea} (hc : (checkV s).2.2 = 0) {n : Int} (hf : Fit s n) : cheapV (warmS s n) = cheapV s := by
  have h := cheap_same hc (warm_ok hc hf).1 1 (by omega) (sound_warm hc hf) (fun way h => by rw [cost_warm n h.2.1 _ (Nat.le_refl _)]; omega)
  rw [h]
  simp
/-! Dearer. -/
def dearS (s : Sea) (n : Int) : Sea := { s with move := s.move * n, stores := s.stores.map fun x => { x with rent := x.rent * n } }
theorem dearS_get (s : Sea) (n : Int) (i : Nat) (hi : i < s.stores.length) : (dearS s n).stores.getD i default = { (s.stores.getD i default) with rent := (s.stores.getD i default).rent * n } := by
  rw [List.getD_eq_getElem?_getD, List.getD_eq_getElem?_getD]
  simp [dearS, List.getElem?_eq_getElem hi]
theorem dearS_count (s : Sea) (n : Int) : (dearS s n).stores.length = s.stores.length := by simp [dearS]
theorem dearS_len {s : Sea} (hg : Good s) (n : Int) : (dearS s n).len = s.len := by
  have := hg.stores
  unfold Sea.len
  rw [dearS_get s n 0 (by omega)]
theorem rl_dear {s : Sea} (n : Int) {way : List Int} (hw : WayIn s way) : ∀ k, k ≤ way.length → rl (dearS s n) way k = rl s way k ∧ costTo (dearS s n) way k = n * costTo s way k
  | 0, _ => ⟨rfl, by simp [costTo]⟩
  | k + 1, h => by
    have ih := rl_dear n hw k (by omega)
    have hwk := hw k (by omega)
    have hg := dearS_get s n (way.getD k 0).toNat (by omega)
    refine ⟨?_, ?_⟩
    · rw [rl, rl, ih.1]
      unfold Sea.at
      rw [hg]
    · rw [costTo.eq_2, costTo.eq_2, ih.2, hg, Int.mul_add, Int.mul_add]
      simp only
      rw [show (dearS s n).move = s.move * n from rfl, Int.mul_comm n (s.stores.getD _ default).rent]
      split
      · rw [Int.mul_comm n s.move]
      · simp
theorem cheap_dear {s : Sea} (hc : (checkV s).2.2 = 0) {n : Int} (hn : 1 ≤ n) (hc' : (checkV (dearS s n)).2.2 = 0) : cheapV (dearS s n) = ((cheapV s).1, n * (cheapV s).2.1, (cheapV s).2.2) := by
  have hg := good_of_ok hc
  have hl := dearS_len hg n
  have hcn := dearS_count s n
  refine cheap_same hc hc' n hn (fun way => ?_) (fun way h => (rl_dear n h.2.1 _ (Nat.le_refl _)).2)
  have hin : WayIn s way ↔ WayIn (dearS s n) way := by unfold WayIn; rw [hcn]
  unfold Sound
  rw [hl]
  constructor
  · rintro ⟨h1, h2, h3, h4⟩
    have hr := (rl_dear n h2 s.len (by omega)).1
    exact ⟨h1, hin.1 h2, by rw [hr]; exact h3, by rw [hr]; exact h4⟩
  · rintro ⟨h1, h2, h3, h4⟩
    have hr := (rl_dear n (hin.2 h2) s.len (by omega)).1
    rw [hr] at h3 h4
    exact ⟨h1, hin.2 h2, h3, h4⟩
end Go.Proofs.Ytddapabmfecidaa
