/- Plain: how a mould cools. -/
namespace Go.Proofs.Ytafdagjdpnaddaa

/-- A mould. -/
structure Mou where
  rings : Int
  give : Int
  pl : Int
  ph : Int
  wl : Int
  wh : Int
  set : Int
  shrink : Int
  skin : Int
  fill : Int
  gap : Int
  deep : Int
deriving Inhabited

def within (n lo hi : Int) : Bool := decide (lo ≤ n) && decide (n ≤ hi)
theorem within_iff {n lo hi : Int} : within n lo hi = true ↔ lo ≤ n ∧ n ≤ hi := by simp [within]

/-- The numbers of a mould are as stated. -/
def numB (m : Mou) : Bool :=
  within m.rings 1 8 && within m.give 1 500 && within m.shrink 0 200 && within m.skin 0 m.rings &&
  (within m.pl 0 2000 && within m.ph 0 2000 && within m.wl 0 2000 && within m.wh 0 2000 && within m.set 0 2000) &&
  (within m.fill 1 100000 && within m.gap 1 60 && within m.deep 0 100000)
def checkE (m : Mou) : Int := if numB m = false then 7 else if m.ph < m.pl ∨ m.wh < m.wl then 2 else 0

structure Valid (m : Mou) : Prop where
  r1 : 1 ≤ m.rings
  r8 : m.rings ≤ 8
  g1 : 1 ≤ m.give
  g5 : m.give ≤ 500
  s0 : 0 ≤ m.shrink
  s2 : m.shrink ≤ 200
  k0 : 0 ≤ m.skin
  kr : m.skin ≤ m.rings
  p0 : 0 ≤ m.pl
  pp : m.pl ≤ m.ph
  p2 : m.ph ≤ 2000
  w0 : 0 ≤ m.wl
  ww : m.wl ≤ m.wh
  w2 : m.wh ≤ 2000
  t0 : 0 ≤ m.set
  t2 : m.set ≤ 2000
  f1 : 1 ≤ m.fill
  f2 : m.fill ≤ 100000
  a1 : 1 ≤ m.gap
  a6 : m.gap ≤ 60
  d0 : 0 ≤ m.deep
  d1 : m.deep ≤ 100000
theorem valid_of_check {m : Mou} (h : checkE m = 0) : Valid m := by
  unfold checkE at h
  by_cases hb : numB m = false
  · rw [if_pos hb] at h; omega
  rw [if_neg hb] at h
  by_cases hs : m.ph < m.pl ∨ m.wh < m.wl
  · rw [if_pos hs] at h; omega
  have hb' : numB m = true := by simpa using hb
  simp only [numB, Bool.and_eq_true, within_iff] at hb'
  constructor <;> omega
theorem check_of_valid {m : Mou} (h : Valid m) : checkE m = 0 := by
  unfold checkE
  have hb : numB m = true := by
    have := h
    simp only [numB, Bool.and_eq_true, within_iff]
    obtain ⟨_, _, _, _, _, _, _, _, _, _, _, _, _, _, _, _, _, _, _, _, _, _⟩ := this
    omega
  have h1 := h.pp
  have h2 := h.ww
  rw [if_neg (by simp [hb]), if_neg (by omega)]
theorem checkE_cases (m : Mou) : checkE m = 0 ∨ checkE m = 7 ∨ checkE m = 2 := by
  unfold checkE
  by_cases h1 : numB m = false
  · rw [if_pos h1]; omega
  · rw [if_neg h1]
    by_cases h2 : m.ph < m.pl ∨ m.wh < m.wl
    · rw [if_pos h2]; omega
    · rw [if_neg h2]; omega

/-- The warmth of a ring a minute later. -/
def ringN (g before behind own : Int) : Int := (g * before + g * behind + (1000 - 2 * g) * own) / 1000
def beforeA (wall : Int) (l : List Int) (i : Nat) : Int := if i = 0 then wall else l.getD (i - 1) 0
def behindA (l : List Int) (i : Nat) : Int := if i + 1 < l.length then l.getD (i + 1) 0 else l.getD i 0
def ringA (g wall : Int) (l : List Int) (i : Nat) : Int := ringN g (beforeA wall l i) (behindA l i) (l.getD i 0)
def nextL (g wall : Int) (l : List Int) : List Int := (List.range l.length).map (ringA g wall l)
theorem nextL_length (g wall : Int) (l : List Int) : (nextL g wall l).length = l.length := by simp [nextL]
theorem nextL_getD (g wall : Int) (l : List Int) (i : Nat) (h : i < l.length) : (nextL g wall l).getD i 0 = ringA g wall l i := by
  simp [nextL, List.getD, h]

/-- All of a list is from a to b. -/
def Fits2 (a b : Int) (l : List Int) : Prop := ∀ i, i < l.length → a ≤ l.getD i 0 ∧ l.getD i 0 ≤ b
theorem ringN_bound {g a b x y z : Int} (g0 : 0 ≤ g) (g5 : g ≤ 500) (hx : a ≤ x ∧ x ≤ b) (hy : a ≤ y ∧ y ≤ b) (hz : a ≤ z ∧ z ≤ b) : a ≤ ringN g x y z ∧ ringN g x y z ≤ b := by
  unfold ringN
  have h1 := Int.mul_le_mul_of_nonneg_left hx.1 g0
  have h2 := Int.mul_le_mul_of_nonneg_left hx.2 g0
  have h3 := Int.mul_le_mul_of_nonneg_left hy.1 g0
  have h4 := Int.mul_le_mul_of_nonneg_left hy.2 g0
  have k0 : 0 ≤ 1000 - 2 * g := by omega
  have h5 := Int.mul_le_mul_of_nonneg_left hz.1 k0
  have h6 := Int.mul_le_mul_of_nonneg_left hz.2 k0
  have e1 : (1000 - 2 * g) * a = 1000 * a - 2 * (g * a) := by rw [Int.sub_mul, Int.mul_assoc]
  have e2 : (1000 - 2 * g) * b = 1000 * b - 2 * (g * b) := by rw [Int.sub_mul, Int.mul_assoc]
  rw [e1] at h5
  rw [e2] at h6
  generalize g * x = gx at *
  generalize g * y = gy at *
  generalize (1000 - 2 * g) * z = gz at *
  generalize g * a = ga at *
  generalize g * b = gb at *
  omega
theorem ringN_mono {g x y z x' y' z' : Int} (g0 : 0 ≤ g) (g5 : g ≤ 500) (hx : x ≤ x') (hy : y ≤ y') (hz : z ≤ z') : ringN g x y z ≤ ringN g x' y' z' := by
  unfold ringN
  have h1 := Int.mul_le_mul_of_nonneg_left hx g0
  have h3 := Int.mul_le_mul_of_nonneg_left hy g0
  have k0 : 0 ≤ 1000 - 2 * g := by omega
  have h5 := Int.mul_le_mul_of_nonneg_left hz k0
  generalize g * x = gx at *
  generalize g * y = gy at *
  generalize (1000 - 2 * g) * z = gz at *
  generalize g * x' = gx' at *
  generalize g * y' = gy' at *
  generalize (1000 - 2 * g) * z' = gz' at *
  omega
theorem beforeA_bound {a b wall : Int} {l : List Int} (h : Fits2 a b l) (hw : a ≤ wall ∧ wall ≤ b) {i : Nat} (hi : i < l.length) : a ≤ beforeA wall l i ∧ beforeA wall l i ≤ b := by
  unfold beforeA
  split
  · exact hw
  · exact h _ (by omega)
theorem behindA_bound {a b : Int} {l : List Int} (h : Fits2 a b l) {i : Nat} (hi : i < l.length) : a ≤ behindA l i ∧ behindA l i ≤ b := by
  unfold behindA
  split
  · exact h _ (by omega)
  · exact h _ hi
theorem nextL_fits {g a b wall : Int} {l : List Int} (g0 : 0 ≤ g) (g5 : g ≤ 500) (h : Fits2 a b l) (hw : a ≤ wall ∧ wall ≤ b) : Fits2 a b (nextL g wall l) := by
  intro i hi
  rw [nextL_length] at hi
  rw [nextL_getD _ _ _ _ hi]
  exact ringN_bound g0 g5 (beforeA_bound h hw hi) (behindA_bound h hi) (h i hi)
/-- Nowhere warmer. -/
def LeL (l m : List Int) : Prop := l.length = m.length ∧ ∀ i, i < l.length → l.getD i 0 ≤ m.getD i 0
theorem LeL.refl (l : List Int) : LeL l l := ⟨rfl, fun _ _ => Int.le_refl _⟩
theorem LeL.trans {a b c : List Int} (h : LeL a b) (k : LeL b c) : LeL a c := ⟨h.1.trans k.1, fun i hi => Int.le_trans (h.2 i hi) (k.2 i (by rw [← h.1]; exact hi))⟩
theorem nextL_mono {g wall wall' : Int} {l m : List Int} (g0 : 0 ≤ g) (g5 : g ≤ 500) (h : LeL l m) (hw : wall ≤ wall') : LeL (nextL g wall l) (nextL g wall' m) := by
  refine ⟨by rw [nextL_length, nextL_length, h.1], fun i hi => ?_⟩
  rw [nextL_length] at hi
  have him : i < m.length := by rw [← h.1]; exact hi
  rw [nextL_getD _ _ _ _ hi, nextL_getD _ _ _ _ him]
  refine ringN_mono g0 g5 ?_ ?_ (h.2 i hi)
  · unfold beforeA; split
    · exact hw
    · exact h.2 _ (by omega)
  · unfold behindA; rw [← h.1]; split
    · exact h.2 _ (by omega)
    · exact h.2 _ hi

/-- The warmth of all rings after the walls ws. -/
def runL (g : Int) (l : List Int) (ws : List Int) : List Int := ws.foldl (fun l w => nextL g w l) l
theorem runL_nil (g : Int) (l : List Int) : runL g l [] = l := rfl
theorem runL_snoc (g : Int) (l ws : List Int) (w : Int) : runL g l (ws ++ [w]) = nextL g w (runL g l ws) := by simp [runL]
theorem runL_length (g : Int) (ws : List Int) : ∀ l, (runL g l ws).length = l.length := by
  induction ws with
  | nil => intro l; rfl
  | cons w ws ih => intro l; show (runL g (nextL g w l) ws).length = _; rw [ih, nextL_length]
theorem runL_take (g : Int) (l ws : List Int) (k : Nat) (h : k < ws.length) : runL g l (ws.take (k + 1)) = nextL g (ws.getD k 0) (runL g l (ws.take k)) := by
  rw [List.take_succ_eq_append_getElem h, runL_snoc]
  simp [List.getD, h]
theorem runL_fits {g a b : Int} (g0 : 0 ≤ g) (g5 : g ≤ 500) : ∀ (ws l : List Int), Fits2 a b l → Fits2 a b ws → Fits2 a b (runL g l ws)
  | [], l, h, _ => h
  | w :: ws, l, h, hw => runL_fits g0 g5 ws _ (nextL_fits g0 g5 h (hw 0 (by simp))) (fun i hi => by have := hw (i + 1) (by simpa using hi); simpa using this)
theorem runL_mono {g : Int} (g0 : 0 ≤ g) (g5 : g ≤ 500) : ∀ (ws vs l m : List Int), LeL l m → LeL ws vs → LeL (runL g l ws) (runL g m vs)
  | [], [], l, m, h, _ => h
  | [], _ :: _, l, m, _, hw => absurd hw.1 (by simp)
  | _ :: _, [], l, m, _, hw => absurd hw.1 (by simp)
  | w :: ws, v :: vs, l, m, h, hw => runL_mono g0 g5 ws vs _ _ (nextL_mono g0 g5 h (by have := hw.2 0 (by simp); simpa using this))
      ⟨by have := hw.1; simpa using this, fun i hi => by have := hw.2 (i + 1) (by simpa using hi); simpa using this⟩

/-- The first of the minutes before N for which p is true; -1: none. -/
def firstTo (p : Nat → Bool) : Nat → Int
  | 0 => -1
  | k + 1 => if firstTo p k < 0 ∧ p k = true then (k : Int) else firstTo p k
theorem firstTo_bound (p : Nat → Bool) : ∀ N, -1 ≤ firstTo p N ∧ firstTo p N < N
  | 0 => by simp [firstTo]
  | k + 1 => by
    have := firstTo_bound p k
    unfold firstTo
    split <;> omega
theorem firstTo_neg {p : Nat → Bool} : ∀ {N : Nat}, firstTo p N < 0 → ∀ k, k < N → p k = false
  | 0, _, k, hk => by omega
  | n + 1, h, k, hk => by
    unfold firstTo at h
    by_cases hc : firstTo p n < 0 ∧ p n = true
    · rw [if_pos hc] at h; omega
    · rw [if_neg hc] at h
      by_cases hkn : k < n
      · exact firstTo_neg h k hkn
      · obtain rfl : k = n := by omega
        cases hp : p k with
        | false => rfl
        | true => exact absurd ⟨h, hp⟩ hc
theorem firstTo_pos {p : Nat → Bool} : ∀ {N : Nat}, 0 ≤ firstTo p N → p (firstTo p N).toNat = true ∧ ∀ k : Nat, (k : Int) < firstTo p N → p k = false
  | 0, h => by simp [firstTo] at h
  | n + 1, h => by
    unfold firstTo at h ⊢
    by_cases hc : firstTo p n < 0 ∧ p n = true
    · rw [if_pos hc]
      exact ⟨by simpa using hc.2, fun k hk => firstTo_neg hc.1 k (by omega)⟩
    · rw [if_neg hc] at h ⊢
      exact firstTo_pos h
theorem firstTo_of {p : Nat → Bool} {N k : Nat} (hk : k < N) (hp : p k = true) : 0 ≤ firstTo p N ∧ firstTo p N ≤ k := by
  by_cases h : firstTo p N < 0
  · have := firstTo_neg h k hk; rw [hp] at this; cases this
  · refine ⟨by omega, ?_⟩
    by_cases h2 : (k : Int) < firstTo p N
    · have := (firstTo_pos (show 0 ≤ firstTo p N by omega)).2 k h2; rw [hp] at this; cases this
    · omega
/-- What is true more often is true earlier. -/
theorem firstTo_mono {p q : Nat → Bool} {N : Nat} (h : ∀ k, k < N → p k = true → q k = true) (hp : 0 ≤ firstTo p N) : 0 ≤ firstTo q N ∧ firstTo q N ≤ firstTo p N := by
  have h1 := firstTo_bound p N
  have h2 := firstTo_pos hp
  have := firstTo_of (p := q) (N := N) (k := (firstTo p N).toNat) (by omega) (h _ (by omega) h2.1)
  omega
theorem firstTo_congr {p q : Nat → Bool} : ∀ {N : Nat}, (∀ k, k < N → p k = q k) → firstTo p N = firstTo q N
  | 0, _ => rfl
  | n + 1, h => by
    unfold firstTo
    rw [firstTo_congr (fun k hk => h k (by omega)), h n (by omega)]
/-- Found, it stays. -/
theorem firstTo_stay {p : Nat → Bool} {n : Nat} (h : 0 ≤ firstTo p n) : ∀ N, n ≤ N → firstTo p N = firstTo p n := by
  intro N
  induction N with
  | zero => intro hn; obtain rfl : n = 0 := by omega
            rfl
  | succ N ih =>
    intro hn
    by_cases he : n = N + 1
    · subst he; rfl
    · have := ih (by omega)
      show (if firstTo p N < 0 ∧ p N = true then (N : Int) else firstTo p N) = _
      rw [if_neg (by omega), this]
/-- When ring i sets, the walls being ws. -/
def setsAt (m : Mou) (l ws : List Int) (i n : Nat) : Bool := decide ((runL m.give l (ws.take n)).getD i 0 ≤ m.set)
def whenI (m : Mou) (l ws : List Int) (N i : Nat) : Int := firstTo (setsAt m l ws i) N
def whenL (m : Mou) (l ws : List Int) : List Int := (List.range l.length).map (whenI m l ws (ws.length + 1))
theorem whenL_length (m : Mou) (l ws : List Int) : (whenL m l ws).length = l.length := by simp [whenL]
theorem whenL_getD (m : Mou) (l ws : List Int) (i : Nat) (h : i < l.length) : (whenL m l ws).getD i 0 = whenI m l ws (ws.length + 1) i := by
  simp [whenL, List.getD, h]
/-- How many rings have set. -/
def skinB (n x : Int) : Bool := decide (0 ≤ x) && decide (x ≤ n)
def skinN (when : List Int) (n : Int) : Nat := when.countP (skinB n)
/-- By how much ring i shrinks. -/
def shrI (m : Mou) (i : Nat) : Int := m.shrink * (1 + 2 * (m.rings - 1 - i))
/-- The truth in which all is at one side. -/
def sameP (m : Mou) (hot : Bool) : List Int := List.replicate m.rings.toNat (if hot then m.ph else m.pl)
def sameW (m : Mou) (hot : Bool) (n : Nat) : List Int := List.replicate n (if hot then m.wh else m.wl)
def warmL (m : Mou) (hot : Bool) (n : Nat) : List Int := runL m.give (sameP m hot) (sameW m hot n)
def endsL (m : Mou) (hot : Bool) : List Int := whenL m (sameP m hot) (sameW m hot 600)
end Go.Proofs.Ytafdagjdpnaddaa
