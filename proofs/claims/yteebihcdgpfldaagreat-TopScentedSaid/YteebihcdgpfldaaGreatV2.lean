/- Wicks, plainly: in any truth a candle burns between the least and the most; a scented candle. -/
import Derived.Test.YteebihcdgpfldaaGreatV1
namespace Go.Proofs.YteebihcdgpfldaaGreat
theorem mul3_le {a b c a' b' c' : Int} (ha : 0 ≤ a) (hb : 0 ≤ b) (hc : 0 ≤ c) (h1 : a ≤ a') (h2 : b ≤ b') (h3 : c ≤ c') : a * b * c ≤ a' * b' * c' :=
 Int.mul_le_mul (Int.mul_le_mul h1 h2 hb (by omega)) h3 hc (Int.mul_nonneg (by omega) (by omega))
theorem trueW_iff {x : Wax} {c : Candle} {p : Int × Int} {t : WTru} : trueW x c p t = true ↔
 (p.1 ≤ t.pull ∧ t.pull ≤ p.2) ∧ (x.flow.1 ≤ t.flow ∧ t.flow ≤ x.flow.2) ∧ (x.rise.1 ≤ t.rise ∧ t.rise ≤ x.rise.2) ∧ (x.spread.1 ≤ t.spread ∧ t.spread ≤ x.spread.2) ∧
 (-c.draught ≤ t.draught ∧ t.draught ≤ c.draught) ∧ (c.cold.1 ≤ t.cold ∧ t.cold ≤ c.cold.2) := by
 unfold trueW
 simp only [Bool.and_eq_true, Bool.not_eq_true', outOne_ff]
 constructor
 ·rintro ⟨⟨⟨⟨⟨h1, h2⟩, h3⟩, h4⟩, h5⟩, h6⟩; exact ⟨h1, h2, h3, h4, h5, h6⟩
 ·rintro ⟨h1, h2, h3, h4, h5, h6⟩; exact ⟨⟨⟨⟨⟨h1, h2⟩, h3⟩, h4⟩, h5⟩, h6⟩
/-- What bounds a wax, a pull and a candle have. -/
structure BOk (x : Wax) (c : Candle) (p : Int × Int) : Prop where
 pull : 1 ≤ p.1 ∧ p.1 ≤ p.2 ∧ p.2 ≤ 1000
 flow : 1 ≤ x.flow.1 ∧ x.flow.1 ≤ x.flow.2 ∧ x.flow.2 ≤ 300
 rise : 1 ≤ x.rise.1 ∧ x.rise.1 ≤ x.rise.2 ∧ x.rise.2 ≤ 1000
 spread : 1 ≤ x.spread.1 ∧ x.spread.1 ≤ x.spread.2 ∧ x.spread.2 ≤ 2000
 chill : 0 ≤ x.chill ∧ x.chill ≤ 50
 draught : 0 ≤ c.draught ∧ c.draught ≤ 90
 cold : 0 ≤ c.cold.1 ∧ c.cold.1 ≤ c.cold.2 ∧ c.cold.2 ≤ 300
theorem WOk.bok {s : WShop} {c : Candle} (h : WOk s c) {k : Nat} (hk : k < s.wicks.length) : BOk (waxOf s c) c (wpull s k) := by
 have hx : c.wax.toNat < s.waxes.length := by have := h.wax; omega
 exact ⟨h.pull k hk, h.flow _ hx, h.rise _ hx, h.spread _ hx, h.chill _ hx, h.draught, h.cold⟩
theorem BOk.least {x : Wax} {c : Candle} {p : Int × Int} (h : BOk x c p) : trueW x c p (leastT x c p) = true := by
 have := h.pull; have := h.flow; have := h.rise; have := h.spread; have := h.draught; have := h.cold
 rw [trueW_iff]; simp only [leastT]; omega
theorem BOk.most {x : Wax} {c : Candle} {p : Int × Int} (h : BOk x c p) : trueW x c p (mostT x c p) = true := by
 have := h.pull; have := h.flow; have := h.rise; have := h.spread; have := h.draught; have := h.cold
 rw [trueW_iff]; simp only [mostT]; omega
/-- What burns in a truth, in bounds. -/
theorem drawn_bounds {x : Wax} {c : Candle} {p : Int × Int} (h : BOk x c p) {t : WTru} (ht : trueW x c p t = true) :
 (1 ≤ t.pull ∧ t.pull ≤ 1000) ∧ (1 ≤ t.flow ∧ t.flow ≤ 300) ∧ (10 ≤ 100 + t.draught ∧ 100 + t.draught ≤ 190) ∧ (1 ≤ t.rise ∧ t.rise ≤ 1000) ∧ (1 ≤ t.spread ∧ t.spread ≤ 2000) ∧ (0 ≤ t.cold ∧ t.cold ≤ 300) := by
 rw [trueW_iff] at ht
 have := h.pull; have := h.flow; have := h.rise; have := h.spread; have := h.draught; have := h.cold
 omega
theorem burn_le {x : Wax} {c : Candle} {p : Int × Int} (h : BOk x c p) {t u : WTru} (ht : trueW x c p t = true) (hu : trueW x c p u = true)
 (h1 : t.pull ≤ u.pull) (h2 : t.flow ≤ u.flow) (h3 : t.draught ≤ u.draught) (h4 : t.rise ≤ u.rise) (h5 : t.spread ≤ u.spread) (h6 : u.cold ≤ t.cold) :
 (burnV x t).rate ≤ (burnV x u).rate ∧ (burnV x t).flame ≤ (burnV x u).flame ∧ (burnV x t).pool ≤ (burnV x u).pool := by
 obtain ⟨a1, a2, a3, a4, a5, a6⟩ := drawn_bounds h ht
 obtain ⟨b1, b2, b3, b4, b5, b6⟩ := drawn_bounds h hu
 have hd : t.pull * t.flow * (100 + t.draught) ≤ u.pull * u.flow * (100 + u.draught) := mul3_le (by omega) (by omega) (by omega) h1 h2 (by omega)
 have h0 : 0 ≤ t.pull * t.flow * (100 + t.draught) := Int.mul_nonneg (Int.mul_nonneg (by omega) (by omega)) (by omega)
 have hc := h.chill
 simp only [burnV]
 refine ⟨by omega, Int.mul_le_mul hd h4 (by omega) (by omega), ?_⟩
 have e1 := Int.mul_le_mul hd h5 (by omega) (by omega)
 have e2 := Int.mul_le_mul_of_nonneg_right (c := x.chill) h6 hc.1
 omega
theorem burn_least {x : Wax} {c : Candle} {p : Int × Int} (h : BOk x c p) {t : WTru} (ht : trueW x c p t = true) :
 (burnV x (leastT x c p)).rate ≤ (burnV x t).rate ∧ (burnV x (leastT x c p)).flame ≤ (burnV x t).flame ∧ (burnV x (leastT x c p)).pool ≤ (burnV x t).pool := by
 have h' := trueW_iff.1 ht
 exact burn_le h h.least ht h'.1.1 h'.2.1.1 h'.2.2.2.2.1.1 h'.2.2.1.1 h'.2.2.2.1.1 h'.2.2.2.2.2.2
theorem burn_most {x : Wax} {c : Candle} {p : Int × Int} (h : BOk x c p) {t : WTru} (ht : trueW x c p t = true) :
 (burnV x t).rate ≤ (burnV x (mostT x c p)).rate ∧ (burnV x t).flame ≤ (burnV x (mostT x c p)).flame ∧ (burnV x t).pool ≤ (burnV x (mostT x c p)).pool := by
 have h' := trueW_iff.1 ht
 exact burn_le h ht h.most h'.1.2 h'.2.1.2 h'.2.2.2.2.1.2 h'.2.2.1.2 h'.2.2.2.1.2 h'.2.2.2.2.2.1
theorem faults_nil {s : WShop} {c : Candle} {k : Nat} : faultsV s c k = [] ↔
 smokes s (mostB s c k) = false ∧ goesOut s (leastB s c k) = false ∧ tunnels s c (leastB s c k) = false ∧ runs s c (mostB s c k) = false := by
 unfold faultsV wrongV
 simp only [List.append_eq_nil_iff, ite_eq_right_iff, List.cons_ne_nil, imp_false, Bool.not_eq_true]
 constructor
 ·rintro ⟨⟨⟨h1, h2⟩, h3⟩, h4⟩; exact ⟨h1, h2, h3, h4⟩
 ·rintro ⟨h1, h2, h3, h4⟩; exact ⟨⟨⟨h1, h2⟩, h3⟩, h4⟩
/-- With a wick that suits nothing is wrong in any truth. -/
theorem wrong_none {s : WShop} {c : Candle} (h : WOk s c) {k : Nat} (hk : k < s.wicks.length) (hf : faultsV s c k = []) {t : WTru} (ht : trueW (waxOf s c) c (wpull s k) t = true) :
 wrongV s c (burnV (waxOf s c) t) (burnV (waxOf s c) t) = [] := by
 have hb := h.bok hk
 obtain ⟨h1, h2, h3, h4⟩ := faults_nil.1 hf
 have l1 := burn_least hb ht
 have l2 := burn_most hb ht
 unfold smokes at h1; unfold goesOut at h2; unfold tunnels at h3; unfold runs at h4
 have h1 := of_decide_eq_false h1
 have h2 := of_decide_eq_false h2
 have h3 := of_decide_eq_false h3
 have h4 := of_decide_eq_false h4
 unfold leastB at h2 h3
 unfold mostB at h1 h4
 have e1 : smokes s (burnV (waxOf s c) t) = false := decide_eq_false (by omega)
 have e2 : goesOut s (burnV (waxOf s c) t) = false := decide_eq_false (by omega)
 have e3 : tunnels s c (burnV (waxOf s c) t) = false := decide_eq_false (by omega)
 have e4 : runs s c (burnV (waxOf s c) t) = false := decide_eq_false (by omega)
 unfold wrongV
 rw [e1, e2, e3, e4]
 rfl
/-- A number of a range, by turns. -/
def amongW (p : Int × Int) (n : Int) : Int := p.1 + n % (p.2 - p.1 + 1)
theorem among_in {p : Int × Int} (h : p.1 ≤ p.2) (n : Int) : p.1 ≤ amongW p n ∧ amongW p n ≤ p.2 := by
 unfold amongW
 have h1 := Int.emod_nonneg n (show p.2 - p.1 + 1 ≠ 0 by omega)
 have h2 := Int.emod_lt_of_pos n (show 0 < p.2 - p.1 + 1 by omega)
 omega
def wtruthV (s : WShop) (k : Nat) (c : Candle) (x : Nat → Int) : WTru :=
 ⟨amongW (wpull s k) (x 0), amongW (waxOf s c).flow (x 1), amongW (waxOf s c).rise (x 2), amongW (waxOf s c).spread (x 3), amongW (-c.draught, c.draught) (x 4), amongW c.cold (x 5)⟩
theorem wtruth_true {s : WShop} {c : Candle} (h : WOk s c) {k : Nat} (hk : k < s.wicks.length) (x : Nat → Int) : trueW (waxOf s c) c (wpull s k) (wtruthV s k c x) = true := by
 have hb := h.bok hk
 rw [trueW_iff]
 exact ⟨among_in hb.pull.2.1 _, among_in hb.flow.2.1 _, among_in hb.rise.2.1 _, among_in hb.spread.2.1 _, among_in (p := (-c.draught, c.draught)) (by have := hb.draught; simp only; omega) _, among_in hb.cold.2.1 _⟩
/-- The pull of a wick of which some parts of 1000 are left. -/
def weakP (pull left : Int × Int) : Int × Int := (max 1 (pull.1 * left.1 / 1000), max 1 ((pull.2 * left.2 + 999) / 1000))
def weakW (s : WShop) (k : Nat) (left : Int × Int) : WShop :=
 { s with wicks := s.wicks.set k { (s.wicks.getD k default) with pull := weakP (s.wicks.getD k default).pull left } }
theorem weakP_ok {pull left : Int × Int} (h1 : 1 ≤ pull.1 ∧ pull.1 ≤ pull.2 ∧ pull.2 ≤ 1000) (h2 : 0 ≤ left.1 ∧ left.1 ≤ left.2 ∧ left.2 ≤ 1000) :
 1 ≤ (weakP pull left).1 ∧ (weakP pull left).1 ≤ (weakP pull left).2 ∧ (weakP pull left).2 ≤ 1000 := by
 have e1 : pull.1 * left.1 ≤ pull.2 * left.2 := Int.mul_le_mul h1.2.1 h2.2.1 (by omega) (by omega)
 have e2 : pull.2 * left.2 ≤ 1000 * 1000 := Int.mul_le_mul h1.2.2 h2.2.2 (by omega) (by omega)
 simp only [weakP]
 omega
theorem getD_set_if {α : Type} (l : List α) (k i : Nat) (a d : α) (hk : k < l.length) : (l.set k a).getD i d = if i = k then a else l.getD i d := by
 simp only [List.getD_eq_getElem?_getD, List.getElem?_set]
 by_cases h : k = i
 ·subst h; simp [hk]
 ·rw [if_neg h, if_neg (fun e => h e.symm)]
theorem weak_name (s : WShop) {k : Nat} (hk : k < s.wicks.length) (left : Int × Int) (i : Nat) : ((weakW s k left).wicks.getD i default).name = (s.wicks.getD i default).name := by
 simp only [weakW]
 rw [getD_set_if _ _ _ _ _ hk]
 split
 ·rename_i h; rw [h]
 ·rfl
theorem any_take_names {f : ByteArray → Bool} (l : List Wick) (i : Nat) (hi : i ≤ l.length) : (l.take i).any (fun y => f y.name) = (List.range i).any (fun j => f (l.getD j default).name) := by
 induction i with
 | zero => simp
 | succ i ih =>
  have : l.take (i + 1) = l.take i ++ [l.getD i default] := by
   rw [List.take_add_one]
   simp [List.getD, show i < l.length by omega]
  rw [this, List.any_append, ih (by omega), List.range_succ, List.any_append]
  simp
theorem weak_ok {s : WShop} {c : Candle} (h : WOk s c) {k : Nat} (hk : k < s.wicks.length) {left : Int × Int} (h2 : 0 ≤ left.1 ∧ left.1 ≤ left.2 ∧ left.2 ≤ 1000) : WOk (weakW s k left) c := by
 have hl : (weakW s k left).wicks.length = s.wicks.length := by simp [weakW]
 have hn := weak_name s hk left
 refine ⟨by rw [hl]; exact h.nw1, by rw [hl]; exact h.nw12, h.nx1, h.nx6, h.flame, h.pool, fun i hi => by rw [hn]; exact h.wname i (by omega), fun i hi => ?_, fun i hi => ?_, fun i hi => ?_,
  h.xname, h.xtwice, h.chill, h.flow, h.rise, h.spread, h.wax, h.dia, h.draught, h.cold⟩
 ·have := h.wtwice i (by omega)
  rw [hn, any_take_names (f := fun m => sameN (s.wicks.getD i default).name m) _ _ (by omega)]
  rw [any_take_names (f := fun m => sameN (s.wicks.getD i default).name m) _ _ (by omega)] at this
  simp only [hn]
  exact this
 ·have := h.threads i (by omega)
  simp only [weakW]
  rw [getD_set_if _ _ _ _ _ hk]
  split
  ·rename_i e; rw [← e]; exact this
  ·exact this
 ·have h1 := h.pull i (by omega)
  simp only [weakW]
  rw [getD_set_if _ _ _ _ _ hk]
  split
  ·rename_i e; rw [← e]; exact weakP_ok h1 h2
  ·exact h1
/-- A pull that is drawn, with what is left in a truth, rounded down and up. -/
theorem scented_pull {T w M : Int} {pull left : Int × Int} (hp : 1 ≤ pull.1) (h1 : pull.1 ≤ T) (h2 : T ≤ pull.2) (hw : 0 < w) (hl0 : 0 ≤ left.1)
 (hl : w * left.1 ≤ M) (hh : M ≤ w * left.2) :
 ((weakP pull left).1 ≤ max 1 (T * M / (1000 * w)) ∧ max 1 (T * M / (1000 * w)) ≤ (weakP pull left).2) ∧
 ((weakP pull left).1 ≤ max 1 ((T * M + 1000 * w - 1) / (1000 * w)) ∧ max 1 ((T * M + 1000 * w - 1) / (1000 * w)) ≤ (weakP pull left).2) := by
 have hM : 0 ≤ M := Int.le_trans (Int.mul_nonneg (by omega) hl0) hl
 have hl2 : 0 ≤ left.2 := by
  refine Int.not_lt.1 fun hlt => ?_
  have : w * left.2 < 0 := Int.mul_neg_of_pos_of_neg hw hlt
  omega
 have e1 : pull.1 * (w * left.1) ≤ T * M := Int.mul_le_mul h1 hl (Int.mul_nonneg (by omega) hl0) (by omega)
 have e2 : T * M ≤ pull.2 * (w * left.2) := Int.mul_le_mul h2 hh hM (by omega)
 have e3 : pull.1 * (w * left.1) = w * (pull.1 * left.1) := by rw [← Int.mul_assoc, Int.mul_comm pull.1 w, Int.mul_assoc]
 have e4 : pull.2 * (w * left.2) = w * (pull.2 * left.2) := by rw [← Int.mul_assoc, Int.mul_comm pull.2 w, Int.mul_assoc]
 rw [e3] at e1
 rw [e4] at e2
 simp only [weakP]
 generalize pull.1 * left.1 = A at *
 generalize pull.2 * left.2 = B at *
 generalize T * M = D at *
 have q1 : A / 1000 ≤ D / (1000 * w) := by
  rw [Int.le_ediv_iff_mul_le (by omega)]
  have : A / 1000 * (1000 * w) = w * (A / 1000 * 1000) := by rw [← Int.mul_assoc, Int.mul_comm]
  rw [this]
  have : A / 1000 * 1000 ≤ A := by omega
  have := Int.mul_le_mul_of_nonneg_left this (show 0 ≤ w by omega)
  omega
 have q2 : (D + 1000 * w - 1) / (1000 * w) ≤ (B + 999) / 1000 := by
  have : (D + 1000 * w - 1) / (1000 * w) < (B + 999) / 1000 + 1 := by
   rw [Int.ediv_lt_iff_lt_mul (by omega)]
   have e : ((B + 999) / 1000 + 1) * (1000 * w) = w * ((B + 999) / 1000 * 1000) + 1000 * w := by
    rw [Int.add_mul, Int.one_mul, ← Int.mul_assoc, Int.mul_comm w]
   rw [e]
   have : B ≤ (B + 999) / 1000 * 1000 := by omega
   have := Int.mul_le_mul_of_nonneg_left this (show 0 ≤ w by omega)
   omega
  omega
 have q3 : D / (1000 * w) ≤ (D + 1000 * w - 1) / (1000 * w) := Int.ediv_le_ediv (by omega) (by omega)
 omega
end Go.Proofs.YteebihcdgpfldaaGreat
