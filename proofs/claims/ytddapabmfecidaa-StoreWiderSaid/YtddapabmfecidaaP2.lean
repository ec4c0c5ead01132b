/- Show, plainly: the days from each day on, and the warmth that is picked. -/
import Derived.Test.YtddapabmfecidaaP1
namespace Go.Proofs.Ytddapabmfecidaa

abbrev spW (s : Sea) (way : List Int) (d : Nat) : Int × Int := s.at (way.getD d 0).toNat d
/-- The spans of f days from a day on. -/
def SF (s : Sea) (way : List Int) : Nat → Nat → List (Int × Int)
  | 0, _ => []
  | f + 1, d => spW s way d :: SF s way f (d + 1)
/-- The jumps from a day on, of a way of n days. -/
def RV (s : Sea) (way : List Int) (d : Nat) : List Int := JV s.jump (SF s way (way.length - d) d)
def hereV (jm : Int) (v l : List Int) (d : Nat) (w : Nat) : Int := if decide (0 < d) && jumpB jm (l.getD (d - 1) 0) w then v.getD w 0 + 1 else v.getD w 0
def pickB (jm : Int) (v l : List Int) (d : Nat) (left : Int) (w : Nat) : Bool := decide (0 < v.getD w 0) && decide (hereV jm v l d w = left)
def showSt (s : Sea) (way : List Int) : Nat → List Int × Int
  | 0 => ([], maxTo (RV s way 0) 61)
  | d + 1 =>
    match (List.range 61).find? (pickB s.jump (RV s way d) (showSt s way d).1 d (showSt s way d).2) with
    | some w => ((showSt s way d).1 ++ [(w : Int)], (RV s way d).getD w 0)
    | none => showSt s way d
def showV (s : Sea) (way : List Int) : List Int × Int := if openE s way = 0 then ((showSt s way way.length).1, 0) else ([], openE s way)

theorem jumpB_symm (jm x y : Int) : jumpB jm x y = jumpB jm y x := by unfold jumpB; rw [show max (x - y) (y - x) = max (y - x) (x - y) by omega]
theorem SF_ok {s : Sea} {way : List Int} (hg : Good s) (hwl : way.length ≤ s.len) (hw : ∀ d, d < way.length → 0 ≤ way.getD d 0 ∧ way.getD d 0 < s.stores.length) : ∀ f d, d + f ≤ way.length → SpOk (SF s way f d)
  | 0, d, _ => by intro p hp; simp [SF] at hp
  | f + 1, d, h => by
    intro p hp
    rcases List.mem_cons.1 hp with rfl | hp
    · have h1 := hw d (by omega)
      exact hg.span (way.getD d 0).toNat (by omega) d (by omega)
    · exact SF_ok hg hwl hw f (d + 1) (by omega) p hp
theorem RV_len (s : Sea) (way : List Int) (d : Nat) : (RV s way d).length = 61 := JV_len _ _
theorem RV_small (s : Sea) (way : List Int) : ∀ (f d : Nat), Small (f : Int) (JV s.jump (SF s way f d))
  | 0, d => small_zero
  | f + 1, d => by
    have := nextTo_small (RV_small s way f (d + 1)) (by omega) s.jump (spW s way d).1 ((spW s way d).2 + 1)
    rw [show ((f + 1 : Nat) : Int) = (f : Int) + 1 by omega]
    exact this
theorem RV_succ (s : Sea) (way : List Int) (d : Nat) (hd : d < way.length) : RV s way d = s.jumpN (spW s way d) (RV s way (d + 1)) := by
  unfold RV
  rw [show way.length - d = way.length - (d + 1) + 1 by omega]
  rfl
theorem RV_end (s : Sea) (way : List Int) : RV s way way.length = List.replicate 61 0 := by unfold RV; rw [Nat.sub_self]; rfl

/-- What holds of the days that are shown. -/
structure ShowOk (s : Sea) (way : List Int) (d : Nat) : Prop where
  len : (showSt s way d).1.length = d
  rng : ∀ k, k < d → 0 ≤ (showSt s way d).1.getD k 0 ∧ (showSt s way d).1.getD k 0 ≤ 60
  pos : 0 < (showSt s way d).2
  zero : d = 0 → (showSt s way d).2 = maxTo (RV s way 0) 61
  left : 0 < d → (showSt s way d).2 = (RV s way (d - 1)).getD ((showSt s way d).1.getD (d - 1) 0).toNat 0
theorem show_found {s : Sea} {way : List Int} (hg : Good s) (hwl : way.length ≤ s.len) (hw : ∀ d, d < way.length → 0 ≤ way.getD d 0 ∧ way.getD d 0 < s.stores.length) {d : Nat} (hd : d < way.length) (h : ShowOk s way d) :
    ∃ w, w < 61 ∧ pickB s.jump (RV s way d) (showSt s way d).1 d (showSt s way d).2 w = true := by
  have hpos := h.pos
  cases d with
  | zero =>
    obtain ⟨i, hi, he⟩ := maxTo_at (RV s way 0) 61 (by omega)
    have hz := h.zero rfl
    refine ⟨i, hi, ?_⟩
    unfold pickB hereV
    rw [hz] at hpos ⊢
    simp
    rw [List.getD_eq_getElem?_getD] at he
    omega
  | succ k =>
    have hl := h.left (by omega)
    rw [Nat.add_sub_cancel] at hl
    have hrk := h.rng k (by omega)
    generalize hw0 : (showSt s way (k + 1)).1.getD k 0 = w0 at *
    have hok := SF_ok hg hwl hw (way.length - k) k (by omega)
    have e : way.length - k = way.length - (k + 1) + 1 := by omega
    have hRV : RV s way k = JV s.jump (spW s way k :: SF s way (way.length - (k + 1)) (k + 1)) := by unfold RV; rw [e]; rfl
    rw [e] at hok
    have hok2 : SpOk (SF s way (way.length - (k + 1)) (k + 1)) := SpOk.tail hok
    have hne : SF s way (way.length - (k + 1)) (k + 1) = spW s way (k + 1) :: SF s way (way.length - (k + 1) - 1) (k + 1 + 1) := by
      rw [show way.length - (k + 1) = way.length - (k + 1) - 1 + 1 by omega]; rfl
    rw [hRV, JV_at _ _ _ _ (by omega)] at hl
    split at hl
    · have h0 : startV (JV s.jump (SF s way (way.length - (k + 1)) (k + 1))) = 0 := by
        rw [hne] at hok2 ⊢
        exact startV_not (JV_zeroB s.jump hok2)
      rcases foldV_at s.jump (JV s.jump (SF s way (way.length - (k + 1)) (k + 1))) w0.toNat 61 with h1 | ⟨b, hb, h1⟩
      · omega
      · refine ⟨b, hb, ?_⟩
        rw [h1] at hl
        have e2 : ((w0.toNat : Nat) : Int) = w0 := by omega
        rw [e2] at hl
        unfold stepV at hl
        unfold pickB hereV
        rw [Nat.add_sub_cancel, hw0, jumpB_symm]
        have hp : 0 < (JV s.jump (SF s way (way.length - (k + 1)) (k + 1))).getD b 0 := by
          split at hl
          · rename_i hh; simp only [Bool.and_eq_true, decide_eq_true_eq] at hh; exact hh.1
          · omega
        have e3 : RV s way (k + 1) = JV s.jump (SF s way (way.length - (k + 1)) (k + 1)) := rfl
        rw [e3, decide_eq_true hp, Bool.true_and]
        rw [decide_eq_true hp, Bool.true_and] at hl
        rw [decide_eq_true (show 0 < k + 1 by omega), Bool.true_and]
        exact decide_eq_true hl.symm
    · omega
theorem find_some {p : Nat → Bool} {n w : Nat} (hw : w < n) (hp : p w = true) (hlt : ∀ k, k < w → p k = false) : (List.range n).find? p = some w := by
  rw [List.find?_range_eq_some]
  exact ⟨hp, List.mem_range.2 hw, fun j hj => by simpa using hlt j hj⟩
theorem find_is {p : Nat → Bool} {n : Nat} (h : ∃ w, w < n ∧ p w = true) : ∃ w, (List.range n).find? p = some w ∧ w < n ∧ p w = true := by
  cases hf : (List.range n).find? p with
  | none =>
    obtain ⟨w, hw, hp⟩ := h
    rw [List.find?_eq_none] at hf
    exact absurd hp (hf w (List.mem_range.2 hw))
  | some w => exact ⟨w, rfl, List.mem_range.1 (List.mem_of_find?_eq_some hf), List.find?_some hf⟩
theorem show_ok {s : Sea} {way : List Int} (hg : Good s) (hwl : way.length ≤ s.len) (hw : ∀ d, d < way.length → 0 ≤ way.getD d 0 ∧ way.getD d 0 < s.stores.length) (hne : 0 < way.length) : ∀ d, d ≤ way.length → ShowOk s way d
  | 0, _ => by
    refine ⟨rfl, fun k hk => by omega, ?_, fun _ => rfl, fun h => by omega⟩
    have hok := SF_ok hg hwl hw (way.length - 0) 0 (by omega)
    have := JM_nonneg s.jump hok (by rw [show way.length - 0 = way.length - 1 + 1 by omega]; simp [SF])
    unfold JM at this
    show 0 < maxTo (RV s way 0) 61
    unfold RV
    omega
  | d + 1, hd => by
    have ih := show_ok hg hwl hw hne d (by omega)
    obtain ⟨w, hf, hw61, hp⟩ := find_is (show_found hg hwl hw (by omega) ih)
    have e : showSt s way (d + 1) = ((showSt s way d).1 ++ [(w : Int)], (RV s way d).getD w 0) := by rw [showSt, hf]
    have hv : 0 < (RV s way d).getD w 0 := by unfold pickB at hp; simp only [Bool.and_eq_true, decide_eq_true_eq] at hp; exact hp.1
    refine ⟨by rw [e]; simp [ih.len], fun k hk => ?_, by rw [e]; exact hv, fun h => by omega, fun _ => ?_⟩
    · rw [e, List.getD_eq_getElem?_getD]
      simp only
      by_cases hkd : k < d
      · rw [List.getElem?_append_left (by rw [ih.len]; exact hkd), ← List.getD_eq_getElem?_getD]
        exact ih.rng k hkd
      · rw [List.getElem?_append_right (by rw [ih.len]; omega), ih.len, show k - d = 0 by omega]
        simp; omega
    · rw [e]
      simp only [Nat.add_sub_cancel]
      have e5 : ((showSt s way d).1 ++ [(w : Int)]).getD d 0 = w := by
        rw [List.getD_eq_getElem?_getD, List.getElem?_append_right (by rw [ih.len]; omega), ih.len, Nat.sub_self]; rfl
      rw [e5, Int.toNat_natCast]
end Go.Proofs.Ytddapabmfecidaa
