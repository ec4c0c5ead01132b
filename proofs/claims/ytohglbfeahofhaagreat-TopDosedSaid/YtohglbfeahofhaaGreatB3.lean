/- Waxes of a blend in cells. -/
import Derived.Test.YtohglbfeahofhaaGreatB2
namespace Go.Proofs.YtohglbfeahofhaaGreat
open Go.RowKit
def rdBWax : Rd BWax where
  sz := 7
  rd B w b o x := w.cell? ⟨b, o, none⟩ = some (.string x.name) ∧ x.name.size ≤ 1000000000000000 ∧ w.cell? ⟨b, o + 1, none⟩ = some (.int .i64 x.price) ∧ w.cell? ⟨b, o + 2, none⟩ = some (.int .i64 x.melt.1) ∧ w.cell? ⟨b, o + 3, none⟩ = some (.int .i64 x.melt.2) ∧
    w.cell? ⟨b, o + 4, none⟩ = some (.int .i64 x.shrink.1) ∧ w.cell? ⟨b, o + 5, none⟩ = some (.int .i64 x.shrink.2) ∧ ∃ v, w.cell? ⟨b, o + 6, none⟩ = some v ∧ SpansIn B w v x.curve
  below hbb hb h := by
    obtain ⟨h0, hs, h1, h2, h3, h4, h5, v, h6, h7⟩ := h
    exact ⟨(hb.cell (p := ⟨_, _, none⟩) hbb).trans h0, hs, (hb.cell (p := ⟨_, _, none⟩) hbb).trans h1, (hb.cell (p := ⟨_, _, none⟩) hbb).trans h2, (hb.cell (p := ⟨_, _, none⟩) hbb).trans h3,
      (hb.cell (p := ⟨_, _, none⟩) hbb).trans h4, (hb.cell (p := ⟨_, _, none⟩) hbb).trans h5, v, (hb.cell (p := ⟨_, _, none⟩) hbb).trans h6, h7.below hb⟩
  mono hb h := by
    obtain ⟨h0, hs, h1, h2, h3, h4, h5, v, h6, h7⟩ := h
    exact ⟨h0, hs, h1, h2, h3, h4, h5, v, h6, h7.mono hb⟩
theorem outOne_ff {lo hi n : Int} : outOne lo hi n = false ↔ lo ≤ n ∧ n ≤ hi := by unfold outOne; simp
/-- The parts of the point before. -/
def lastP (c : List (Int × Int)) : Nat → Int
  | 0 => -1
  | j + 1 => (c.getD j (0, 0)).1
def rangeE (lo hi : Int) (p : Int × Int) : Int := if outOne lo hi p.1 || outOne lo hi p.2 then 7 else if p.2 < p.1 then 2 else 0
theorem rangeE_zero {lo hi : Int} {p : Int × Int} (h : rangeE lo hi p = 0) : lo ≤ p.1 ∧ p.1 ≤ p.2 ∧ p.2 ≤ hi := by
  unfold rangeE at h
  split at h
  · cases h
  · rename_i h1
    simp only [Bool.or_eq_true, not_or, Bool.not_eq_true, outOne_ff] at h1
    split at h
    · cases h
    · omega
def twoE (a b : Int) : Int := if a = 7 ∨ b = 7 then 7 else if a ≠ 0 then a else b
theorem twoE_zero {a b : Int} (h : twoE a b = 0) : a = 0 ∧ b = 0 := by
  unfold twoE at h
  split at h
  · cases h
  · split at h
    · exact absurd h ‹_›
    · rename_i h2; exact ⟨by simpa using h2, h⟩
/-- A curve in order; a wax in order among those before it. -/
structure CurOk (c : List (Int × Int)) : Prop where
  len : c.length ≤ 6
  pt : ∀ j, j < c.length → 0 ≤ (c.getD j (0, 0)).1 ∧ (c.getD j (0, 0)).1 ≤ 20 ∧ -300 ≤ (c.getD j (0, 0)).2 ∧ (c.getD j (0, 0)).2 ≤ 300
  inc : ∀ j, j + 1 < c.length → (c.getD j (0, 0)).1 < (c.getD (j + 1) (0, 0)).1
structure BW1 (l : List BWax) (x : BWax) : Prop where
  name : nameB x.name = true
  twice : l.any (fun y => sameN x.name y.name) = false
  price : 0 ≤ x.price ∧ x.price ≤ 100000
  melt : rangeE 0 2000 x.melt = 0
  shrink : rangeE 0 1000 x.shrink = 0
  curve : CurOk x.curve
theorem bok_of {l : List BWax} (h1 : 1 ≤ l.length) (h5 : l.length ≤ 5) (h : ∀ i, i < l.length → BW1 (l.take i) (l.getD i default)) : BOk l :=
  ⟨h1, h5, fun i hi => (h i hi).name, fun i hi => (h i hi).twice, fun i hi => (h i hi).price, fun i hi => rangeE_zero (h i hi).melt, fun i hi => rangeE_zero (h i hi).shrink, fun i hi => (h i hi).curve.len, fun i hi => (h i hi).curve.pt, fun i hi => (h i hi).curve.inc⟩
abbrev BWaxesIn := SlIn rdBWax
abbrev bwaxC (x : BWax) (u : Value) : Array Value := #[.string x.name, .int .i64 x.price, .int .i64 x.melt.1, .int .i64 x.melt.2, .int .i64 x.shrink.1, .int .i64 x.shrink.2, u]
end Go.Proofs.YtohglbfeahofhaaGreat
