/- The closures of Check; scent.ranges, thing, first, Check. -/
import Derived.Test.YtaigbhhmmdfdcaaW2
namespace Go.Proofs.Ytaigbhhmmdfdcaa
open Go.RowKit
def thC (x : Thing) : Array Value := #[.string x.name, .int .i64 x.kind, .int .i64 x.limit, .int .i64 x.weak, .int .i64 x.fade]
theorem same88 (y : Thing) (g : Nat) (n : ByteArray) (w : World) (hc : w.cell? ⟨g, 0, none⟩ = some (.string n)) (hlt : g < w.heap.size) (r : Bool) (hr : sameN n y.name = r) :
    Calls Try.prog 88 #[.agg #[.string y.name, .int .i64 y.kind, .int .i64 y.limit, .int .i64 y.weak, .int .i64 y.fade], .pointer (some ⟨g, 0, none⟩)] w fun e w' => e = .returned (.bool r) ∧ Below w.heap.size w w' := by
  have HR := Lib.hid hr
  clear hr
  go_enter Try.func88, Try.ntmps88
  go_wp2
  go_ret
  exact ⟨ret_bool HR.out, (Below.refl _ _).alloc (Nat.le_refl _) _⟩
theorem same58 (y : Lot) (u : Value) (g : Nat) (n : ByteArray) (w : World) (hc : w.cell? ⟨g, 0, none⟩ = some (.string n)) (hlt : g < w.heap.size) (r : Bool) (hr : sameN n y.name = r) :
    Calls Try.prog 58 #[.agg #[.string y.name, u], .pointer (some ⟨g, 0, none⟩)] w fun e w' => e = .returned (.bool r) ∧ Below w.heap.size w w' := by
  have HR := Lib.hid hr
  clear hr
  go_enter Try.func58, Try.ntmps58
  go_wp2
  go_ret
  exact ⟨ret_bool HR.out, (Below.refl _ _).alloc (Nat.le_refl _) _⟩
theorem wide91 (lo hi m : Int) (g : Nat) (w : World) (hc : w.cell? ⟨g, 0, none⟩ = some (.int .i64 m)) (hlt : g < w.heap.size) :
    Calls Try.prog 91 #[.agg #[.int .i64 lo, .int .i64 hi], .pointer (some ⟨g, 0, none⟩)] w fun e w' => e = .returned (.bool (outB 0 m [lo, hi])) ∧ Below w.heap.size w w' := by
  have hb := (((Below.refl w.heap.size w).alloc (Nat.le_refl _) (.cells #[.int .i64 lo, .int .i64 hi] 51)).alloc (by simp) (.cells (ints [lo, hi]) 3))
  have hI := intsIn_new (w.alloc (.cells #[.int .i64 lo, .int .i64 hi] 51)) (w.heap.size + 1) (by simp) [lo, hi] (by simp) 2 rfl
  have HI := Lib.hid hI
  clear hI
  obtain ⟨r, hr⟩ : ∃ r, outB 0 m [lo, hi] = r := ⟨_, rfl⟩
  rw [hr]
  have HR := Lib.hid hr
  clear hr
  go_enter Try.func91, Try.ntmps91
  go_wp2_with fail
  refine (out_r _ 0 m _ HR.out _ _ _ HI.out (by simp)).mono ?_
  rintro e w' ⟨rfl, hbw⟩
  go_wp2_with fail
  go_ret
  exact ⟨rfl, hb.trans (hbw.mono (by simp; omega))⟩
theorem turned92 (lo hi : Int) (w : World) : Calls Try.prog 92 #[.agg #[.int .i64 lo, .int .i64 hi]] w fun e w' => e = .returned (.bool (decide (hi < lo))) ∧ Below w.heap.size w w' := by
  go_enter Try.func92, Try.ntmps92
  go_wp2
  go_ret
  exact ⟨rfl, (Below.refl _ _).alloc (Nat.le_refl _) _⟩
/-- scent.ranges -/
theorem ranges_any (l : List (Int × Int)) (m : Int) (v : Value) (w : World) (hv : SpansIn w.heap.size w v l) :
    Calls Try.prog 59 #[v, .int .i64 m] w fun e w' => e = .returned (.int .i64 (spansE m l)) ∧ Below w.heap.size w w' := by
  have HV := Lib.hid hv
  have hb := (Below.refl w.heap.size w).alloc (Nat.le_refl _) (.cells #[.int .i64 m] 3)
  have HB := Lib.hid hb
  have HE : Hid (spansE m l = if l.any (fun p => outB 0 m [p.1, p.2]) then 7 else if l.any (fun p => decide (p.2 < p.1)) then 2 else 0) := rfl
  generalize spansE m l = E at *
  clear hv hb
  obtain ⟨r1, hr1⟩ : ∃ r, l.any (fun p => outB 0 m [p.1, p.2]) = r := ⟨_, rfl⟩
  obtain ⟨r2, hr2⟩ : ∃ r, l.any (fun p => decide (p.2 < p.1)) = r := ⟨_, rfl⟩
  rw [hr1, hr2] at HE
  have HR1 := Lib.hid hr1
  have HR2 := Lib.hid hr2
  clear hr1 hr2
  go_enter Try.func59, Try.ntmps59
  go_wp2_with fail
  refine (hasSpan0_any (some ⟨w.heap.size, 0, none⟩) r1 l _ v _ (HV.out.next HB.out) (fun k W _ hW => wide91 _ _ m _ W ((hW.cell (p := ⟨w.heap.size, 0, none⟩) (by simp)).trans (by simp)) (Nat.lt_of_lt_of_le (by simp) hW.size)) HR1.out).mono ?_
  rintro e w1 ⟨rfl, hb1⟩
  have HB1 := Lib.hid (HB.out.trans (hb1.mono (by simp)))
  clear hb1
  cases r1
  · go_wp2_with fail
    refine (hasSpan1_any r2 l _ v _ (HV.out.next HB1.out) (fun k W _ hW => turned92 _ _ W) HR2.out).mono ?_
    rintro e w2 ⟨rfl, hb1⟩
    have HB2 := Lib.hid (HB1.out.trans (hb1.mono HB1.out.size))
    clear hb1
    cases r2
    · go_wp2_with fail
      go_ret
      exact ⟨ret_int HE.out.symm, HB2.out⟩
    · go_wp2_with fail
      go_ret
      exact ⟨ret_int HE.out.symm, HB2.out⟩
  · go_wp2_with fail
    go_ret
    exact ⟨ret_int HE.out.symm, HB1.out⟩
end Go.Proofs.Ytaigbhhmmdfdcaa
