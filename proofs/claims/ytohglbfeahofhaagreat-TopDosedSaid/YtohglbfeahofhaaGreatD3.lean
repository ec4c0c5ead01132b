/- stearinref02.Check: with the error 0 the waxes are in order. -/
import Derived.Test.YtohglbfeahofhaaGreatB3
import Derived.Test.YtohglbfeahofhaaGreatG1
namespace Go.Proofs.YtohglbfeahofhaaGreat
open Go.RowKit
theorem inB_out (n lo hi : Int) : inB n lo hi = !outOne lo hi n := by
  unfold inB outOne
  rw [Bool.eq_iff_iff]
  simp
theorem in2_r (r : Bool) (n lo hi : Int) (w : World) (hr : inB n lo hi = r) : Calls Tryz.prog 11 #[.int .i64 n, .int .i64 lo, .int .i64 hi] w fun e w' => e = .returned (.bool r) ∧ w = w' := by
  subst hr
  unfold inB
  go_enter Tryz.func11, Tryz.ntmps11
  by_cases h : lo ≤ n
  · have h1 : decide (lo ≤ n) = true := by simpa using h
    go_wp2
    all_goals (go_ret; exact ⟨by simp [h], rfl⟩)
  · have h1 : decide (lo ≤ n) = false := by simpa using h
    go_wp2
    all_goals (go_ret; exact ⟨by simp, rfl⟩)
theorem span3_ref (p : Int × Int) (lo hi : Int) (w : World) : Calls Tryz.prog 41 #[.agg #[.int .i64 p.1, .int .i64 p.2], .int .i64 lo, .int .i64 hi] w
    fun e w' => e = .returned (.int .i64 (rangeE lo hi p)) ∧ Below w.heap.size w w' := by
  obtain ⟨x, y⟩ := p
  have C0 := Lib.hid ((Bs.nil w).push _ rfl (.cells #[.int .i64 x, .int .i64 y] 41))
  have HE : Hid (rangeE lo hi (x, y) = if inB x lo hi = false ∨ inB y lo hi = false then 7 else if y < x then 2 else 0) := by
    unfold Hid rangeE
    rw [inB_out, inB_out]
    cases h1 : outOne lo hi x <;> cases h2 : outOne lo hi y <;> simp
  generalize rangeE lo hi (x, y) = E at *
  obtain ⟨r1, hr1⟩ : ∃ r, inB x lo hi = r := ⟨_, rfl⟩
  obtain ⟨r2, hr2⟩ : ∃ r, inB y lo hi = r := ⟨_, rfl⟩
  rw [hr1, hr2] at HE
  have HR1 := Lib.hid hr1
  have HR2 := Lib.hid hr2
  clear hr1 hr2
  go_enter Tryz.func41, Tryz.ntmps41
  go_wp2_with fail
  refine (in1_r r1 _ _ _ _ HR1.out).mono ?_
  rintro e w' ⟨rfl, rfl⟩
  cases r1
  · go_wp2_with fail
    go_ret
    exact ⟨ret_int (by rw [HE.out]; simp), C0.out.bel⟩
  go_wp2_with fail
  refine (in1_r r2 _ _ _ _ HR2.out).mono ?_
  rintro e w' ⟨rfl, rfl⟩
  cases r2
  · go_wp2_with fail
    go_ret
    exact ⟨ret_int (by rw [HE.out]; simp), C0.out.bel⟩
  go_wp2_with fail
  all_goals
    go_ret
    exact ⟨ret_int (by rw [HE.out]; simp; omega), C0.out.bel⟩
set_option maxHeartbeats 4000000 in
theorem spans2_ref (m h : Int × Int) (w : World) : Calls Tryz.prog 13 #[.agg #[.int .i64 m.1, .int .i64 m.2], .agg #[.int .i64 h.1, .int .i64 h.2]] w
    fun e w' => e = .returned (.int .i64 (twoE (rangeE 0 2000 m) (rangeE 0 1000 h))) ∧ Below w.heap.size w w' := by
  have C0 : Hid (Bs w [(w.heap.size, .cells #[.int .i64 m.1, .int .i64 m.2] 41), (w.heap.size + 1, .cells #[.int .i64 h.1, .int .i64 h.2] 41)] _) := Lib.hid (((Bs.nil w).push _ rfl (.cells #[.int .i64 m.1, .int .i64 m.2] 41)).push (w.heap.size + 1) (by simp) (.cells #[.int .i64 h.1, .int .i64 h.2] 41))
  have HX := fun w => Lib.hid (span3_ref m 0 2000 w)
  have HY := fun w => Lib.hid (span3_ref h 0 1000 w)
  generalize rangeE 0 2000 m = E1 at *
  generalize rangeE 0 1000 h = E2 at *
  have HT : Hid (∀ a b, twoE a b = if a = 7 ∨ b = 7 then 7 else if a ≠ 0 then a else b) := fun _ _ => rfl
  obtain ⟨T, HTT⟩ : ∃ z, Hid (twoE E1 E2 = z) := ⟨_, rfl⟩
  rw [HTT.out]
  go_enter Tryz.func13, Tryz.ntmps13
  go_wp2_with fail
  refine wp_region_inv0 (by kernel_rfl) (by kernel_rfl) (fun D w' => Bs w [(w.heap.size, .cells #[.int .i64 m.1, .int .i64 m.2] 41), (w.heap.size + 1, .cells #[.int .i64 h.1, .int .i64 h.2] 41)] w') C0.out.drew ?_
  apply obl_det
  case hrun =>
    intro D y wz hW hD R hR
    have HRR := Lib.hid hR
    clear hR
    have HW := Lib.hid hW
    have h1 := HW.out.cell 0 rfl 0
    have h2 := HW.out.cell 0 rfl 1
    clear hW hD
    go_wp2_with fail
    exact HRR.out _ HW.out
  case hnp => rfl
  case hv => first | exact ⟨_, fun _ => rfl⟩ | exact ⟨undef, fun _ => rfl⟩
  apply obl_det
  case hrun =>
    intro D y wz hW hD R hR
    have HRR := Lib.hid hR
    clear hR
    have HW := Lib.hid hW
    clear hW hD
    go_wp2_with fail
    refine (HX _).out.mono ?_
    rintro e w' ⟨rfl, hb⟩
    have HW2 := Lib.hid (HW.out.call hb)
    clear hb
    go_wp2_with fail
    exact HRR.out _ HW2.out
  case hnp => rfl
  case hv => first | exact ⟨_, fun _ => rfl⟩ | exact ⟨undef, fun _ => rfl⟩
  apply obl_det
  case hrun =>
    intro D y wz hW hD R hR
    have HRR := Lib.hid hR
    clear hR
    have HW := Lib.hid hW
    have h1 := HW.out.cell 1 rfl 0
    have h2 := HW.out.cell 1 rfl 1
    clear hW hD
    go_wp2_with fail
    exact HRR.out _ HW.out
  case hnp => rfl
  case hv => first | exact ⟨_, fun _ => rfl⟩ | exact ⟨undef, fun _ => rfl⟩
  apply obl_det
  case hrun =>
    intro D y wz hW hD R hR
    have HRR := Lib.hid hR
    clear hR
    have HW := Lib.hid hW
    clear hW hD
    go_wp2_with fail
    refine (HY _).out.mono ?_
    rintro e w' ⟨rfl, hb⟩
    have HW2 := Lib.hid (HW.out.call hb)
    clear hb
    go_wp2_with fail
    exact HRR.out _ HW2.out
  case hnp => rfl
  case hv => first | exact ⟨_, fun _ => rfl⟩ | exact ⟨undef, fun _ => rfl⟩
  apply obl_det
  case hrun =>
    intro D y wz hW hD R hR
    have HRR := Lib.hid hR
    clear hR
    have HW := Lib.hid hW
    clear hW hD
    go_wp2_with fail
    exact HRR.out _ HW.out
  case hnp => rfl
  case hv => first | exact ⟨_, fun _ => rfl⟩ | exact ⟨undef, fun _ => rfl⟩
  apply obl_det
  case hrun =>
    intro D y wz hW hD R hR
    have HRR := Lib.hid hR
    clear hR
    have HW := Lib.hid hW
    clear hW hD
    go_wp2_with fail
    exact HRR.out _ HW.out
  case hnp => rfl
  case hv => first | exact ⟨_, fun _ => rfl⟩ | exact ⟨undef, fun _ => rfl⟩
  apply obl_nil
  intro D y w8 hall hW
  have HB := Lib.hid hW.bel
  clear hall hW C0 HX HY
  by_cases h7 : E1 = 7
  · have e : T = 7 := by rw [← HTT.out, h7]; simp [twoE]
    subst h7
    go_wp2_with fail
    go_ret
    exact ⟨by rw [e]; rfl, HB.out⟩
  have h7b : (E1 == 7) = false := by simpa using h7
  by_cases h8 : E2 = 7
  · have e : T = 7 := by rw [← HTT.out, h8]; simp [twoE]
    subst h8
    clear h7
    go_wp2_with fail
    go_ret
    exact ⟨by rw [e]; rfl, HB.out⟩
  have h8b : (E2 == 7) = false := by simpa using h8
  by_cases h0 : E1 = 0
  · have e : Hid (T = E2) := by unfold Hid; rw [← HTT.out, h0]; unfold twoE; rw [if_neg (by simp [h8]), if_neg (by simp)]
    subst h0
    clear h7 h8 h7b
    go_wp2_with fail
    go_ret
    exact ⟨by rw [e.out]; rfl, HB.out⟩
  · have h0b : (E1 != 0) = true := by simpa using h0
    have e : Hid (T = E1) := by unfold Hid; rw [← HTT.out]; unfold twoE; rw [if_neg (by simp [h7, h8]), if_pos h0]
    clear h7 h8 h0
    go_wp2_with fail
    go_ret
    exact ⟨by rw [e.out]; rfl, HB.out⟩
theorem next_pt {p : Nat → Prop} {k : Nat} (h : ∀ i, i < k → p i) (hk : p k) : ∀ i, i < k + 1 → p i := nextU_all h hk
theorem next_inc {c : List (Int × Int)} {i : Nat} (h : ∀ j, j + 1 < i → (c.getD j (0, 0)).1 < (c.getD (j + 1) (0, 0)).1) (hi : ∀ j, j + 1 = i → (c.getD j (0, 0)).1 < (c.getD (j + 1) (0, 0)).1) : ∀ j, j + 1 < i + 1 → (c.getD j (0, 0)).1 < (c.getD (j + 1) (0, 0)).1 := fun j hj => by
  by_cases e : j + 1 = i
  · exact hi j e
  · exact h j (by omega)
set_option maxRecDepth 100000 in
set_option maxHeartbeats 8000000 in
theorem curve2_ref (c : List (Int × Int)) (v : Value) (w : World) (hv : SpansIn w.heap.size w v c) :
    Calls Tryz.prog 14 #[v] w fun e w' => ∃ E : Int, e = .returned (.int .i64 E) ∧ (E = 0 → CurOk c) ∧ Below w.heap.size w w' := by
  obtain ⟨a, cap, rfl, -, hlm⟩ := sl_shape hv
  have HV := Lib.hid hv
  have HB0 : Hid (Below w.heap.size w w) := Below.refl _ _
  clear hv
  by_cases hl : 6 < c.length
  · have h6 : decide ((6 : Int) < (c.length : Int)) = true := by simp; omega
    go_enter Tryz.func14, Tryz.ntmps14
    go_wp2_with fail
    go_ret
    exact ⟨_, rfl, fun h => absurd h (by decide), HB0.out⟩
  have h6 : decide ((6 : Int) < (c.length : Int)) = false := by simp; omega
  go_enter Tryz.func14, Tryz.ntmps14
  go_wp2_with fail
  clear h6
  go_loopw [3] (fun iv wr => ∃ i : Nat, iv = .int .i64 i ∧ i ≤ c.length ∧ Below w.heap.size w wr ∧ (∀ j, j < i → 0 ≤ (c.getD j (0, 0)).1 ∧ (c.getD j (0, 0)).1 ≤ 20 ∧ -300 ≤ (c.getD j (0, 0)).2 ∧ (c.getD j (0, 0)).2 ≤ 300) ∧ ∀ j, j + 1 < i → (c.getD j (0, 0)).1 < (c.getD (j + 1) (0, 0)).1) (fun iv _ => c.length - (intOf iv).toNat)
  case atStart => exact ⟨0, rfl, by omega, HB0.out, fun j hj => absurd hj (by omega), fun j hj => absurd hj (by omega)⟩
  case round =>
    clear HB0
    obtain ⟨i, rfl, hi, hb, hp, hc⟩ := hrel
    have HB := Lib.hid hb
    have HP := Lib.hid hp
    have HC := Lib.hid hc
    clear hb hp hc
    by_cases hil : i < c.length
    · have hii : (i : Int) < (c.length : Int) := by omega
      obtain ⟨b, o, rfl, hbl, hx1, hx2⟩ := HV.out.at' hil
      have hb1 : b < wr.heap.size := Nat.lt_of_lt_of_le hbl HB.out.size
      obtain ⟨p1, HP1⟩ : ∃ z, Hid ((c.getD i (0, 0)).1 = z) := ⟨_, rfl⟩
      obtain ⟨p2, HP2⟩ : ∃ z, Hid ((c.getD i (0, 0)).2 = z) := ⟨_, rfl⟩
      have hy1 : wr.cell? ⟨b, o + i * 2, none⟩ = some (.int .i64 p1) := by rw [← HP1.out]; exact (HB.out.cell (p := ⟨b, o + i * 2, none⟩) hbl).trans hx1
      have hy2 : wr.cell? ⟨b, o + i * 2 + 1, none⟩ = some (.int .i64 p2) := by rw [← HP2.out]; exact (HB.out.cell (p := ⟨b, o + i * 2 + 1, none⟩) hbl).trans hx2
      obtain ⟨r1, hr1⟩ : ∃ r, inB p1 0 20 = r := ⟨_, rfl⟩
      obtain ⟨r2, hr2⟩ : ∃ r, inB p2 (-300) 300 = r := ⟨_, rfl⟩
      have HR1 := Lib.hid hr1
      have HR2 := Lib.hid hr2
      have HY1 := Lib.hid hy1
      have HB1 := Lib.hid hb1
      have HII := Lib.hid hii
      clear hr1 hr2 hx1 hx2
      go_wp2_with fail
      refine (in2_r r1 _ _ _ _ HR1.out).mono ?_
      rintro e w' ⟨rfl, rfl⟩
      cases r1
      · go_wp2_with fail
        go_ret
        exact ⟨_, rfl, fun h => absurd h (by decide), HB.out⟩
      go_wp2_with fail
      refine (in2_r r2 _ _ _ _ HR2.out).mono ?_
      rintro e w' ⟨rfl, rfl⟩
      cases r2
      · go_wp2_with fail
        go_ret
        exact ⟨_, rfl, fun h => absurd h (by decide), HB.out⟩
      have HPI : Hid (0 ≤ (c.getD i (0, 0)).1 ∧ (c.getD i (0, 0)).1 ≤ 20 ∧ -300 ≤ (c.getD i (0, 0)).2 ∧ (c.getD i (0, 0)).2 ≤ 300) := by have h1 := HR1.out; have h2 := HR2.out; unfold inB at h1 h2; rw [Bool.and_eq_true, decide_eq_true_eq, decide_eq_true_eq] at h1 h2; unfold Hid; rw [HP1.out, HP2.out]; omega
      clear hy1 hy2 hbl hb1
      go_wp2_with fail
      by_cases h0 : i = 0
      · have HQ : Hid (∀ j, j + 1 = i → (c.getD j (0, 0)).1 < (c.getD (j + 1) (0, 0)).1) := fun j hj => by omega
        subst h0
        refine wp_region_inv0 (by kernel_rfl) (by kernel_rfl) (fun D w' => Below wr.heap.size wr w') (Below.refl _ _).drew ?_
        apply obl_det
        case hrun =>
          intro D y wz hW hD R hR
          have HRR := Lib.hid hR
          clear hR
          have HW := Lib.hid hW
          clear hW hD
          go_wp2_with fail
          exact HRR.out _ HW.out
        case hnp => rfl
        case hv => first | exact ⟨_, fun _ => rfl⟩ | exact ⟨undef, fun _ => rfl⟩
        apply obl_det
        case hrun =>
          intro D y wz hW hD R hR
          have HRR := Lib.hid hR
          clear hR
          have HW := Lib.hid hW
          clear hW hD
          go_wp2_with fail
          exact HRR.out _ HW.out
        case hnp => rfl
        case hv => first | exact ⟨_, fun _ => rfl⟩ | exact ⟨undef, fun _ => rfl⟩
        apply obl_det
        case hrun =>
          intro D y wz hW hD R hR
          have HRR := Lib.hid hR
          clear hR
          have HW := Lib.hid hW
          clear hW hD
          go_wp2_with fail
          exact HRR.out _ HW.out
        case hnp => rfl
        case hv => first | exact ⟨_, fun _ => rfl⟩ | exact ⟨undef, fun _ => rfl⟩
        apply obl_det
        case hrun =>
          intro D y wz hW hD R hR
          have HRR := Lib.hid hR
          clear hR
          have HW := Lib.hid hW
          clear hW hD
          go_wp2_with fail
          exact HRR.out _ HW.out
        case hnp => rfl
        case hv => first | exact ⟨_, fun _ => rfl⟩ | exact ⟨undef, fun _ => rfl⟩
        apply obl_det
        case hrun =>
          intro D y wz hW hD R hR
          have HRR := Lib.hid hR
          clear hR
          have HW := Lib.hid hW
          clear hW hD
          go_wp2_with fail
          exact HRR.out _ HW.out
        case hnp => rfl
        case hv => first | exact ⟨_, fun _ => rfl⟩ | exact ⟨undef, fun _ => rfl⟩
        apply obl_det
        case hrun =>
          intro D y wz hW hD R hR
          have HRR := Lib.hid hR
          clear hR
          have HW := Lib.hid hW
          clear hW hD
          go_wp2_with fail
          exact HRR.out _ HW.out
        case hnp => rfl
        case hv => first | exact ⟨_, fun _ => rfl⟩ | exact ⟨undef, fun _ => rfl⟩
        apply obl_det
        case hrun =>
          intro D y wz hW hD R hR
          have HRR := Lib.hid hR
          clear hR
          have HW := Lib.hid hW
          clear hW hD
          go_wp2_with fail
          exact HRR.out _ HW.out
        case hnp => rfl
        case hv => first | exact ⟨_, fun _ => rfl⟩ | exact ⟨undef, fun _ => rfl⟩
        apply obl_det
        case hrun =>
          intro D y wz hW hD R hR
          have HRR := Lib.hid hR
          clear hR
          have HW := Lib.hid hW
          clear hW hD
          go_wp2_with fail
          exact HRR.out _ HW.out
        case hnp => rfl
        case hv => first | exact ⟨_, fun _ => rfl⟩ | exact ⟨undef, fun _ => rfl⟩
        apply obl_det
        case hrun =>
          intro D y wz hW hD R hR
          have HRR := Lib.hid hR
          clear hR
          have HW := Lib.hid hW
          clear hW hD
          go_wp2_with fail
          exact HRR.out _ HW.out
        case hnp => rfl
        case hv => first | exact ⟨_, fun _ => rfl⟩ | exact ⟨undef, fun _ => rfl⟩
        apply obl_det
        case hrun =>
          intro D y wz hW hD R hR
          have HRR := Lib.hid hR
          clear hR
          have HW := Lib.hid hW
          clear hW hD
          go_wp2_with fail
          exact HRR.out _ HW.out
        case hnp => rfl
        case hv => first | exact ⟨_, fun _ => rfl⟩ | exact ⟨undef, fun _ => rfl⟩
        apply obl_det
        case hrun =>
          intro D y wz hW hD R hR
          have HRR := Lib.hid hR
          clear hR
          have HW := Lib.hid hW
          clear hW hD
          go_wp2_with fail
          exact HRR.out _ HW.out
        case hnp => rfl
        case hv => first | exact ⟨_, fun _ => rfl⟩ | exact ⟨undef, fun _ => rfl⟩
        apply obl_det
        case hrun =>
          intro D y wz hW hD R hR
          have HRR := Lib.hid hR
          clear hR
          have HW := Lib.hid hW
          clear hW hD
          go_wp2_with fail
          exact HRR.out _ HW.out
        case hnp => rfl
        case hv => first | exact ⟨_, fun _ => rfl⟩ | exact ⟨undef, fun _ => rfl⟩
        apply obl_det
        case hrun =>
          intro D y wz hW hD R hR
          have HRR := Lib.hid hR
          clear hR
          have HW := Lib.hid hW
          clear hW hD
          go_wp2_with fail
          exact HRR.out _ HW.out
        case hnp => rfl
        case hv => first | exact ⟨_, fun _ => rfl⟩ | exact ⟨undef, fun _ => rfl⟩
        apply obl_det
        case hrun =>
          intro D y wz hW hD R hR
          have HRR := Lib.hid hR
          clear hR
          have HW := Lib.hid hW
          clear hW hD
          go_wp2_with fail
          exact HRR.out _ HW.out
        case hnp => rfl
        case hv => first | exact ⟨_, fun _ => rfl⟩ | exact ⟨undef, fun _ => rfl⟩
        apply obl_det
        case hrun =>
          intro D y wz hW hD R hR
          have HRR := Lib.hid hR
          clear hR
          have HW := Lib.hid hW
          clear hW hD
          go_wp2_with fail
          exact HRR.out _ HW.out
        case hnp => rfl
        case hv => first | exact ⟨_, fun _ => rfl⟩ | exact ⟨undef, fun _ => rfl⟩
        apply obl_det
        case hrun =>
          intro D y wz hW hD R hR
          have HRR := Lib.hid hR
          clear hR
          have HW := Lib.hid hW
          clear hW hD
          go_wp2_with fail
          exact HRR.out _ HW.out
        case hnp => rfl
        case hv => first | exact ⟨_, fun _ => rfl⟩ | exact ⟨undef, fun _ => rfl⟩
        apply obl_nil
        intro D y w8 hall hW
        have HB := Lib.hid (HB.out.trans (hW.mono HB.out.size))
        clear hall hW
        go_wp2_with fail
        refine ⟨⟨0 + 1, by push_cast; rfl, by omega, HB.out, next_pt HP.out HPI.out, next_inc HC.out HQ.out⟩, ?_⟩
        simp [intOf]; omega
      · obtain ⟨j, hj⟩ : ∃ j, i = j + 1 := ⟨i - 1, by omega⟩
        have HIJ : Hid ((i : Int) - 1 = (j : Int)) := by unfold Hid; omega
        have HJI : Hid ((j : Int) < (c.length : Int)) := by unfold Hid; omega
        have HGN : Hid (0 < i) := by unfold Hid; omega
        have HGZ : Hid ((0 : Int) < (i : Int)) := by unfold Hid; omega
        obtain ⟨b', o', he, hbl, hx1, -⟩ := HV.out.at' (i := j) (by omega)
        cases he
        obtain ⟨q1, HQ1⟩ : ∃ z, Hid ((c.getD j (0, 0)).1 = z) := ⟨_, rfl⟩
        have HZ1 : Hid (wr.cell? ⟨b, o + j * 2, none⟩ = some (.int .i64 q1)) := by unfold Hid; rw [← HQ1.out]; exact (HB.out.cell (p := ⟨b, o + j * 2, none⟩) hbl).trans hx1
        have HJ := Lib.hid hj
        clear hx1 hbl hj
        by_cases hle : p1 ≤ q1
        · have HLE : Hid (decide (p1 ≤ q1) = true) := by unfold Hid; simpa using hle
          clear hle h0
          refine wp_region_inv0 (by kernel_rfl) (by kernel_rfl) (fun D w' => Below wr.heap.size wr w') (Below.refl _ _).drew ?_
          apply obl_det
          case hrun =>
            intro D y wz hW hD R hR
            have HRR := Lib.hid hR
            clear hR
            have HW := Lib.hid hW
            clear hW hD
            go_wp2_with fail
            exact HRR.out _ HW.out
          case hnp => rfl
          case hv => first | exact ⟨_, fun _ => rfl⟩ | exact ⟨undef, fun _ => rfl⟩
          apply obl_det
          case hrun =>
            intro D y wz hW hD R hR
            have HRR := Lib.hid hR
            clear hR
            have HW := Lib.hid hW
            have h1 := HGN.out
            have h2 := HGZ.out
            clear hW hD
            go_wp2_with fail
            exact HRR.out _ HW.out
          case hnp => rfl
          case hv => first | exact ⟨_, fun _ => rfl⟩ | exact ⟨undef, fun _ => rfl⟩
          apply obl_det
          case hrun =>
            intro D y wz hW hD R hR
            have HRR := Lib.hid hR
            clear hR
            have HW := Lib.hid hW
            clear hW hD
            go_wp2_with fail
            exact HRR.out _ HW.out
          case hnp => rfl
          case hv => first | exact ⟨_, fun _ => rfl⟩ | exact ⟨undef, fun _ => rfl⟩
          apply obl_det
          case hrun =>
            intro D y wz hW hD R hR
            have HRR := Lib.hid hR
            clear hR
            have HW := Lib.hid hW
            clear hW hD
            go_wp2_with fail
            exact HRR.out _ HW.out
          case hnp => rfl
          case hv => first | exact ⟨_, fun _ => rfl⟩ | exact ⟨undef, fun _ => rfl⟩
          apply obl_det
          case hrun =>
            intro D y wz hW hD R hR
            have HRR := Lib.hid hR
            clear hR
            have HW := Lib.hid hW
            clear hW hD
            go_wp2_with fail
            exact HRR.out _ HW.out
          case hnp => rfl
          case hv => first | exact ⟨_, fun _ => rfl⟩ | exact ⟨undef, fun _ => rfl⟩
          apply obl_det
          case hrun =>
            intro D y wz hW hD R hR
            have HRR := Lib.hid hR
            clear hR
            have HW := Lib.hid hW
            have h1 := HII.out
            clear hW hD
            go_wp2_with fail
            exact HRR.out _ HW.out
          case hnp => rfl
          case hv => first | exact ⟨_, fun _ => rfl⟩ | exact ⟨undef, fun _ => rfl⟩
          apply obl_det
          case hrun =>
            intro D y wz hW hD R hR
            have HRR := Lib.hid hR
            clear hR
            have HW := Lib.hid hW
            clear hW hD
            go_wp2_with fail
            exact HRR.out _ HW.out
          case hnp => rfl
          case hv => first | exact ⟨_, fun _ => rfl⟩ | exact ⟨undef, fun _ => rfl⟩
          apply obl_det
          case hrun =>
            intro D y wz hW hD R hR
            have HRR := Lib.hid hR
            clear hR
            have HW := Lib.hid hW
            have h1 := (HW.out.cell (p := ⟨b, o + i * 2, none⟩) HB1.out).trans HY1.out
            clear hW hD
            go_wp2_with fail
            exact HRR.out _ HW.out
          case hnp => rfl
          case hv => first | exact ⟨_, fun _ => rfl⟩ | exact ⟨undef, fun _ => rfl⟩
          apply obl_det
          case hrun =>
            intro D y wz hW hD R hR
            have HRR := Lib.hid hR
            clear hR
            have HW := Lib.hid hW
            clear hW hD
            go_wp2_with fail
            exact HRR.out _ HW.out
          case hnp => rfl
          case hv => first | exact ⟨_, fun _ => rfl⟩ | exact ⟨undef, fun _ => rfl⟩
          apply obl_det
          case hrun =>
            intro D y wz hW hD R hR
            have HRR := Lib.hid hR
            clear hR
            have HW := Lib.hid hW
            clear hW hD
            go_wp2_with fail
            exact HRR.out _ HW.out
          case hnp => rfl
          case hv => first | exact ⟨_, fun _ => rfl⟩ | exact ⟨undef, fun _ => rfl⟩
          apply obl_det
          case hrun =>
            intro D y wz hW hD R hR
            have HRR := Lib.hid hR
            clear hR
            have HW := Lib.hid hW
            clear hW hD
            go_wp2_with fail
            rw [HIJ.out]
            exact HRR.out _ HW.out
          case hnp => rfl
          case hv => first | exact ⟨_, fun _ => rfl⟩ | exact ⟨undef, fun _ => rfl⟩
          apply obl_det
          case hrun =>
            intro D y wz hW hD R hR
            have HRR := Lib.hid hR
            clear hR
            have HW := Lib.hid hW
            have h1 := HJI.out
            clear hW hD
            go_wp2_with fail
            exact HRR.out _ HW.out
          case hnp => rfl
          case hv => first | exact ⟨_, fun _ => rfl⟩ | exact ⟨undef, fun _ => rfl⟩
          apply obl_det
          case hrun =>
            intro D y wz hW hD R hR
            have HRR := Lib.hid hR
            clear hR
            have HW := Lib.hid hW
            clear hW hD
            go_wp2_with fail
            exact HRR.out _ HW.out
          case hnp => rfl
          case hv => first | exact ⟨_, fun _ => rfl⟩ | exact ⟨undef, fun _ => rfl⟩
          apply obl_det
          case hrun =>
            intro D y wz hW hD R hR
            have HRR := Lib.hid hR
            clear hR
            have HW := Lib.hid hW
            have h1 := (HW.out.cell (p := ⟨b, o + j * 2, none⟩) HB1.out).trans HZ1.out
            clear hW hD
            go_wp2_with fail
            exact HRR.out _ HW.out
          case hnp => rfl
          case hv => first | exact ⟨_, fun _ => rfl⟩ | exact ⟨undef, fun _ => rfl⟩
          apply obl_det
          case hrun =>
            intro D y wz hW hD R hR
            have HRR := Lib.hid hR
            clear hR
            have HW := Lib.hid hW
            clear hW hD
            go_wp2_with fail
            simp only [HLE.out]
            exact HRR.out _ HW.out
          case hnp => rfl
          case hv => first | exact ⟨_, fun _ => rfl⟩ | exact ⟨undef, fun _ => rfl⟩
          apply obl_det
          case hrun =>
            intro D y wz hW hD R hR
            have HRR := Lib.hid hR
            clear hR
            have HW := Lib.hid hW
            clear hW hD
            go_wp2_with fail
            exact HRR.out _ HW.out
          case hnp => rfl
          case hv => first | exact ⟨_, fun _ => rfl⟩ | exact ⟨undef, fun _ => rfl⟩
          apply obl_nil
          intro D y w8 hall hW
          have HB := Lib.hid (HB.out.trans (hW.mono HB.out.size))
          clear hall hW
          go_wp2_with fail
          go_ret
          exact ⟨_, rfl, fun h => absurd h (by decide), HB.out⟩
        · have HLE : Hid (decide (p1 ≤ q1) = false) := by unfold Hid; simpa using hle
          have HQ : Hid (∀ j, j + 1 = i → (c.getD j (0, 0)).1 < (c.getD (j + 1) (0, 0)).1) := fun j' hj' => by
            have e : j' = j := by have := HJ.out; omega
            subst e
            rw [hj', HP1.out, HQ1.out]
            omega
          clear hle h0
          refine wp_region_inv0 (by kernel_rfl) (by kernel_rfl) (fun D w' => Below wr.heap.size wr w') (Below.refl _ _).drew ?_
          apply obl_det
          case hrun =>
            intro D y wz hW hD R hR
            have HRR := Lib.hid hR
            clear hR
            have HW := Lib.hid hW
            clear hW hD
            go_wp2_with fail
            exact HRR.out _ HW.out
          case hnp => rfl
          case hv => first | exact ⟨_, fun _ => rfl⟩ | exact ⟨undef, fun _ => rfl⟩
          apply obl_det
          case hrun =>
            intro D y wz hW hD R hR
            have HRR := Lib.hid hR
            clear hR
            have HW := Lib.hid hW
            have h1 := HGN.out
            have h2 := HGZ.out
            clear hW hD
            go_wp2_with fail
            exact HRR.out _ HW.out
          case hnp => rfl
          case hv => first | exact ⟨_, fun _ => rfl⟩ | exact ⟨undef, fun _ => rfl⟩
          apply obl_det
          case hrun =>
            intro D y wz hW hD R hR
            have HRR := Lib.hid hR
            clear hR
            have HW := Lib.hid hW
            clear hW hD
            go_wp2_with fail
            exact HRR.out _ HW.out
          case hnp => rfl
          case hv => first | exact ⟨_, fun _ => rfl⟩ | exact ⟨undef, fun _ => rfl⟩
          apply obl_det
          case hrun =>
            intro D y wz hW hD R hR
            have HRR := Lib.hid hR
            clear hR
            have HW := Lib.hid hW
            clear hW hD
            go_wp2_with fail
            exact HRR.out _ HW.out
          case hnp => rfl
          case hv => first | exact ⟨_, fun _ => rfl⟩ | exact ⟨undef, fun _ => rfl⟩
          apply obl_det
          case hrun =>
            intro D y wz hW hD R hR
            have HRR := Lib.hid hR
            clear hR
            have HW := Lib.hid hW
            clear hW hD
            go_wp2_with fail
            exact HRR.out _ HW.out
          case hnp => rfl
          case hv => first | exact ⟨_, fun _ => rfl⟩ | exact ⟨undef, fun _ => rfl⟩
          apply obl_det
          case hrun =>
            intro D y wz hW hD R hR
            have HRR := Lib.hid hR
            clear hR
            have HW := Lib.hid hW
            have h1 := HII.out
            clear hW hD
            go_wp2_with fail
            exact HRR.out _ HW.out
          case hnp => rfl
          case hv => first | exact ⟨_, fun _ => rfl⟩ | exact ⟨undef, fun _ => rfl⟩
          apply obl_det
          case hrun =>
            intro D y wz hW hD R hR
            have HRR := Lib.hid hR
            clear hR
            have HW := Lib.hid hW
            clear hW hD
            go_wp2_with fail
            exact HRR.out _ HW.out
          case hnp => rfl
          case hv => first | exact ⟨_, fun _ => rfl⟩ | exact ⟨undef, fun _ => rfl⟩
          apply obl_det
          case hrun =>
            intro D y wz hW hD R hR
            have HRR := Lib.hid hR
            clear hR
            have HW := Lib.hid hW
            have h1 := (HW.out.cell (p := ⟨b, o + i * 2, none⟩) HB1.out).trans HY1.out
            clear hW hD
            go_wp2_with fail
            exact HRR.out _ HW.out
          case hnp => rfl
          case hv => first | exact ⟨_, fun _ => rfl⟩ | exact ⟨undef, fun _ => rfl⟩
          apply obl_det
          case hrun =>
            intro D y wz hW hD R hR
            have HRR := Lib.hid hR
            clear hR
            have HW := Lib.hid hW
            clear hW hD
            go_wp2_with fail
            exact HRR.out _ HW.out
          case hnp => rfl
          case hv => first | exact ⟨_, fun _ => rfl⟩ | exact ⟨undef, fun _ => rfl⟩
          apply obl_det
          case hrun =>
            intro D y wz hW hD R hR
            have HRR := Lib.hid hR
            clear hR
            have HW := Lib.hid hW
            clear hW hD
            go_wp2_with fail
            exact HRR.out _ HW.out
          case hnp => rfl
          case hv => first | exact ⟨_, fun _ => rfl⟩ | exact ⟨undef, fun _ => rfl⟩
          apply obl_det
          case hrun =>
            intro D y wz hW hD R hR
            have HRR := Lib.hid hR
            clear hR
            have HW := Lib.hid hW
            clear hW hD
            go_wp2_with fail
            rw [HIJ.out]
            exact HRR.out _ HW.out
          case hnp => rfl
          case hv => first | exact ⟨_, fun _ => rfl⟩ | exact ⟨undef, fun _ => rfl⟩
          apply obl_det
          case hrun =>
            intro D y wz hW hD R hR
            have HRR := Lib.hid hR
            clear hR
            have HW := Lib.hid hW
            have h1 := HJI.out
            clear hW hD
            go_wp2_with fail
            exact HRR.out _ HW.out
          case hnp => rfl
          case hv => first | exact ⟨_, fun _ => rfl⟩ | exact ⟨undef, fun _ => rfl⟩
          apply obl_det
          case hrun =>
            intro D y wz hW hD R hR
            have HRR := Lib.hid hR
            clear hR
            have HW := Lib.hid hW
            clear hW hD
            go_wp2_with fail
            exact HRR.out _ HW.out
          case hnp => rfl
          case hv => first | exact ⟨_, fun _ => rfl⟩ | exact ⟨undef, fun _ => rfl⟩
          apply obl_det
          case hrun =>
            intro D y wz hW hD R hR
            have HRR := Lib.hid hR
            clear hR
            have HW := Lib.hid hW
            have h1 := (HW.out.cell (p := ⟨b, o + j * 2, none⟩) HB1.out).trans HZ1.out
            clear hW hD
            go_wp2_with fail
            exact HRR.out _ HW.out
          case hnp => rfl
          case hv => first | exact ⟨_, fun _ => rfl⟩ | exact ⟨undef, fun _ => rfl⟩
          apply obl_det
          case hrun =>
            intro D y wz hW hD R hR
            have HRR := Lib.hid hR
            clear hR
            have HW := Lib.hid hW
            clear hW hD
            go_wp2_with fail
            simp only [HLE.out]
            exact HRR.out _ HW.out
          case hnp => rfl
          case hv => first | exact ⟨_, fun _ => rfl⟩ | exact ⟨undef, fun _ => rfl⟩
          apply obl_det
          case hrun =>
            intro D y wz hW hD R hR
            have HRR := Lib.hid hR
            clear hR
            have HW := Lib.hid hW
            clear hW hD
            go_wp2_with fail
            exact HRR.out _ HW.out
          case hnp => rfl
          case hv => first | exact ⟨_, fun _ => rfl⟩ | exact ⟨undef, fun _ => rfl⟩
          apply obl_nil
          intro D y w8 hall hW
          have HB := Lib.hid (HB.out.trans (hW.mono HB.out.size))
          clear hall hW
          go_wp2_with fail
          refine ⟨⟨i + 1, by push_cast; rfl, by omega, HB.out, next_pt HP.out HPI.out, next_inc HC.out HQ.out⟩, ?_⟩
          simp [intOf]; omega
    · obtain rfl : i = c.length := by omega
      go_wp2_with fail
      go_ret
      exact ⟨_, rfl, fun _ => ⟨by omega, HP.out, HC.out⟩, HB.out⟩
end Go.Proofs.YtohglbfeahofhaaGreat
