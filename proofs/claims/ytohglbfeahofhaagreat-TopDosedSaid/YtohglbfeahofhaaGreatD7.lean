/- blend.down, curve.reached, and the search of a point. -/
import Derived.Test.YtohglbfeahofhaaGreatD2
import Derived.Test.YtohglbfeahofhaaGreatK3
import Derived.Test.YtohglbfeahofhaaGreatG1
namespace Go.Proofs.YtohglbfeahofhaaGreat
open Go.RowKit
def reachB (c : List (Int × Int)) (n : Int) (i : Nat) : Bool := decide (n ≤ (c.getD i (0, 0)).1)
/-- The first point with at least so many parts. -/
def reachV : List (Int × Int) → Int → Nat
  | [], _ => 0
  | p :: ps, n => if n ≤ p.1 then 0 else reachV ps n + 1
theorem reach_spec (n : Int) : ∀ (c : List (Int × Int)) (k : Nat), k ≤ c.length → (∀ x, x < k → reachB c n x = false) → (k < c.length → reachB c n k = true) → reachV c n = k
  | [], k, h1, _, _ => by simp at h1; simp [reachV, h1]
  | p :: ps, k, h1, h2, h3 => by
    cases k with
    | zero =>
      have h := h3 (by simp)
      have h : n ≤ p.1 := by simpa [reachB] using h
      rw [reachV, if_pos h]
    | succ k =>
      have h0 := h2 0 (by omega)
      have h0 : ¬ n ≤ p.1 := by simpa [reachB] using h0
      rw [reachV, if_neg h0, reach_spec n ps k (by simpa using h1) (fun x hx => by have := h2 (x + 1) (by omega); simpa [reachB] using this) (fun hk => by have := h3 (by simpa using hk); simpa [reachB] using this)]
theorem cur_mono {c : List (Int × Int)} (hc : ∀ j, j + 1 < c.length → (c.getD j (0, 0)).1 < (c.getD (j + 1) (0, 0)).1) {i : Nat} : ∀ d, i + d < c.length → (c.getD i (0, 0)).1 ≤ (c.getD (i + d) (0, 0)).1
  | 0, _ => Int.le_refl _
  | d + 1, h => by
    have h1 := cur_mono hc (i := i) d (by omega)
    have h2 := hc (i + d) (by omega)
    rw [← Nat.add_assoc]
    omega
theorem reach_mono {c : List (Int × Int)} (hc : ∀ j, j + 1 < c.length → (c.getD j (0, 0)).1 < (c.getD (j + 1) (0, 0)).1) {n : Int} {i j : Nat} (hij : i ≤ j) (hj : j < c.length) (h : reachB c n i = true) : reachB c n j = true := by
  unfold reachB at h ⊢
  rw [decide_eq_true_eq] at h ⊢
  have := cur_mono hc (i := i) (j - i) (by omega)
  rw [Nat.add_sub_cancel' hij] at this
  omega
theorem down_facts (a b : Int) (hb : 1 ≤ b) (ha : -1000000000000 ≤ a ∧ a ≤ 1000000000000) : (a.tmod b < 0 → wrap64 (a.tdiv b - 1) = a / b) ∧ (0 ≤ a.tmod b → a.tdiv b = a / b) := by
  by_cases h : 0 ≤ a
  · have e := Int.tdiv_eq_ediv_of_nonneg (a := a) (b := b) h
    have e2 := Int.tmod_eq_emod_of_nonneg (a := a) (b := b) h
    have h3 := Int.emod_nonneg a (show b ≠ 0 by omega)
    exact ⟨fun h' => by rw [e2] at h'; omega, fun _ => e⟩
  · have e1 : a.tdiv b = -((-a) / b) := by
      have := Int.neg_tdiv (-a) b
      rw [Int.neg_neg] at this
      rw [this, Int.tdiv_eq_ediv_of_nonneg (by omega)]
    have h1 := Int.mul_tdiv_add_tmod a b
    have h2 := Int.mul_ediv_add_emod (-a) b
    have h3 := Int.emod_nonneg (-a) (show b ≠ 0 by omega)
    have h4 := Int.emod_lt_of_pos (-a) (show 0 < b by omega)
    have h5 : (-a) / b ≤ -a := Int.ediv_le_self b (by omega)
    have h6 : 0 ≤ (-a) / b := Int.ediv_nonneg (by omega) (by omega)
    rw [e1, Int.mul_neg] at h1
    rw [e1]
    generalize (-a) / b = q at *
    generalize (-a) % b = r at *
    generalize a.tmod b = m at *
    refine ⟨fun hm => ?_, fun hm => ?_⟩
    · rw [wrapU (by omega)]
      have e : b * (-q - 1) = -(b * q) - b := by rw [Int.mul_sub, Int.mul_neg, Int.mul_one]
      exact ((Int.ediv_emod_unique (show 0 < b by omega) (r := b - r) (q := -q - 1)).2 ⟨by rw [e]; omega, by omega, by omega⟩).1.symm
    · have e : b * (-q) = -(b * q) := Int.mul_neg b q
      exact ((Int.ediv_emod_unique (show 0 < b by omega) (r := 0) (q := -q)).2 ⟨by rw [e]; omega, by omega, by omega⟩).1.symm
theorem down_ok (a b : Int) (hb : 1 ≤ b ∧ b ≤ 1000000000) (ha : -1000000000000 ≤ a ∧ a ≤ 1000000000000) (w : World) : Calls Tryz.prog 58 #[.int .i64 a, .int .i64 b] w fun e w' => e = .returned (.int .i64 (a / b)) ∧ w = w' := by
  have HF := Lib.hid (down_facts a b hb.1 ha)
  go_enter Tryz.func58, Tryz.ntmps58
  go_wp2_with fail
  · rename_i h
    go_ret
    exact ⟨ret_int (HF.out.1 h), rfl⟩
  · rename_i h
    go_ret
    exact ⟨ret_int (HF.out.2 h), rfl⟩
set_option maxHeartbeats 4000000 in
theorem reached_r (r : Bool) (c : List (Int × Int)) (n : Int) (i : Nat) (hi : i < c.length) (hr : reachB c n i = r) (v : Value) (w : World) (hv : SpansIn w.heap.size w v c) :
    Calls Tryz.prog 81 #[.agg #[v, .int .i64 n], .int .i64 i] w fun e w' => e = .returned (.bool r) ∧ Below w.heap.size w w' := by
  obtain ⟨a, cap, rfl, -, -⟩ := sl_shape hv
  have HV := Lib.hid hv
  have hii : (i : Int) < (c.length : Int) := by omega
  have HII := Lib.hid hii
  obtain ⟨b, o, rfl, hbl, hx1, -⟩ := hv.at' hi
  obtain ⟨p, HP⟩ : ∃ z, Hid ((c.getD i (0, 0)).1 = z) := ⟨_, rfl⟩
  have HX : Hid (w.cell? ⟨b, o + i * 2, none⟩ = some (.int .i64 p)) := by unfold Hid; rw [← HP.out]; exact hx1
  have HR : Hid (decide (n ≤ p) = r) := by unfold Hid; rw [← HP.out]; exact hr
  have HBL := Lib.hid hbl
  clear hv hr hx1 hbl hii
  have C0 : Hid (Bs w [(w.heap.size, .cells #[.slice (some ⟨b, o, none⟩) c.length cap, .int .i64 n] 110)] _) := Lib.hid ((Bs.nil w).push _ rfl (.cells #[.slice (some ⟨b, o, none⟩) c.length cap, .int .i64 n] 110))
  go_enter Tryz.func81, Tryz.ntmps81
  go_wp2_with fail
  refine wp_region_inv0 (by kernel_rfl) (by kernel_rfl) (fun D w' => Bs w [(w.heap.size, .cells #[.slice (some ⟨b, o, none⟩) c.length cap, .int .i64 n] 110)] w') C0.out.drew ?_
  apply obl_det
  case hrun =>
    intro D y wz hW hD R hR
    have HRR := Lib.hid hR
    clear hR
    have HW := Lib.hid hW
    clear hW hD
    go_wp2_with fail
    exact HRR.out _ HW.out
  case hnp => rfl
  case hv => first | exact ⟨_, fun _ => rfl⟩ | exact ⟨undef, fun _ => rfl⟩
  apply obl_det
  case hrun =>
    intro D y wz hW hD R hR
    have HRR := Lib.hid hR
    clear hR
    have HW := Lib.hid hW
    have h1 := HW.out.cell 0 rfl 0
    clear hW hD
    go_wp2_with fail
    exact HRR.out _ HW.out
  case hnp => rfl
  case hv => first | exact ⟨_, fun _ => rfl⟩ | exact ⟨undef, fun _ => rfl⟩
  apply obl_det
  case hrun =>
    intro D y wz hW hD R hR
    have HRR := Lib.hid hR
    clear hR
    have HW := Lib.hid hW
    clear hW hD
    go_wp2_with fail
    exact HRR.out _ HW.out
  case hnp => rfl
  case hv => first | exact ⟨_, fun _ => rfl⟩ | exact ⟨undef, fun _ => rfl⟩
  apply obl_det
  case hrun =>
    intro D y wz hW hD R hR
    have HRR := Lib.hid hR
    clear hR
    have HW := Lib.hid hW
    have h1 := HII.out
    clear hW hD
    go_wp2_with fail
    exact HRR.out _ HW.out
  case hnp => rfl
  case hv => first | exact ⟨_, fun _ => rfl⟩ | exact ⟨undef, fun _ => rfl⟩
  apply obl_det
  case hrun =>
    intro D y wz hW hD R hR
    have HRR := Lib.hid hR
    clear hR
    have HW := Lib.hid hW
    clear hW hD
    go_wp2_with fail
    exact HRR.out _ HW.out
  case hnp => rfl
  case hv => first | exact ⟨_, fun _ => rfl⟩ | exact ⟨undef, fun _ => rfl⟩
  apply obl_det
  case hrun =>
    intro D y wz hW hD R hR
    have HRR := Lib.hid hR
    clear hR
    have HW := Lib.hid hW
    have h1 := (HW.out.bel.cell (p := ⟨b, o + i * 2, none⟩) HBL.out).trans HX.out
    clear hW hD
    go_wp2_with fail
    exact HRR.out _ HW.out
  case hnp => rfl
  case hv => first | exact ⟨_, fun _ => rfl⟩ | exact ⟨undef, fun _ => rfl⟩
  apply obl_det
  case hrun =>
    intro D y wz hW hD R hR
    have HRR := Lib.hid hR
    clear hR
    have HW := Lib.hid hW
    clear hW hD
    go_wp2_with fail
    exact HRR.out _ HW.out
  case hnp => rfl
  case hv => first | exact ⟨_, fun _ => rfl⟩ | exact ⟨undef, fun _ => rfl⟩
  apply obl_det
  case hrun =>
    intro D y wz hW hD R hR
    have HRR := Lib.hid hR
    clear hR
    have HW := Lib.hid hW
    have h1 := HW.out.cell 0 rfl 1
    clear hW hD
    go_wp2_with fail
    exact HRR.out _ HW.out
  case hnp => rfl
  case hv => first | exact ⟨_, fun _ => rfl⟩ | exact ⟨undef, fun _ => rfl⟩
  apply obl_det
  case hrun =>
    intro D y wz hW hD R hR
    have HRR := Lib.hid hR
    clear hR
    have HW := Lib.hid hW
    clear hW hD
    go_wp2_with fail
    first | rw [HR.out] | simp only [ge_iff_le, HR.out]
    exact HRR.out _ HW.out
  case hnp => rfl
  case hv => first | exact ⟨_, fun _ => rfl⟩ | exact ⟨undef, fun _ => rfl⟩
  apply obl_det
  case hrun =>
    intro D y wz hW hD R hR
    have HRR := Lib.hid hR
    clear hR
    have HW := Lib.hid hW
    clear hW hD
    go_wp2_with fail
    exact HRR.out _ HW.out
  case hnp => rfl
  case hv => first | exact ⟨_, fun _ => rfl⟩ | exact ⟨undef, fun _ => rfl⟩
  apply obl_nil
  intro D y w8 hall hW
  have HB := Lib.hid hW.bel
  clear hall hW
  go_wp2_with fail
  go_ret
  exact ⟨rfl, HB.out⟩
set_option maxRecDepth 100000 in
set_option maxHeartbeats 4000000 in
theorem searchC_ok (c : List (Int × Int)) (hl : c.length ≤ 6) (hc : ∀ j, j + 1 < c.length → (c.getD j (0, 0)).1 < (c.getD (j + 1) (0, 0)).1) (n : Int) (v : Value) (w : World) (hv : SpansIn w.heap.size w v c) :
    Calls Tryz.prog 67 #[.int .i64 (c.length : Int), .func (.func 81) #[.agg #[v, .int .i64 n]] #[]] w
      fun e w' => e = .returned (.int .i64 (reachV c n : Int)) ∧ Below w.heap.size w w' := by
  have HV := Lib.hid hv
  have HC := Lib.hid hc
  have HRS : Hid (∀ k, k ≤ c.length → (∀ x, x < k → reachB c n x = false) → (k < c.length → reachB c n k = true) → reachV c n = k) := reach_spec n c
  have HRR := fun r i hi hr w h => Lib.hid (reached_r r c n i hi hr v w h)
  obtain ⟨N, hN⟩ : ∃ N, c.length = N := ⟨_, rfl⟩
  have HN := Lib.hid hN
  rw [hN] at hl HRS HRR ⊢
  clear hv hc hN
  go_enter Tryz.func67, Tryz.ntmps67
  go_wp2_with fail
  go_loopw [5, 6] (fun iv jv wr => ∃ i j : Nat, iv = .int .i64 i ∧ jv = .int .i64 j ∧ i ≤ j ∧ j ≤ N ∧ Below w.heap.size w wr ∧ (∀ x : Nat, x < i → reachB c n x = false) ∧ (∀ x : Nat, j ≤ x → x < N → reachB c n x = true)) (fun iv jv _ => (intOf jv).toNat - (intOf iv).toNat)
  case atStart => exact ⟨0, N, rfl, rfl, by omega, by omega, Below.refl _ _, fun x hx => by omega, fun x h1 h2 => by omega⟩
  case round =>
    obtain ⟨i, j, rfl, rfl, hij, hj, hb, hlo, hhi⟩ := hrel
    have HB := Lib.hid hb
    have HLO := Lib.hid hlo
    have HHI := Lib.hid hhi
    clear hb hlo hhi
    by_cases hlt : i < j
    · obtain ⟨m, hm⟩ : ∃ m, m = (i + j) / 2 := ⟨_, rfl⟩
      have hm1 : i ≤ m := by omega
      have hm2 : m < j := by omega
      have hmi : ((i : Int) + j) / 2 = m := by omega
      obtain ⟨r, hr⟩ : ∃ r, reachB c n m = r := ⟨_, rfl⟩
      have HT := Lib.hid (HRR r m (by omega) hr wr (HV.out.next HB.out)).out
      have HR := Lib.hid hr
      clear hr
      have hd : decide ((i : Int) < (j : Int)) = true := decide_eq_true (by omega)
      have hwm : IntKind.i64.wrap (m : Int) = m := wrap_in (by omega) (by omega)
      go_wp2_with fail
      unfold Oper.wp execOp
      simp [go_sem, hmi, Act.put, Act.eval]
      apply_assumption
      refine wpList_plain rfl fun _ hK => ?_
      unfold Oper.wp execOp
      simp [go_sem, hwm, Act.put, Act.eval]
      refine hK _ _ ?_
      clear hK hm hmi hwm
      go_wp2_with fail
      refine HT.out.mono ?_
      rintro e w' ⟨rfl, hbw⟩
      have HB2 := Lib.hid (HB.out.trans (hbw.mono HB.out.size))
      clear hbw HT
      cases r
      · go_wp2_with fail
        go_roundw
        case rel => exact ⟨m + 1, j, by push_cast; rfl, rfl, by omega, hj, HB2.out, fun x hx => by
          by_cases h : reachB c n x = true
          · have := reach_mono HC.out (show x ≤ m by omega) (by rw [HN.out]; omega) h
            rw [HR.out] at this; cases this
          · simpa using h, HHI.out⟩
        case measure => simp [intOf]; omega
      · go_wp2_with fail
        go_roundw
        case rel => exact ⟨i, m, rfl, rfl, by omega, by omega, HB2.out, HLO.out, fun x h1 h2 => reach_mono HC.out h1 (by rw [HN.out]; exact h2) HR.out⟩
        case measure => simp [intOf]; omega
    · obtain rfl : i = j := by omega
      have HX := Lib.hid (HRS.out i hj HLO.out (fun h => HHI.out i (Nat.le_refl _) h))
      go_wp2_with fail
      go_ret
      exact ⟨by rw [HX.out]; rfl, HB.out⟩
end Go.Proofs.YtohglbfeahofhaaGreat
