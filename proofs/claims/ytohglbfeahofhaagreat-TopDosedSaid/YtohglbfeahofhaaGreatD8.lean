/- curve.add. -/
import Derived.Deep.Cut
import Derived.Deep.CutBlock
import Derived.Test.YtohglbfeahofhaaGreatD7
namespace Go.Proofs.YtohglbfeahofhaaGreat
open Go.RowKit
/-- What a curve raises. -/
def addV (c : List (Int × Int)) (n : Int) : Int :=
  if c.length = 0 then 0 else if reachV c n = 0 then (c.getD 0 (0, 0)).2 else if reachV c n = c.length then (c.getD (reachV c n - 1) (0, 0)).2
  else (c.getD (reachV c n - 1) (0, 0)).2 + ((c.getD (reachV c n) (0, 0)).2 - (c.getD (reachV c n - 1) (0, 0)).2) * (n - (c.getD (reachV c n - 1) (0, 0)).1) / ((c.getD (reachV c n) (0, 0)).1 - (c.getD (reachV c n - 1) (0, 0)).1)
theorem reachV_le (n : Int) : ∀ c : List (Int × Int), reachV c n ≤ c.length
  | [] => Nat.le_refl _
  | p :: ps => by rw [reachV]; split; (· simp); (· have := reachV_le n ps; simp; omega)
set_option maxRecDepth 100000 in
set_option maxHeartbeats 8000000 in
theorem add_ok (c : List (Int × Int)) (hc : CurOk c) (n : Int) (hn : 0 ≤ n ∧ n ≤ 20) (v : Value) (w : World) (hv : SpansIn w.heap.size w v c) :
    Calls Tryz.prog 43 #[.agg #[v, .int .i64 n]] w fun e w' => e = .returned (.int .i64 (addV c n)) ∧ Below w.heap.size w w' := by
  obtain ⟨a, cap, rfl, -, -⟩ := sl_shape hv
  have HV := Lib.hid hv
  have HC := Lib.hid hc
  have HSE := fun w h => Lib.hid (searchC_ok c hc.len hc.inc n (.slice a c.length cap) w h)
  have hkl := reachV_le n c
  have hl6 := hc.len
  have HA : Hid (addV c n = if c.length = 0 then 0 else if reachV c n = 0 then (c.getD 0 (0, 0)).2 else if reachV c n = c.length then (c.getD (reachV c n - 1) (0, 0)).2
    else (c.getD (reachV c n - 1) (0, 0)).2 + ((c.getD (reachV c n) (0, 0)).2 - (c.getD (reachV c n - 1) (0, 0)).2) * (n - (c.getD (reachV c n - 1) (0, 0)).1) / ((c.getD (reachV c n) (0, 0)).1 - (c.getD (reachV c n - 1) (0, 0)).1)) := rfl
  generalize addV c n = R at *
  generalize reachV c n = k at *
  have C0 : Hid (Bs w [(w.heap.size, .cells #[.slice a c.length cap, .int .i64 n] 110)] _) := Lib.hid ((Bs.nil w).push _ rfl (.cells #[.slice a c.length cap, .int .i64 n] 110))
  have hc0 := C0.out.cell 0 rfl 0
  have hc1 := C0.out.cell 0 rfl 1
  clear hv hc
  by_cases h0 : c.length = 0
  · have hR : R = 0 := by rw [HA.out, if_pos h0]
    have hq : ((c.length : Int) == 0) = true := by rw [h0]; rfl
    clear HA h0 HSE
    go_enter Tryz.func43, Tryz.ntmps43
    go_wp2_with fail
    go_ret
    exact ⟨ret_int hR.symm, C0.out.bel⟩
  have hq : ((c.length : Int) == 0) = false := by rw [beq_eq_false_iff_ne]; omega
  rw [if_neg h0] at HA
  go_enter Tryz.func43, Tryz.ntmps43
  go_wp2_with fail
  refine (HSE _ ((HV.out.below C0.out.bel).mono C0.out.bel.size)).out.mono ?_
  rintro e w1 ⟨rfl, hb⟩
  have C1 := Lib.hid (C0.out.call hb)
  clear hb C0 hc0 hc1 HSE hq
  have hc0 := C1.out.cell 0 rfl 0
  by_cases hk0 : k = 0
  · subst hk0
    rw [if_pos rfl] at HA
    obtain ⟨b, o, rfl, hbl, -, hx⟩ := HV.out.at' (i := 0) (by omega)
    have hx : w.cell? ⟨b, o + 0 * 2 + 1, none⟩ = some (.int .i64 R) := by rw [HA.out]; exact hx
    have hy := (C1.out.bel.cell (p := ⟨b, o + 0 * 2 + 1, none⟩) hbl).trans hx
    have hpos : (0 : Int) < (c.length : Int) := by omega
    rw [Nat.zero_mul, Nat.add_zero] at hy
    clear HA hx
    go_wp2_with fail
    go_ret
    exact ⟨rfl, C1.out.bel⟩
  rw [if_neg hk0] at HA
  have hkz : ((k : Int) == 0) = false := by rw [beq_eq_false_iff_ne]; omega
  obtain ⟨j, hj⟩ : ∃ j, k - 1 = j := ⟨_, rfl⟩
  have hjl : j < c.length := by omega
  have HIJ : Hid ((k : Int) - 1 = (j : Int)) := by unfold Hid; omega
  rw [hj] at HA
  obtain ⟨b, o, rfl, hbl, hx1, hx2⟩ := HV.out.at' (i := j) hjl
  obtain ⟨a1, HA1⟩ : ∃ z, Hid ((c.getD j (0, 0)).1 = z) := ⟨_, rfl⟩
  obtain ⟨a2, HA2⟩ : ∃ z, Hid ((c.getD j (0, 0)).2 = z) := ⟨_, rfl⟩
  have HX1 : Hid (w.cell? ⟨b, o + j * 2, none⟩ = some (.int .i64 a1)) := by unfold Hid; rw [← HA1.out]; exact hx1
  have HX2 : Hid (w.cell? ⟨b, o + j * 2 + 1, none⟩ = some (.int .i64 a2)) := by unfold Hid; rw [← HA2.out]; exact hx2
  have hpj := HC.out.pt j hjl
  rw [HA1.out, HA2.out] at HA
  rw [HA1.out, HA2.out] at hpj
  have hji : (j : Int) < (c.length : Int) := by omega
  have HJI := Lib.hid hji
  have HBL := Lib.hid hbl
  clear hx1 hx2
  by_cases hkn : k = c.length
  · rw [if_pos hkn] at HA
    have hqk : ((k : Int) == (c.length : Int)) = true := by rw [hkn]; simp
    have hy := (C1.out.bel.cell (p := ⟨b, o + j * 2 + 1, none⟩) hbl).trans HX2.out
    have hR := HA.out
    have HR := Lib.hid hR
    clear hR hkn hj HA hk0 h0 hbl
    have hkj : (k : Int) - 1 = (j : Int) := HIJ.out
    go_wp2_with fail
    go_ret
    exact ⟨ret_int HR.out.symm, C1.out.bel⟩
  · rw [if_neg hkn] at HA
    have hqk : ((k : Int) == (c.length : Int)) = false := by rw [beq_eq_false_iff_ne]; omega
    have hkk : k < c.length := by omega
    obtain ⟨b', o', he, -, hx1, hx2⟩ := HV.out.at' (i := k) hkk
    cases he
    obtain ⟨b1, HB1⟩ : ∃ z, Hid ((c.getD k (0, 0)).1 = z) := ⟨_, rfl⟩
    obtain ⟨b2, HB2⟩ : ∃ z, Hid ((c.getD k (0, 0)).2 = z) := ⟨_, rfl⟩
    have HY1 : Hid (w.cell? ⟨b, o + k * 2, none⟩ = some (.int .i64 b1)) := by unfold Hid; rw [← HB1.out]; exact hx1
    have HY2 : Hid (w.cell? ⟨b, o + k * 2 + 1, none⟩ = some (.int .i64 b2)) := by unfold Hid; rw [← HB2.out]; exact hx2
    have hpk := HC.out.pt k hkk
    have hjk : k = j + 1 := by omega
    have hinc := HC.out.inc j (by omega)
    rw [← hjk, HA1.out, HB1.out] at hinc
    rw [HB1.out, HB2.out] at hpk HA
    have HIW : Hid (wrap64 ((k : Int) - 1) = (j : Int)) := by unfold Hid; rw [HIJ.out]; exact wrapU (by omega)
    have HKI : Hid ((k : Int) < (c.length : Int)) := by unfold Hid; omega
    obtain ⟨DV, HDV⟩ : ∃ z, Hid ((b2 - a2) * (n - a1) = z) := ⟨_, rfl⟩
    have hdv : -1000000 ≤ DV ∧ DV ≤ 1000000 := by
      rw [← HDV.out]
      have h1 := Int.mul_le_mul_of_nonneg_left (show n - a1 ≤ 20 by omega) (show 0 ≤ b2 - a2 + 600 by omega)
      have h2 := Int.mul_le_mul_of_nonneg_left (show -20 ≤ n - a1 by omega) (show 0 ≤ b2 - a2 + 600 by omega)
      have e : (b2 - a2 + 600) * (n - a1) = (b2 - a2) * (n - a1) + 600 * (n - a1) := Int.add_mul _ _ _
      rw [e] at h1 h2
      omega
    have HWD : Hid (wrap64 ((b2 - a2) * (n - a1)) = DV) := by unfold Hid; rw [HDV.out]; exact wrapU (by omega)
    have HDN := fun w => Lib.hid (down_ok DV (b1 - a1) (by omega) (by omega) w)
    rw [HDV.out] at HA
    have hqq : -1000000 ≤ DV / (b1 - a1) ∧ DV / (b1 - a1) ≤ 1000000 := by
      have h1 : DV / (b1 - a1) ≤ 1000000 := Int.ediv_le_of_le_mul (by omega) (by have := Int.mul_le_mul_of_nonneg_left (show 1 ≤ b1 - a1 by omega) (show (0 : Int) ≤ 1000000 by decide); omega)
      have h2 : -1000000 ≤ DV / (b1 - a1) := Int.le_ediv_of_mul_le (by omega) (by have := Int.mul_le_mul_of_nonneg_left (show 1 ≤ b1 - a1 by omega) (show (0 : Int) ≤ 1000000 by decide); omega)
      exact ⟨h2, h1⟩
    generalize DV / (b1 - a1) = QQ at *
    have HRQ : Hid (a2 + QQ = R) := HA.out.symm
    have HPJ := Lib.hid hpj
    have HPK := Lib.hid hpk
    have HQB := Lib.hid hqq
    have HNB := Lib.hid hn
    clear hkn hj HA hk0 h0 hbl hx1 hx2 hpj hpk hinc hdv hqq hjk hji hjl hkk hn hl6 hkl
    go_wp2_with fail
    clear hc0
    refine wp_region_inv1 (by kernel_rfl) (by kernel_rfl) [4, 5] (fun D y w' => Tb2 w1 #[.int .i64 0, .int .i64 0] #[.int .i64 a1, .int .i64 a2] 108 #[.int .i64 0, .int .i64 0] #[.int .i64 b1, .int .i64 b2] 108 (D 11) (D 12) (D 13) (D 14) (y 4) (y 5) w') (Tb2.start _) ?F1 ?hF1 ?_
    case hF1 =>
      intro y
      simp only [fill, List.foldl, Act.put, List.setIfInBounds_toArray, List.set]
      exact rfl
    apply obl_det
    case hrun =>
      intro D y wz hW hD R' hR
      have HRR := Lib.hid hR
      clear hR
      have HW := Lib.hid hW
      clear hW hD
      go_wp2_with fail
      exact HRR.out _ ⟨HW.out.bel, HW.out.p, HW.out.q, HW.out.pq⟩
    case hnp => rfl
    case hv => first | exact ⟨_, fun _ => rfl⟩ | exact ⟨undef, fun _ => rfl⟩
    apply obl_det
    case hrun =>
      intro D y wz hW hD R' hR
      have HRR := Lib.hid hR
      clear hR
      have HW := Lib.hid hW
      have h1 := (C1.out.call HW.out.bel).cell 0 rfl 0
      clear hW hD
      go_wp2_with fail
      exact HRR.out _ ⟨HW.out.bel, HW.out.p, HW.out.q, HW.out.pq⟩
    case hnp => rfl
    case hv => first | exact ⟨_, fun _ => rfl⟩ | exact ⟨undef, fun _ => rfl⟩
    apply obl_det
    case hrun =>
      intro D y wz hW hD R' hR
      have HRR := Lib.hid hR
      clear hR
      have HW := Lib.hid hW
      clear hW hD
      go_wp2_with fail
      exact HRR.out _ ⟨HW.out.bel, HW.out.p, HW.out.q, HW.out.pq⟩
    case hnp => rfl
    case hv => first | exact ⟨_, fun _ => rfl⟩ | exact ⟨undef, fun _ => rfl⟩
    apply obl_det
    case hrun =>
      intro D y wz hW hD R' hR
      have HRR := Lib.hid hR
      clear hR
      have HW := Lib.hid hW
      clear hW hD
      go_wp2_with fail
      first | rw [HIW.out] | rw [HIJ.out]
      exact HRR.out _ ⟨HW.out.bel, HW.out.p, HW.out.q, HW.out.pq⟩
    case hnp => rfl
    case hv => first | exact ⟨_, fun _ => rfl⟩ | exact ⟨undef, fun _ => rfl⟩
    apply obl_det
    case hrun =>
      intro D y wz hW hD R' hR
      have HRR := Lib.hid hR
      clear hR
      have HW := Lib.hid hW
      have h1 := HJI.out
      clear hW hD
      go_wp2_with fail
      exact HRR.out _ ⟨HW.out.bel, HW.out.p, HW.out.q, HW.out.pq⟩
    case hnp => rfl
    case hv => first | exact ⟨_, fun _ => rfl⟩ | exact ⟨undef, fun _ => rfl⟩
    apply obl_det
    case hrun =>
      intro D y wz hW hD R' hR
      have HRR := Lib.hid hR
      clear hR
      have HW := Lib.hid hW
      have hZ := Lib.hid (C1.out.call HW.out.bel).bel
      have h1 := (hZ.out.cell (p := ⟨b, o + j * 2, none⟩) HBL.out).trans HX1.out
      have h2 := (hZ.out.cell (p := ⟨b, o + j * 2 + 1, none⟩) HBL.out).trans HX2.out
      clear hW hD
      go_wp2_with fail
      exact HRR.out _ ⟨HW.out.bel, HW.out.p, HW.out.q, HW.out.pq⟩
    case hnp => rfl
    case hv => first | exact ⟨_, fun _ => rfl⟩ | exact ⟨undef, fun _ => rfl⟩
    apply obl_det
    case hrun =>
      intro D y wz hW hD R' hR
      have HRR := Lib.hid hR
      clear hR
      have HW := Lib.hid hW
      clear hW hD
      go_wp2_with fail
      exact HRR.out _ ⟨HW.out.bel, HW.out.p, HW.out.q, HW.out.pq⟩
    case hnp => rfl
    case hv => first | exact ⟨_, fun _ => rfl⟩ | exact ⟨undef, fun _ => rfl⟩
    apply obl_det
    case hrun =>
      intro D y wz hW hD R' hR
      have HRR := Lib.hid hR
      clear hR
      have HW := Lib.hid hW
      have h1 := (C1.out.call HW.out.bel).cell 0 rfl 0
      clear hW hD
      go_wp2_with fail
      exact HRR.out _ ⟨HW.out.bel, HW.out.p, HW.out.q, HW.out.pq⟩
    case hnp => rfl
    case hv => first | exact ⟨_, fun _ => rfl⟩ | exact ⟨undef, fun _ => rfl⟩
    apply obl_det
    case hrun =>
      intro D y wz hW hD R' hR
      have HRR := Lib.hid hR
      clear hR
      have HW := Lib.hid hW
      clear hW hD
      go_wp2_with fail
      exact HRR.out _ ⟨HW.out.bel, HW.out.p, HW.out.q, HW.out.pq⟩
    case hnp => rfl
    case hv => first | exact ⟨_, fun _ => rfl⟩ | exact ⟨undef, fun _ => rfl⟩
    apply obl_det
    case hrun =>
      intro D y wz hW hD R' hR
      have HRR := Lib.hid hR
      clear hR
      have HW := Lib.hid hW
      have h1 := HKI.out
      clear hW hD
      go_wp2_with fail
      exact HRR.out _ ⟨HW.out.bel, HW.out.p, HW.out.q, HW.out.pq⟩
    case hnp => rfl
    case hv => first | exact ⟨_, fun _ => rfl⟩ | exact ⟨undef, fun _ => rfl⟩
    apply obl_det
    case hrun =>
      intro D y wz hW hD R' hR
      have HRR := Lib.hid hR
      clear hR
      have HW := Lib.hid hW
      have hZ := Lib.hid (C1.out.call HW.out.bel).bel
      have h1 := (hZ.out.cell (p := ⟨b, o + k * 2, none⟩) HBL.out).trans HY1.out
      have h2 := (hZ.out.cell (p := ⟨b, o + k * 2 + 1, none⟩) HBL.out).trans HY2.out
      clear hW hD
      go_wp2_with fail
      exact HRR.out _ ⟨HW.out.bel, HW.out.p, HW.out.q, HW.out.pq⟩
    case hnp => rfl
    case hv => first | exact ⟨_, fun _ => rfl⟩ | exact ⟨undef, fun _ => rfl⟩
    apply obl_priv 4
    case hd => rfl
    case hp => rfl
    case hrun =>
      intro D y wz hW hD R' hR
      have HRR := Lib.hid hR
      clear hR
      have h0 : D 13 = false := hD.post _ 13 rfl (by kernel_rfl)
      rw [h0] at hW
      have HN := Lib.hid hW.put1
      have H0 := Lib.hid h0
      clear hW hD h0
      go_wp2_with fail
      refine HRR.out (.pointer (some ⟨wz.heap.size, 0, none⟩)) _ ?_
      show Tb2 _ _ _ _ _ _ _ true (D 12) (D 13) (D 14) (.pointer _) (y 5) _
      rw [H0.out]
      exact HN.out
    apply obl_priv 5
    case hd => rfl
    case hp => rfl
    case hrun =>
      intro D y wz hW hD R' hR
      have HRR := Lib.hid hR
      clear hR
      have h0 : D 14 = false := hD.post _ 14 rfl (by kernel_rfl)
      rw [h0] at hW
      have HN := Lib.hid hW.put2
      have H0 := Lib.hid h0
      clear hW hD h0
      go_wp2_with fail
      refine HRR.out (.pointer (some ⟨wz.heap.size, 0, none⟩)) _ ?_
      show Tb2 _ _ _ _ _ _ _ (D 11) true (D 13) (D 14) (y 4) (.pointer _) _
      rw [H0.out]
      exact HN.out
    apply obl_det
    case hrun =>
      intro D y wz hW hD R' hR
      have HRR := Lib.hid hR
      clear hR
      have h0 : D 13 = false := hD.not
      have h18 : D 11 = true := hD.pre _ 11 rfl (by kernel_rfl)
      have h19 : D 12 = true := hD.pre _ 12 rfl (by kernel_rfl)
      rw [h0, h18, h19] at hW
      obtain ⟨gp, e, hgt, hcell⟩ := hW.p rfl
      have CC := Lib.hid (Bs.snocU (l := []) (w := w1) ⟨by simp, by simp, by simp, hW.bel⟩ (by simp) hcell hgt)
      have EE := Lib.hid e
      have HW := Lib.hid hW
      have H18 := Lib.hid h18
      have H19 := Lib.hid h19
      clear hW hD h0 h18 h19 hcell e hgt
      refine wpList_store_bu rfl 108 _ _ rfl CC.out 0 gp #[.int .i64 a1, .int .i64 a2] _ _ rfl EE.out rfl infoPt rfl (by simp [Value.oneCell']) ?_
      intro w4 hC4 hB4
      have HN := Lib.hid (HW.out.store1 EE.out hC4 hB4)
      clear hC4 hB4
      simp only [Act.put]
      go_simp
      refine HRR.out _ ?_
      show Tb2 _ _ _ _ _ _ _ (D 11) (D 12) true (D 14) (y 4) (y 5) _
      rw [H18.out, H19.out]
      exact HN.out
    case hnp => rfl
    case hv => first | exact ⟨_, fun _ => rfl⟩ | exact ⟨undef, fun _ => rfl⟩
    apply obl_det
    case hrun =>
      intro D y wz hW hD R' hR
      have HRR := Lib.hid hR
      clear hR
      have h0 : D 14 = false := hD.not
      have h18 : D 11 = true := hD.pre _ 11 rfl (by kernel_rfl)
      have h19 : D 12 = true := hD.pre _ 12 rfl (by kernel_rfl)
      rw [h0, h18, h19] at hW
      obtain ⟨gp, e, hgt, hcell⟩ := hW.q rfl
      have CC := Lib.hid (Bs.snocU (l := []) (w := w1) ⟨by simp, by simp, by simp, hW.bel⟩ (by simp) hcell hgt)
      have EE := Lib.hid e
      have HW := Lib.hid hW
      have H18 := Lib.hid h18
      have H19 := Lib.hid h19
      clear hW hD h0 h18 h19 hcell e hgt
      refine wpList_store_bu rfl 108 _ _ rfl CC.out 0 gp #[.int .i64 b1, .int .i64 b2] _ _ rfl EE.out rfl infoPt rfl (by simp [Value.oneCell']) ?_
      intro w4 hC4 hB4
      have HN := Lib.hid (HW.out.store2 EE.out hC4 hB4)
      clear hC4 hB4
      simp only [Act.put]
      go_simp
      refine HRR.out _ ?_
      show Tb2 _ _ _ _ _ _ _ (D 11) (D 12) (D 13) true (y 4) (y 5) _
      rw [H18.out, H19.out]
      exact HN.out
    case hnp => rfl
    case hv => first | exact ⟨_, fun _ => rfl⟩ | exact ⟨undef, fun _ => rfl⟩
    apply obl_nil
    intro D y w8 hall hW
    obtain ⟨g4, e4, -, hk4⟩ := hW.p (hall 11 (by decide))
    obtain ⟨g5, e5, -, hk5⟩ := hW.q (hall 12 (by decide))
    rw [hall 13 (by decide)] at hk4
    rw [hall 14 (by decide)] at hk5
    have HK4 : Hid (w8.heap[g4]? = some (.cells #[.int .i64 a1, .int .i64 a2] 108)) := hk4
    have HK5 : Hid (w8.heap[g5]? = some (.cells #[.int .i64 b1, .int .i64 b2] 108)) := hk5
    have C8 := Lib.hid (C1.out.call hW.bel)
    rw [e4, e5]
    clear hW hall e4 e5 hk4 hk5 C1
    go_wp2_with fail
    refine wp_region_inv0 (by kernel_rfl) (by kernel_rfl) (fun D w' => Below w8.heap.size w8 w') (Below.refl _ _).drew ?_
    apply obl_det
    case hrun =>
      intro D y wz hW hD R' hR
      have HRR := Lib.hid hR
      clear hR
      have HW := Lib.hid hW
      clear hW hD
      go_wp2_with fail
      exact HRR.out _ HW.out
    case hnp => rfl
    case hv => first | exact ⟨_, fun _ => rfl⟩ | exact ⟨undef, fun _ => rfl⟩
    apply obl_det
    case hrun =>
      intro D y wz hW hD R' hR
      have HRR := Lib.hid hR
      clear hR
      have HW := Lib.hid hW
      have h1 := cell_of_row _ _ 1 _ _ _ (block_keep HK4.out HW.out)
      clear hW hD
      go_wp2_with fail
      exact HRR.out _ HW.out
    case hnp => rfl
    case hv => first | exact ⟨_, fun _ => rfl⟩ | exact ⟨undef, fun _ => rfl⟩
    apply obl_det
    case hrun =>
      intro D y wz hW hD R' hR
      have HRR := Lib.hid hR
      clear hR
      have HW := Lib.hid hW
      clear hW hD
      go_wp2_with fail
      exact HRR.out _ HW.out
    case hnp => rfl
    case hv => first | exact ⟨_, fun _ => rfl⟩ | exact ⟨undef, fun _ => rfl⟩
    apply obl_det
    case hrun =>
      intro D y wz hW hD R' hR
      have HRR := Lib.hid hR
      clear hR
      have HW := Lib.hid hW
      have h1 := cell_of_row _ _ 1 _ _ _ (block_keep HK5.out HW.out)
      clear hW hD
      go_wp2_with fail
      exact HRR.out _ HW.out
    case hnp => rfl
    case hv => first | exact ⟨_, fun _ => rfl⟩ | exact ⟨undef, fun _ => rfl⟩
    apply obl_det
    case hrun =>
      intro D y wz hW hD R' hR
      have HRR := Lib.hid hR
      clear hR
      have HW := Lib.hid hW
      clear hW hD
      go_wp2_with fail
      exact HRR.out _ HW.out
    case hnp => rfl
    case hv => first | exact ⟨_, fun _ => rfl⟩ | exact ⟨undef, fun _ => rfl⟩
    apply obl_det
    case hrun =>
      intro D y wz hW hD R' hR
      have HRR := Lib.hid hR
      clear hR
      have HW := Lib.hid hW
      have h1 := cell_of_row _ _ 1 _ _ _ (block_keep HK4.out HW.out)
      clear hW hD
      go_wp2_with fail
      exact HRR.out _ HW.out
    case hnp => rfl
    case hv => first | exact ⟨_, fun _ => rfl⟩ | exact ⟨undef, fun _ => rfl⟩
    apply obl_det
    case hrun =>
      intro D y wz hW hD R' hR
      have HRR := Lib.hid hR
      clear hR
      have HW := Lib.hid hW
      have h1 := HPJ.out
      have h2 := HPK.out
      have h3 := HNB.out
      clear hW hD
      go_wp2_with fail
      exact HRR.out _ HW.out
    case hnp => rfl
    case hv => first | exact ⟨_, fun _ => rfl⟩ | exact ⟨undef, fun _ => rfl⟩
    apply obl_det
    case hrun =>
      intro D y wz hW hD R' hR
      have HRR := Lib.hid hR
      clear hR
      have HW := Lib.hid hW
      clear hW hD
      go_wp2_with fail
      exact HRR.out _ HW.out
    case hnp => rfl
    case hv => first | exact ⟨_, fun _ => rfl⟩ | exact ⟨undef, fun _ => rfl⟩
    apply obl_det
    case hrun =>
      intro D y wz hW hD R' hR
      have HRR := Lib.hid hR
      clear hR
      have HW := Lib.hid hW
      have h1 := (C8.out.call HW.out).cell 0 rfl 1
      clear hW hD
      go_wp2_with fail
      exact HRR.out _ HW.out
    case hnp => rfl
    case hv => first | exact ⟨_, fun _ => rfl⟩ | exact ⟨undef, fun _ => rfl⟩
    apply obl_det
    case hrun =>
      intro D y wz hW hD R' hR
      have HRR := Lib.hid hR
      clear hR
      have HW := Lib.hid hW
      clear hW hD
      go_wp2_with fail
      exact HRR.out _ HW.out
    case hnp => rfl
    case hv => first | exact ⟨_, fun _ => rfl⟩ | exact ⟨undef, fun _ => rfl⟩
    apply obl_det
    case hrun =>
      intro D y wz hW hD R' hR
      have HRR := Lib.hid hR
      clear hR
      have HW := Lib.hid hW
      have h1 := cell_of_row _ _ 0 _ _ _ (block_keep HK4.out HW.out)
      clear hW hD
      go_wp2_with fail
      exact HRR.out _ HW.out
    case hnp => rfl
    case hv => first | exact ⟨_, fun _ => rfl⟩ | exact ⟨undef, fun _ => rfl⟩
    apply obl_det
    case hrun =>
      intro D y wz hW hD R' hR
      have HRR := Lib.hid hR
      clear hR
      have HW := Lib.hid hW
      have h1 := HPJ.out
      have h2 := HPK.out
      have h3 := HNB.out
      clear hW hD
      go_wp2_with fail
      exact HRR.out _ HW.out
    case hnp => rfl
    case hv => first | exact ⟨_, fun _ => rfl⟩ | exact ⟨undef, fun _ => rfl⟩
    apply obl_det
    case hrun =>
      intro D y wz hW hD R' hR
      have HRR := Lib.hid hR
      clear hR
      have HW := Lib.hid hW
      clear hW hD
      go_wp2_with fail
      first | rw [HWD.out] | rw [HDV.out]
      exact HRR.out _ HW.out
    case hnp => rfl
    case hv => first | exact ⟨_, fun _ => rfl⟩ | exact ⟨undef, fun _ => rfl⟩
    apply obl_det
    case hrun =>
      intro D y wz hW hD R' hR
      have HRR := Lib.hid hR
      clear hR
      have HW := Lib.hid hW
      clear hW hD
      go_wp2_with fail
      exact HRR.out _ HW.out
    case hnp => rfl
    case hv => first | exact ⟨_, fun _ => rfl⟩ | exact ⟨undef, fun _ => rfl⟩
    apply obl_det
    case hrun =>
      intro D y wz hW hD R' hR
      have HRR := Lib.hid hR
      clear hR
      have HW := Lib.hid hW
      have h1 := cell_of_row _ _ 0 _ _ _ (block_keep HK5.out HW.out)
      clear hW hD
      go_wp2_with fail
      exact HRR.out _ HW.out
    case hnp => rfl
    case hv => first | exact ⟨_, fun _ => rfl⟩ | exact ⟨undef, fun _ => rfl⟩
    apply obl_det
    case hrun =>
      intro D y wz hW hD R' hR
      have HRR := Lib.hid hR
      clear hR
      have HW := Lib.hid hW
      clear hW hD
      go_wp2_with fail
      exact HRR.out _ HW.out
    case hnp => rfl
    case hv => first | exact ⟨_, fun _ => rfl⟩ | exact ⟨undef, fun _ => rfl⟩
    apply obl_det
    case hrun =>
      intro D y wz hW hD R' hR
      have HRR := Lib.hid hR
      clear hR
      have HW := Lib.hid hW
      have h1 := cell_of_row _ _ 0 _ _ _ (block_keep HK4.out HW.out)
      clear hW hD
      go_wp2_with fail
      exact HRR.out _ HW.out
    case hnp => rfl
    case hv => first | exact ⟨_, fun _ => rfl⟩ | exact ⟨undef, fun _ => rfl⟩
    apply obl_det
    case hrun =>
      intro D y wz hW hD R' hR
      have HRR := Lib.hid hR
      clear hR
      have HW := Lib.hid hW
      have h1 := HPJ.out
      have h2 := HPK.out
      have h3 := HNB.out
      clear hW hD
      go_wp2_with fail
      exact HRR.out _ HW.out
    case hnp => rfl
    case hv => first | exact ⟨_, fun _ => rfl⟩ | exact ⟨undef, fun _ => rfl⟩
    apply obl_det
    case hrun =>
      intro D y wz hW hD R' hR
      have HRR := Lib.hid hR
      clear hR
      have HW := Lib.hid hW
      clear hW hD
      go_wp2_with fail
      refine (HDN _).out.mono ?_
      rintro e w' ⟨rfl, rfl⟩
      go_wp2_with fail
      exact HRR.out _ HW.out
    case hnp => rfl
    case hv => first | exact ⟨_, fun _ => rfl⟩ | exact ⟨undef, fun _ => rfl⟩
    apply obl_det
    case hrun =>
      intro D y wz hW hD R' hR
      have HRR := Lib.hid hR
      clear hR
      have HW := Lib.hid hW
      have h1 := HPJ.out
      have h2 := HQB.out
      clear hW hD
      go_wp2_with fail
      rw [HRQ.out]
      exact HRR.out _ HW.out
    case hnp => rfl
    case hv => first | exact ⟨_, fun _ => rfl⟩ | exact ⟨undef, fun _ => rfl⟩
    apply obl_det
    case hrun =>
      intro D y wz hW hD R' hR
      have HRR := Lib.hid hR
      clear hR
      have HW := Lib.hid hW
      clear hW hD
      go_wp2_with fail
      exact HRR.out _ HW.out
    case hnp => rfl
    case hv => first | exact ⟨_, fun _ => rfl⟩ | exact ⟨undef, fun _ => rfl⟩
    apply obl_nil
    intro D y w9 hall hW
    have C9 := Lib.hid (C8.out.call hW)
    clear hall hW
    go_wp2_with fail
    go_ret
    exact ⟨rfl, C9.out.bel⟩
end Go.Proofs.YtohglbfeahofhaaGreat
