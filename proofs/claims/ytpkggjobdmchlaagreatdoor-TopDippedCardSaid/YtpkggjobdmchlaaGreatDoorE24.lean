/- stearinlaw04.Warmed. -/
import Derived.Deep.Cut
import Derived.Deep.CutBlock
import Derived.Lib.MinMax
import Derived.Test.YtpkggjobdmchlaaGreatDoorK3
import Derived.Test.YtpkggjobdmchlaaGreatDoorE20
namespace Go.Proofs.YtpkggjobdmchlaaGreatDoor
open Go.RowKit
/-- The warmth of a dip, by turns. -/
def turnY (y : List Int) (k : Nat) : Int := if y.length = 0 then 0 else y.getD (k % y.length) 0
def warmedV (s : DShop) (plan : List DDip) (y : List Int) (k : Nat) : Int := (warmOf s (plan.getD k default)).1 + turnY y k % ((warmOf s (plan.getD k default)).2 - (warmOf s (plan.getD k default)).1 + 1)
theorem getU_cell {q : IntKind} {w : World} {B : Nat} {v : Value} {l : List Int} (h : IntsIn q B w v l) {i : Nat} (hi : i < l.length) : ∃ a o c, v = .slice (some ⟨a, o, none⟩) l.length c ∧ a < B ∧ w.cell? ⟨a, o + i, none⟩ = some (.int q (l.getD i 0)) := by
  obtain ⟨a', c', rfl, -, -⟩ := id h
  obtain ⟨b, o, rfl, h2, h3⟩ := IntsIn.at' h hi
  exact ⟨b, o, c', rfl, h2, h3⟩
theorem warmed_in {s : DShop} (hs : DOk s) {plan : List DDip} (hp : PlanOk s plan) (y : List Int) : WarmIn s plan ((List.range plan.length).map (warmedV s plan y)) := by
  intro i hi
  have h0 : ((List.range plan.length).map (warmedV s plan y)).getD i 0 = warmedV s plan y i := by simp [List.getD_eq_getElem?_getD, hi]
  rw [h0]
  have h1 := hs.warm (plan.getD i default).bath.toNat (by have := (hp.2 i hi).bath; omega)
  have h2 : (warmOf s (plan.getD i default)).1 ≤ (warmOf s (plan.getD i default)).2 := h1.2.1
  have h3 := Int.emod_nonneg (turnY y i) (show (warmOf s (plan.getD i default)).2 - (warmOf s (plan.getD i default)).1 + 1 ≠ 0 by omega)
  have h4 := Int.emod_lt_of_pos (turnY y i) (show 0 < (warmOf s (plan.getD i default)).2 - (warmOf s (plan.getD i default)).1 + 1 by omega)
  unfold warmedV
  omega
set_option maxRecDepth 100000 in
set_option maxHeartbeats 16000000 in
theorem warmed_any {s : DShop} (hs : DOk s) {plan : List DDip} (hp : PlanOk s plan) {yl : List Int} (hy : ∀ x ∈ yl, 0 ≤ x ∧ x ≤ 65535) (v lv yv : Value) (w : World) (hv : DBathsIn w.heap.size w v s.baths) (hl : DipsIn w.heap.size w lv plan) (hyv : IntsIn .u16 w.heap.size w yv yl) :
    Calls Tryz.prog 13 #[.agg (dshopC s v), lv, yv] w fun e w' => ∃ u, e = .returned u ∧ IntsIn .i64 w'.heap.size w' u ((List.range plan.length).map (warmedV s plan yl)) ∧ Below w.heap.size w w' := by
  obtain ⟨va, vc, rfl, -, -⟩ := sl_shape hv
  obtain ⟨la, lc, rfl, -, -⟩ := sl_shape hl
  obtain ⟨ya, yc, rfl, hyc, -⟩ := id hyv
  have HV := Lib.hid hv
  have HL := Lib.hid hl
  have HY := Lib.hid hyv
  have HS := Lib.hid hs
  have HP := Lib.hid hp
  have HYB := Lib.hid hy
  have hp30 := hp.1
  have C1 : Hid (Bs w [(w.heap.size, .cells (dshopC s (.slice va s.baths.length vc)) 30)] _) := Lib.hid ((Bs.nil w).push _ rfl (.cells (dshopC s (.slice va s.baths.length vc)) 30))
  clear hv hl hyv hs hp hy
  go_enter Tryz.func13, Tryz.ntmps13
  go_upto_region 1 with fail
  obtain ⟨w1, HW1⟩ : ∃ z, Hid (w.alloc (.cells (dshopC s (.slice va s.baths.length vc)) 30) = z) := ⟨_, rfl⟩
  have HZ1 : Hid (w1.heap.size = w.heap.size + 1) := by unfold Hid; rw [← HW1.out]; simp
  rw [HW1.out] at C1 ⊢
  have HB0 : Hid (Below (w.heap.size + 1) w1 w1) := Below.refl _ _
  go_wp2_with fail
  go_loopw [7, 8] (fun tx iv wr => ∃ (k : Nat) (tv : Value), tv = tx ∧ iv = .int .i64 k ∧ k ≤ plan.length ∧ Below (w.heap.size + 1) w1 wr ∧ w.heap.size + 1 ≤ wr.heap.size ∧ wr.ownsRow (w.heap.size + 1) 3 1 tv k (((List.range k).map (warmedV s plan yl)).map (Value.int .i64))) (fun _ iv _ => plan.length - (intOf iv).toNat)
  case atStart => exact ⟨0, _, rfl, rfl, by omega, HB0.out, Nat.le_of_eq HZ1.out.symm, World.ownsRow_nil _ _ 3 1⟩
  case round =>
    clear HB0
    obtain ⟨k, tv, rfl, rfl, hk, hb, hle, hT⟩ := hrel
    have HB := Lib.hid hb
    have HT := Lib.hid hT
    have HLE := Lib.hid hle
    clear hb hT hle
    by_cases hkl : k < plan.length
    · have hki : (k : Int) < (plan.length : Int) := by omega
      have HD := Lib.hid (HP.out.2 k hkl)
      obtain ⟨b, o, he, hbl, hx0, -⟩ := HL.out.at' hkl
      subst he
      have hbd := HD.out.bath
      obtain ⟨n, hn⟩ : ∃ n : Nat, (plan.getD k default).bath = n := ⟨(plan.getD k default).bath.toNat, by omega⟩
      have hnl : n < s.baths.length := by omega
      have hni : (n : Int) < (s.baths.length : Int) := by omega
      have HWN : Hid (warmOf s (plan.getD k default) = (s.baths.getD n default).warm) := by unfold Hid warmOf; rw [hn]; rfl
      have hwm := HS.out.warm n hnl
      have hml := HS.out.melt
      obtain ⟨b2, o2, he, hb2l, -, -, hq1, hq2⟩ := HV.out.at' hnl
      subst he
      rw [hn] at hx0
      have HSN : Hid ((((List.range k).map (warmedV s plan yl)).map (Value.int .i64)) ++ [.int .i64 (warmedV s plan yl k)] = ((List.range (k + 1)).map (warmedV s plan yl)).map (Value.int .i64)) := by unfold Hid; rw [List.range_succ, List.map_append, List.map_append]; rfl
      have HWV : Hid (warmedV s plan yl k = (s.baths.getD n default).warm.1 + turnY yl k % ((s.baths.getD n default).warm.2 - (s.baths.getD n default).warm.1 + 1)) := by unfold Hid warmedV; rw [HWN.out]
      generalize (s.baths.getD n default).warm = Wm at *
      obtain ⟨W1, W2⟩ := Wm
      simp only at hwm hq1 hq2 HWV
      have HBELW : Hid (Below w.heap.size w wr) := C1.out.bel.trans (HB.out.mono (by omega))
      have HPB : Hid (wr.cell? ⟨b, o + k * 4, none⟩ = some (.int .i64 n)) := (HBELW.out.cell (p := ⟨b, o + k * 4, none⟩) hbl).trans hx0
      have HPL : Hid (b < wr.heap.size) := by unfold Hid; have := HLE.out; omega
      have HQ1 : Hid (wr.cell? ⟨b2, o2 + n * 3 + 1, none⟩ = some (.int .i64 W1)) := (HBELW.out.cell (p := ⟨b2, o2 + n * 3 + 1, none⟩) hb2l).trans hq1
      have HQ2 : Hid (wr.cell? ⟨b2, o2 + n * 3 + 1 + 1, none⟩ = some (.int .i64 W2)) := (HBELW.out.cell (p := ⟨b2, o2 + n * 3 + 1 + 1, none⟩) hb2l).trans hq2
      have HQL : Hid (b2 < wr.heap.size) := by unfold Hid; have := HLE.out; omega
      have HBL : Hid (w.heap.size < wr.heap.size) := by unfold Hid; have := HLE.out; omega
      have HB8 : Hid (wr.cell? ⟨w.heap.size, 8, none⟩ = some (.slice (some ⟨b2, o2, none⟩) s.baths.length vc)) := (HB.out.cell (p := ⟨w.heap.size, 8, none⟩) (by show w.heap.size < _; omega)).trans (C1.out.cell 0 rfl 8)
      have HMW := Lib.hid hwm
      have HMM := Lib.hid hml
      clear hbd hn hnl hwm hml hx0 hq1 hq2 hbl hb2l
      obtain ⟨V, HVE⟩ : ∃ z, Hid (wr.drew = z) := ⟨_, rfl⟩
      have HVS : Hid (V.heap.size = wr.heap.size) := by unfold Hid; rw [← HVE.out]; rfl
      obtain ⟨V1, HV1⟩ : ∃ z, Hid (V.alloc (.cells #[.int .i64 0, .int .i64 0] 25) = z) := ⟨_, rfl⟩
      have HVB : Hid (Bs wr [(V.heap.size, .cells #[.int .i64 0, .int .i64 0] 25)] V1) := by
        have h : Bs wr [] V := by rw [← HVE.out]; exact (Bs.nil wr).drew
        rw [← HV1.out]
        exact h.push V.heap.size rfl _
      obtain ⟨ta1, tc1, htv⟩ := ownsRow_slice HT.out
      have HTV := Lib.hid htv
      clear htv
      go_upto_region 5 with fail
      refine wp_region_inv0 (by kernel_rfl) (by kernel_rfl) (fun D w' => AlC wr [] V V1 (D 10) (D 11) w' ∧ (D 11 = true → Bs wr [(V.heap.size, .cells #[.int .i64 W1, .int .i64 W2] 25)] w')) ⟨⟨(Bs.nil wr).drew, fun _ => HVE.out⟩, fun h => by cases h⟩ ?_
      apply obl_det
      case hrun =>
        intro D y wz hW hD R hR
        have HRR := Lib.hid hR
        clear hR
        have HW := Lib.hid hW
        clear hW hD
        go_wp2_with fail
        exact HRR.out _ HW.out
      case hnp => rfl
      case hv => first | exact ⟨_, fun _ => rfl⟩ | exact ⟨undef, fun _ => rfl⟩
      apply obl_det
      case hrun =>
        intro D y wz hW hD R hR
        have HRR := Lib.hid hR
        clear hR
        have HW := Lib.hid hW
        have c_8 := (HW.out.1.bs.bel.cell (p := ⟨w.heap.size, 8, none⟩) HBL.out).trans HB8.out
        clear hW hD
        go_wp2_with fail
        exact HRR.out _ HW.out
      case hnp => rfl
      case hv => first | exact ⟨_, fun _ => rfl⟩ | exact ⟨undef, fun _ => rfl⟩
      iterate 4
        (apply obl_det
         case hrun =>
           intro D y wz hW hD R hR
           have HRR := Lib.hid hR
           clear hR
           have HW := Lib.hid hW
           clear hW hD
           go_wp2_with fail
           exact HRR.out _ HW.out
         case hnp => rfl
         case hv => first | exact ⟨_, fun _ => rfl⟩ | exact ⟨undef, fun _ => rfl⟩)
      apply obl_det
      case hrun =>
        intro D y wz hW hD R hR
        have HRR := Lib.hid hR
        clear hR
        have HW := Lib.hid hW
        have c_b := (HW.out.1.bs.bel.cell (p := ⟨b, o + k * 4, none⟩) HPL.out).trans HPB.out
        clear hW hD
        go_wp2_with fail
        exact HRR.out _ HW.out
      case hnp => rfl
      case hv => first | exact ⟨_, fun _ => rfl⟩ | exact ⟨undef, fun _ => rfl⟩
      iterate 2
        (apply obl_det
         case hrun =>
           intro D y wz hW hD R hR
           have HRR := Lib.hid hR
           clear hR
           have HW := Lib.hid hW
           clear hW hD
           go_wp2_with fail
           exact HRR.out _ HW.out
         case hnp => rfl
         case hv => first | exact ⟨_, fun _ => rfl⟩ | exact ⟨undef, fun _ => rfl⟩)
      apply obl_det
      case hrun =>
        intro D y wz hW hD R hR
        have HRR := Lib.hid hR
        clear hR
        have HW := Lib.hid hW
        have c_1 := (HW.out.1.bs.bel.cell (p := ⟨b2, o2 + n * 3 + 1, none⟩) HQL.out).trans HQ1.out
        have c_2 := (HW.out.1.bs.bel.cell (p := ⟨b2, o2 + n * 3 + 1 + 1, none⟩) HQL.out).trans HQ2.out
        clear hW hD
        go_wp2_with fail
        exact HRR.out _ HW.out
      case hnp => rfl
      case hv => first | exact ⟨_, fun _ => rfl⟩ | exact ⟨undef, fun _ => rfl⟩
      apply obl_det
      case hrun =>
        intro D y wz hW hD R hR
        have HRR := Lib.hid hR
        clear hR
        have h10 : D 10 = false := hD.not
        have h11 : D 11 = false := hD.post _ 11 rfl (by kernel_rfl)
        have hz : wz = V := by rw [hW.1.ex h11, h10]; rfl
        subst hz
        have H11 := Lib.hid h11
        clear h10 h11
        have HW := Lib.hid hW
        clear hW hD
        go_wp2_with fail
        rw [HV1.out]
        refine HRR.out _ ⟨⟨by rw [← HV1.out]; exact HW.out.1.bs.alloc _, fun _ => rfl⟩, fun h => ?_⟩
        have h2 : D 11 = true := h
        rw [H11.out] at h2
        cases h2
      case hnp => rfl
      case hv => first | exact ⟨_, fun _ => rfl⟩ | exact ⟨undef, fun _ => rfl⟩
      apply obl_det
      case hrun =>
        intro D y wz hW hD R hR
        have HRR := Lib.hid hR
        clear hR
        have h11 : D 11 = false := hD.not
        have h10 : D 10 = true := hD.pre _ 10 rfl (by kernel_rfl)
        have hz : wz = V1 := by rw [hW.1.ex h11, h10]; rfl
        subst hz
        clear h10 h11
        have HW := Lib.hid hW
        clear hW hD
        refine wpList_store_bs rfl 25 _ _ rfl HVB.out 0 _ #[.int .i64 W1, .int .i64 W2] _ _ rfl rfl rfl infoSpan rfl (by simp [Value.oneCell']) ?_
        intro w4 hC4
        simp only [Act.put]
        go_simp
        exact HRR.out _ ⟨⟨hC4.sub _ (by simp), fun h => by cases h⟩, fun _ => hC4⟩
      case hnp => rfl
      case hv => first | exact ⟨_, fun _ => rfl⟩ | exact ⟨undef, fun _ => rfl⟩
      apply obl_det
      case hrun =>
        intro D y wz hW hD R hR
        have HRR := Lib.hid hR
        clear hR
        have HW := Lib.hid hW
        clear hW hD
        go_wp2_with fail
        exact HRR.out _ HW.out
      case hnp => rfl
      case hv => first | exact ⟨_, fun _ => rfl⟩ | exact ⟨undef, fun _ => rfl⟩
      apply obl_nil
      intro D y w6 hall hW
      have C6 := Lib.hid (hW.2 (hall 11 (by decide)))
      clear hW hall HVB HV1
      have HL6 : Hid (w.heap.size + 1 ≤ w6.heap.size) := Nat.le_trans HLE.out C6.out.bel.size
      obtain ⟨A, HA⟩ : ∃ A, Hid (warmedV s plan yl k = A) := ⟨_, rfl⟩
      rw [HA.out] at HSN HWV
      obtain ⟨M, HMD⟩ : ∃ M, Hid (W2 - W1 + 1 = M) := ⟨_, rfl⟩
      rw [HMD.out] at HWV
      have hmp : 1 ≤ M ∧ M ≤ 2001 := by have h1 := HMD.out; have h2 := HMW.out; have h3 := HMM.out; omega
      have HMP := Lib.hid hmp
      have HMZ : Hid ((M == 0) = false) := by unfold Hid; simp; omega
      clear hmp
      by_cases hy0 : yl.length = 0
      · have hT0 : turnY yl k = 0 := by unfold turnY; rw [if_pos hy0]
        have HRM : Hid ((0 : Int).tmod M = 0) := by simp [Hid]
        have hAW : W1 = A := by have h := HWV.out; rw [hT0] at h; simp at h; exact h.symm
        subst hAW
        have hyz : ¬ (0 : Int) < (yl.length : Int) := by omega
        have HYD : Hid (decide (0 < yl.length) = false) := decide_eq_false (by omega)
        clear hT0 hy0
        go_upto_region 8 with fail
        clear hyz
        try rw [HYD.out]
        refine wp_region_inv1 (by kernel_rfl) (by kernel_rfl) [50, 51, 7] (fun D y w' => AppX w6 (w.heap.size + 1) 3 1 (tv) (k) ((((List.range k).map (warmedV s plan yl)).map (Value.int .i64))) [.int .i64 W1] (D 12) (D 13) (y 50) (y 51) w' ∧ (D 14 = false → y 7 = tv) ∧ (D 14 = true → y 7 = y 51) ∧ (w').heap[V.heap.size]? = some (.cells #[.int .i64 W1, .int .i64 W2] 25)) ?_ ?F1 ?hF1 ?_
        · exact ⟨AppX.start (ownsRow.below HT.out C6.out.bel) HL6.out, fun _ => rfl, fun h => (by cases h), block_keep (C6.out.get 0 rfl) (Below.refl _ _).drew⟩
        case hF1 =>
          intro y
          simp only [fill, List.foldl, Act.put, List.setIfInBounds_toArray, List.set]
          exact rfl
        apply obl_det
        case hrun =>
          intro D y wz hW hD R hR
          have HRR := Lib.hid hR
          clear hR
          have h15 : D 14 = false := hD.post _ 14 rfl (by kernel_rfl)
          refine wpList_mv rfl _ rfl (tv) (hW.2.1 h15) ?_
          have HW := Lib.hid hW
          clear hW hD
          go_wp2_with fail
          exact HRR.out _ HW.out
        case hnp => rfl
        case hv => first | exact ⟨_, fun _ => rfl⟩ | exact ⟨undef, fun _ => rfl⟩
        apply obl_det
        case hrun =>
          intro D y wz hW hD R hR
          have HRR := Lib.hid hR
          clear hR
          have HW := Lib.hid hW
          clear hW hD
          go_wp2_with fail
          exact HRR.out _ HW.out
        case hnp => rfl
        case hv => first | exact ⟨_, fun _ => rfl⟩ | exact ⟨undef, fun _ => rfl⟩
        apply obl_det
        case hrun =>
          intro D y wz hW hD R hR
          have HRR := Lib.hid hR
          clear hR
          have HW := Lib.hid hW
          have c_x := cell_of_row _ _ 0 _ _ _ HW.out.2.2.2
          clear hW hD
          go_wp2_with fail
          exact HRR.out _ HW.out
        case hnp => rfl
        case hv => first | exact ⟨_, fun _ => rfl⟩ | exact ⟨undef, fun _ => rfl⟩
        iterate 2
          (apply obl_det
           case hrun =>
             intro D y wz hW hD R hR
             have HRR := Lib.hid hR
             clear hR
             have HW := Lib.hid hW
             clear hW hD
             go_wp2_with fail
             exact HRR.out _ HW.out
           case hnp => rfl
           case hv => first | exact ⟨_, fun _ => rfl⟩ | exact ⟨undef, fun _ => rfl⟩)
        apply obl_det
        case hrun =>
          intro D y wz hW hD R hR
          have HRR := Lib.hid hR
          clear hR
          have HW := Lib.hid hW
          have c_x := cell_of_row _ _ 1 _ _ _ HW.out.2.2.2
          clear hW hD
          go_wp2_with fail
          exact HRR.out _ HW.out
        case hnp => rfl
        case hv => first | exact ⟨_, fun _ => rfl⟩ | exact ⟨undef, fun _ => rfl⟩
        apply obl_det
        case hrun =>
          intro D y wz hW hD R hR
          have HRR := Lib.hid hR
          clear hR
          have HW := Lib.hid hW
          clear hW hD
          go_wp2_with fail
          exact HRR.out _ HW.out
        case hnp => rfl
        case hv => first | exact ⟨_, fun _ => rfl⟩ | exact ⟨undef, fun _ => rfl⟩
        apply obl_det
        case hrun =>
          intro D y wz hW hD R hR
          have HRR := Lib.hid hR
          clear hR
          have HW := Lib.hid hW
          have c_x := cell_of_row _ _ 0 _ _ _ HW.out.2.2.2
          clear hW hD
          go_wp2_with fail
          exact HRR.out _ HW.out
        case hnp => rfl
        case hv => first | exact ⟨_, fun _ => rfl⟩ | exact ⟨undef, fun _ => rfl⟩
        apply obl_det
        case hrun =>
          intro D y wz hW hD R hR
          have HRR := Lib.hid hR
          clear hR
          have HW := Lib.hid hW
          have hwm := HMW.out
          have hml := HMM.out
          clear hW hD
          go_wp2_with fail
          exact HRR.out _ HW.out
        case hnp => rfl
        case hv => first | exact ⟨_, fun _ => rfl⟩ | exact ⟨undef, fun _ => rfl⟩
        apply obl_det
        case hrun =>
          intro D y wz hW hD R hR
          have HRR := Lib.hid hR
          clear hR
          have HW := Lib.hid hW
          have hwm := HMW.out
          have hml := HMM.out
          clear hW hD
          go_wp2_with fail
          rw [HMD.out]
          exact HRR.out _ HW.out
        case hnp => rfl
        case hv => first | exact ⟨_, fun _ => rfl⟩ | exact ⟨undef, fun _ => rfl⟩
        apply obl_det
        case hrun =>
          intro D y wz hW hD R hR
          have HRR := Lib.hid hR
          clear hR
          have HW := Lib.hid hW
          have hmz := HMZ.out
          have hmp := HMP.out
          clear hW hD
          go_wp2_with fail
          exact HRR.out _ HW.out
        case hnp => rfl
        case hv => first | exact ⟨_, fun _ => rfl⟩ | exact ⟨undef, fun _ => rfl⟩
        apply obl_det
        case hrun =>
          intro D y wz hW hD R hR
          have HRR := Lib.hid hR
          clear hR
          have HW := Lib.hid hW
          have hwm := HMW.out
          have hml := HMM.out
          clear hW hD
          go_wp2_with fail
          exact HRR.out _ HW.out
        case hnp => rfl
        case hv => first | exact ⟨_, fun _ => rfl⟩ | exact ⟨undef, fun _ => rfl⟩
        apply obl_priv 50
        case hd => rfl
        case hp => rfl
        case hrun =>
          intro D y wz hW hD R hR
          have HRR := Lib.hid hR
          clear hR
          have h13 : D 12 = false := hD.not
          have h14 : D 13 = false := hD.post _ 13 rfl (by kernel_rfl)
          have hA := hW.1
          rw [h13, h14] at hA
          have HA := Lib.hid hA.laid
          have HV := Lib.hid hW.2
          have H14 := Lib.hid h14
          clear hA hW hD h13 h14
          go_wp2_with fail
          refine HRR.out (.slice (some ⟨wz.heap.size, 0, none⟩) 1 1) _ ?_
          show AppX w6 (w.heap.size + 1) 3 1 (tv) (k) ((((List.range k).map (warmedV s plan yl)).map (Value.int .i64))) [.int .i64 W1] true (D 13) (.slice (some ⟨wz.heap.size, 0, none⟩) 1 1) (y 51) _ ∧ (D 14 = false → y 7 = tv) ∧ (D 14 = true → y 7 = y 51) ∧ (World.heap _)[V.heap.size]? = some (.cells #[.int .i64 W1, .int .i64 W2] 25)
          rw [H14.out]
          exact ⟨HA.out, HV.out.1, HV.out.2.1, block_keep HV.out.2.2 ((Below.refl _ _).alloc (Nat.le_refl _) _)⟩
        apply obl_priv 51
        case hd => rfl
        case hp => rfl
        case hrun =>
          intro D y wz hW hD R hR
          have HRR := Lib.hid hR
          clear hR
          have h14 : D 13 = false := hD.not
          have h13 : D 12 = true := hD.pre _ 12 rfl (by kernel_rfl)
          have h15 : D 14 = false := hD.post _ 14 rfl (by kernel_rfl)
          have hA := hW.1
          rw [h13, h14] at hA
          have HA := Lib.hid hA
          have HV := Lib.hid (hW.2.1 h15)
          have HKC := Lib.hid hW.2.2.2
          have H13 := Lib.hid h13
          have H15 := Lib.hid h15
          have hbase := hA.le
          have ho := hA.row rfl
          obtain ⟨g, hyb, hgc⟩ := hA.lay rfl rfl
          clear hA hW hD h13 h14 h15
          obtain ⟨i0, hi0, hz0, hz1, hz2⟩ := info3'
          refine wpList_append_own _ rfl _ _ 49 rfl (w.heap.size + 1) 3 i0 (.int .i64 0) 1 8 Tryz.underlying49 hi0 hz0 hz1 hz2 rfl (by decide) _ _ _ rfl ho ⟨g, 0, none⟩ 1 1 [.int .i64 W1] hyb rfl (cell_news _ _ _ _ hgc) (one_int _) (by unfold maxLen; omega) (by omega) (by omega) ?_
          intro v' w12 hown12 hgrow12 _
          have HA2 := Lib.hid (HA.out.got hown12 hgrow12)
          have HKC2 := Lib.hid ((hgrow12.block _ (block_lt HKC.out) (fun e => by have h1 := (HT.out.lt _ e.symm).2; have h2 := HVS.out; omega)).trans HKC.out)
          clear ho hgc hown12 hgrow12 hi0 hz0 hz1 hz2 hyb
          go_wp2_with fail
          refine HRR.out v' _ ?_
          show AppX w6 (w.heap.size + 1) 3 1 (tv) (k) ((((List.range k).map (warmedV s plan yl)).map (Value.int .i64))) [.int .i64 W1] (D 12) true (y 50) v' _ ∧ (D 14 = false → y 7 = tv) ∧ (D 14 = true → y 7 = v') ∧ (World.heap _)[V.heap.size]? = some (.cells #[.int .i64 W1, .int .i64 W2] 25)
          rw [H13.out]
          exact ⟨HA2.out, fun _ => HV.out, fun h => (by rw [H15.out] at h; cases h), HKC2.out⟩
        apply obl_priv 7
        case hd => rfl
        case hp => rfl
        case hrun =>
          intro D y wz hW hD R hR
          have HRR := Lib.hid hR
          clear hR
          have HA := Lib.hid hW.1
          have HKK := Lib.hid hW.2.2.2
          clear hW hD
          go_wp2_with fail
          refine HRR.out (y 51) _ ?_
          show AppX w6 (w.heap.size + 1) 3 1 (tv) (k) ((((List.range k).map (warmedV s plan yl)).map (Value.int .i64))) [.int .i64 W1] (D 12) (D 13) (y 50) (y 51) _ ∧ (true = false → y 51 = tv) ∧ (true = true → y 51 = y 51) ∧ (World.heap _)[V.heap.size]? = some (.cells #[.int .i64 W1, .int .i64 W2] 25)
          exact ⟨HA.out, fun h => (by cases h), fun _ => rfl, HKK.out⟩
        apply obl_nil
        intro D y w8 hall hW
        have h14 := hall 13 (by decide)
        have hy := hW.2.2.1 (hall 14 (by decide))
        have hA := hW.1
        rw [h14] at hA
        have HO8 := Lib.hid (hA.new rfl)
        have C8 := Lib.hid hA.bel
        clear hA hW hall h14
        rw [hy]
        clear hy
        generalize y 51 = yv at HO8 ⊢
        generalize y 50 = yb at ⊢
        rw [HSN.out] at HO8
        go_wp2_with fail
        refine ⟨⟨k + 1, _, rfl, by push_cast; rfl, by omega, (HB.out.trans (C6.out.bel.mono HLE.out)).trans C8.out, Nat.le_trans HL6.out C8.out.size, HO8.out⟩, ?_⟩
        simp [intOf]; omega
      · have hyz : (0 : Int) < (yl.length : Int) := by omega
        have hmd : (k : Int) % (yl.length : Int) = ((k % yl.length : Nat) : Int) := by push_cast; rfl
        have hml2 : k % yl.length < yl.length := Nat.mod_lt _ (Nat.pos_of_ne_zero hy0)
        have hT1 : turnY yl k = yl.getD (k % yl.length) 0 := by unfold turnY; rw [if_neg hy0]
        obtain ⟨yb, yo, yc2, hye, hybl, hyc0⟩ := getU_cell HY.out hml2
        cases hye
        have HTE : Hid (yl.getD (k % yl.length) 0 ∈ yl) := by
          unfold Hid
          rw [List.getD_eq_getElem?_getD, List.getElem?_eq_getElem hml2]
          exact List.getElem_mem hml2
        have hyb := HYB.out _ HTE.out
        rw [hT1] at HWV
        generalize yl.getD (k % yl.length) 0 = T at *
        have HRM : Hid (T.tmod M = T % M) := by unfold Hid; exact Int.tmod_eq_emod_of_nonneg hyb.1
        obtain ⟨R, HRR⟩ : ∃ R, Hid (T % M = R) := ⟨_, rfl⟩
        have hr0 : 0 ≤ R ∧ R < M := by
          have h1 := HMP.out
          rw [← HRR.out]
          exact ⟨Int.emod_nonneg _ (by omega), Int.emod_lt_of_pos _ (by omega)⟩
        rw [HRR.out] at HRM HWV
        have HAA : Hid (wrap64 (W1 + R) = A) := by
          have h1 := HMP.out
          have h2 := HMW.out
          have h3 := HMM.out
          rw [HWV.out]
          exact wrapU (by omega)
        have HYC : Hid (w6.cell? ⟨yb, yo + k % yl.length, none⟩ = some (.int .u16 T)) := ((HBELW.out.trans (C6.out.bel.mono (by have := HBL.out; omega))).cell (p := ⟨yb, yo + k % yl.length, none⟩) hybl).trans hyc0
        have c_y := HYC.out
        have hmli : ((k % yl.length : Nat) : Int) < (yl.length : Int) := by omega
        generalize k % yl.length = m at *
        have HYD : Hid (decide (0 < yl.length) = true) := decide_eq_true (by omega)
        clear hT1 hy0 hyc0
        go_upto_region 8 with fail
        try rw [HYD.out]
        clear c_y hyz hmd hml2 hmli hr0 hyb
        refine wp_region_inv1 (by kernel_rfl) (by kernel_rfl) [50, 51, 7] (fun D y w' => AppX w6 (w.heap.size + 1) 3 1 (tv) (k) ((((List.range k).map (warmedV s plan yl)).map (Value.int .i64))) [.int .i64 A] (D 12) (D 13) (y 50) (y 51) w' ∧ (D 14 = false → y 7 = tv) ∧ (D 14 = true → y 7 = y 51) ∧ (w').heap[V.heap.size]? = some (.cells #[.int .i64 W1, .int .i64 W2] 25)) ?_ ?F2 ?hF2 ?_
        · exact ⟨AppX.start (ownsRow.below HT.out C6.out.bel) HL6.out, fun _ => rfl, fun h => (by cases h), block_keep (C6.out.get 0 rfl) (Below.refl _ _).drew⟩
        case hF2 =>
          intro y
          simp only [fill, List.foldl, Act.put, List.setIfInBounds_toArray, List.set]
          exact rfl
        apply obl_det
        case hrun =>
          intro D y wz hW hD R hR
          have HRR := Lib.hid hR
          clear hR
          have h15 : D 14 = false := hD.post _ 14 rfl (by kernel_rfl)
          refine wpList_mv rfl _ rfl (tv) (hW.2.1 h15) ?_
          have HW := Lib.hid hW
          clear hW hD
          go_wp2_with fail
          exact HRR.out _ HW.out
        case hnp => rfl
        case hv => first | exact ⟨_, fun _ => rfl⟩ | exact ⟨undef, fun _ => rfl⟩
        apply obl_det
        case hrun =>
          intro D y wz hW hD R hR
          have HRR := Lib.hid hR
          clear hR
          have HW := Lib.hid hW
          clear hW hD
          go_wp2_with fail
          exact HRR.out _ HW.out
        case hnp => rfl
        case hv => first | exact ⟨_, fun _ => rfl⟩ | exact ⟨undef, fun _ => rfl⟩
        apply obl_det
        case hrun =>
          intro D y wz hW hD R hR
          have HRR := Lib.hid hR
          clear hR
          have HW := Lib.hid hW
          have c_x := cell_of_row _ _ 0 _ _ _ HW.out.2.2.2
          clear hW hD
          go_wp2_with fail
          exact HRR.out _ HW.out
        case hnp => rfl
        case hv => first | exact ⟨_, fun _ => rfl⟩ | exact ⟨undef, fun _ => rfl⟩
        iterate 2
          (apply obl_det
           case hrun =>
             intro D y wz hW hD R hR
             have HRR := Lib.hid hR
             clear hR
             have HW := Lib.hid hW
             clear hW hD
             go_wp2_with fail
             exact HRR.out _ HW.out
           case hnp => rfl
           case hv => first | exact ⟨_, fun _ => rfl⟩ | exact ⟨undef, fun _ => rfl⟩)
        apply obl_det
        case hrun =>
          intro D y wz hW hD R hR
          have HRR := Lib.hid hR
          clear hR
          have HW := Lib.hid hW
          have c_x := cell_of_row _ _ 1 _ _ _ HW.out.2.2.2
          clear hW hD
          go_wp2_with fail
          exact HRR.out _ HW.out
        case hnp => rfl
        case hv => first | exact ⟨_, fun _ => rfl⟩ | exact ⟨undef, fun _ => rfl⟩
        apply obl_det
        case hrun =>
          intro D y wz hW hD R hR
          have HRR := Lib.hid hR
          clear hR
          have HW := Lib.hid hW
          clear hW hD
          go_wp2_with fail
          exact HRR.out _ HW.out
        case hnp => rfl
        case hv => first | exact ⟨_, fun _ => rfl⟩ | exact ⟨undef, fun _ => rfl⟩
        apply obl_det
        case hrun =>
          intro D y wz hW hD R hR
          have HRR := Lib.hid hR
          clear hR
          have HW := Lib.hid hW
          have c_x := cell_of_row _ _ 0 _ _ _ HW.out.2.2.2
          clear hW hD
          go_wp2_with fail
          exact HRR.out _ HW.out
        case hnp => rfl
        case hv => first | exact ⟨_, fun _ => rfl⟩ | exact ⟨undef, fun _ => rfl⟩
        apply obl_det
        case hrun =>
          intro D y wz hW hD R hR
          have HRR := Lib.hid hR
          clear hR
          have HW := Lib.hid hW
          have hwm := HMW.out
          have hml := HMM.out
          clear hW hD
          go_wp2_with fail
          exact HRR.out _ HW.out
        case hnp => rfl
        case hv => first | exact ⟨_, fun _ => rfl⟩ | exact ⟨undef, fun _ => rfl⟩
        apply obl_det
        case hrun =>
          intro D y wz hW hD R hR
          have HRR := Lib.hid hR
          clear hR
          have HW := Lib.hid hW
          have hwm := HMW.out
          have hml := HMM.out
          clear hW hD
          go_wp2_with fail
          rw [HMD.out]
          exact HRR.out _ HW.out
        case hnp => rfl
        case hv => first | exact ⟨_, fun _ => rfl⟩ | exact ⟨undef, fun _ => rfl⟩
        apply obl_det
        case hrun =>
          intro D y wz hW hD R hR
          have HRR := Lib.hid hR
          clear hR
          have HW := Lib.hid hW
          have hmz := HMZ.out
          have hmp := HMP.out
          clear hW hD
          go_wp2_with fail
          rw [HRM.out]
          exact HRR.out _ HW.out
        case hnp => rfl
        case hv => first | exact ⟨_, fun _ => rfl⟩ | exact ⟨undef, fun _ => rfl⟩
        apply obl_det
        case hrun =>
          intro D y wz hW hD R hR
          have HRR := Lib.hid hR
          clear hR
          have HW := Lib.hid hW
          clear hW hD
          go_wp2_with fail
          rw [HAA.out]
          exact HRR.out _ HW.out
        case hnp => rfl
        case hv => first | exact ⟨_, fun _ => rfl⟩ | exact ⟨undef, fun _ => rfl⟩
        apply obl_priv 50
        case hd => rfl
        case hp => rfl
        case hrun =>
          intro D y wz hW hD R hR
          have HRR := Lib.hid hR
          clear hR
          have h13 : D 12 = false := hD.not
          have h14 : D 13 = false := hD.post _ 13 rfl (by kernel_rfl)
          have hA := hW.1
          rw [h13, h14] at hA
          have HA := Lib.hid hA.laid
          have HV := Lib.hid hW.2
          have H14 := Lib.hid h14
          clear hA hW hD h13 h14
          go_wp2_with fail
          refine HRR.out (.slice (some ⟨wz.heap.size, 0, none⟩) 1 1) _ ?_
          show AppX w6 (w.heap.size + 1) 3 1 (tv) (k) ((((List.range k).map (warmedV s plan yl)).map (Value.int .i64))) [.int .i64 A] true (D 13) (.slice (some ⟨wz.heap.size, 0, none⟩) 1 1) (y 51) _ ∧ (D 14 = false → y 7 = tv) ∧ (D 14 = true → y 7 = y 51) ∧ (World.heap _)[V.heap.size]? = some (.cells #[.int .i64 W1, .int .i64 W2] 25)
          rw [H14.out]
          exact ⟨HA.out, HV.out.1, HV.out.2.1, block_keep HV.out.2.2 ((Below.refl _ _).alloc (Nat.le_refl _) _)⟩
        apply obl_priv 51
        case hd => rfl
        case hp => rfl
        case hrun =>
          intro D y wz hW hD R hR
          have HRR := Lib.hid hR
          clear hR
          have h14 : D 13 = false := hD.not
          have h13 : D 12 = true := hD.pre _ 12 rfl (by kernel_rfl)
          have h15 : D 14 = false := hD.post _ 14 rfl (by kernel_rfl)
          have hA := hW.1
          rw [h13, h14] at hA
          have HA := Lib.hid hA
          have HV := Lib.hid (hW.2.1 h15)
          have HKC := Lib.hid hW.2.2.2
          have H13 := Lib.hid h13
          have H15 := Lib.hid h15
          have hbase := hA.le
          have ho := hA.row rfl
          obtain ⟨g, hyb, hgc⟩ := hA.lay rfl rfl
          clear hA hW hD h13 h14 h15
          obtain ⟨i0, hi0, hz0, hz1, hz2⟩ := info3'
          refine wpList_append_own _ rfl _ _ 49 rfl (w.heap.size + 1) 3 i0 (.int .i64 0) 1 8 Tryz.underlying49 hi0 hz0 hz1 hz2 rfl (by decide) _ _ _ rfl ho ⟨g, 0, none⟩ 1 1 [.int .i64 A] hyb rfl (cell_news _ _ _ _ hgc) (one_int _) (by unfold maxLen; omega) (by omega) (by omega) ?_
          intro v' w12 hown12 hgrow12 _
          have HA2 := Lib.hid (HA.out.got hown12 hgrow12)
          have HKC2 := Lib.hid ((hgrow12.block _ (block_lt HKC.out) (fun e => by have h1 := (HT.out.lt _ e.symm).2; have h2 := HVS.out; omega)).trans HKC.out)
          clear ho hgc hown12 hgrow12 hi0 hz0 hz1 hz2 hyb
          go_wp2_with fail
          refine HRR.out v' _ ?_
          show AppX w6 (w.heap.size + 1) 3 1 (tv) (k) ((((List.range k).map (warmedV s plan yl)).map (Value.int .i64))) [.int .i64 A] (D 12) true (y 50) v' _ ∧ (D 14 = false → y 7 = tv) ∧ (D 14 = true → y 7 = v') ∧ (World.heap _)[V.heap.size]? = some (.cells #[.int .i64 W1, .int .i64 W2] 25)
          rw [H13.out]
          exact ⟨HA2.out, fun _ => HV.out, fun h => (by rw [H15.out] at h; cases h), HKC2.out⟩
        apply obl_priv 7
        case hd => rfl
        case hp => rfl
        case hrun =>
          intro D y wz hW hD R hR
          have HRR := Lib.hid hR
          clear hR
          have HA := Lib.hid hW.1
          have HKK := Lib.hid hW.2.2.2
          clear hW hD
          go_wp2_with fail
          refine HRR.out (y 51) _ ?_
          show AppX w6 (w.heap.size + 1) 3 1 (tv) (k) ((((List.range k).map (warmedV s plan yl)).map (Value.int .i64))) [.int .i64 A] (D 12) (D 13) (y 50) (y 51) _ ∧ (true = false → y 51 = tv) ∧ (true = true → y 51 = y 51) ∧ (World.heap _)[V.heap.size]? = some (.cells #[.int .i64 W1, .int .i64 W2] 25)
          exact ⟨HA.out, fun h => (by cases h), fun _ => rfl, HKK.out⟩
        apply obl_nil
        intro D y w8 hall hW
        have h14 := hall 13 (by decide)
        have hy := hW.2.2.1 (hall 14 (by decide))
        have hA := hW.1
        rw [h14] at hA
        have HO8 := Lib.hid (hA.new rfl)
        have C8 := Lib.hid hA.bel
        clear hA hW hall h14
        rw [hy]
        clear hy
        generalize y 51 = yv at HO8 ⊢
        generalize y 50 = yb at ⊢
        rw [HSN.out] at HO8
        go_wp2_with fail
        refine ⟨⟨k + 1, _, rfl, by push_cast; rfl, by omega, (HB.out.trans (C6.out.bel.mono HLE.out)).trans C8.out, Nat.le_trans HL6.out C8.out.size, HO8.out⟩, ?_⟩
        simp [intOf]; omega
    · obtain rfl : k = plan.length := by omega
      have HTF : Hid (IntsIn .i64 wr.heap.size wr tv ((List.range plan.length).map (warmedV s plan yl))) := OwnInts.ints (base := w.heap.size + 1) (by unfold OwnInts; simpa using HT.out) (by simp; omega)
      have HBE : Hid (Below w.heap.size w wr) := C1.out.bel.trans (HB.out.mono (by omega))
      go_wp2_with fail
      go_ret
      exact ⟨_, rfl, HTF.out, HBE.out⟩
end Go.Proofs.YtpkggjobdmchlaaGreatDoor
