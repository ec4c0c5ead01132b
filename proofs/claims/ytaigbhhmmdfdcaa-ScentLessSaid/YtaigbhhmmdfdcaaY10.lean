/- stearinref07: down, IsPale, first, Weakness. -/
import Derived.Test.YtaigbhhmmdfdcaaK8
namespace Go.Proofs.Ytaigbhhmmdfdcaa
open Go.RowKit
set_option maxHeartbeats 4000000 in
/-- IsPale -/
theorem isPale_ref (x : Thing) (micro wt shows : Int) (d : Nat) (ho : PaleOk x.fade micro wt shows) (hd : d ≤ 40000) (w : World) :
    Calls Try.prog 47 #[.agg #[.string x.name, .int .i64 x.kind, .int .i64 x.limit, .int .i64 x.weak, .int .i64 x.fade], .int .i64 micro, .int .i64 wt, .int .i64 shows, .int .i64 d] w
      fun e w' => e = .returned (.bool (paleB x.fade micro wt shows d)) ∧ Below w.heap.size w w' := by
  obtain ⟨nm, kd, li, we, fade⟩ := x
  simp only at ho ⊢
  have HB := Lib.hid (ba_allocB w (.cells #[.string nm, .int .i64 kd, .int .i64 li, .int .i64 we, .int .i64 fade] 62))
  have h1 := mul_bound (show 0 ≤ fade ∧ fade ≤ 1000 from ⟨ho.f0, ho.f1⟩) (show 0 ≤ (d : Int) ∧ (d : Int) ≤ 40000 by omega)
  have h2 := mul_bound (show 0 ≤ 1000 * wt ∧ 1000 * wt ≤ 1200000000 by have := ho.w0; have := ho.w1; omega) (show 0 ≤ shows ∧ shows ≤ 1000000 from ⟨ho.s0, ho.s1⟩)
  have h3 := ho.w0
  have h4 := ho.w1
  have hmx : 0 ≤ max 0 (1000 - fade * d) ∧ max 0 (1000 - fade * d) ≤ 1000 := by omega
  have h6 := mul_bound (show 0 ≤ micro ∧ micro ≤ 2000000000000 from ⟨ho.m0, ho.m1⟩) hmx
  have HR : Hid (paleB fade micro wt shows d = decide (micro * max 0 (1000 - fade * d) < 1000 * wt * shows)) := rfl
  generalize paleB fade micro wt shows d = r at *
  clear ho
  go_enter Try.func47, Try.ntmps47
  go_wp2_with fail
  all_goals
    go_ret
    exact ⟨ret_bool (by first | (rw [HR.out]; done) | (rw [HR.out]; simp; done) | (rw [HR.out]; simp; omega)), HB.out⟩
theorem paleV_some {fade micro wt shows : Int} {d : Nat} (h : firstOf (fun d => paleB fade micro wt shows (d : Int)) 1001 = some d) : paleV fade micro wt shows = d := by unfold paleV; rw [h]
theorem paleV_none {fade micro wt shows : Int} (h : firstOf (fun d => paleB fade micro wt shows (d : Int)) 1001 = none) : paleV fade micro wt shows = 40001 := by unfold paleV; rw [h]
theorem firstOf_step (f : Nat → Bool) (d : Nat) (h : firstOf f d = none) (hf : f d = false) : firstOf f (d + 1) = none := by simp [firstOf, h, hf]
set_option maxHeartbeats 4000000 in
/-- first -/
theorem first_ref (x : Thing) (micro wt shows : Int) (ho : PaleOk x.fade micro wt shows) (w : World) :
    Calls Try.prog 79 #[.agg #[.string x.name, .int .i64 x.kind, .int .i64 x.limit, .int .i64 x.weak, .int .i64 x.fade], .int .i64 micro, .int .i64 wt, .int .i64 shows] w
      fun e w' => e = .returned (.int .i64 (paleV x.fade micro wt shows)) ∧ Below w.heap.size w w' := by
  have HX := fun d hd w => Lib.hid (isPale_ref x micro wt shows d ho hd w)
  obtain ⟨nm, kd, li, we, fade⟩ := x
  simp only at HX ⊢
  have C0 : Hid (Bs w [(w.heap.size, .cells #[.string nm, .int .i64 kd, .int .i64 li, .int .i64 we, .int .i64 fade] 62)] _) := (Bs.nil w).push _ rfl (.cells #[.string nm, .int .i64 kd, .int .i64 li, .int .i64 we, .int .i64 fade] 62)
  have HV1 := fun d => Lib.hid (@paleV_some fade micro wt shows d)
  have HV2 := Lib.hid (@paleV_none fade micro wt shows)
  generalize paleV fade micro wt shows = V at *
  clear ho
  go_enter Try.func79, Try.ntmps79
  go_wp2_with fail
  go_loopw [9] (fun dv wr => ∃ d : Nat, dv = .int .i64 d ∧ d ≤ 1001 ∧ firstOf (fun d => paleB fade micro wt shows (d : Int)) d = none ∧ Bs w [(w.heap.size, .cells #[.string nm, .int .i64 kd, .int .i64 li, .int .i64 we, .int .i64 fade] 62)] wr) (fun dv _ => 1001 - (intOf dv).toNat)
  case atStart => exact ⟨0, rfl, by omega, rfl, C0.out⟩
  case round =>
    clear C0
    obtain ⟨d, rfl, hd, hf, hb⟩ := hrel
    have C1 := Lib.hid hb
    have HF := Lib.hid hf
    clear hb hf
    by_cases hlt : d ≤ 1000
    · have h0 := C1.out.cell 0 rfl 0
      have h1 := C1.out.cell 0 rfl 1
      have h2 := C1.out.cell 0 rfl 2
      have h3 := C1.out.cell 0 rfl 3
      have h4 := C1.out.cell 0 rfl 4
      have HXD := Lib.hid (HX d (by omega) wr).out
      have HFD := Lib.hid (fun h => firstOf_step (fun d => paleB fade micro wt shows (d : Int)) d HF.out h)
      have HFS := Lib.hid (fun h => firstOf_some (f := fun d => paleB fade micro wt shows (d : Int)) HF.out h (show d < 1001 by omega))
      generalize hr : paleB fade micro wt shows (d : Int) = r at *
      clear hr
      go_wp2_with fail
      refine HXD.out.mono ?_
      rintro e w1 ⟨rfl, hb⟩
      have C2 := Lib.hid (C1.out.call hb)
      clear hb h0 h1 h2 h3 h4
      cases r
      · have HFE := Lib.hid (HFD.out rfl)
        go_wp2_with fail
        refine ⟨⟨d + 1, by push_cast; rfl, by omega, HFE.out, C2.out⟩, ?_⟩
        simp [intOf]; omega
      · have HFE := Lib.hid (HFS.out rfl)
        go_wp2_with fail
        go_ret
        exact ⟨ret_int ((HV1 d).out HFE.out).symm, C2.out.bel⟩
    · obtain rfl : d = 1001 := by omega
      go_wp2_with fail
      go_ret
      exact ⟨ret_int (HV2.out HF.out).symm, C1.out.bel⟩
set_option maxHeartbeats 1000000 in
/-- down -/
theorem down_ref (a b : Int) (hb : 0 < b) (hb2 : b ≤ 1000000000000000) (ha : -1000000000000000 ≤ a) (ha2 : a ≤ 1000000000000000) (w : World) :
    Calls Try.prog 74 #[.int .i64 a, .int .i64 b] w fun e w' => e = .returned (.int .i64 (a / b)) ∧ w' = w := by
  have HE := Lib.hid (down_eq a b hb)
  have hd := Int.natAbs_tdiv_le_natAbs a b
  have hb3 : ¬ b = 0 := by omega
  have hdw : IntKind.i64.wrap (a.tdiv b) = a.tdiv b := wrap_in (by omega) (by omega)
  go_enter Try.func74, Try.ntmps74
  by_cases h : a.tmod b < 0
  · have hq : decide (a.tmod b < 0) = true := decide_eq_true h
    have HG : Hid (a / b = a.tdiv b - 1) := by unfold Hid; rw [HE.out, if_pos h]
    clear h
    go_wp2_with fail
    go_ret
    exact ⟨ret_int HG.out.symm, rfl⟩
  · have hq : decide (a.tmod b < 0) = false := decide_eq_false h
    have HG : Hid (a / b = a.tdiv b) := by unfold Hid; rw [HE.out, if_neg h]
    clear h
    go_wp2_with fail
    go_ret
    exact ⟨ret_int HG.out.symm, rfl⟩
end Go.Proofs.Ytaigbhhmmdfdcaa
