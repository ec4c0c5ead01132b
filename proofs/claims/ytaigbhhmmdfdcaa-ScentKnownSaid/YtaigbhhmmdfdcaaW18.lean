/- scent.down, Take. -/
import Derived.Test.YtaigbhhmmdfdcaaW17
namespace Go.Proofs.Ytaigbhhmmdfdcaa
open Go.RowKit
theorem down_eq (a b : Int) (hb : 0 < b) : a / b = if a.tmod b < 0 then a.tdiv b - 1 else a.tdiv b := by
  have h1 : b * a.tdiv b + a.tmod b = a := Int.mul_tdiv_add_tmod a b
  have h2 : a.tmod b < b := Int.tmod_lt_of_pos a hb
  have h3 : -b < a.tmod b := by
    have := Int.tmod_lt_of_pos (-a) hb
    rw [Int.neg_tmod] at this
    omega
  split
  · rename_i h
    exact ((Int.ediv_emod_unique (r := a.tmod b + b) hb).2 ⟨by rw [Int.mul_sub, Int.mul_one]; omega, by omega, by omega⟩).1
  · rename_i h
    exact ((Int.ediv_emod_unique (r := a.tmod b) hb).2 ⟨by omega, by omega, by omega⟩).1
set_option maxHeartbeats 1000000 in
theorem down_any (a b : Int) (hb : 0 < b) (hb2 : b ≤ 1000000000000000) (ha : -1000000000000000 ≤ a) (ha2 : a ≤ 1000000000000000) (w : World) :
    Calls Try.prog 73 #[.int .i64 a, .int .i64 b] w fun e w' => e = .returned (.int .i64 (a / b)) ∧ w' = w := by
  have HE := Lib.hid (down_eq a b hb)
  have hd := Int.natAbs_tdiv_le_natAbs a b
  have hb3 : ¬ b = 0 := by omega
  have hdw : IntKind.i64.wrap (a.tdiv b) = a.tdiv b := wrap_in (by omega) (by omega)
  go_enter Try.func73, Try.ntmps73
  by_cases h : a.tmod b < 0
  · have hq : decide (a.tmod b < 0) = true := decide_eq_true h
    have HG : Hid (a / b = a.tdiv b - 1) := by unfold Hid; rw [HE.out, if_pos h]
    clear h
    go_wp2_with fail
    go_ret
    exact ⟨ret_int HG.out.symm, rfl⟩
  · have hq : decide (a.tmod b < 0) = false := decide_eq_false h
    have HG : Hid (a / b = a.tdiv b) := by unfold Hid; rw [HE.out, if_neg h]
    clear h
    go_wp2_with fail
    go_ret
    exact ⟨ret_int HG.out.symm, rfl⟩
end Go.Proofs.Ytaigbhhmmdfdcaa
