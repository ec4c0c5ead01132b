/- stearinref07.Parts. -/
import Derived.Test.YtaigbhhmmdfdcaaY5
namespace Go.Proofs.Ytaigbhhmmdfdcaa
open Go.RowKit
set_option maxHeartbeats 4000000 in
/-- Parts -/
theorem parts_ref (lo hi wt : Int) (w : World) (hlo : 0 ≤ lo) (hhi : lo ≤ hi) (hh : hi ≤ 2000000000000) (hw : 0 < wt) (hw2 : wt ≤ 1200000) : Calls Try.prog 98 #[.agg #[.int .i64 lo, .int .i64 hi], .int .i64 wt] w
    fun e w' => e = .returned (.agg #[.int .i64 (partsV wt (lo, hi)).1, .int .i64 (partsV wt (lo, hi)).2]) ∧ Below w.heap.size w w' := by
  have C0 : Hid (Bs w [(w.heap.size, .cells #[.int .i64 lo, .int .i64 hi] 51), (w.heap.size + 1, .cells #[.int .i64 0, .int .i64 0] 51)] _) := ((Bs.nil w).push _ rfl (.cells #[.int .i64 lo, .int .i64 hi] 51)).push (w.heap.size + 1) (by simp) (.cells #[.int .i64 0, .int .i64 0] 51)
  have HP1 : Hid (min 1000000 (lo / wt) = (partsV wt (lo, hi)).1) := rfl
  have HP2 : Hid (min 1000000 ((hi + wt - 1) / wt) = (partsV wt (lo, hi)).2) := rfl
  generalize partsV wt (lo, hi) = p at *
  obtain ⟨p1, p2⟩ := p
  simp only at HP1 HP2 ⊢
  go_enter Try.func98, Try.ntmps98
  go_wp2_with fail
  refine wp_region_inv0 (by kernel_rfl) (by kernel_rfl) (fun D w' => Bs w [(w.heap.size, .cells #[.int .i64 lo, .int .i64 hi] 51), (w.heap.size + 1, .cells (if D 14 then #[.int .i64 p1, .int .i64 p2] else #[.int .i64 0, .int .i64 0]) 51)] w') C0.out.drew ?_
  iterate 4
    (apply obl_det
     case hrun =>
       intro D y wz hW hD R hR
       have HRR := Lib.hid hR
       clear hR
       have HW := Lib.hid hW
       have hc0 := HW.out.cell 0 rfl 0
       have hc1 := HW.out.cell 0 rfl 1
       clear hW hD
       go_wp2_with fail
       exact HRR.out _ HW.out
     case hnp => rfl
     case hv => first | exact ⟨_, fun _ => rfl⟩ | exact ⟨undef, fun _ => rfl⟩)
  apply obl_det
  case hrun =>
    intro D y wz hW hD R hR
    have HRR := Lib.hid hR
    clear hR
    have HW := Lib.hid hW
    clear hW hD
    go_wp2_with fail
    rw [HP1.out]
    exact HRR.out _ HW.out
  case hnp => rfl
  case hv => first | exact ⟨_, fun _ => rfl⟩ | exact ⟨undef, fun _ => rfl⟩
  iterate 7
    (apply obl_det
     case hrun =>
       intro D y wz hW hD R hR
       have HRR := Lib.hid hR
       clear hR
       have HW := Lib.hid hW
       have hc0 := HW.out.cell 0 rfl 0
       have hc1 := HW.out.cell 0 rfl 1
       clear hW hD
       go_wp2_with fail
       exact HRR.out _ HW.out
     case hnp => rfl
     case hv => first | exact ⟨_, fun _ => rfl⟩ | exact ⟨undef, fun _ => rfl⟩)
  apply obl_det
  case hrun =>
    intro D y wz hW hD R hR
    have HRR := Lib.hid hR
    clear hR
    have HW := Lib.hid hW
    clear hW hD
    go_wp2_with fail
    rw [HP2.out]
    exact HRR.out _ HW.out
  case hnp => rfl
  case hv => first | exact ⟨_, fun _ => rfl⟩ | exact ⟨undef, fun _ => rfl⟩
  apply obl_det
  case hrun =>
    intro D y wz hW hD R hR
    have HRR := Lib.hid hR
    clear hR
    have HW := Lib.hid hW
    have hc0 := HW.out.cell 0 rfl 0
    have hc1 := HW.out.cell 0 rfl 1
    clear hW hD
    go_wp2_with fail
    exact HRR.out _ HW.out
  case hnp => rfl
  case hv => first | exact ⟨_, fun _ => rfl⟩ | exact ⟨undef, fun _ => rfl⟩
  apply obl_det
  case hrun =>
    intro D y wz hW hD R hR
    have HRR := Lib.hid hR
    clear hR
    have h14 : D 14 = false := hD.not
    rw [h14] at hW
    have HW := Lib.hid hW
    clear hW hD h14
    refine wpList_store_bs rfl 51 _ _ rfl HW.out 1 _ #[.int .i64 p1, .int .i64 p2] _ _ rfl rfl rfl info51 rfl (by simp [Value.oneCell']) ?_
    intro w4 hC4
    simp only [Act.put]
    go_simp
    exact HRR.out _ hC4
  case hnp => rfl
  case hv => first | exact ⟨_, fun _ => rfl⟩ | exact ⟨undef, fun _ => rfl⟩
  apply obl_nil
  intro D y w8 hall hW
  have h14 := hall 14 (by decide)
  rw [h14] at hW
  have C1 := Lib.hid hW
  clear hall hW h14
  go_wp2_with fail
  exact bodyPost_ret (v := .agg #[.int .i64 p1, .int .i64 p2]) (results_cell_row (fn := Try.f98) rfl _ _ _ _ _ _ _ rfl (C1.out.get 1 rfl) Try.underlying51 rfl info51) rfl ⟨rfl, C1.out.bel⟩
end Go.Proofs.Ytaigbhhmmdfdcaa
