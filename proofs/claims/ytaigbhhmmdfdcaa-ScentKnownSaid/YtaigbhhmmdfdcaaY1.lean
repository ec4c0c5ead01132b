/- stearinref07: sum, Weight; stearinref01.Span; Spans; thing. -/
import Derived.Test.YtaigbhhmmdfdcaaX1
import Derived.Test.YtaigbhhmmdfdcaaP2
namespace Go.Proofs.Ytaigbhhmmdfdcaa
open Go.RowKit
/-- Numbers of grams. -/
structure GramsOk (l : List Int) : Prop where
  len : l.length ≤ 6
  at' : ∀ i, 0 ≤ l.getD i 0 ∧ l.getD i 0 ≤ 100000
theorem GramsOk.to {l : List Int} (h : GramsOk l) (k : Nat) (hk : k ≤ 6) : 0 ≤ sumTo l k ∧ sumTo l k ≤ 600000 := by
  have := dot_bound (fun i => l.getD i 0) 100000 k (fun i _ => h.at' i)
  unfold sumTo
  refine ⟨this.1, Int.le_trans this.2 ?_⟩
  omega
theorem GramsOk.sum {l : List Int} (h : GramsOk l) : 0 ≤ sumL l ∧ sumL l ≤ 600000 := h.to _ h.len
set_option maxHeartbeats 2000000 in
theorem sum_ref (l : List Int) (v : Value) (w : World) (hv : IntsIn .i64 w.heap.size w v l) (hok : GramsOk l) :
    Calls Try.prog 84 #[v] w fun e w' => e = .returned (.int .i64 (sumL l)) ∧ w = w' := by
  obtain ⟨a, c, rfl, hl, hv⟩ := hv
  have HV := Lib.hid hv
  have HOK := Lib.hid hok
  have HE : Hid (sumL l = sumTo l l.length) := rfl
  clear hv hok hl
  obtain ⟨n, hn⟩ : ∃ n, l.length = n := ⟨_, rfl⟩
  have HN := Lib.hid hn
  have hn6 : n ≤ 6 := by rw [← hn]; exact HOK.out.len
  rw [hn] at HE HV ⊢
  generalize sumL l = S at *
  clear hn
  go_enter Try.func84, Try.ntmps84
  go_wp2_with fail
  go_loopw [3, 4] (fun nv iv wr => ∃ k : Nat, nv = .int .i64 (sumTo l k) ∧ iv = .int .i64 k ∧ k ≤ n ∧ w = wr) (fun _ iv _ => n - (intOf iv).toNat)
  case atStart => exact ⟨0, rfl, rfl, by omega, rfl⟩
  case round =>
    obtain ⟨k, rfl, rfl, hk, rfl⟩ := hrel
    by_cases hlt : k < n
    · obtain ⟨b, o, rfl, hbb, hc⟩ := HV.out.resolve_left (by intro h; have := HN.out; rw [h] at this; simp at this; omega)
      have h1 := hc k hlt
      have hb := HOK.out.at' k
      have hs := HOK.out.to k (by omega)
      have HS : Hid (sumTo l k + l.getD k 0 = sumTo l (k + 1)) := rfl
      generalize l.getD k 0 = x at *
      generalize sumTo l k = s at *
      clear hc
      go_wp2_with fail
      refine ⟨⟨k + 1, ?_, by push_cast; rfl, by omega, trivial⟩, ?_⟩
      · rw [HS.out]
      · simp [intOf]
        omega
    · obtain rfl : n = k := by omega
      go_wp2_with fail
      go_ret
      exact ⟨ret_int HE.out.symm, rfl⟩
set_option maxHeartbeats 2000000 in
/-- Weight -/
theorem weight_ref (b : Bat) (vg vb va : Value) (w : World) (hv : BatAt w.heap.size w vg vb va b) (hg : GramsOk b.grams) (hk : GramsOk b.back) :
    Calls Try.prog 44 #[.agg #[vg, vb, va]] w fun e w' => e = .returned (.int .i64 (weightV b)) ∧ Below w.heap.size w w' := by
  have HV := Lib.hid hv
  have HG := Lib.hid hg
  have HK := Lib.hid hk
  have hs1 := hg.sum
  have hs2 := hk.sum
  have HE : Hid (sumL b.grams + sumL b.back = weightV b) := rfl
  obtain ⟨a1, c1, rfl, -⟩ := hv.1
  obtain ⟨a2, c2, rfl, -⟩ := hv.2.1
  obtain ⟨a3, c3, rfl, -⟩ := sl_shape hv.2.2
  clear hv hg hk
  have C0 := Lib.hid ((Bs.nil w).push _ rfl (.cells #[.slice a1 b.grams.length c1, .slice a2 b.back.length c2, .slice a3 b.added.length c3] 75))
  generalize b.grams.length = n1 at *
  generalize b.back.length = n2 at *
  generalize b.added.length = n3 at *
  have HS1 := fun w => Lib.hid (sum_ref b.grams (.slice a1 n1 c1) w)
  have HS2 := fun w => Lib.hid (sum_ref b.back (.slice a2 n2 c2) w)
  generalize sumL b.grams = s1 at *
  generalize sumL b.back = s2 at *
  generalize weightV b = W at *
  go_enter Try.func44, Try.ntmps44
  go_wp2_with fail
  refine wp_region_inv0 (by kernel_rfl) (by kernel_rfl) (fun D w' => Bs w [(w.heap.size, .cells #[.slice a1 n1 c1, .slice a2 n2 c2, .slice a3 n3 c3] 75)] w') C0.out.drew ?_
  iterate 2
    (apply obl_det
     case hrun =>
       intro D y wz hW hD R hR
       have HRR := Lib.hid hR
       clear hR
       have HW := Lib.hid hW
       have hc0 := HW.out.cell 0 rfl 0
       clear hW hD
       go_wp2
       exact HRR.out _ HW.out
     case hnp => rfl
     case hv => first | exact ⟨_, fun _ => rfl⟩ | exact ⟨undef, fun _ => rfl⟩)
  apply obl_det
  case hrun =>
    intro D y wz hW hD R hR
    have HRR := Lib.hid hR
    clear hR
    have HW := Lib.hid hW
    clear hW hD
    go_wp2_with fail
    refine ((HS1 wz).out ((HV.out.1.below HW.out.bel).mono HW.out.bel.size) HG.out).mono ?_
    rintro e w' ⟨rfl, rfl⟩
    go_wp2_with fail
    exact HRR.out _ HW.out
  case hnp => rfl
  case hv => first | exact ⟨_, fun _ => rfl⟩ | exact ⟨undef, fun _ => rfl⟩
  iterate 2
    (apply obl_det
     case hrun =>
       intro D y wz hW hD R hR
       have HRR := Lib.hid hR
       clear hR
       have HW := Lib.hid hW
       have hc0 := HW.out.cell 0 rfl 1
       clear hW hD
       go_wp2
       exact HRR.out _ HW.out
     case hnp => rfl
     case hv => first | exact ⟨_, fun _ => rfl⟩ | exact ⟨undef, fun _ => rfl⟩)
  apply obl_det
  case hrun =>
    intro D y wz hW hD R hR
    have HRR := Lib.hid hR
    clear hR
    have HW := Lib.hid hW
    clear hW hD
    go_wp2_with fail
    refine ((HS2 wz).out ((HV.out.2.1.below HW.out.bel).mono HW.out.bel.size) HK.out).mono ?_
    rintro e w' ⟨rfl, rfl⟩
    go_wp2_with fail
    exact HRR.out _ HW.out
  case hnp => rfl
  case hv => first | exact ⟨_, fun _ => rfl⟩ | exact ⟨undef, fun _ => rfl⟩
  iterate 2
    (apply obl_det
     case hrun =>
       intro D y wz hW hD R hR
       have HRR := Lib.hid hR
       clear hR
       have HW := Lib.hid hW
       clear hW hD
       go_wp2
       exact HRR.out _ HW.out
     case hnp => rfl
     case hv => first | exact ⟨_, fun _ => rfl⟩ | exact ⟨undef, fun _ => rfl⟩)
  apply obl_nil
  intro D y w8 hall hW
  have HW := Lib.hid hW
  clear hall hW
  go_wp2_with fail
  go_ret
  exact ⟨ret_int HE.out, HW.out.bel⟩
/-- stearinref01.Span -/
theorem span_ref (p : Int × Int) (hi : Int) (w : World) : Calls Try.prog 94 #[.agg #[.int .i64 p.1, .int .i64 p.2], .int .i64 0, .int .i64 hi] w
    fun e w' => e = .returned (.int .i64 (spanE hi p)) ∧ Below w.heap.size w w' := by
  obtain ⟨x, y⟩ := p
  have C0 := Lib.hid ((Bs.nil w).push _ rfl (.cells #[.int .i64 x, .int .i64 y] 51))
  have HE : Hid (spanE hi (x, y) = if inB x 0 hi = false ∨ inB y 0 hi = false then 7 else if y < x then 2 else 0) := by
    unfold Hid spanE outB
    rw [inB_out, inB_out]
    cases h1 : outOne 0 hi x <;> cases h2 : outOne 0 hi y <;> simp [h1, h2]
  generalize spanE hi (x, y) = E at *
  obtain ⟨r1, hr1⟩ : ∃ r, inB x 0 hi = r := ⟨_, rfl⟩
  obtain ⟨r2, hr2⟩ : ∃ r, inB y 0 hi = r := ⟨_, rfl⟩
  rw [hr1, hr2] at HE
  have HR1 := Lib.hid hr1
  have HR2 := Lib.hid hr2
  clear hr1 hr2
  go_enter Try.func94, Try.ntmps94
  go_wp2_with fail
  refine (in1_r r1 _ _ _ _ HR1.out).mono ?_
  rintro e w' ⟨rfl, rfl⟩
  cases r1
  · go_wp2_with fail
    go_ret
    exact ⟨ret_int (by rw [HE.out]; simp), C0.out.bel⟩
  go_wp2_with fail
  refine (in1_r r2 _ _ _ _ HR2.out).mono ?_
  rintro e w' ⟨rfl, rfl⟩
  cases r2
  · go_wp2_with fail
    go_ret
    exact ⟨ret_int (by rw [HE.out]; simp), C0.out.bel⟩
  go_wp2_with fail
  all_goals
    go_ret
    exact ⟨ret_int (by rw [HE.out]; simp; omega), C0.out.bel⟩
end Go.Proofs.Ytaigbhhmmdfdcaa
