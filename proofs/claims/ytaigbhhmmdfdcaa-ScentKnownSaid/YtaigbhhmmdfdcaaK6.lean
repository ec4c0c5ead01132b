/- The first references; the examples and their values. -/
import Derived.Test.YtaigbhhmmdfdcaaK3
import Derived.BigQuiet
import Derived.Test.YtaigbhhmmdfdcaaK1
import Derived.Test.YtaigbhhmmdfdcaaK7
/- stearinref01.Ints, Spans and stearinref07.Tables at two lists that are equal; span of the laws. -/
namespace Go.Proofs.Ytaigbhhmmdfdcaa
open Go.RowKit
set_option maxRecDepth 100000 in
set_option maxHeartbeats 4000000 in
theorem ints_same (l : List Int) (v u : Value) (w : World) (hv : IntsIn .i64 w.heap.size w v l) (hu : IntsIn .i64 w.heap.size w u l) : Calls Try.prog 24 #[v, u] w fun e w' => e = .returned (.bool true) ∧ Below w.heap.size w w' := by
  obtain ⟨a, c, rfl, hl, hv⟩ := hv
  obtain ⟨a2, c2, rfl, -, hu⟩ := hu
  have HV := Lib.hid hv
  have HU := Lib.hid hu
  clear hv hu
  have hq : ((l.length : Int) != (l.length : Int)) = false := by simp
  obtain ⟨n, hn⟩ : ∃ n, l.length = n := ⟨_, rfl⟩
  have HN := Lib.hid hn
  rw [hn] at hl hq ⊢
  clear hn
  go_enter Try.func24, Try.ntmps24
  go_wp2_with fail
  clear hq
  go_loopw [5] (fun kv wr => ∃ k : Nat, kv = .int .i64 k ∧ k ≤ n ∧ Below w.heap.size w wr) (fun kv _ => n - (intOf kv).toNat)
  case atStart => exact ⟨0, rfl, by omega, Below.refl _ _⟩
  case round =>
    obtain ⟨k, rfl, hk, hb⟩ := hrel
    have CB := Lib.hid hb
    clear hb
    by_cases hlt : k < n
    · have hnn := (HN.out : l.length = n)
      obtain ⟨b, o, rfl, hbb, hc⟩ := HV.out.resolve_left (by intro h; rw [h] at hnn; simp at hnn; omega)
      obtain ⟨b2, o2, rfl, hbb2, hc2⟩ := HU.out.resolve_left (by intro h; rw [h] at hnn; simp at hnn; omega)
      have h1 : wr.cell? ⟨b, o + k, none⟩ = some (.int .i64 (l.getD k 0)) := (CB.out.cell (p := ⟨b, o + k, none⟩) hbb).trans (hc k (by omega))
      have h2 : wr.cell? ⟨b2, o2 + k, none⟩ = some (.int .i64 (l.getD k 0)) := (CB.out.cell (p := ⟨b2, o2 + k, none⟩) hbb2).trans (hc2 k (by omega))
      clear hc hc2 hnn
      generalize l.getD k 0 = x at *
      have hq6 : (x != x) = false := by simp
      go_wp2_with fail
      go_quiet (fail)
      simp only [Exit.then]
      go_wp2_with fail
      refine ⟨⟨k + 1, by push_cast; rfl, by omega, ⟨CB.out.os, CB.out.tape, CB.out.output, CB.out.size, CB.out.block⟩⟩, ?_⟩
      simp [intOf]
      omega
    · obtain rfl : n = k := by omega
      go_wp2_with fail
      go_ret
      exact ⟨rfl, CB.out⟩
set_option maxRecDepth 100000 in
set_option maxHeartbeats 4000000 in
theorem spans_same (l : List (Int × Int)) (v u : Value) (w : World) (hv : SpansIn w.heap.size w v l) (hu : SpansIn w.heap.size w u l) : Calls Try.prog 33 #[v, u] w fun e w' => e = .returned (.bool true) ∧ Below w.heap.size w w' := by
  obtain ⟨a, c, rfl, hl, -, hv⟩ := hv
  obtain ⟨a2, c2, rfl, -, -, hu⟩ := hu
  have HV := Lib.hid hv
  have HU := Lib.hid hu
  clear hv hu
  have hq : ((l.length : Int) != (l.length : Int)) = false := by simp
  obtain ⟨n, hn⟩ : ∃ n, l.length = n := ⟨_, rfl⟩
  have HN := Lib.hid hn
  rw [hn] at hl hq ⊢
  clear hn
  go_enter Try.func33, Try.ntmps33
  go_wp2_with fail
  clear hq
  go_loopw [5] (fun kv wr => ∃ k : Nat, kv = .int .i64 k ∧ k ≤ n ∧ Below w.heap.size w wr) (fun kv _ => n - (intOf kv).toNat)
  case atStart => exact ⟨0, rfl, by omega, Below.refl _ _⟩
  case round =>
    obtain ⟨k, rfl, hk, hb⟩ := hrel
    have CB := Lib.hid hb
    clear hb
    by_cases hlt : k < n
    · have hnn := (HN.out : l.length = n)
      obtain ⟨b, o, rfl, hbb, hc⟩ := HV.out.resolve_left (by intro h; rw [h] at hnn; simp at hnn; omega)
      obtain ⟨b2, o2, rfl, hbb2, hc2⟩ := HU.out.resolve_left (by intro h; rw [h] at hnn; simp at hnn; omega)
      have h1 : wr.cell? ⟨b, o + k * 2, none⟩ = some (.int .i64 (l.getD k (0, 0)).1) := (CB.out.cell (p := ⟨b, o + k * 2, none⟩) hbb).trans (hc k (by omega)).1
      have h1' : wr.cell? ⟨b, o + k * 2 + 1, none⟩ = some (.int .i64 (l.getD k (0, 0)).2) := (CB.out.cell (p := ⟨b, o + k * 2 + 1, none⟩) hbb).trans (hc k (by omega)).2
      have h2 : wr.cell? ⟨b2, o2 + k * 2, none⟩ = some (.int .i64 (l.getD k (0, 0)).1) := (CB.out.cell (p := ⟨b2, o2 + k * 2, none⟩) hbb2).trans (hc2 k (by omega)).1
      have h2' : wr.cell? ⟨b2, o2 + k * 2 + 1, none⟩ = some (.int .i64 (l.getD k (0, 0)).2) := (CB.out.cell (p := ⟨b2, o2 + k * 2 + 1, none⟩) hbb2).trans (hc2 k (by omega)).2
      clear hc hc2 hnn
      generalize (l.getD k (0, 0)).1 = x at *
      generalize (l.getD k (0, 0)).2 = y at *
      have hq6 : (x != x) = false := by simp
      go_wp2_with fail
      go_quiet (fail)
      simp only [Exit.then]
      go_wp2_with fail
      refine ⟨⟨k + 1, by push_cast; rfl, by omega, ⟨CB.out.os, CB.out.tape, CB.out.output, CB.out.size, CB.out.block⟩⟩, ?_⟩
      simp [intOf]
      omega
    · obtain rfl : n = k := by omega
      go_wp2_with fail
      go_ret
      exact ⟨rfl, CB.out⟩
set_option maxRecDepth 100000 in
set_option maxHeartbeats 4000000 in
theorem tables_same (l : List (List (Int × Int))) (v u : Value) (w : World) (hv : TableIn w.heap.size w v l) (hu : TableIn w.heap.size w u l) : Calls Try.prog 21 #[v, u] w fun e w' => e = .returned (.bool true) ∧ Below w.heap.size w w' := by
  obtain ⟨a, c, rfl, hl, -, hv⟩ := hv
  obtain ⟨a2, c2, rfl, -, -, hu⟩ := hu
  have HV := Lib.hid hv
  have HU := Lib.hid hu
  clear hv hu
  have hq : ((l.length : Int) != (l.length : Int)) = false := by simp
  obtain ⟨n, hn⟩ : ∃ n, l.length = n := ⟨_, rfl⟩
  have HN := Lib.hid hn
  rw [hn] at hl hq ⊢
  clear hn
  go_enter Try.func21, Try.ntmps21
  go_wp2_with fail
  clear hq
  go_loopw [5] (fun kv wr => ∃ k : Nat, kv = .int .i64 k ∧ k ≤ n ∧ Below w.heap.size w wr) (fun kv _ => n - (intOf kv).toNat)
  case atStart => exact ⟨0, rfl, by omega, Below.refl _ _⟩
  case round =>
    obtain ⟨k, rfl, hk, hb⟩ := hrel
    have CB := Lib.hid hb
    clear hb
    by_cases hlt : k < n
    · have hnn := (HN.out : l.length = n)
      obtain ⟨b, o, rfl, hbb, hc⟩ := HV.out.resolve_left (by intro h; rw [h] at hnn; simp at hnn; omega)
      obtain ⟨b2, o2, rfl, hbb2, hc2⟩ := HU.out.resolve_left (by intro h; rw [h] at hnn; simp at hnn; omega)
      obtain ⟨v1, h1, hs1⟩ := hc k (by omega)
      obtain ⟨v2, h2, hs2⟩ := hc2 k (by omega)
      have h1 : wr.cell? ⟨b, o + k, none⟩ = some v1 := (CB.out.cell (p := ⟨b, o + k, none⟩) hbb).trans (by simpa [rdSpans] using h1)
      have h2 : wr.cell? ⟨b2, o2 + k, none⟩ = some v2 := (CB.out.cell (p := ⟨b2, o2 + k, none⟩) hbb2).trans (by simpa [rdSpans] using h2)
      have HS1 := Lib.hid (hs1.next CB.out)
      have HS2 := Lib.hid (hs2.next CB.out)
      clear hc hc2 hnn hs1 hs2
      generalize l.getD k default = x at *
      obtain ⟨a3, c3, rfl, -⟩ := sl_shape HS1.out
      obtain ⟨a4, c4, rfl, -⟩ := sl_shape HS2.out
      go_wp2_with fail
      have H1 := Lib.hid h1
      have H2 := Lib.hid h2
      have HB1 := Lib.hid (Nat.lt_of_lt_of_le hbb CB.out.size)
      have HB2 := Lib.hid (Nat.lt_of_lt_of_le hbb2 CB.out.size)
      clear h1 h2
      refine wp_region_inv0 (by kernel_rfl) (by kernel_rfl) (fun D w' => Below wr.heap.size wr w') (Below.refl _ _).drew ?_
      iterate 8
        (apply obl_det
         case hrun =>
           intro D y wz hW hD R hR
           have HRR := Lib.hid hR
           clear hR
           have HW := Lib.hid hW
           have h1z := (HW.out.cell (p := ⟨b, o + k, none⟩) HB1.out).trans H1.out
           have h2z := (HW.out.cell (p := ⟨b2, o2 + k, none⟩) HB2.out).trans H2.out
           clear hW hD
           go_wp2
           exact HRR.out _ HW.out
         case hnp => rfl
         case hv => first | exact ⟨_, fun _ => rfl⟩ | exact ⟨undef, fun _ => rfl⟩)
      apply obl_det
      case hrun =>
        intro D y wz hW hD R hR
        have HRR := Lib.hid hR
        clear hR
        have HW := Lib.hid hW
        clear hW hD
        go_wp2_with fail
        refine (spans_same _ _ _ wz (HS1.out.next HW.out) (HS2.out.next HW.out)).mono ?_
        rintro e w' ⟨rfl, hb⟩
        have HW2 := Lib.hid (HW.out.trans (hb.mono HW.out.size))
        clear hb
        go_wp2_with fail
        exact HRR.out _ HW2.out
      case hnp => rfl
      case hv => first | exact ⟨_, fun _ => rfl⟩ | exact ⟨undef, fun _ => rfl⟩
      apply obl_det
      case hrun =>
        intro D y wz hW hD R hR
        have HRR := Lib.hid hR
        clear hR
        have HW := Lib.hid hW
        clear hW hD
        go_wp2
        exact HRR.out _ HW.out
      case hnp => rfl
      case hv => first | exact ⟨_, fun _ => rfl⟩ | exact ⟨undef, fun _ => rfl⟩
      apply obl_nil
      intro D y w8 hall hW
      have CB := Lib.hid (CB.out.trans (hW.mono CB.out.size))
      clear hall hW
      go_wp2_with fail
      refine ⟨⟨k + 1, by push_cast; rfl, by omega, CB.out⟩, ?_⟩
      simp [intOf]
      omega
    · obtain rfl : n = k := by omega
      go_wp2_with fail
      go_ret
      exact ⟨rfl, CB.out⟩
theorem span38 (lo hi : Int) (w : World) : Calls Try.prog 38 #[.int .i64 lo, .int .i64 hi] w
    fun e w' => e = .returned (.agg #[.int .i64 lo, .int .i64 hi]) ∧ Below w.heap.size w w' := by
  have HB := Lib.hid ((Below.refl w.heap.size w).alloc (Nat.le_refl _) (.cells #[.int .i64 lo, .int .i64 hi] 51))
  have HR := Lib.hid (heap_alloc_new w (.cells #[.int .i64 lo, .int .i64 hi] 51))
  go_enter Try.func38, Try.ntmps38
  go_wp2_with fail
  exact bodyPost_ret (v := .agg #[.int .i64 lo, .int .i64 hi]) (results_cell_row (fn := Try.f38) rfl _ _ _ _ _ _ _ rfl HR.out Try.underlying51 rfl info51) rfl ⟨rfl, HB.out⟩
end Go.Proofs.Ytaigbhhmmdfdcaa
/- stearinref07: sum, Weight; stearinref01.Span; Spans; thing. -/
namespace Go.Proofs.Ytaigbhhmmdfdcaa
open Go.RowKit
/-- Numbers of grams. -/
structure GramsOk (l : List Int) : Prop where
  len : l.length ≤ 6
  at' : ∀ i, 0 ≤ l.getD i 0 ∧ l.getD i 0 ≤ 100000
theorem GramsOk.to {l : List Int} (h : GramsOk l) (k : Nat) (hk : k ≤ 6) : 0 ≤ sumTo l k ∧ sumTo l k ≤ 600000 := by
  have := dot_bound (fun i => l.getD i 0) 100000 k (fun i _ => h.at' i)
  unfold sumTo
  refine ⟨this.1, Int.le_trans this.2 ?_⟩
  omega
theorem GramsOk.sum {l : List Int} (h : GramsOk l) : 0 ≤ sumL l ∧ sumL l ≤ 600000 := h.to _ h.len
set_option maxHeartbeats 2000000 in
theorem sum_ref (l : List Int) (v : Value) (w : World) (hv : IntsIn .i64 w.heap.size w v l) (hok : GramsOk l) :
    Calls Try.prog 84 #[v] w fun e w' => e = .returned (.int .i64 (sumL l)) ∧ w = w' := by
  obtain ⟨a, c, rfl, hl, hv⟩ := hv
  have HV := Lib.hid hv
  have HOK := Lib.hid hok
  have HE : Hid (sumL l = sumTo l l.length) := rfl
  clear hv hok hl
  obtain ⟨n, hn⟩ : ∃ n, l.length = n := ⟨_, rfl⟩
  have HN := Lib.hid hn
  have hn6 : n ≤ 6 := by rw [← hn]; exact HOK.out.len
  rw [hn] at HE HV ⊢
  generalize sumL l = S at *
  clear hn
  go_enter Try.func84, Try.ntmps84
  go_wp2_with fail
  go_loopw [3, 4] (fun nv iv wr => ∃ k : Nat, nv = .int .i64 (sumTo l k) ∧ iv = .int .i64 k ∧ k ≤ n ∧ w = wr) (fun _ iv _ => n - (intOf iv).toNat)
  case atStart => exact ⟨0, rfl, rfl, by omega, rfl⟩
  case round =>
    obtain ⟨k, rfl, rfl, hk, rfl⟩ := hrel
    by_cases hlt : k < n
    · obtain ⟨b, o, rfl, hbb, hc⟩ := HV.out.resolve_left (by intro h; have := HN.out; rw [h] at this; simp at this; omega)
      have h1 := hc k hlt
      have hb := HOK.out.at' k
      have hs := HOK.out.to k (by omega)
      have HS : Hid (sumTo l k + l.getD k 0 = sumTo l (k + 1)) := rfl
      generalize l.getD k 0 = x at *
      generalize sumTo l k = s at *
      clear hc
      go_wp2_with fail
      refine ⟨⟨k + 1, ?_, by push_cast; rfl, by omega, trivial⟩, ?_⟩
      · rw [HS.out]
      · simp [intOf]
        omega
    · obtain rfl : n = k := by omega
      go_wp2_with fail
      go_ret
      exact ⟨ret_int HE.out.symm, rfl⟩
set_option maxHeartbeats 2000000 in
/-- Weight -/
theorem weight_ref (b : Bat) (vg vb va : Value) (w : World) (hv : BatAt w.heap.size w vg vb va b) (hg : GramsOk b.grams) (hk : GramsOk b.back) :
    Calls Try.prog 44 #[.agg #[vg, vb, va]] w fun e w' => e = .returned (.int .i64 (weightV b)) ∧ Below w.heap.size w w' := by
  have HV := Lib.hid hv
  have HG := Lib.hid hg
  have HK := Lib.hid hk
  have hs1 := hg.sum
  have hs2 := hk.sum
  have HE : Hid (sumL b.grams + sumL b.back = weightV b) := rfl
  obtain ⟨a1, c1, rfl, -⟩ := hv.1
  obtain ⟨a2, c2, rfl, -⟩ := hv.2.1
  obtain ⟨a3, c3, rfl, -⟩ := sl_shape hv.2.2
  clear hv hg hk
  have C0 := Lib.hid ((Bs.nil w).push _ rfl (.cells #[.slice a1 b.grams.length c1, .slice a2 b.back.length c2, .slice a3 b.added.length c3] 75))
  generalize b.grams.length = n1 at *
  generalize b.back.length = n2 at *
  generalize b.added.length = n3 at *
  have HS1 := fun w => Lib.hid (sum_ref b.grams (.slice a1 n1 c1) w)
  have HS2 := fun w => Lib.hid (sum_ref b.back (.slice a2 n2 c2) w)
  generalize sumL b.grams = s1 at *
  generalize sumL b.back = s2 at *
  generalize weightV b = W at *
  go_enter Try.func44, Try.ntmps44
  go_wp2_with fail
  refine wp_region_inv0 (by kernel_rfl) (by kernel_rfl) (fun D w' => Bs w [(w.heap.size, .cells #[.slice a1 n1 c1, .slice a2 n2 c2, .slice a3 n3 c3] 75)] w') C0.out.drew ?_
  iterate 2
    (apply obl_det
     case hrun =>
       intro D y wz hW hD R hR
       have HRR := Lib.hid hR
       clear hR
       have HW := Lib.hid hW
       have hc0 := HW.out.cell 0 rfl 0
       clear hW hD
       go_wp2
       exact HRR.out _ HW.out
     case hnp => rfl
     case hv => first | exact ⟨_, fun _ => rfl⟩ | exact ⟨undef, fun _ => rfl⟩)
  apply obl_det
  case hrun =>
    intro D y wz hW hD R hR
    have HRR := Lib.hid hR
    clear hR
    have HW := Lib.hid hW
    clear hW hD
    go_wp2_with fail
    refine ((HS1 wz).out ((HV.out.1.below HW.out.bel).mono HW.out.bel.size) HG.out).mono ?_
    rintro e w' ⟨rfl, rfl⟩
    go_wp2_with fail
    exact HRR.out _ HW.out
  case hnp => rfl
  case hv => first | exact ⟨_, fun _ => rfl⟩ | exact ⟨undef, fun _ => rfl⟩
  iterate 2
    (apply obl_det
     case hrun =>
       intro D y wz hW hD R hR
       have HRR := Lib.hid hR
       clear hR
       have HW := Lib.hid hW
       have hc0 := HW.out.cell 0 rfl 1
       clear hW hD
       go_wp2
       exact HRR.out _ HW.out
     case hnp => rfl
     case hv => first | exact ⟨_, fun _ => rfl⟩ | exact ⟨undef, fun _ => rfl⟩)
  apply obl_det
  case hrun =>
    intro D y wz hW hD R hR
    have HRR := Lib.hid hR
    clear hR
    have HW := Lib.hid hW
    clear hW hD
    go_wp2_with fail
    refine ((HS2 wz).out ((HV.out.2.1.below HW.out.bel).mono HW.out.bel.size) HK.out).mono ?_
    rintro e w' ⟨rfl, rfl⟩
    go_wp2_with fail
    exact HRR.out _ HW.out
  case hnp => rfl
  case hv => first | exact ⟨_, fun _ => rfl⟩ | exact ⟨undef, fun _ => rfl⟩
  iterate 2
    (apply obl_det
     case hrun =>
       intro D y wz hW hD R hR
       have HRR := Lib.hid hR
       clear hR
       have HW := Lib.hid hW
       clear hW hD
       go_wp2
       exact HRR.out _ HW.out
     case hnp => rfl
     case hv => first | exact ⟨_, fun _ => rfl⟩ | exact ⟨undef, fun _ => rfl⟩)
  apply obl_nil
  intro D y w8 hall hW
  have HW := Lib.hid hW
  clear hall hW
  go_wp2_with fail
  go_ret
  exact ⟨ret_int HE.out, HW.out.bel⟩
/-- stearinref01.Span -/
theorem span_ref (p : Int × Int) (hi : Int) (w : World) : Calls Try.prog 94 #[.agg #[.int .i64 p.1, .int .i64 p.2], .int .i64 0, .int .i64 hi] w
    fun e w' => e = .returned (.int .i64 (spanE hi p)) ∧ Below w.heap.size w w' := by
  obtain ⟨x, y⟩ := p
  have C0 := Lib.hid ((Bs.nil w).push _ rfl (.cells #[.int .i64 x, .int .i64 y] 51))
  have HE : Hid (spanE hi (x, y) = if inB x 0 hi = false ∨ inB y 0 hi = false then 7 else if y < x then 2 else 0) := by
    unfold Hid spanE outB
    rw [inB_out, inB_out]
    cases h1 : outOne 0 hi x <;> cases h2 : outOne 0 hi y <;> simp [h1, h2]
  generalize spanE hi (x, y) = E at *
  obtain ⟨r1, hr1⟩ : ∃ r, inB x 0 hi = r := ⟨_, rfl⟩
  obtain ⟨r2, hr2⟩ : ∃ r, inB y 0 hi = r := ⟨_, rfl⟩
  rw [hr1, hr2] at HE
  have HR1 := Lib.hid hr1
  have HR2 := Lib.hid hr2
  clear hr1 hr2
  go_enter Try.func94, Try.ntmps94
  go_wp2_with fail
  refine (in1_r r1 _ _ _ _ HR1.out).mono ?_
  rintro e w' ⟨rfl, rfl⟩
  cases r1
  · go_wp2_with fail
    go_ret
    exact ⟨ret_int (by rw [HE.out]; simp), C0.out.bel⟩
  go_wp2_with fail
  refine (in1_r r2 _ _ _ _ HR2.out).mono ?_
  rintro e w' ⟨rfl, rfl⟩
  cases r2
  · go_wp2_with fail
    go_ret
    exact ⟨ret_int (by rw [HE.out]; simp), C0.out.bel⟩
  go_wp2_with fail
  all_goals
    go_ret
    exact ⟨ret_int (by rw [HE.out]; simp; omega), C0.out.bel⟩
end Go.Proofs.Ytaigbhhmmdfdcaa
/- stearinref07: Spans, thing, grams. -/
namespace Go.Proofs.Ytaigbhhmmdfdcaa
open Go.RowKit
theorem spansE_snoc (m : Int) (l : List (Int × Int)) (p : Int × Int) : spansE m (l ++ [p]) = if spanE m p = 7 ∨ spansE m l = 0 then spanE m p else spansE m l := by
  unfold spansE spanE
  rw [List.any_append, List.any_append]
  cases h1 : l.any (fun p => outB 0 m [p.1, p.2]) <;> cases h2 : l.any (fun p => decide (p.2 < p.1)) <;> cases h3 : outB 0 m [p.1, p.2] <;> by_cases h4 : p.2 < p.1 <;> simp [h3, h4]
theorem take_snoc {α : Type} (l : List α) (k : Nat) (hk : k < l.length) (d : α) : l.take (k + 1) = l.take k ++ [l.getD k d] := by
  rw [List.take_add_one, List.getElem?_eq_getElem hk]
  simp [List.getD, hk]
set_option maxHeartbeats 4000000 in
/-- Spans -/
theorem spans_ref (l : List (Int × Int)) (m : Int) (v : Value) (w : World) (hv : SpansIn w.heap.size w v l) :
    Calls Try.prog 63 #[v, .int .i64 m] w fun e w' => e = .returned (.int .i64 (spansE m l)) ∧ Below w.heap.size w w' := by
  have HV := Lib.hid hv
  obtain ⟨a, c, rfl, -, hl⟩ := sl_shape hv
  have HE : Hid (∀ n, l.length = n → spansE m (l.take n) = spansE m l) := fun n hn => by subst hn; rw [List.take_length]
  have HS : Hid (∀ k, k < l.length → spansE m (l.take (k + 1)) = if spanE m (l.getD k default) = 7 ∨ spansE m (l.take k) = 0 then spanE m (l.getD k default) else spansE m (l.take k)) := fun k hk => by rw [take_snoc l k hk default, spansE_snoc]
  clear hv
  obtain ⟨n, hn⟩ : ∃ n, l.length = n := ⟨_, rfl⟩
  have HN := Lib.hid hn
  rw [hn] at HV hl HS ⊢
  clear hn
  go_enter Try.func63, Try.ntmps63
  go_wp2_with fail
  go_loopw [5, 6] (fun ev iv wr => ∃ k : Nat, ev = .int .i64 (spansE m (l.take k)) ∧ iv = .int .i64 k ∧ k ≤ n ∧ Below w.heap.size w wr) (fun _ iv _ => n - (intOf iv).toNat)
  case atStart => exact ⟨0, rfl, rfl, by omega, Below.refl _ _⟩
  case round =>
    obtain ⟨k, rfl, rfl, hk, hb⟩ := hrel
    have CB := Lib.hid hb
    clear hb
    by_cases hlt : k < n
    · obtain ⟨b, o, rfl, hbb, hc1, hc2⟩ := HV.out.at' (i := k) (by rw [HN.out]; exact hlt)
      have h1 := (CB.out.cell (p := ⟨b, o + k * 2, none⟩) hbb).trans hc1
      have h2 := (CB.out.cell (p := ⟨b, o + k * 2 + 1, none⟩) hbb).trans hc2
      have HS := Lib.hid (HS.out k hlt)
      have HX := fun w => Lib.hid (span_ref (l.getD k default) m w)
      clear hc1 hc2
      generalize spansE m (l.take k) = s at *
      generalize l.getD k default = p at *
      generalize spanE m p = E at *
      go_wp2_with fail
      refine (HX _).out.mono ?_
      rintro e w1 ⟨rfl, hb⟩
      have CB := Lib.hid (CB.out.trans (hb.mono CB.out.size))
      clear hb h1 h2
      by_cases h7 : E = 7
      · subst h7
        go_wp2_with fail
        refine ⟨⟨k + 1, by rw [HS.out]; simp, by push_cast; rfl, by omega, CB.out⟩, ?_⟩
        simp [intOf]; omega
      · have h7b : (E == 7) = false := by simpa using h7
        have H7 := Lib.hid h7
        clear h7
        by_cases h0 : s = 0
        · subst h0
          go_wp2_with fail
          refine ⟨⟨k + 1, by rw [HS.out]; simp, by push_cast; rfl, by omega, CB.out⟩, ?_⟩
          simp [intOf]; omega
        · have h0b : (s == 0) = false := by simpa using h0
          have H0 := Lib.hid h0
          clear h0
          go_wp2_with fail
          refine ⟨⟨k + 1, by rw [HS.out]; simp [H7.out, H0.out], by push_cast; rfl, by omega, CB.out⟩, ?_⟩
          simp [intOf]; omega
    · obtain rfl : n = k := by omega
      have HE := Lib.hid (HE.out _ HN.out)
      go_wp2_with fail
      go_ret
      exact ⟨ret_int HE.out, CB.out⟩
/-- A thing's error but its name. -/
def thingE2 (x : Thing) : Int := if outOne 0 2 x.kind then 2 else if outOne 0 1000000 x.limit || outOne 0 (weakM x) x.weak || outOne 0 (fadeM x) x.fade then 7 else 0
theorem thingE_two (bef : List Thing) (x : Thing) : thingE bef x = if namedE (bef.map (·.name)) x.name = 0 then thingE2 x else namedE (bef.map (·.name)) x.name := by
  unfold thingE namedE thingE2
  rw [List.any_map]
  cases h1 : nameB x.name
  · simp
  · cases h2 : (bef.any fun y => sameN x.name y.name)
    · simp [Function.comp_def, h2]
    · simp [Function.comp_def, h2]
theorem thingE2_plain (x : Thing) : thingE2 x = if inB x.kind 0 2 = false then 2 else if inB x.limit 0 1000000 = false ∨ inB x.weak 0 100 = false ∨ inB x.fade 0 1000 = false ∨ (0 < x.weak ∧ x.kind ≠ 0) ∨ (0 < x.fade ∧ x.kind ≠ 1) then 7 else 0 := by
  unfold thingE2
  simp only [inB_out]
  cases h0 : outOne 0 2 x.kind
  case true => simp
  have e : (outOne 0 1000000 x.limit || outOne 0 (weakM x) x.weak || outOne 0 (fadeM x) x.fade) = decide (((!outOne 0 1000000 x.limit) = false ∨ (!outOne 0 100 x.weak) = false ∨ (!outOne 0 1000 x.fade) = false ∨ (0 < x.weak ∧ x.kind ≠ 0) ∨ (0 < x.fade ∧ x.kind ≠ 1))) := by
    rw [Bool.eq_iff_iff]
    unfold outOne weakM fadeM
    simp only [Bool.or_eq_true, decide_eq_true_eq, Bool.not_eq_false', ne_eq]
    by_cases hk : x.kind = 0
    · rw [if_pos hk, if_neg (by omega)]
      omega
    · by_cases hk1 : x.kind = 1
      · rw [if_neg hk, if_pos hk1]
        omega
      · rw [if_neg hk, if_neg hk1]
        omega
  rw [e]
  simp
set_option maxHeartbeats 4000000 in
theorem thing_ref (x : Thing) (w : World) : Calls Try.prog 62 #[.agg #[.string x.name, .int .i64 x.kind, .int .i64 x.limit, .int .i64 x.weak, .int .i64 x.fade]] w
    fun e w' => e = .returned (.int .i64 (thingE2 x)) ∧ Below w.heap.size w w' := by
  have HE := Lib.hid (thingE2_plain x)
  obtain ⟨nm, kd, li, we, fa⟩ := x
  have C0 := Lib.hid ((Bs.nil w).push _ rfl (.cells #[.string nm, .int .i64 kd, .int .i64 li, .int .i64 we, .int .i64 fa] 62))
  generalize thingE2 ⟨nm, kd, li, we, fa⟩ = E at *
  simp only at HE ⊢
  obtain ⟨r0, hr0⟩ : ∃ r, inB kd 0 2 = r := ⟨_, rfl⟩
  obtain ⟨r1, hr1⟩ : ∃ r, inB li 0 1000000 = r := ⟨_, rfl⟩
  obtain ⟨r2, hr2⟩ : ∃ r, inB we 0 100 = r := ⟨_, rfl⟩
  obtain ⟨r3, hr3⟩ : ∃ r, inB fa 0 1000 = r := ⟨_, rfl⟩
  rw [hr0, hr1, hr2, hr3] at HE
  have HR0 := Lib.hid hr0
  have HR1 := Lib.hid hr1
  have HR2 := Lib.hid hr2
  have HR3 := Lib.hid hr3
  clear hr0 hr1 hr2 hr3
  go_enter Try.func62, Try.ntmps62
  go_wp2_with fail
  refine (in_r r0 _ _ _ _ HR0.out).mono ?_
  rintro e w' ⟨rfl, rfl⟩
  cases r0
  · go_wp2_with fail
    go_ret
    exact ⟨ret_int (by rw [HE.out]; simp), C0.out.bel⟩
  go_wp2_with fail
  refine (in_r r1 _ _ _ _ HR1.out).mono ?_
  rintro e w' ⟨rfl, rfl⟩
  cases r1
  · go_wp2_with fail
    go_ret
    exact ⟨ret_int (by rw [HE.out]; simp), C0.out.bel⟩
  go_wp2_with fail
  refine (in_r r2 _ _ _ _ HR2.out).mono ?_
  rintro e w' ⟨rfl, rfl⟩
  cases r2
  · go_wp2_with fail
    go_ret
    exact ⟨ret_int (by rw [HE.out]; simp), C0.out.bel⟩
  go_wp2_with fail
  refine (in_r r3 _ _ _ _ HR3.out).mono ?_
  rintro e w' ⟨rfl, rfl⟩
  cases r3
  · go_wp2_with fail
    go_ret
    exact ⟨ret_int (by rw [HE.out]; simp), C0.out.bel⟩
  by_cases hw : 0 < we <;> by_cases hk0 : kd = 0 <;> by_cases hf : 0 < fa <;> by_cases hk1 : kd = 1
  all_goals
    first
    | (exfalso; omega)
    | (first | (have h1 : (kd != 0) = true := by simpa using hk0) | (have h1 : (kd != 0) = false := by simpa using hk0)
       first | (have h2 : (kd != 1) = true := by simpa using hk1) | (have h2 : (kd != 1) = false := by simpa using hk1)
       have H := Lib.hid (And.intro hk0 hk1)
       clear hk0 hk1
       go_wp2_with fail
       all_goals
         go_ret
         exact ⟨ret_int (by rw [HE.out]; have := H.out; simp [hw, hf, this] <;> omega), C0.out.bel⟩)
set_option maxHeartbeats 2000000 in
theorem grams_ref (r : Bool) (l : List Int) (v : Value) (w : World) (hv : IntsIn .i64 w.heap.size w v l) (hr : outB 0 100000 l = r) :
    Calls Try.prog 102 #[v] w fun e w' => e = .returned (.bool (!r)) ∧ w = w' := by
  obtain ⟨a, c, rfl, hl, hv⟩ := hv
  have HV := Lib.hid hv
  have HR := Lib.hid hr
  have HD : Hid (∀ k, k < l.length → outB 0 100000 (l.drop k) = (!inB (l.getD k 0) 0 100000 || outB 0 100000 (l.drop (k + 1)))) := fun k hk => by rw [outB_cons 0 100000 l k hk, inB_out, Bool.not_not]
  clear hv hr
  obtain ⟨n, hn⟩ : ∃ n, l.length = n := ⟨_, rfl⟩
  have HN := Lib.hid hn
  rw [hn] at HV HD hl ⊢
  clear hn
  go_enter Try.func102, Try.ntmps102
  go_wp2_with fail
  go_loopw [3] (fun iv wr => ∃ k : Nat, iv = .int .i64 k ∧ k ≤ n ∧ outB 0 100000 (l.drop k) = r ∧ w = wr) (fun iv _ => n - (intOf iv).toNat)
  case atStart => exact ⟨0, rfl, by omega, HR.out, rfl⟩
  case round =>
    obtain ⟨k, rfl, hk, hq, rfl⟩ := hrel
    have HQ := Lib.hid hq
    clear hq
    by_cases hlt : k < n
    · obtain ⟨b, o, rfl, hbb, hc⟩ := HV.out.resolve_left (by intro h; have := HN.out; rw [h] at this; simp at this; omega)
      have h1 := hc k hlt
      have HD := Lib.hid (HD.out k hlt)
      generalize l.getD k 0 = x at *
      clear hc
      obtain ⟨r1, hr1⟩ : ∃ r, inB x 0 100000 = r := ⟨_, rfl⟩
      have HR1 := Lib.hid hr1
      clear hr1
      go_wp2_with fail
      refine (in_r r1 _ _ _ _ HR1.out).mono ?_
      rintro e w' ⟨rfl, rfl⟩
      have HQ := Lib.hid HQ.out
      cases r1
      · have e : r = true := by rw [← HQ.out, HD.out, HR1.out]; rfl
        subst e
        go_wp2_with fail
        go_ret
        exact ⟨rfl, rfl⟩
      · have HQ2 : Hid (outB 0 100000 (l.drop (k + 1)) = r) := by unfold Hid; rw [← HQ.out, HD.out, HR1.out]; rfl
        go_wp2_with fail
        refine ⟨⟨k + 1, by push_cast; rfl, by omega, HQ2.out, trivial⟩, ?_⟩
        simp [intOf]
        omega
    · obtain rfl : n = k := by omega
      have e : r = false := by rw [← HQ.out, List.drop_of_length_le (Nat.le_of_eq HN.out)]; rfl
      subst e
      go_wp2_with fail
      go_ret
      exact ⟨rfl, rfl⟩
end Go.Proofs.Ytaigbhhmmdfdcaa
/- The shop, the batches and the truth of the examples. -/
namespace Go.Proofs.Ytaigbhhmmdfdcaa
open Go.RowKit
set_option maxRecDepth 100000
def exRose : Thing := ⟨⟨#[114, 111, 115, 101]⟩, 0, 60000, 5, 0⟩
def exRed : Thing := ⟨⟨#[114, 101, 100]⟩, 1, 2000, 0, 10⟩
def exLead : Thing := ⟨⟨#[108, 101, 97, 100]⟩, 2, 100, 0, 0⟩
def exBees : Lot := ⟨⟨#[98, 101, 101, 115]⟩, [(0, 0), (0, 0), (0, 2)]⟩
def exStubs : Lot := ⟨⟨#[115, 116, 117, 98, 115]⟩, [(10000, 20000), (500, 1000), (0, 300)]⟩
def exShop : Shop := ⟨[exRose, exRed, exLead], [exBees, exStubs]⟩
def exBat0 : Bat := ⟨[800, 200], [], [(20000, 21000), (0, 0), (0, 0)]⟩
def exBat1 : Bat := ⟨[500, 0], [400], [(0, 0), (0, 0), (0, 0)]⟩
def exBats : List Bat := [exBat0, exBat1]
def exTru : Tru := ⟨[[0, 0, 1], [15000, 600, 100]], [], [20500, 0, 0]⟩
/-- A few cells of a block read as ranges. -/
theorem SpansIn.three {w : World} {g : Nat} {p q r : Int × Int} (h : w.heap[g]? = some (.cells #[.int .i64 p.1, .int .i64 p.2, .int .i64 q.1, .int .i64 q.2, .int .i64 r.1, .int .i64 r.2] 51)) :
    SpansIn w.heap.size w (.slice (some ⟨g, 0, none⟩) 3 3) [p, q, r] := by
  refine ⟨_, _, rfl, by simp, by simp, .inr ⟨g, 0, rfl, block_lt h, fun i hi => ?_⟩⟩
  have hi3 : i = 0 ∨ i = 1 ∨ i = 2 := by simp at hi; omega
  rcases hi3 with rfl | rfl | rfl <;> exact ⟨cell_of_row w g _ _ _ _ h, cell_of_row w g _ _ _ _ h⟩
theorem shop36 (w : World) : Calls Try.prog 36 #[] w (fun e w' => ∃ vt vl, e = .returned (.agg #[vt, vl]) ∧ ShopAt w'.heap.size w' vt vl exShop ∧ Below w.heap.size w w') := by
  have C0 := Lib.hid ((Bs.nil w).push _ rfl (.cells #[.slice none 0 0, .slice none 0 0] 25))
  have C1 := Lib.hid (C0.out.push _ rfl (.cells #[.string ⟨#[114, 111, 115, 101]⟩, .int .i64 0, .int .i64 60000, .int .i64 5, .int .i64 0, .string ⟨#[114, 101, 100]⟩, .int .i64 1, .int .i64 2000, .int .i64 0, .int .i64 10, .string ⟨#[108, 101, 97, 100]⟩, .int .i64 2, .int .i64 100, .int .i64 0, .int .i64 0] 62))
  rw [show (w.alloc (.cells #[.slice none 0 0, .slice none 0 0] 25)).heap.size = w.heap.size + 1 from by simp] at C1
  clear C0
  go_enter Try.func36, Try.ntmps36
  go_wp2_with fail
  refine (span38 0 0 _).mono ?_
  rintro e w1 ⟨rfl, hb⟩
  have C2 := Lib.hid (C1.out.call hb)
  clear C1 hb
  go_wp2_with fail
  refine (span38 0 0 _).mono ?_
  rintro e w2 ⟨rfl, hb⟩
  have C3 := Lib.hid (C2.out.call hb)
  clear C2 hb
  go_wp2_with fail
  refine (span38 0 2 _).mono ?_
  rintro e w3 ⟨rfl, hb⟩
  have C4 := Lib.hid (C3.out.call hb)
  clear C3 hb
  have C5 := Lib.hid (C4.out.push _ rfl (.cells #[.int .i64 0, .int .i64 0, .int .i64 0, .int .i64 0, .int .i64 0, .int .i64 2] 51))
  clear C4
  go_wp2_with fail
  refine (span38 10000 20000 _).mono ?_
  rintro e w5 ⟨rfl, hb⟩
  have C6 := Lib.hid (C5.out.call hb)
  clear C5 hb
  go_wp2_with fail
  refine (span38 500 1000 _).mono ?_
  rintro e w6 ⟨rfl, hb⟩
  have C7 := Lib.hid (C6.out.call hb)
  clear C6 hb
  go_wp2_with fail
  refine (span38 0 300 _).mono ?_
  rintro e w7 ⟨rfl, hb⟩
  have C8 := Lib.hid (C7.out.call hb)
  clear C7 hb
  have C9 := Lib.hid (C8.out.push _ rfl (.cells #[.int .i64 10000, .int .i64 20000, .int .i64 500, .int .i64 1000, .int .i64 0, .int .i64 300] 51))
  have C10 := Lib.hid (C9.out.push (w7.heap.size + 1) (by simp) (.cells #[.string ⟨#[98, 101, 101, 115]⟩, .slice (some ⟨w3.heap.size, 0, none⟩) 3 3, .string ⟨#[115, 116, 117, 98, 115]⟩, .slice (some ⟨w7.heap.size, 0, none⟩) 3 3] 83))
  clear C8 C9
  go_wp2_with (refine wpList_store_bs rfl 25 _ _ rfl C10.out 0 _ _ _ _ rfl rfl rfl info25 rfl (by simp [Value.oneCell']) ?_; intro w8 hC8)
  have H0 := hC8.get 0 rfl
  have H1 := hC8.get 1 rfl
  have H2 := hC8.get 2 rfl
  have H3 := hC8.get 3 rfl
  have H4 := hC8.get 4 rfl
  refine bodyPost_ret (v := .agg #[_, _]) (results_cell_row (fn := Try.f36) rfl _ _ _ _ _ _ _ rfl H0 Try.underlying25 rfl info25) rfl ⟨_, _, rfl, ⟨?_, ?_⟩, hC8.bel⟩
  · refine ⟨_, _, rfl, by simp [exShop], by simp [exShop], .inr ⟨_, 0, rfl, block_lt H1, fun i hi => ?_⟩⟩
    have hi3 : i = 0 ∨ i = 1 ∨ i = 2 := by simp [exShop] at hi; omega
    rcases hi3 with rfl | rfl | rfl <;> exact ⟨cell_of_row _ _ _ _ _ _ H1, cell_of_row _ _ _ _ _ _ H1, cell_of_row _ _ _ _ _ _ H1, cell_of_row _ _ _ _ _ _ H1, cell_of_row _ _ _ _ _ _ H1, by decide⟩
  · refine ⟨_, _, rfl, by simp [exShop], by simp [exShop], .inr ⟨_, 0, rfl, block_lt H4, fun i hi => ?_⟩⟩
    have hi3 : i = 0 ∨ i = 1 := by simp [exShop] at hi; omega
    rcases hi3 with rfl | rfl
    · exact ⟨cell_of_row _ _ _ _ _ _ H4, by decide, _, cell_of_row _ _ _ _ _ _ H4, SpansIn.three (p := (0, 0)) (q := (0, 0)) (r := (0, 2)) H2⟩
    · exact ⟨cell_of_row _ _ _ _ _ _ H4, by decide, _, cell_of_row _ _ _ _ _ _ H4, SpansIn.three (p := (10000, 20000)) (q := (500, 1000)) (r := (0, 300)) H3⟩
/-- A block of ints reads as a list. -/
theorem IntsIn.row {w : World} {g n m : Nat} {l : List Int} (h : w.heap[g]? = some (.cells (ints l) 3)) (hl : l.length ≤ 1000) (hn : l.length = n) : IntsIn .i64 w.heap.size w (.slice (some ⟨g, 0, none⟩) n m) l := by
  subst hn
  refine ⟨_, _, rfl, by omega, .inr ⟨g, 0, rfl, block_lt h, fun i hi => ?_⟩⟩
  rw [cell_of_row _ _ _ _ _ _ h, Nat.zero_add, ints_get l i hi]
theorem info44 : (Try.prog.info? 44).map (·.size) = some 3 := by kernel_rfl
theorem truth64 (w : World) : Calls Try.prog 64 #[] w (fun e w' => ∃ vl vb va, e = .returned (.agg #[vl, vb, va]) ∧ TruAt w'.heap.size w' vl vb va exTru ∧ Below w.heap.size w w') := by
  have C0 := Lib.hid ((Bs.nil w).push _ rfl (.cells #[.slice none 0 0, .slice none 0 0, .slice none 0 0] 44))
  have C1 := Lib.hid (C0.out.push (w.heap.size + 1) (by simp) (.cells (ints [0, 0, 1]) 3))
  have C2 := Lib.hid (C1.out.push (w.heap.size + 2) (by simp) (.cells (ints [15000, 600, 100]) 3))
  have C3 := Lib.hid (C2.out.push (w.heap.size + 3) (by simp) (.cells #[.slice (some ⟨w.heap.size + 1, 0, none⟩) 3 3, .slice (some ⟨w.heap.size + 2, 0, none⟩) 3 3] 36))
  have C4 := Lib.hid (C3.out.push (w.heap.size + 4) (by simp) (.cells (ints [20500, 0, 0]) 3))
  clear C0 C1 C2 C3
  go_enter Try.func64, Try.ntmps64
  go_wp2_with (refine wpList_store_bs rfl 44 _ _ rfl C4.out 0 _ _ _ _ rfl rfl rfl info44 rfl (by first | rfl | decide | simp [Value.oneCell']) ?_; intro w8 hC8)
  have H0 := hC8.get 0 rfl
  have H1 := hC8.get 1 rfl
  have H2 := hC8.get 2 rfl
  have H3 := hC8.get 3 rfl
  have H4 := hC8.get 4 rfl
  refine bodyPost_ret (v := .agg #[_, _, _]) (results_cell_row (fn := Try.f64) rfl _ _ _ _ _ _ _ rfl H0 Try.underlying44 rfl info44) rfl ⟨_, _, _, rfl, ⟨?_, SlIn.nil _ _, IntsIn.row H4 (by decide) rfl⟩, hC8.bel⟩
  refine ⟨_, _, rfl, by simp [exTru], by simp [exTru], .inr ⟨_, 0, rfl, block_lt H3, fun i hi => ?_⟩⟩
  have hi3 : i = 0 ∨ i = 1 := by simp [exTru] at hi; omega
  rcases hi3 with rfl | rfl
  · exact ⟨_, cell_of_row _ _ _ _ _ _ H3, IntsIn.row H1 (by decide) rfl⟩
  · exact ⟨_, cell_of_row _ _ _ _ _ _ H3, IntsIn.row H2 (by decide) rfl⟩
/-- What holds while the batches are laid. -/
structure BaW (wb : World) (D : Nat → Bool) (y : Tmp → Value) (w : World) : Prop where
  bel : Below wb.heap.size wb w
  g1 : D 0 = true → IntsIn .i64 w.heap.size w (y 1) [800, 200]
  g5 : D 4 = true → SpansIn w.heap.size w (y 5) [(20000, 21000), (0, 0), (0, 0)]
  g6 : D 5 = true → ∃ vg va, y 6 = .agg #[vg, .slice none 0 0, va] ∧ BatAt w.heap.size w vg (.slice none 0 0) va exBat0
  g7 : D 6 = true → IntsIn .i64 w.heap.size w (y 7) [500, 0]
  g8 : D 7 = true → IntsIn .i64 w.heap.size w (y 8) [400]
  g9 : D 8 = true → SpansIn w.heap.size w (y 9) [(0, 0), (0, 0), (0, 0)]
  g10 : D 9 = true → ∃ vg vb va, y 10 = .agg #[vg, vb, va] ∧ BatAt w.heap.size w vg vb va exBat1
  g11 : D 10 = true → BatsIn w.heap.size w (y 11) exBats
  g0 : D 11 = true → y 0 = y 11
theorem BaW.next {wb w w' : World} {D : Nat → Bool} {y : Tmp → Value} (h : BaW wb D y w) (hb : Below w.heap.size w w') : BaW wb D y w' :=
  ⟨h.bel.trans (hb.mono h.bel.size), fun e => (h.g1 e).next hb, fun e => (h.g5 e).next hb, fun e => by
    obtain ⟨a, b, e1, e2⟩ := h.g6 e
    exact ⟨a, b, e1, e2.next hb⟩, fun e => (h.g7 e).next hb, fun e => (h.g8 e).next hb, fun e => (h.g9 e).next hb, fun e => by
    obtain ⟨a, b, c, e1, e2⟩ := h.g10 e
    exact ⟨a, b, c, e1, e2.next hb⟩, fun e => (h.g11 e).next hb, h.g0⟩
theorem ba_allocB (w : World) (o : Obj) : Below w.heap.size w (w.alloc o) := (Below.refl _ _).alloc (Nat.le_refl _) o
theorem mk54 (w : World) : (Instr.makeSlice 54 (.int .i64 3) (.int .i64 3)).run Try.prog w = .ok (.slice (some ⟨w.heap.size, 0, none⟩) 3 3) (w.alloc (.cells #[.int .i64 0, .int .i64 0, .int .i64 0, .int .i64 0, .int .i64 0, .int .i64 0] 51)) := by kernel_rfl
set_option maxHeartbeats 4000000 in
theorem batches37 (w : World) : Calls Try.prog 37 #[] w (fun e w' => ∃ v, e = .returned v ∧ BatsIn w'.heap.size w' v exBats ∧ Below w.heap.size w w') := by
  go_enter Try.func37, Try.ntmps37
  go_wp2_with fail
  refine wp_region_inv1 (by kernel_rfl) (by kernel_rfl) [1, 5, 6, 7, 8, 9, 10, 11, 0] (fun D y w' => BaW w D y w') ?_ ?FX ?hFX ?_
  · exact ⟨(Below.refl _ _).drew, fun h => (by cases h), fun h => (by cases h), fun h => (by cases h), fun h => (by cases h), fun h => (by cases h), fun h => (by cases h), fun h => (by cases h), fun h => (by cases h), fun h => (by cases h)⟩
  case hFX =>
    intro y
    simp only [fill, List.foldl, Act.put, List.setIfInBounds_toArray, List.set]
    exact rfl
  apply obl_priv 1
  case hd => rfl
  case hp => rfl
  case hrun =>
    intro D y wz hW hD R hR
    have HRR := Lib.hid hR
    clear hR
    have HND : Hid (D 11 = false) := hD.post _ 11 rfl (by kernel_rfl)
    have HN := Lib.hid (hW.next (ba_allocB wz (.cells (ints [800, 200]) 3)))
    clear hW hD
    go_wp2
    refine HRR.out _ _ ?_
    exact ⟨HN.out.bel, fun _ => IntsIn.row (heap_alloc_new _ _) (by decide) rfl, HN.out.g5, HN.out.g6, HN.out.g7, HN.out.g8, HN.out.g9, HN.out.g10, HN.out.g11, fun e => absurd (e : D 11 = true) (by rw [HND.out]; simp)⟩
  apply obl_det
  case hrun =>
    intro D y wz hW hD R hR
    have HRR := Lib.hid hR
    clear hR
    have HW := Lib.hid hW
    clear hW hD
    go_wp2_with fail
    refine (span38 20000 21000 _).mono ?_
    rintro e w' ⟨rfl, hb⟩
    have HW2 := Lib.hid (HW.out.next hb)
    clear hb
    go_wp2_with fail
    exact HRR.out _ ⟨HW2.out.bel, HW2.out.g1, HW2.out.g5, HW2.out.g6, HW2.out.g7, HW2.out.g8, HW2.out.g9, HW2.out.g10, HW2.out.g11, HW2.out.g0⟩
  case hnp => rfl
  case hv => first | exact ⟨_, fun _ => rfl⟩ | exact ⟨undef, fun _ => rfl⟩
  apply obl_det
  case hrun =>
    intro D y wz hW hD R hR
    have HRR := Lib.hid hR
    clear hR
    have HW := Lib.hid hW
    clear hW hD
    go_wp2_with fail
    refine (span38 0 0 _).mono ?_
    rintro e w' ⟨rfl, hb⟩
    have HW2 := Lib.hid (HW.out.next hb)
    clear hb
    go_wp2_with fail
    exact HRR.out _ ⟨HW2.out.bel, HW2.out.g1, HW2.out.g5, HW2.out.g6, HW2.out.g7, HW2.out.g8, HW2.out.g9, HW2.out.g10, HW2.out.g11, HW2.out.g0⟩
  case hnp => rfl
  case hv => first | exact ⟨_, fun _ => rfl⟩ | exact ⟨undef, fun _ => rfl⟩
  apply obl_det
  case hrun =>
    intro D y wz hW hD R hR
    have HRR := Lib.hid hR
    clear hR
    have HW := Lib.hid hW
    clear hW hD
    go_wp2_with fail
    refine (span38 0 0 _).mono ?_
    rintro e w' ⟨rfl, hb⟩
    have HW2 := Lib.hid (HW.out.next hb)
    clear hb
    go_wp2_with fail
    exact HRR.out _ ⟨HW2.out.bel, HW2.out.g1, HW2.out.g5, HW2.out.g6, HW2.out.g7, HW2.out.g8, HW2.out.g9, HW2.out.g10, HW2.out.g11, HW2.out.g0⟩
  case hnp => rfl
  case hv => first | exact ⟨_, fun _ => rfl⟩ | exact ⟨undef, fun _ => rfl⟩
  apply obl_priv 5
  case hd => rfl
  case hp => rfl
  case hrun =>
    intro D y wz hW hD R hR
    have HRR := Lib.hid hR
    clear hR
    have HND : Hid (D 11 = false) := hD.post _ 11 rfl (by kernel_rfl)
    have HN := Lib.hid (hW.next (ba_allocB wz (.cells #[.int .i64 20000, .int .i64 21000, .int .i64 0, .int .i64 0, .int .i64 0, .int .i64 0] 51)))
    clear hW hD
    go_wp2
    refine HRR.out _ _ ?_
    exact ⟨HN.out.bel, HN.out.g1, fun _ => SpansIn.three (p := (20000, 21000)) (q := (0, 0)) (r := (0, 0)) (heap_alloc_new _ _), HN.out.g6, HN.out.g7, HN.out.g8, HN.out.g9, HN.out.g10, HN.out.g11, fun e => absurd (e : D 11 = true) (by rw [HND.out]; simp)⟩
  apply obl_priv 6
  case hd => rfl
  case hp => rfl
  case hrun =>
    intro D y wz hW hD R hR
    have HRR := Lib.hid hR
    clear hR
    have HND : Hid (D 11 = false) := hD.post _ 11 rfl (by kernel_rfl)
    have h1 := hW.g1 (hD.pre _ 0 rfl (by kernel_rfl))
    have h5 := hW.g5 (hD.pre _ 4 rfl (by kernel_rfl))
    have HN := Lib.hid hW
    obtain ⟨a1, c1, e1, -⟩ := id h1
    obtain ⟨a5, c5, e5, -⟩ := sl_shape h5
    rw [e1] at h1
    rw [e5] at h5
    have HG : Hid (BatAt wz.heap.size wz (.slice a1 2 c1) (.slice none 0 0) (.slice a5 3 c5) exBat0) := ⟨h1, IntsIn.nil _ _, h5⟩
    clear h1 h5
    clear hW hD
    have E1 := Lib.hid e1
    have E5 := Lib.hid e5
    rw [e1, e5]
    clear e1 e5
    go_wp2
    rw [← E1.out, ← E5.out]
    refine HRR.out _ _ ?_
    exact ⟨HN.out.bel, HN.out.g1, HN.out.g5, fun _ => ⟨_, _, rfl, HG.out⟩, HN.out.g7, HN.out.g8, HN.out.g9, HN.out.g10, HN.out.g11, fun e => absurd (e : D 11 = true) (by rw [HND.out]; simp)⟩
  apply obl_priv 7
  case hd => rfl
  case hp => rfl
  case hrun =>
    intro D y wz hW hD R hR
    have HRR := Lib.hid hR
    clear hR
    have HND : Hid (D 11 = false) := hD.post _ 11 rfl (by kernel_rfl)
    have HN := Lib.hid (hW.next (ba_allocB wz (.cells (ints [500, 0]) 3)))
    clear hW hD
    go_wp2
    refine HRR.out _ _ ?_
    exact ⟨HN.out.bel, HN.out.g1, HN.out.g5, HN.out.g6, fun _ => IntsIn.row (heap_alloc_new _ _) (by decide) rfl, HN.out.g8, HN.out.g9, HN.out.g10, HN.out.g11, fun e => absurd (e : D 11 = true) (by rw [HND.out]; simp)⟩
  apply obl_priv 8
  case hd => rfl
  case hp => rfl
  case hrun =>
    intro D y wz hW hD R hR
    have HRR := Lib.hid hR
    clear hR
    have HND : Hid (D 11 = false) := hD.post _ 11 rfl (by kernel_rfl)
    have HN := Lib.hid (hW.next (ba_allocB wz (.cells (ints [400]) 3)))
    clear hW hD
    go_wp2
    refine HRR.out _ _ ?_
    exact ⟨HN.out.bel, HN.out.g1, HN.out.g5, HN.out.g6, HN.out.g7, fun _ => IntsIn.row (heap_alloc_new _ _) (by decide) rfl, HN.out.g9, HN.out.g10, HN.out.g11, fun e => absurd (e : D 11 = true) (by rw [HND.out]; simp)⟩
  apply obl_priv 9
  case hd => rfl
  case hp => rfl
  case hrun =>
    intro D y wz hW hD R hR
    have HRR := Lib.hid hR
    clear hR
    have HND : Hid (D 11 = false) := hD.post _ 11 rfl (by kernel_rfl)
    have HN := Lib.hid (hW.next (ba_allocB wz (.cells #[.int .i64 0, .int .i64 0, .int .i64 0, .int .i64 0, .int .i64 0, .int .i64 0] 51)))
    clear hW hD
    have hmk := mk54 wz
    go_wp2
    refine HRR.out _ _ ?_
    exact ⟨HN.out.bel, HN.out.g1, HN.out.g5, HN.out.g6, HN.out.g7, HN.out.g8, fun _ => SpansIn.three (p := (0, 0)) (q := (0, 0)) (r := (0, 0)) (heap_alloc_new _ _), HN.out.g10, HN.out.g11, fun e => absurd (e : D 11 = true) (by rw [HND.out]; simp)⟩
  apply obl_priv 10
  case hd => rfl
  case hp => rfl
  case hrun =>
    intro D y wz hW hD R hR
    have HRR := Lib.hid hR
    clear hR
    have HND : Hid (D 11 = false) := hD.post _ 11 rfl (by kernel_rfl)
    have h1 := hW.g7 (hD.pre _ 6 rfl (by kernel_rfl))
    have h2 := hW.g8 (hD.pre _ 7 rfl (by kernel_rfl))
    have h5 := hW.g9 (hD.pre _ 8 rfl (by kernel_rfl))
    have HN := Lib.hid hW
    obtain ⟨a1, c1, e1, -⟩ := id h1
    obtain ⟨a2, c2, e2, -⟩ := id h2
    obtain ⟨a5, c5, e5, -⟩ := sl_shape h5
    rw [e1] at h1
    rw [e2] at h2
    rw [e5] at h5
    have HG : Hid (BatAt wz.heap.size wz (.slice a1 2 c1) (.slice a2 1 c2) (.slice a5 3 c5) exBat1) := ⟨h1, h2, h5⟩
    clear h1 h2 h5
    clear hW hD
    have E1 := Lib.hid e1
    have E2 := Lib.hid e2
    have E5 := Lib.hid e5
    rw [e1, e2, e5]
    clear e1 e2 e5
    go_wp2
    rw [← E1.out, ← E2.out, ← E5.out]
    refine HRR.out _ _ ?_
    exact ⟨HN.out.bel, HN.out.g1, HN.out.g5, HN.out.g6, HN.out.g7, HN.out.g8, HN.out.g9, fun _ => ⟨_, _, _, rfl, HG.out⟩, HN.out.g11, fun e => absurd (e : D 11 = true) (by rw [HND.out]; simp)⟩
  apply obl_priv 11
  case hd => rfl
  case hp => rfl
  case hrun =>
    intro D y wz hW hD R hR
    have HRR := Lib.hid hR
    clear hR
    have HND : Hid (D 11 = false) := hD.post _ 11 rfl (by kernel_rfl)
    obtain ⟨vg, va, e6, h6⟩ := hW.g6 (hD.pre _ 5 rfl (by kernel_rfl))
    obtain ⟨ug, ub, ua, e10, h10⟩ := hW.g10 (hD.pre _ 9 rfl (by kernel_rfl))
    have HB0 := Lib.hid h6
    have HB1 := Lib.hid h10
    obtain ⟨a1, c1, rfl, -⟩ := h6.1
    obtain ⟨a2, c2, rfl, -⟩ := sl_shape h6.2.2
    obtain ⟨a3, c3, rfl, -⟩ := h10.1
    obtain ⟨a4, c4, rfl, -⟩ := h10.2.1
    obtain ⟨a5, c5, rfl, -⟩ := sl_shape h10.2.2
    have E6 := Lib.hid e6
    have E10 := Lib.hid e10
    rw [e6, e10]
    have HN := Lib.hid (hW.next (ba_allocB wz (.cells #[.slice a1 exBat0.grams.length c1, .slice none 0 0, .slice a2 exBat0.added.length c2, .slice a3 exBat1.grams.length c3, .slice a4 exBat1.back.length c4, .slice a5 exBat1.added.length c5] 75)))
    have HB0 := Lib.hid (HB0.out.next (ba_allocB wz (.cells #[.slice a1 exBat0.grams.length c1, .slice none 0 0, .slice a2 exBat0.added.length c2, .slice a3 exBat1.grams.length c3, .slice a4 exBat1.back.length c4, .slice a5 exBat1.added.length c5] 75)))
    have HB1 := Lib.hid (HB1.out.next (ba_allocB wz (.cells #[.slice a1 exBat0.grams.length c1, .slice none 0 0, .slice a2 exBat0.added.length c2, .slice a3 exBat1.grams.length c3, .slice a4 exBat1.back.length c4, .slice a5 exBat1.added.length c5] 75)))
    clear hW hD e6 e10 h6 h10
    go_wp2
    rw [← E6.out, ← E10.out]
    refine HRR.out _ _ ?_
    have HR := Lib.hid (heap_alloc_new wz (.cells #[.slice a1 exBat0.grams.length c1, .slice none 0 0, .slice a2 exBat0.added.length c2, .slice a3 exBat1.grams.length c3, .slice a4 exBat1.back.length c4, .slice a5 exBat1.added.length c5] 75))
    have HX : Hid (BatsIn (wz.alloc (.cells #[.slice a1 exBat0.grams.length c1, .slice none 0 0, .slice a2 exBat0.added.length c2, .slice a3 exBat1.grams.length c3, .slice a4 exBat1.back.length c4, .slice a5 exBat1.added.length c5] 75)).heap.size (wz.alloc (.cells #[.slice a1 exBat0.grams.length c1, .slice none 0 0, .slice a2 exBat0.added.length c2, .slice a3 exBat1.grams.length c3, .slice a4 exBat1.back.length c4, .slice a5 exBat1.added.length c5] 75)) (.slice (some ⟨wz.heap.size, 0, none⟩) 2 2) exBats) := by
      refine ⟨_, _, rfl, by decide, by decide, .inr ⟨_, 0, rfl, block_lt HR.out, fun i hi => ?_⟩⟩
      have hi3 : i = 0 ∨ i = 1 := by simp [exBats] at hi; omega
      rcases hi3 with rfl | rfl
      · exact ⟨_, _, _, cell_of_row _ _ _ _ _ _ HR.out, cell_of_row _ _ _ _ _ _ HR.out, cell_of_row _ _ _ _ _ _ HR.out, HB0.out⟩
      · exact ⟨_, _, _, cell_of_row _ _ _ _ _ _ HR.out, cell_of_row _ _ _ _ _ _ HR.out, cell_of_row _ _ _ _ _ _ HR.out, HB1.out⟩
    exact ⟨HN.out.bel, HN.out.g1, HN.out.g5, HN.out.g6, HN.out.g7, HN.out.g8, HN.out.g9, HN.out.g10, fun _ => HX.out, fun e => absurd (e : D 11 = true) (by rw [HND.out]; simp)⟩
  apply obl_priv 0
  case hd => rfl
  case hp => rfl
  case hrun =>
    intro D y wz hW hD R hR
    have HRR := Lib.hid hR
    clear hR
    have HN := Lib.hid hW
    clear hW hD
    go_wp2
    refine HRR.out _ _ ?_
    exact ⟨HN.out.bel, HN.out.g1, HN.out.g5, HN.out.g6, HN.out.g7, HN.out.g8, HN.out.g9, HN.out.g10, HN.out.g11, fun _ => rfl⟩
  apply obl_nil
  intro D y w8 hall hW
  have h11 := hW.g11 (hall 10 (by decide))
  have h0 := hW.g0 (hall 11 (by decide))
  have HX : Hid (BatsIn w8.heap.size w8 (y 0) exBats) := by rw [h0]; exact h11
  have HB := Lib.hid hW.bel
  clear hW hall h11 h0
  go_wp2_with fail
  go_ret
  exact ⟨_, rfl, HX.out, HB.out⟩
end Go.Proofs.Ytaigbhhmmdfdcaa
/- The values at the examples. -/
namespace Go.Proofs.Ytaigbhhmmdfdcaa
set_option maxRecDepth 100000
theorem ex_e : batchesE exShop exBats = 0 := by kernel_rfl
theorem ex_content : contentV exShop exBats = [[(22000000, 25000000), (100000, 200000), (0, 61600)], [(8800000, 10000000), (40000, 80000), (0, 25800)]] := by kernel_rfl
theorem ex_made : madeV exShop exBats 0 exTru = [23500000, 120000, 20800] := by kernel_rfl
theorem ex_madeE : madeE exShop exBats 0 exTru = 0 := by kernel_rfl
theorem ex_left : leftV exShop exBats = [600, 900] := by kernel_rfl
theorem ex_keeps : keepsV exShop exBats = (-1, -1, 0) := by kernel_rfl
theorem ex_take : takeV exShop [exBat0] 1 = ((0, 192), 0) := by kernel_rfl
theorem ex_pull : pullV exShop exBats = [(875, 890), (944, 952)] := by kernel_rfl
theorem firstOf_at {f : Nat → Bool} {k : Nat} (hk : f k = true) (h : firstOf f k = none) : ∀ n, k < n → firstOf f n = some k
  | 0, hn => by omega
  | n + 1, hn => by
    unfold firstOf
    by_cases e : k = n
    · subst e
      rw [h]
      simp [hk]
    · rw [firstOf_at hk h n (by omega)]
theorem ex_paleE : paleE exShop [exBat0] 1 50 = 0 := by kernel_rfl
theorem ex_pale1 : paleV 10 100000 1000 50 = 51 := by
  unfold paleV
  rw [firstOf_at (k := 51) (by kernel_rfl) (by kernel_rfl) 1001 (by omega)]
  rfl
theorem ex_pale2 : paleV 10 200000 1000 50 = 76 := by
  unfold paleV
  rw [firstOf_at (k := 76) (by kernel_rfl) (by kernel_rfl) 1001 (by omega)]
  rfl
theorem ex_row : (rangesV exShop [exBat0]).getD ([exBat0].length - 1) [] = [(22000000, 25000000), (100000, 200000), (0, 61600)] := by kernel_rfl
theorem ex_wt : weightV ([exBat0].getD ([exBat0].length - 1) default) = 1000 := by kernel_rfl
theorem ex_pale : paleVV exShop [exBat0] 1 50 = (51, 76, 0) := by
  unfold paleVV
  rw [if_neg (by rw [ex_paleE]; simp), ex_row, ex_wt]
  have h1 := ex_pale1
  have h2 := ex_pale2
  show (paleV 10 100000 1000 50, paleV 10 200000 1000 50, 0) = _
  rw [h1, h2]
theorem ex_arg : paleVV exShop exBats 0 50 = (0, 0, 2) := by kernel_rfl
/-- The shop whose lead may be less. -/
def exLess : Shop := ⟨[exRose, exRed, { exLead with limit := 61 }], [exBees, exStubs]⟩
theorem ex_known : keepsV exLess exBats = (0, 2, 0) := by kernel_rfl
theorem ex_take0 : takeV exShop [exBat0] 0 = ((0, 99200), 0) := by kernel_rfl
end Go.Proofs.Ytaigbhhmmdfdcaa
