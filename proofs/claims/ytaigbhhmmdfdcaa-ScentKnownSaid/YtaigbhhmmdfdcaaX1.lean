/- stearinref01.Ints, Spans and stearinref07.Tables at two lists that are equal; span of the laws. -/
import Derived.Test.YtaigbhhmmdfdcaaW16
import Derived.BigQuiet
namespace Go.Proofs.Ytaigbhhmmdfdcaa
open Go.RowKit
set_option maxRecDepth 100000 in
set_option maxHeartbeats 4000000 in
theorem ints_same (l : List Int) (v u : Value) (w : World) (hv : IntsIn .i64 w.heap.size w v l) (hu : IntsIn .i64 w.heap.size w u l) : Calls Try.prog 24 #[v, u] w fun e w' => e = .returned (.bool true) ∧ Below w.heap.size w w' := by
  obtain ⟨a, c, rfl, hl, hv⟩ := hv
  obtain ⟨a2, c2, rfl, -, hu⟩ := hu
  have HV := Lib.hid hv
  have HU := Lib.hid hu
  clear hv hu
  have hq : ((l.length : Int) != (l.length : Int)) = false := by simp
  obtain ⟨n, hn⟩ : ∃ n, l.length = n := ⟨_, rfl⟩
  have HN := Lib.hid hn
  rw [hn] at hl hq ⊢
  clear hn
  go_enter Try.func24, Try.ntmps24
  go_wp2_with fail
  clear hq
  go_loopw [5] (fun kv wr => ∃ k : Nat, kv = .int .i64 k ∧ k ≤ n ∧ Below w.heap.size w wr) (fun kv _ => n - (intOf kv).toNat)
  case atStart => exact ⟨0, rfl, by omega, Below.refl _ _⟩
  case round =>
    obtain ⟨k, rfl, hk, hb⟩ := hrel
    have CB := Lib.hid hb
    clear hb
    by_cases hlt : k < n
    · have hnn := (HN.out : l.length = n)
      obtain ⟨b, o, rfl, hbb, hc⟩ := HV.out.resolve_left (by intro h; rw [h] at hnn; simp at hnn; omega)
      obtain ⟨b2, o2, rfl, hbb2, hc2⟩ := HU.out.resolve_left (by intro h; rw [h] at hnn; simp at hnn; omega)
      have h1 : wr.cell? ⟨b, o + k, none⟩ = some (.int .i64 (l.getD k 0)) := (CB.out.cell (p := ⟨b, o + k, none⟩) hbb).trans (hc k (by omega))
      have h2 : wr.cell? ⟨b2, o2 + k, none⟩ = some (.int .i64 (l.getD k 0)) := (CB.out.cell (p := ⟨b2, o2 + k, none⟩) hbb2).trans (hc2 k (by omega))
      clear hc hc2 hnn
      generalize l.getD k 0 = x at *
      have hq6 : (x != x) = false := by simp
      go_wp2_with fail
      go_quiet (fail)
      simp only [Exit.then]
      go_wp2_with fail
      refine ⟨⟨k + 1, by push_cast; rfl, by omega, ⟨CB.out.os, CB.out.tape, CB.out.output, CB.out.size, CB.out.block⟩⟩, ?_⟩
      simp [intOf]
      omega
    · obtain rfl : n = k := by omega
      go_wp2_with fail
      go_ret
      exact ⟨rfl, CB.out⟩
set_option maxRecDepth 100000 in
set_option maxHeartbeats 4000000 in
theorem spans_same (l : List (Int × Int)) (v u : Value) (w : World) (hv : SpansIn w.heap.size w v l) (hu : SpansIn w.heap.size w u l) : Calls Try.prog 33 #[v, u] w fun e w' => e = .returned (.bool true) ∧ Below w.heap.size w w' := by
  obtain ⟨a, c, rfl, hl, -, hv⟩ := hv
  obtain ⟨a2, c2, rfl, -, -, hu⟩ := hu
  have HV := Lib.hid hv
  have HU := Lib.hid hu
  clear hv hu
  have hq : ((l.length : Int) != (l.length : Int)) = false := by simp
  obtain ⟨n, hn⟩ : ∃ n, l.length = n := ⟨_, rfl⟩
  have HN := Lib.hid hn
  rw [hn] at hl hq ⊢
  clear hn
  go_enter Try.func33, Try.ntmps33
  go_wp2_with fail
  clear hq
  go_loopw [5] (fun kv wr => ∃ k : Nat, kv = .int .i64 k ∧ k ≤ n ∧ Below w.heap.size w wr) (fun kv _ => n - (intOf kv).toNat)
  case atStart => exact ⟨0, rfl, by omega, Below.refl _ _⟩
  case round =>
    obtain ⟨k, rfl, hk, hb⟩ := hrel
    have CB := Lib.hid hb
    clear hb
    by_cases hlt : k < n
    · have hnn := (HN.out : l.length = n)
      obtain ⟨b, o, rfl, hbb, hc⟩ := HV.out.resolve_left (by intro h; rw [h] at hnn; simp at hnn; omega)
      obtain ⟨b2, o2, rfl, hbb2, hc2⟩ := HU.out.resolve_left (by intro h; rw [h] at hnn; simp at hnn; omega)
      have h1 : wr.cell? ⟨b, o + k * 2, none⟩ = some (.int .i64 (l.getD k (0, 0)).1) := (CB.out.cell (p := ⟨b, o + k * 2, none⟩) hbb).trans (hc k (by omega)).1
      have h1' : wr.cell? ⟨b, o + k * 2 + 1, none⟩ = some (.int .i64 (l.getD k (0, 0)).2) := (CB.out.cell (p := ⟨b, o + k * 2 + 1, none⟩) hbb).trans (hc k (by omega)).2
      have h2 : wr.cell? ⟨b2, o2 + k * 2, none⟩ = some (.int .i64 (l.getD k (0, 0)).1) := (CB.out.cell (p := ⟨b2, o2 + k * 2, none⟩) hbb2).trans (hc2 k (by omega)).1
      have h2' : wr.cell? ⟨b2, o2 + k * 2 + 1, none⟩ = some (.int .i64 (l.getD k (0, 0)).2) := (CB.out.cell (p := ⟨b2, o2 + k * 2 + 1, none⟩) hbb2).trans (hc2 k (by omega)).2
      clear hc hc2 hnn
      generalize (l.getD k (0, 0)).1 = x at *
      generalize (l.getD k (0, 0)).2 = y at *
      have hq6 : (x != x) = false := by simp
      go_wp2_with fail
      go_quiet (fail)
      simp only [Exit.then]
      go_wp2_with fail
      refine ⟨⟨k + 1, by push_cast; rfl, by omega, ⟨CB.out.os, CB.out.tape, CB.out.output, CB.out.size, CB.out.block⟩⟩, ?_⟩
      simp [intOf]
      omega
    · obtain rfl : n = k := by omega
      go_wp2_with fail
      go_ret
      exact ⟨rfl, CB.out⟩
set_option maxRecDepth 100000 in
set_option maxHeartbeats 4000000 in
theorem tables_same (l : List (List (Int × Int))) (v u : Value) (w : World) (hv : TableIn w.heap.size w v l) (hu : TableIn w.heap.size w u l) : Calls Try.prog 21 #[v, u] w fun e w' => e = .returned (.bool true) ∧ Below w.heap.size w w' := by
  obtain ⟨a, c, rfl, hl, -, hv⟩ := hv
  obtain ⟨a2, c2, rfl, -, -, hu⟩ := hu
  have HV := Lib.hid hv
  have HU := Lib.hid hu
  clear hv hu
  have hq : ((l.length : Int) != (l.length : Int)) = false := by simp
  obtain ⟨n, hn⟩ : ∃ n, l.length = n := ⟨_, rfl⟩
  have HN := Lib.hid hn
  rw [hn] at hl hq ⊢
  clear hn
  go_enter Try.func21, Try.ntmps21
  go_wp2_with fail
  clear hq
  go_loopw [5] (fun kv wr => ∃ k : Nat, kv = .int .i64 k ∧ k ≤ n ∧ Below w.heap.size w wr) (fun kv _ => n - (intOf kv).toNat)
  case atStart => exact ⟨0, rfl, by omega, Below.refl _ _⟩
  case round =>
    obtain ⟨k, rfl, hk, hb⟩ := hrel
    have CB := Lib.hid hb
    clear hb
    by_cases hlt : k < n
    · have hnn := (HN.out : l.length = n)
      obtain ⟨b, o, rfl, hbb, hc⟩ := HV.out.resolve_left (by intro h; rw [h] at hnn; simp at hnn; omega)
      obtain ⟨b2, o2, rfl, hbb2, hc2⟩ := HU.out.resolve_left (by intro h; rw [h] at hnn; simp at hnn; omega)
      obtain ⟨v1, h1, hs1⟩ := hc k (by omega)
      obtain ⟨v2, h2, hs2⟩ := hc2 k (by omega)
      have h1 : wr.cell? ⟨b, o + k, none⟩ = some v1 := (CB.out.cell (p := ⟨b, o + k, none⟩) hbb).trans (by simpa [rdSpans] using h1)
      have h2 : wr.cell? ⟨b2, o2 + k, none⟩ = some v2 := (CB.out.cell (p := ⟨b2, o2 + k, none⟩) hbb2).trans (by simpa [rdSpans] using h2)
      have HS1 := Lib.hid (hs1.next CB.out)
      have HS2 := Lib.hid (hs2.next CB.out)
      clear hc hc2 hnn hs1 hs2
      generalize l.getD k default = x at *
      obtain ⟨a3, c3, rfl, -⟩ := sl_shape HS1.out
      obtain ⟨a4, c4, rfl, -⟩ := sl_shape HS2.out
      go_wp2_with fail
      have H1 := Lib.hid h1
      have H2 := Lib.hid h2
      have HB1 := Lib.hid (Nat.lt_of_lt_of_le hbb CB.out.size)
      have HB2 := Lib.hid (Nat.lt_of_lt_of_le hbb2 CB.out.size)
      clear h1 h2
      refine wp_region_inv0 (by kernel_rfl) (by kernel_rfl) (fun D w' => Below wr.heap.size wr w') (Below.refl _ _).drew ?_
      iterate 8
        (apply obl_det
         case hrun =>
           intro D y wz hW hD R hR
           have HRR := Lib.hid hR
           clear hR
           have HW := Lib.hid hW
           have h1z := (HW.out.cell (p := ⟨b, o + k, none⟩) HB1.out).trans H1.out
           have h2z := (HW.out.cell (p := ⟨b2, o2 + k, none⟩) HB2.out).trans H2.out
           clear hW hD
           go_wp2
           exact HRR.out _ HW.out
         case hnp => rfl
         case hv => first | exact ⟨_, fun _ => rfl⟩ | exact ⟨undef, fun _ => rfl⟩)
      apply obl_det
      case hrun =>
        intro D y wz hW hD R hR
        have HRR := Lib.hid hR
        clear hR
        have HW := Lib.hid hW
        clear hW hD
        go_wp2_with fail
        refine (spans_same _ _ _ wz (HS1.out.next HW.out) (HS2.out.next HW.out)).mono ?_
        rintro e w' ⟨rfl, hb⟩
        have HW2 := Lib.hid (HW.out.trans (hb.mono HW.out.size))
        clear hb
        go_wp2_with fail
        exact HRR.out _ HW2.out
      case hnp => rfl
      case hv => first | exact ⟨_, fun _ => rfl⟩ | exact ⟨undef, fun _ => rfl⟩
      apply obl_det
      case hrun =>
        intro D y wz hW hD R hR
        have HRR := Lib.hid hR
        clear hR
        have HW := Lib.hid hW
        clear hW hD
        go_wp2
        exact HRR.out _ HW.out
      case hnp => rfl
      case hv => first | exact ⟨_, fun _ => rfl⟩ | exact ⟨undef, fun _ => rfl⟩
      apply obl_nil
      intro D y w8 hall hW
      have CB := Lib.hid (CB.out.trans (hW.mono CB.out.size))
      clear hall hW
      go_wp2_with fail
      refine ⟨⟨k + 1, by push_cast; rfl, by omega, CB.out⟩, ?_⟩
      simp [intOf]
      omega
    · obtain rfl : n = k := by omega
      go_wp2_with fail
      go_ret
      exact ⟨rfl, CB.out⟩
theorem span38 (lo hi : Int) (w : World) : Calls Try.prog 38 #[.int .i64 lo, .int .i64 hi] w
    fun e w' => e = .returned (.agg #[.int .i64 lo, .int .i64 hi]) ∧ Below w.heap.size w w' := by
  have HB := Lib.hid ((Below.refl w.heap.size w).alloc (Nat.le_refl _) (.cells #[.int .i64 lo, .int .i64 hi] 51))
  have HR := Lib.hid (heap_alloc_new w (.cells #[.int .i64 lo, .int .i64 hi] 51))
  go_enter Try.func38, Try.ntmps38
  go_wp2_with fail
  exact bodyPost_ret (v := .agg #[.int .i64 lo, .int .i64 hi]) (results_cell_row (fn := Try.f38) rfl _ _ _ _ _ _ _ rfl HR.out Try.underlying51 rfl info51) rfl ⟨rfl, HB.out⟩
end Go.Proofs.Ytaigbhhmmdfdcaa
