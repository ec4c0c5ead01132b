/- stearinref07.Weakness. -/
import Derived.Test.YtaigbhhmmdfdcaaY10
namespace Go.Proofs.Ytaigbhhmmdfdcaa
open Go.RowKit
set_option maxRecDepth 100000 in
set_option maxHeartbeats 8000000 in
/-- Weakness -/
theorem weakness_ref (s : Shop) (m : List Int) (vt vl v : Value) (w : World) (hv : ShopAt w.heap.size w vt vl s) (hm : IntsIn .i64 w.heap.size w v m) (hs : ShopOk s) (hl : m.length ≤ s.things.length) (hb : ∀ i, i < m.length → 0 ≤ m.getD i 0 ∧ m.getD i 0 ≤ 2000000000000) :
    Calls Try.prog 46 #[.agg #[vt, vl], v] w fun e w' => e = .returned (.int .i64 (weakS s (fun t => m.getD t 0) m.length)) ∧ Below w.heap.size w w' := by
  have HS := Lib.hid hv
  have HSO := Lib.hid hs
  have HMB := Lib.hid hb
  obtain ⟨ta, tc, rfl, -, -⟩ := sl_shape hv.1
  obtain ⟨la, lc, rfl, -, -⟩ := sl_shape hv.2
  have HM := Lib.hid hm
  obtain ⟨a, c, rfl, -⟩ := hm
  have hnt5 := hs.nt5
  have HWB : Hid (∀ k, k ≤ m.length → 0 ≤ weakS s (fun t => m.getD t 0) k ∧ weakS s (fun t => m.getD t 0) k ≤ 1000000000000000) := fun k hk => by
    have := dot_bound (fun t => (s.things.getD t default).weak * m.getD t 0) 200000000000000 k (fun i hi => by
      have := mul_bound (hs.weak i (by omega)) (hb i (by omega))
      omega)
    have e : weakS s (fun t => m.getD t 0) k = dot (fun t => (s.things.getD t default).weak * m.getD t 0) k := rfl
    rw [e]
    have hk5 : k ≤ 5 := by omega
    have : (k : Int) * 200000000000000 ≤ 1000000000000000 := by omega
    omega
  clear hv hs hb
  have C0 : Hid (Bs w [(w.heap.size, .cells #[.slice ta s.things.length tc, .slice la s.lots.length lc] 25)] _) := (Bs.nil w).push _ rfl (.cells #[.slice ta s.things.length tc, .slice la s.lots.length lc] 25)
  generalize hn : m.length = n at *
  have HN := Lib.hid hn
  clear hn
  go_enter Try.func46, Try.ntmps46
  go_wp2_with fail
  go_loopw [5, 6] (fun sv iv wr => ∃ i : Nat, sv = .int .i64 (weakS s (fun t => m.getD t 0) i) ∧ iv = .int .i64 i ∧ i ≤ n ∧ Bs w [(w.heap.size, .cells #[.slice ta s.things.length tc, .slice la s.lots.length lc] 25)] wr) (fun _ iv _ => n - (intOf iv).toNat)
  case atStart => exact ⟨0, rfl, rfl, by omega, C0.out⟩
  case round =>
    clear C0
    obtain ⟨i, rfl, rfl, hi, hbs⟩ := hrel
    have CI := Lib.hid hbs
    clear hbs
    by_cases hin : i < n
    · have hit : i < s.things.length := by omega
      have hit2 : (i : Int) < (s.things.length : Int) := by omega
      obtain ⟨b, o, he, hbb, -, -, -, hw3, -⟩ := HS.out.1.at' hit
      cases he
      have HW3 : Hid (w.cell? ⟨b, o + i * 5 + 3, none⟩ = some (.int .i64 (s.things.getD i default).weak)) := hw3
      have HBB := Lib.hid hbb
      obtain ⟨gb, go, rfl, hgb, hgc⟩ : ∃ gb go, a = some ⟨gb, go, none⟩ ∧ gb < w.heap.size ∧ w.cell? ⟨gb, go + i, none⟩ = some (.int .i64 (m.getD i 0)) := by
        obtain ⟨a', c', e, -, h⟩ := HM.out
        simp only [Value.slice.injEq] at e
        obtain ⟨rfl, -, -⟩ := e
        rcases h with h | ⟨gb, go, rfl, h1, h2⟩
        · have := HN.out; rw [h] at this; simp at this; omega
        · exact ⟨gb, go, rfl, h1, h2 i (by rw [HN.out]; exact hin)⟩
      have HGB := Lib.hid hgb
      have HGC := Lib.hid hgc
      have hwk := HSO.out.weak i hit
      have hmi := HMB.out i hin
      have hsb := HWB.out i (by omega)
      have hsb2 := HWB.out (i + 1) (by omega)
      have HSS : Hid (weakS s (fun t => m.getD t 0) i + (s.things.getD i default).weak * m.getD i 0 = weakS s (fun t => m.getD t 0) (i + 1)) := rfl
      have hta : True := trivial
      clear hw3 hbb hgb hgc
      generalize (s.things.getD i default).weak = wk at *
      generalize m.getD i 0 = mi at *
      have hm1 := mul_bound hwk hmi
      have HWP : Hid (wrap64 (wk * mi) = wk * mi) := by unfold Hid wrap64; omega
      obtain ⟨P, hP⟩ : ∃ P, wk * mi = P := ⟨_, rfl⟩
      rw [hP] at HWP HSS hm1
      have HH := Lib.hid hP
      clear hP
      generalize weakS s (fun t => m.getD t 0) i = S at *
      go_wp2_with fail
      refine wp_region_inv0 (by kernel_rfl) (by kernel_rfl) (fun D w' => Bs w [(w.heap.size, .cells #[.slice (some ⟨b, o, none⟩) s.things.length tc, .slice la s.lots.length lc] 25)] w') CI.out.drew ?_
      apply obl_det
      case hrun =>
        intro D y wz hW hD R hR
        have HRR := Lib.hid hR
        clear hR
        have HW := Lib.hid hW
        clear hW hD
        go_wp2_with fail
        exact HRR.out _ HW.out
      case hnp => rfl
      case hv => first | exact ⟨_, fun _ => rfl⟩ | exact ⟨undef, fun _ => rfl⟩
      apply obl_det
      case hrun =>
        intro D y wz hW hD R hR
        have HRR := Lib.hid hR
        clear hR
        have HW := Lib.hid hW
        clear hW hD
        go_wp2_with fail
        exact HRR.out _ HW.out
      case hnp => rfl
      case hv => first | exact ⟨_, fun _ => rfl⟩ | exact ⟨undef, fun _ => rfl⟩
      apply obl_det
      case hrun =>
        intro D y wz hW hD R hR
        have HRR := Lib.hid hR
        clear hR
        have HW := Lib.hid hW
        have h1 := HW.out.cell 0 rfl 0
        clear hW hD
        go_wp2_with fail
        exact HRR.out _ HW.out
      case hnp => rfl
      case hv => first | exact ⟨_, fun _ => rfl⟩ | exact ⟨undef, fun _ => rfl⟩
      apply obl_det
      case hrun =>
        intro D y wz hW hD R hR
        have HRR := Lib.hid hR
        clear hR
        have HW := Lib.hid hW
        clear hW hD
        go_wp2_with fail
        exact HRR.out _ HW.out
      case hnp => rfl
      case hv => first | exact ⟨_, fun _ => rfl⟩ | exact ⟨undef, fun _ => rfl⟩
      apply obl_det
      case hrun =>
        intro D y wz hW hD R hR
        have HRR := Lib.hid hR
        clear hR
        have HW := Lib.hid hW
        clear hW hD
        go_wp2_with fail
        exact HRR.out _ HW.out
      case hnp => rfl
      case hv => first | exact ⟨_, fun _ => rfl⟩ | exact ⟨undef, fun _ => rfl⟩
      apply obl_det
      case hrun =>
        intro D y wz hW hD R hR
        have HRR := Lib.hid hR
        clear hR
        have HW := Lib.hid hW
        clear hW hD
        go_wp2_with fail
        exact HRR.out _ HW.out
      case hnp => rfl
      case hv => first | exact ⟨_, fun _ => rfl⟩ | exact ⟨undef, fun _ => rfl⟩
      apply obl_det
      case hrun =>
        intro D y wz hW hD R hR
        have HRR := Lib.hid hR
        clear hR
        have HW := Lib.hid hW
        have h1 := (HW.out.bel.cell (p := ⟨b, o + i * 5 + 3, none⟩) HBB.out).trans HW3.out
        clear hW hD
        go_wp2_with fail
        exact HRR.out _ HW.out
      case hnp => rfl
      case hv => first | exact ⟨_, fun _ => rfl⟩ | exact ⟨undef, fun _ => rfl⟩
      apply obl_det
      case hrun =>
        intro D y wz hW hD R hR
        have HRR := Lib.hid hR
        clear hR
        have HW := Lib.hid hW
        clear hW hD
        go_wp2_with fail
        exact HRR.out _ HW.out
      case hnp => rfl
      case hv => first | exact ⟨_, fun _ => rfl⟩ | exact ⟨undef, fun _ => rfl⟩
      apply obl_det
      case hrun =>
        intro D y wz hW hD R hR
        have HRR := Lib.hid hR
        clear hR
        have HW := Lib.hid hW
        clear hW hD
        go_wp2_with fail
        exact HRR.out _ HW.out
      case hnp => rfl
      case hv => first | exact ⟨_, fun _ => rfl⟩ | exact ⟨undef, fun _ => rfl⟩
      apply obl_det
      case hrun =>
        intro D y wz hW hD R hR
        have HRR := Lib.hid hR
        clear hR
        have HW := Lib.hid hW
        clear hW hD
        go_wp2_with fail
        exact HRR.out _ HW.out
      case hnp => rfl
      case hv => first | exact ⟨_, fun _ => rfl⟩ | exact ⟨undef, fun _ => rfl⟩
      apply obl_det
      case hrun =>
        intro D y wz hW hD R hR
        have HRR := Lib.hid hR
        clear hR
        have HW := Lib.hid hW
        have h1 := (HW.out.bel.cell (p := ⟨gb, go + i, none⟩) HGB.out).trans HGC.out
        clear hW hD
        go_wp2_with fail
        exact HRR.out _ HW.out
      case hnp => rfl
      case hv => first | exact ⟨_, fun _ => rfl⟩ | exact ⟨undef, fun _ => rfl⟩
      apply obl_det
      case hrun =>
        intro D y wz hW hD R hR
        have HRR := Lib.hid hR
        clear hR
        have HW := Lib.hid hW
        clear hW hD
        go_wp2_with fail
        rw [HH.out, HWP.out]
        exact HRR.out _ HW.out
      case hnp => rfl
      case hv => first | exact ⟨_, fun _ => rfl⟩ | exact ⟨undef, fun _ => rfl⟩
      apply obl_det
      case hrun =>
        intro D y wz hW hD R hR
        have HRR := Lib.hid hR
        clear hR
        have HW := Lib.hid hW
        clear hW hD
        go_wp2_with fail
        exact HRR.out _ HW.out
      case hnp => rfl
      case hv => first | exact ⟨_, fun _ => rfl⟩ | exact ⟨undef, fun _ => rfl⟩
      apply obl_det
      case hrun =>
        intro D y wz hW hD R hR
        have HRR := Lib.hid hR
        clear hR
        have HW := Lib.hid hW
        clear hW hD
        go_wp2_with fail
        exact HRR.out _ HW.out
      case hnp => rfl
      case hv => first | exact ⟨_, fun _ => rfl⟩ | exact ⟨undef, fun _ => rfl⟩
      apply obl_nil
      intro D y w8 hall hW
      have CN := Lib.hid hW
      clear hall hW
      go_wp2_with fail
      refine ⟨⟨i + 1, by rw [← HSS.out], by push_cast; rfl, by omega, CN.out⟩, ?_⟩
      simp [intOf]; omega
    · obtain rfl : n = i := by omega
      go_wp2_with fail
      go_ret
      exact ⟨rfl, CI.out.bel⟩
end Go.Proofs.Ytaigbhhmmdfdcaa
