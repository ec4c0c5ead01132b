/- StoreOn: the walk. -/
import Derived.Test.YtddapabmfecidaaAW
import Derived.Test.YtddapabmfecidaaP3
namespace Go.Proofs.Ytddapabmfecidaa
open Go.RowKit
theorem intsIn_pre {B : Nat} {w : World} {a : Option Addr} {n c : Nat} {l : List Int} (h : IntsIn .i64 B w (.slice a n c) l) (k : Nat) (hk : k ≤ l.length) : IntsIn .i64 B w (.slice a k c) (l.take k) := intsIn_take h k hk
set_option maxRecDepth 100000 in
set_option maxHeartbeats 4000000 in
theorem on_any (s : Sea) (vs wv : Value) (way : List Int) (f : Int) (hf0 : 0 ≤ f) (hf1 : f ≤ 255) (w : World) (hv : StosIn w.heap.size w vs s.stores) (hw : IntsIn .i64 w.heap.size w wv way) (hcap : CapOk wv way.length) :
    Calls Try.prog 9 #[.agg #[.int .i64 s.bend, .int .i64 s.days, .int .i64 s.jump, .int .i64 s.times, .int .i64 s.move, vs], wv, .int .u8 f] w (fun e w' => e = .returned (.bool true) ∧ Below w.heap.size w w') := by
  have HV := Lib.hid hv
  have HWV := Lib.hid hw
  obtain ⟨a, c, rfl, hll, hlc, hvv⟩ := hv
  obtain ⟨aw, cw, rfl, hwl, hwv⟩ := hw
  have hcw : way.length ≤ cw := by obtain ⟨_, _, h, hc⟩ := hcap; simp only [Value.slice.injEq] at h; obtain ⟨-, -, rfl⟩ := h; exact hc
  clear hcap hvv
  have C0 : Hid (Below w.heap.size w (w.alloc (.cells #[.int .i64 s.bend, .int .i64 s.days, .int .i64 s.jump, .int .i64 s.times, .int .i64 s.move, .slice a s.stores.length c] 31))) := (Below.refl _ _).alloc (Nat.le_refl _) _
  have R0 : Hid ((w.alloc (.cells #[.int .i64 s.bend, .int .i64 s.days, .int .i64 s.jump, .int .i64 s.times, .int .i64 s.move, .slice a s.stores.length c] 31)).heap[w.heap.size]? = some (.cells #[.int .i64 s.bend, .int .i64 s.days, .int .i64 s.jump, .int .i64 s.times, .int .i64 s.move, .slice a s.stores.length c] 31)) := heap_alloc_new _ _
  obtain ⟨x, hx⟩ : ∃ x, riskV s way = x := ⟨_, rfl⟩
  have hxe := riskV_err s way
  rw [hx] at hxe
  obtain ⟨h, j, e⟩ := x
  have HX := Lib.hid hx
  have HXE := Lib.hid hxe
  clear hx hxe
  go_enter Try.func9, Try.ntmps9
  go_wp2_with fail
  refine (risks_any s _ _ way _ ((HV.out.below C0.out).mono C0.out.size) ((HWV.out.below C0.out).mono C0.out.size)).mono ?_
  rintro e' w1 ⟨rfl, hbw⟩
  have C1 := Lib.hid (C0.out.trans (hbw.mono C0.out.size))
  have R1 := Lib.hid (block_keep R0.out hbw)
  clear hbw C0 R0
  rw [HX.out]
  by_cases hz : e = 0
  · subst hz
    have he : openE s way = 0 := HXE.out.symm
    have hn1 : 1 ≤ way.length := (way_ok (openE_ok he).2).1
    obtain ⟨n, hn, hn0, hnl⟩ : ∃ n : Nat, (1 + f % (way.length : Int)) = n ∧ 1 ≤ n ∧ n ≤ way.length := by
      have h1 := Int.emod_nonneg f (show (way.length : Int) ≠ 0 by omega)
      have h2 := Int.emod_lt_of_pos f (show (0 : Int) < way.length by omega)
      exact ⟨(1 + f % (way.length : Int)).toNat, by omega, by omega, by omega⟩
    have HP := Lib.hid (risk_first he hn0 hnl)
    rw [HX.out] at HP
    have HN := Lib.hid hn
    have HE := Lib.hid he
    have hwz : ((way.length : Int) == 0) = false := beq_eq_false_iff_ne.2 (by omega)
    clear he hn
    have hl8 : way.length ≤ 8 := by have h1 := (way_ok (openE_ok HE.out).2).2.1; have h2 := (good_of_ok (openE_ok HE.out).1).len.2; omega
    obtain ⟨y2, hy2⟩ : ∃ y2, riskV s (way.take n) = y2 := ⟨_, rfl⟩
    rw [hy2] at HP
    obtain ⟨h2, j2, e2⟩ := y2
    obtain rfl : e2 = 0 := HP.out.1
    have HX2 := Lib.hid hy2
    have HNL := Lib.hid hnl
    have hq1 : h2 ≤ h := HP.out.2.1
    have hq2 : j2 ≤ j := HP.out.2.2.1
    have hq3 : h ≤ way.length := HP.out.2.2.2.1
    have hq4 : j < way.length := HP.out.2.2.2.2
    clear hy2
    have hncw : n ≤ cw := by omega
    have hm0 : 0 ≤ f % (way.length : Int) := Int.emod_nonneg f (by omega)
    have hm1 : f % (way.length : Int) < (way.length : Int) := Int.emod_lt_of_pos f (by omega)
    go_wp2_with fail
    have hnn : (1 + f % (way.length : Int)) = (n : Int) := HN.out
    rw [hnn]
    clear hnn hm0 hm1
    refine wp_region_inv0 (by kernel_rfl) (by kernel_rfl) (fun _ w' => w'.heap[w.heap.size]? = some (.cells #[.int .i64 s.bend, .int .i64 s.days, .int .i64 s.jump, .int .i64 s.times, .int .i64 s.move, .slice a s.stores.length c] 31) ∧ Below w.heap.size w w') ⟨R1.out, C1.out.drew⟩ ?_
    apply obl_det
    case hrun =>
      intro D y wz hW hD R hR
      have HRR := Lib.hid hR
      clear hR hD
      have HW2 := Lib.hid hW
      have cs := fun i => cell_of_row wz _ i _ _ _ hW.1
      clear hW
      go_wp2
      exact HRR.out _ HW2.out
    case hnp => rfl
    case hv => first | exact ⟨_, fun _ => rfl⟩ | exact ⟨undef, fun _ => rfl⟩
    apply obl_det
    case hrun =>
      intro D y wz hW hD R hR
      have HRR := Lib.hid hR
      clear hR hD
      have HW2 := Lib.hid hW
      clear hW
      go_wp2
      exact HRR.out _ HW2.out
    case hnp => rfl
    case hv => first | exact ⟨_, fun _ => rfl⟩ | exact ⟨undef, fun _ => rfl⟩
    apply obl_det
    case hrun =>
      intro D y wz hW hD R hR
      have HRR := Lib.hid hR
      clear hR hD
      have HW2 := Lib.hid hW
      clear hW
      go_wp2
      exact HRR.out _ HW2.out
    case hnp => rfl
    case hv => first | exact ⟨_, fun _ => rfl⟩ | exact ⟨undef, fun _ => rfl⟩
    apply obl_det
    case hrun =>
      intro D y wz hW hD R hR
      have HRR := Lib.hid hR
      clear hR hD
      have HW2 := Lib.hid hW
      clear hW
      go_wp2
      exact HRR.out _ HW2.out
    case hnp => rfl
    case hv => first | exact ⟨_, fun _ => rfl⟩ | exact ⟨undef, fun _ => rfl⟩
    apply obl_det
    case hrun =>
      intro D y wz hW hD R hR
      have HRR := Lib.hid hR
      have HW2 := Lib.hid hW
      clear hR hD hW
      have hc := risks_any s (.slice a s.stores.length c) (.slice aw n cw) (way.take n) wz ((HV.out.below HW2.out.2).mono HW2.out.2.size) ((intsIn_take (HWV.out.below HW2.out.2) n HNL.out).mono HW2.out.2.size)
      rw [HX2.out] at hc
      go_wp2_with fail
      refine hc.mono ?_
      rintro e w' ⟨rfl, hbw⟩
      go_wp2_with fail
      exact HRR.out _ ⟨block_keep HW2.out.1 hbw, HW2.out.2.trans (hbw.mono HW2.out.2.size)⟩
    case hnp => rfl
    case hv => first | exact ⟨_, fun _ => rfl⟩ | exact ⟨undef, fun _ => rfl⟩
    apply obl_det
    case hrun =>
      intro D y wz hW hD R hR
      have HRR := Lib.hid hR
      clear hR hD
      have HW2 := Lib.hid hW
      clear hW
      go_wp2
      exact HRR.out _ HW2.out
    case hnp => rfl
    case hv => first | exact ⟨_, fun _ => rfl⟩ | exact ⟨undef, fun _ => rfl⟩
    apply obl_det
    case hrun =>
      intro D y wz hW hD R hR
      have HRR := Lib.hid hR
      clear hR hD
      have HW2 := Lib.hid hW
      clear hW
      go_wp2
      exact HRR.out _ HW2.out
    case hnp => rfl
    case hv => first | exact ⟨_, fun _ => rfl⟩ | exact ⟨undef, fun _ => rfl⟩
    apply obl_det
    case hrun =>
      intro D y wz hW hD R hR
      have HRR := Lib.hid hR
      clear hR hD
      have HW2 := Lib.hid hW
      clear hW
      go_wp2
      exact HRR.out _ HW2.out
    case hnp => rfl
    case hv => first | exact ⟨_, fun _ => rfl⟩ | exact ⟨undef, fun _ => rfl⟩
    apply obl_det
    case hrun =>
      intro D y wz hW hD R hR
      have HRR := Lib.hid hR
      clear hR hD
      have HW2 := Lib.hid hW
      clear hW
      go_wp2
      exact HRR.out _ HW2.out
    case hnp => rfl
    case hv => first | exact ⟨_, fun _ => rfl⟩ | exact ⟨undef, fun _ => rfl⟩
    apply obl_det
    case hrun =>
      intro D y wz hW hD R hR
      have HRR := Lib.hid hR
      clear hR hD
      have HW2 := Lib.hid hW
      clear hW
      go_wp2
      exact HRR.out _ HW2.out
    case hnp => rfl
    case hv => first | exact ⟨_, fun _ => rfl⟩ | exact ⟨undef, fun _ => rfl⟩
    apply obl_det
    case hrun =>
      intro D y wz hW hD R hR
      have HRR := Lib.hid hR
      clear hR hD
      have HW2 := Lib.hid hW
      clear hW
      go_wp2
      exact HRR.out _ HW2.out
    case hnp => rfl
    case hv => first | exact ⟨_, fun _ => rfl⟩ | exact ⟨undef, fun _ => rfl⟩
    apply obl_det
    case hrun =>
      intro D y wz hW hD R hR
      have HRR := Lib.hid hR
      clear hR hD
      have HW2 := Lib.hid hW
      clear hW
      go_wp2
      exact HRR.out _ HW2.out
    case hnp => rfl
    case hv => first | exact ⟨_, fun _ => rfl⟩ | exact ⟨undef, fun _ => rfl⟩
    apply obl_nil
    intro D y w8 hall hW
    have C8 := Lib.hid hW.2
    clear hW hall
    simp only [Exit.then]
    go_wp2_with fail
    refine (awake_any _).mono ?_
    rintro e' w9 ⟨rfl, hbw⟩
    have C9 := Lib.hid (C8.out.trans (hbw.mono C8.out.size))
    clear hbw
    go_wp2_with fail
    go_ret
    exact ⟨rfl, C9.out⟩
  · have hzz : (e != 0) = true := by simpa using hz
    clear hz
    go_wp2_with fail
    refine (awake_any _).mono ?_
    rintro e' w2 ⟨rfl, hbw⟩
    have C2 := Lib.hid (C1.out.trans (hbw.mono C1.out.size))
    clear hbw
    go_wp2_with fail
    go_ret
    exact ⟨rfl, C2.out⟩
end Go.Proofs.Ytddapabmfecidaa
