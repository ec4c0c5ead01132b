/- stearinref07.Truth. -/
import Derived.Test.YtaigbhhmmdfdcaaYa
namespace Go.Proofs.Ytaigbhhmmdfdcaa
open Go.RowKit
set_option maxRecDepth 100000 in
set_option maxHeartbeats 16000000 in
theorem truth_ref (s : Shop) (l : List Bat) (k : Nat) (x : Tru) (vt vl v tl tb ta' : Value) (w : World) (hg : AllGood s l) (hk : k < l.length) (hv : ShopAt w.heap.size w vt vl s) (hl' : BatsIn w.heap.size w v l) (hx : TruAt w.heap.size w tl tb ta' x) :
    Calls Try.prog 72 #[.agg #[vt, vl], v, .int .i64 k, .agg #[tl, tb, ta']] w fun e w' => e = .returned (.int .i64 (truthE s l k x)) ∧ Below w.heap.size w w' := by
  have HS := Lib.hid hv
  have HL := Lib.hid hl'
  have HX := Lib.hid hx
  have HG := Lib.hid hg
  have hn6 := hg.n6
  have hnt1 := hg.sh.nt1
  have hnt5 := hg.sh.nt5
  have hnl6 := hg.sh.nl6
  have HBO := Lib.hid (bat_ok0 (batchE_zero (hg.pre k hk)).1)
  obtain ⟨ta, tc, rfl, -, -⟩ := sl_shape hv.1
  obtain ⟨la, lc, rfl, -, -⟩ := sl_shape hv.2
  obtain ⟨a, c, rfl, -, -⟩ := sl_shape hl'
  obtain ⟨xl, c1, rfl, -, -⟩ := sl_shape hx.1
  obtain ⟨xb, c2, rfl, -, -⟩ := sl_shape hx.2.1
  obtain ⟨xa, c3, rfl⟩ := hx.2.2.shape rfl
  clear hv hl' hx hg
  have HE : Hid (truthE s l k x = if (listsB x.lots s.lots.length s.things.length && listsB x.back (l.getD k default).back.length s.things.length && decide (x.added.length = s.things.length)) = false then 3 else if (List.range s.things.length).all (truthIn s l (rangesV s l) (l.getD k default) x) then 0 else 7) := by
    unfold Hid truthE
    rw [lensB_eq]
  generalize truthE s l k x = TE at *
  obtain ⟨m1, hm1⟩ : ∃ m, x.lots.length = m := ⟨_, rfl⟩
  obtain ⟨m2, hm2⟩ : ∃ m, x.back.length = m := ⟨_, rfl⟩
  obtain ⟨n3, hn3⟩ : ∃ m, x.added.length = m := ⟨_, rfl⟩
  obtain ⟨nb, hnb⟩ : ∃ m, (l.getD k default).back.length = m := ⟨_, rfl⟩
  rw [hm1, hm2, hn3] at HX ⊢
  rw [hn3, hnb] at HE
  obtain ⟨r1, hr1⟩ : ∃ r, listsB x.lots s.lots.length s.things.length = r := ⟨_, rfl⟩
  obtain ⟨r2, hr2⟩ : ∃ r, listsB x.back nb s.things.length = r := ⟨_, rfl⟩
  rw [hr1, hr2] at HE
  have HR1 := Lib.hid hr1
  have HR2 := Lib.hid hr2
  have HM1 := Lib.hid hm1
  have HM2 := Lib.hid hm2
  have HN3 := Lib.hid hn3
  clear hr1 hr2 hm1 hm2 hn3
  obtain ⟨b, o, ab, cb, rfl, hbb, hbk, hbi⟩ := back_at HL.out hk hnb
  have HBK := Lib.hid hbk
  have HBB := Lib.hid hbb
  clear hbk hbb hbi
  have hki : (k : Int) < (l.length : Int) := by omega
  have C0 : Hid (Bs w [(w.heap.size, .cells #[.slice ta s.things.length tc, .slice la s.lots.length lc] 25), (w.heap.size + 1, .cells #[.slice xl m1 c1, .slice xb m2 c2, .slice xa n3 c3] 44)] _) := ((Bs.nil w).push _ rfl (.cells #[.slice ta s.things.length tc, .slice la s.lots.length lc] 25)).push (w.heap.size + 1) (by simp) (.cells #[.slice xl m1 c1, .slice xb m2 c2, .slice xa n3 c3] 44)
  have hc0 := C0.out.cell 0 rfl 0
  have HL1 := fun wz h => Lib.hid (lists_ref r1 x.lots s.lots.length s.things.length (.slice xl m1 c1) wz h HR1.out)
  have HL2 := fun wz h => Lib.hid (lists_ref r2 x.back nb s.things.length (.slice xb m2 c2) wz h HR2.out)
  go_enter Try.func72, Try.ntmps72
  go_wp2_with fail
  clear hc0
  obtain ⟨W0, hW0⟩ : ∃ W, (w.alloc (.cells #[.slice ta s.things.length tc, .slice la s.lots.length lc] 25)).alloc (.cells #[.slice xl m1 c1, .slice xb m2 c2, .slice xa n3 c3] 44) = W := ⟨_, rfl⟩
  rw [hW0] at C0 ⊢
  clear hW0
  cases r1
  case false =>
    have HE3 : Hid (TE = 3) := by unfold Hid; rw [HE.out]; simp
    clear HE
    refine wp_region_inv0 (by kernel_rfl) (by kernel_rfl) (fun D w' => Below W0.heap.size W0 w') (Below.refl _ _).drew ?_
    apply obl_det
    case hrun =>
      intro D y wz hW hD R hR
      have HRR := Lib.hid hR
      clear hR
      have HW := Lib.hid hW
      clear hW hD
      go_wp2_with fail
      exact HRR.out _ HW.out
    case hnp => rfl
    case hv => first | exact ⟨_, fun _ => rfl⟩ | exact ⟨undef, fun _ => rfl⟩
    apply obl_det
    case hrun =>
      intro D y wz hW hD R hR
      have HRR := Lib.hid hR
      clear hR
      have HW := Lib.hid hW
      have h1 := (C0.out.call HW.out).cell 1 rfl 0
      clear hW hD
      go_wp2_with fail
      exact HRR.out _ HW.out
    case hnp => rfl
    case hv => first | exact ⟨_, fun _ => rfl⟩ | exact ⟨undef, fun _ => rfl⟩
    apply obl_det
    case hrun =>
      intro D y wz hW hD R hR
      have HRR := Lib.hid hR
      clear hR
      have HW := Lib.hid hW
      clear hW hD
      go_wp2_with fail
      exact HRR.out _ HW.out
    case hnp => rfl
    case hv => first | exact ⟨_, fun _ => rfl⟩ | exact ⟨undef, fun _ => rfl⟩
    apply obl_det
    case hrun =>
      intro D y wz hW hD R hR
      have HRR := Lib.hid hR
      clear hR
      have HW := Lib.hid hW
      have h1 := (C0.out.call HW.out).cell 0 rfl 1
      clear hW hD
      go_wp2_with fail
      exact HRR.out _ HW.out
    case hnp => rfl
    case hv => first | exact ⟨_, fun _ => rfl⟩ | exact ⟨undef, fun _ => rfl⟩
    apply obl_det
    case hrun =>
      intro D y wz hW hD R hR
      have HRR := Lib.hid hR
      clear hR
      have HW := Lib.hid hW
      clear hW hD
      go_wp2_with fail
      exact HRR.out _ HW.out
    case hnp => rfl
    case hv => first | exact ⟨_, fun _ => rfl⟩ | exact ⟨undef, fun _ => rfl⟩
    apply obl_det
    case hrun =>
      intro D y wz hW hD R hR
      have HRR := Lib.hid hR
      clear hR
      have HW := Lib.hid hW
      clear hW hD
      go_wp2_with fail
      exact HRR.out _ HW.out
    case hnp => rfl
    case hv => first | exact ⟨_, fun _ => rfl⟩ | exact ⟨undef, fun _ => rfl⟩
    apply obl_det
    case hrun =>
      intro D y wz hW hD R hR
      have HRR := Lib.hid hR
      clear hR
      have HW := Lib.hid hW
      have HZ := Lib.hid (C0.out.bel.trans (HW.out.mono C0.out.bel.size))
      clear hW hD
      go_wp2_with fail
      refine (HL1 _ ((HX.out.1.below HZ.out).mono HZ.out.size)).out.mono ?_
      rintro e w' ⟨rfl, rfl⟩
      go_wp2_with fail
      exact HRR.out _ HW.out
    case hnp => rfl
    case hv => first | exact ⟨_, fun _ => rfl⟩ | exact ⟨undef, fun _ => rfl⟩
    apply obl_det
    case hrun =>
      intro D y wz hW hD R hR
      have HRR := Lib.hid hR
      clear hR
      have HW := Lib.hid hW
      clear hW hD
      go_wp2_with fail
      exact HRR.out _ HW.out
    case hnp => rfl
    case hv => first | exact ⟨_, fun _ => rfl⟩ | exact ⟨undef, fun _ => rfl⟩
    apply obl_det
    case hrun =>
      intro D y wz hW hD R hR
      have HRR := Lib.hid hR
      clear hR
      have HW := Lib.hid hW
      clear hW hD
      go_wp2_with fail
      exact HRR.out _ HW.out
    case hnp => rfl
    case hv => first | exact ⟨_, fun _ => rfl⟩ | exact ⟨undef, fun _ => rfl⟩
    apply obl_det
    case hrun =>
      intro D y wz hW hD R hR
      have HRR := Lib.hid hR
      clear hR
      have HW := Lib.hid hW
      clear hW hD
      go_wp2_with fail
      exact HRR.out _ HW.out
    case hnp => rfl
    case hv => first | exact ⟨_, fun _ => rfl⟩ | exact ⟨undef, fun _ => rfl⟩
    apply obl_det
    case hrun =>
      intro D y wz hW hD R hR
      have HRR := Lib.hid hR
      clear hR
      have HW := Lib.hid hW
      have h1 := (C0.out.call HW.out).cell 1 rfl 1
      clear hW hD
      go_wp2_with fail
      exact HRR.out _ HW.out
    case hnp => rfl
    case hv => first | exact ⟨_, fun _ => rfl⟩ | exact ⟨undef, fun _ => rfl⟩
    apply obl_det
    case hrun =>
      intro D y wz hW hD R hR
      have HRR := Lib.hid hR
      clear hR
      have HW := Lib.hid hW
      clear hW hD
      go_wp2_with fail
      exact HRR.out _ HW.out
    case hnp => rfl
    case hv => first | exact ⟨_, fun _ => rfl⟩ | exact ⟨undef, fun _ => rfl⟩
    apply obl_det
    case hrun =>
      intro D y wz hW hD R hR
      have HRR := Lib.hid hR
      clear hR
      have HW := Lib.hid hW
      clear hW hD
      go_wp2_with fail
      exact HRR.out _ HW.out
    case hnp => rfl
    case hv => first | exact ⟨_, fun _ => rfl⟩ | exact ⟨undef, fun _ => rfl⟩
    apply obl_det
    case hrun =>
      intro D y wz hW hD R hR
      have HRR := Lib.hid hR
      clear hR
      have HW := Lib.hid hW
      clear hW hD
      go_wp2_with fail
      exact HRR.out _ HW.out
    case hnp => rfl
    case hv => first | exact ⟨_, fun _ => rfl⟩ | exact ⟨undef, fun _ => rfl⟩
    apply obl_det
    case hrun =>
      intro D y wz hW hD R hR
      have HRR := Lib.hid hR
      clear hR
      have HW := Lib.hid hW
      clear hW hD
      go_wp2_with fail
      exact HRR.out _ HW.out
    case hnp => rfl
    case hv => first | exact ⟨_, fun _ => rfl⟩ | exact ⟨undef, fun _ => rfl⟩
    apply obl_det
    case hrun =>
      intro D y wz hW hD R hR
      have HRR := Lib.hid hR
      clear hR
      have HW := Lib.hid hW
      have HZ := Lib.hid (C0.out.bel.trans (HW.out.mono C0.out.bel.size))
      have h1 := (HZ.out.cell (p := ⟨b, o + k * 3 + 1, none⟩) HBB.out).trans HBK.out
      clear hW hD
      go_wp2_with fail
      exact HRR.out _ HW.out
    case hnp => rfl
    case hv => first | exact ⟨_, fun _ => rfl⟩ | exact ⟨undef, fun _ => rfl⟩
    apply obl_det
    case hrun =>
      intro D y wz hW hD R hR
      have HRR := Lib.hid hR
      clear hR
      have HW := Lib.hid hW
      clear hW hD
      go_wp2_with fail
      exact HRR.out _ HW.out
    case hnp => rfl
    case hv => first | exact ⟨_, fun _ => rfl⟩ | exact ⟨undef, fun _ => rfl⟩
    apply obl_det
    case hrun =>
      intro D y wz hW hD R hR
      have HRR := Lib.hid hR
      clear hR
      have HW := Lib.hid hW
      clear hW hD
      go_wp2_with fail
      exact HRR.out _ HW.out
    case hnp => rfl
    case hv => first | exact ⟨_, fun _ => rfl⟩ | exact ⟨undef, fun _ => rfl⟩
    apply obl_det
    case hrun =>
      intro D y wz hW hD R hR
      have HRR := Lib.hid hR
      clear hR
      have HW := Lib.hid hW
      have HZ := Lib.hid (C0.out.bel.trans (HW.out.mono C0.out.bel.size))
      clear hW hD
      go_wp2_with fail
      exact HRR.out _ HW.out
    case hnp => rfl
    case hv => first | exact ⟨_, fun _ => rfl⟩ | exact ⟨undef, fun _ => rfl⟩
    apply obl_det
    case hrun =>
      intro D y wz hW hD R hR
      have HRR := Lib.hid hR
      clear hR
      have HW := Lib.hid hW
      clear hW hD
      go_wp2_with fail
      exact HRR.out _ HW.out
    case hnp => rfl
    case hv => first | exact ⟨_, fun _ => rfl⟩ | exact ⟨undef, fun _ => rfl⟩
    apply obl_det
    case hrun =>
      intro D y wz hW hD R hR
      have HRR := Lib.hid hR
      clear hR
      have HW := Lib.hid hW
      clear hW hD
      go_wp2_with fail
      exact HRR.out _ HW.out
    case hnp => rfl
    case hv => first | exact ⟨_, fun _ => rfl⟩ | exact ⟨undef, fun _ => rfl⟩
    apply obl_det
    case hrun =>
      intro D y wz hW hD R hR
      have HRR := Lib.hid hR
      clear hR
      have HW := Lib.hid hW
      clear hW hD
      go_wp2_with fail
      exact HRR.out _ HW.out
    case hnp => rfl
    case hv => first | exact ⟨_, fun _ => rfl⟩ | exact ⟨undef, fun _ => rfl⟩
    apply obl_det
    case hrun =>
      intro D y wz hW hD R hR
      have HRR := Lib.hid hR
      clear hR
      have HW := Lib.hid hW
      clear hW hD
      go_wp2_with fail
      exact HRR.out _ HW.out
    case hnp => rfl
    case hv => first | exact ⟨_, fun _ => rfl⟩ | exact ⟨undef, fun _ => rfl⟩
    apply obl_det
    case hrun =>
      intro D y wz hW hD R hR
      have HRR := Lib.hid hR
      clear hR
      have HW := Lib.hid hW
      have h1 := (C0.out.call HW.out).cell 1 rfl 2
      clear hW hD
      go_wp2_with fail
      exact HRR.out _ HW.out
    case hnp => rfl
    case hv => first | exact ⟨_, fun _ => rfl⟩ | exact ⟨undef, fun _ => rfl⟩
    apply obl_det
    case hrun =>
      intro D y wz hW hD R hR
      have HRR := Lib.hid hR
      clear hR
      have HW := Lib.hid hW
      clear hW hD
      go_wp2_with fail
      exact HRR.out _ HW.out
    case hnp => rfl
    case hv => first | exact ⟨_, fun _ => rfl⟩ | exact ⟨undef, fun _ => rfl⟩
    apply obl_det
    case hrun =>
      intro D y wz hW hD R hR
      have HRR := Lib.hid hR
      clear hR
      have HW := Lib.hid hW
      clear hW hD
      go_wp2_with fail
      exact HRR.out _ HW.out
    case hnp => rfl
    case hv => first | exact ⟨_, fun _ => rfl⟩ | exact ⟨undef, fun _ => rfl⟩
    apply obl_det
    case hrun =>
      intro D y wz hW hD R hR
      have HRR := Lib.hid hR
      clear hR
      have HW := Lib.hid hW
      clear hW hD
      go_wp2_with fail
      exact HRR.out _ HW.out
    case hnp => rfl
    case hv => first | exact ⟨_, fun _ => rfl⟩ | exact ⟨undef, fun _ => rfl⟩
    apply obl_det
    case hrun =>
      intro D y wz hW hD R hR
      have HRR := Lib.hid hR
      clear hR
      have HW := Lib.hid hW
      clear hW hD
      go_wp2_with fail
      exact HRR.out _ HW.out
    case hnp => rfl
    case hv => first | exact ⟨_, fun _ => rfl⟩ | exact ⟨undef, fun _ => rfl⟩
    apply obl_nil
    intro D y w8 hall hW
    have HB8 := Lib.hid (C0.out.bel.trans (hW.mono C0.out.bel.size))
    clear hall hW
    go_wp2_with fail
    go_ret
    rw [HE3.out]
    exact ⟨rfl, HB8.out⟩
  cases r2
  case false =>
    have HE3 : Hid (TE = 3) := by unfold Hid; rw [HE.out]; simp
    clear HE
    refine wp_region_inv0 (by kernel_rfl) (by kernel_rfl) (fun D w' => Below W0.heap.size W0 w') (Below.refl _ _).drew ?_
    apply obl_det
    case hrun =>
      intro D y wz hW hD R hR
      have HRR := Lib.hid hR
      clear hR
      have HW := Lib.hid hW
      clear hW hD
      go_wp2_with fail
      exact HRR.out _ HW.out
    case hnp => rfl
    case hv => first | exact ⟨_, fun _ => rfl⟩ | exact ⟨undef, fun _ => rfl⟩
    apply obl_det
    case hrun =>
      intro D y wz hW hD R hR
      have HRR := Lib.hid hR
      clear hR
      have HW := Lib.hid hW
      have h1 := (C0.out.call HW.out).cell 1 rfl 0
      clear hW hD
      go_wp2_with fail
      exact HRR.out _ HW.out
    case hnp => rfl
    case hv => first | exact ⟨_, fun _ => rfl⟩ | exact ⟨undef, fun _ => rfl⟩
    apply obl_det
    case hrun =>
      intro D y wz hW hD R hR
      have HRR := Lib.hid hR
      clear hR
      have HW := Lib.hid hW
      clear hW hD
      go_wp2_with fail
      exact HRR.out _ HW.out
    case hnp => rfl
    case hv => first | exact ⟨_, fun _ => rfl⟩ | exact ⟨undef, fun _ => rfl⟩
    apply obl_det
    case hrun =>
      intro D y wz hW hD R hR
      have HRR := Lib.hid hR
      clear hR
      have HW := Lib.hid hW
      have h1 := (C0.out.call HW.out).cell 0 rfl 1
      clear hW hD
      go_wp2_with fail
      exact HRR.out _ HW.out
    case hnp => rfl
    case hv => first | exact ⟨_, fun _ => rfl⟩ | exact ⟨undef, fun _ => rfl⟩
    apply obl_det
    case hrun =>
      intro D y wz hW hD R hR
      have HRR := Lib.hid hR
      clear hR
      have HW := Lib.hid hW
      clear hW hD
      go_wp2_with fail
      exact HRR.out _ HW.out
    case hnp => rfl
    case hv => first | exact ⟨_, fun _ => rfl⟩ | exact ⟨undef, fun _ => rfl⟩
    apply obl_det
    case hrun =>
      intro D y wz hW hD R hR
      have HRR := Lib.hid hR
      clear hR
      have HW := Lib.hid hW
      clear hW hD
      go_wp2_with fail
      exact HRR.out _ HW.out
    case hnp => rfl
    case hv => first | exact ⟨_, fun _ => rfl⟩ | exact ⟨undef, fun _ => rfl⟩
    apply obl_det
    case hrun =>
      intro D y wz hW hD R hR
      have HRR := Lib.hid hR
      clear hR
      have HW := Lib.hid hW
      have HZ := Lib.hid (C0.out.bel.trans (HW.out.mono C0.out.bel.size))
      clear hW hD
      go_wp2_with fail
      refine (HL1 _ ((HX.out.1.below HZ.out).mono HZ.out.size)).out.mono ?_
      rintro e w' ⟨rfl, rfl⟩
      go_wp2_with fail
      exact HRR.out _ HW.out
    case hnp => rfl
    case hv => first | exact ⟨_, fun _ => rfl⟩ | exact ⟨undef, fun _ => rfl⟩
    apply obl_det
    case hrun =>
      intro D y wz hW hD R hR
      have HRR := Lib.hid hR
      clear hR
      have HW := Lib.hid hW
      clear hW hD
      go_wp2_with fail
      exact HRR.out _ HW.out
    case hnp => rfl
    case hv => first | exact ⟨_, fun _ => rfl⟩ | exact ⟨undef, fun _ => rfl⟩
    apply obl_det
    case hrun =>
      intro D y wz hW hD R hR
      have HRR := Lib.hid hR
      clear hR
      have HW := Lib.hid hW
      clear hW hD
      go_wp2_with fail
      exact HRR.out _ HW.out
    case hnp => rfl
    case hv => first | exact ⟨_, fun _ => rfl⟩ | exact ⟨undef, fun _ => rfl⟩
    apply obl_det
    case hrun =>
      intro D y wz hW hD R hR
      have HRR := Lib.hid hR
      clear hR
      have HW := Lib.hid hW
      clear hW hD
      go_wp2_with fail
      exact HRR.out _ HW.out
    case hnp => rfl
    case hv => first | exact ⟨_, fun _ => rfl⟩ | exact ⟨undef, fun _ => rfl⟩
    apply obl_det
    case hrun =>
      intro D y wz hW hD R hR
      have HRR := Lib.hid hR
      clear hR
      have HW := Lib.hid hW
      have h1 := (C0.out.call HW.out).cell 1 rfl 1
      clear hW hD
      go_wp2_with fail
      exact HRR.out _ HW.out
    case hnp => rfl
    case hv => first | exact ⟨_, fun _ => rfl⟩ | exact ⟨undef, fun _ => rfl⟩
    apply obl_det
    case hrun =>
      intro D y wz hW hD R hR
      have HRR := Lib.hid hR
      clear hR
      have HW := Lib.hid hW
      clear hW hD
      go_wp2_with fail
      exact HRR.out _ HW.out
    case hnp => rfl
    case hv => first | exact ⟨_, fun _ => rfl⟩ | exact ⟨undef, fun _ => rfl⟩
    apply obl_det
    case hrun =>
      intro D y wz hW hD R hR
      have HRR := Lib.hid hR
      clear hR
      have HW := Lib.hid hW
      clear hW hD
      go_wp2_with fail
      exact HRR.out _ HW.out
    case hnp => rfl
    case hv => first | exact ⟨_, fun _ => rfl⟩ | exact ⟨undef, fun _ => rfl⟩
    apply obl_det
    case hrun =>
      intro D y wz hW hD R hR
      have HRR := Lib.hid hR
      clear hR
      have HW := Lib.hid hW
      clear hW hD
      go_wp2_with fail
      exact HRR.out _ HW.out
    case hnp => rfl
    case hv => first | exact ⟨_, fun _ => rfl⟩ | exact ⟨undef, fun _ => rfl⟩
    apply obl_det
    case hrun =>
      intro D y wz hW hD R hR
      have HRR := Lib.hid hR
      clear hR
      have HW := Lib.hid hW
      clear hW hD
      go_wp2_with fail
      exact HRR.out _ HW.out
    case hnp => rfl
    case hv => first | exact ⟨_, fun _ => rfl⟩ | exact ⟨undef, fun _ => rfl⟩
    apply obl_det
    case hrun =>
      intro D y wz hW hD R hR
      have HRR := Lib.hid hR
      clear hR
      have HW := Lib.hid hW
      have HZ := Lib.hid (C0.out.bel.trans (HW.out.mono C0.out.bel.size))
      have h1 := (HZ.out.cell (p := ⟨b, o + k * 3 + 1, none⟩) HBB.out).trans HBK.out
      clear hW hD
      go_wp2_with fail
      exact HRR.out _ HW.out
    case hnp => rfl
    case hv => first | exact ⟨_, fun _ => rfl⟩ | exact ⟨undef, fun _ => rfl⟩
    apply obl_det
    case hrun =>
      intro D y wz hW hD R hR
      have HRR := Lib.hid hR
      clear hR
      have HW := Lib.hid hW
      clear hW hD
      go_wp2_with fail
      exact HRR.out _ HW.out
    case hnp => rfl
    case hv => first | exact ⟨_, fun _ => rfl⟩ | exact ⟨undef, fun _ => rfl⟩
    apply obl_det
    case hrun =>
      intro D y wz hW hD R hR
      have HRR := Lib.hid hR
      clear hR
      have HW := Lib.hid hW
      clear hW hD
      go_wp2_with fail
      exact HRR.out _ HW.out
    case hnp => rfl
    case hv => first | exact ⟨_, fun _ => rfl⟩ | exact ⟨undef, fun _ => rfl⟩
    apply obl_det
    case hrun =>
      intro D y wz hW hD R hR
      have HRR := Lib.hid hR
      clear hR
      have HW := Lib.hid hW
      have HZ := Lib.hid (C0.out.bel.trans (HW.out.mono C0.out.bel.size))
      clear hW hD
      go_wp2_with fail
      refine (HL2 _ ((HX.out.2.1.below HZ.out).mono HZ.out.size)).out.mono ?_
      rintro e w' ⟨rfl, rfl⟩
      go_wp2_with fail
      exact HRR.out _ HW.out
    case hnp => rfl
    case hv => first | exact ⟨_, fun _ => rfl⟩ | exact ⟨undef, fun _ => rfl⟩
    apply obl_det
    case hrun =>
      intro D y wz hW hD R hR
      have HRR := Lib.hid hR
      clear hR
      have HW := Lib.hid hW
      clear hW hD
      go_wp2_with fail
      exact HRR.out _ HW.out
    case hnp => rfl
    case hv => first | exact ⟨_, fun _ => rfl⟩ | exact ⟨undef, fun _ => rfl⟩
    apply obl_det
    case hrun =>
      intro D y wz hW hD R hR
      have HRR := Lib.hid hR
      clear hR
      have HW := Lib.hid hW
      clear hW hD
      go_wp2_with fail
      exact HRR.out _ HW.out
    case hnp => rfl
    case hv => first | exact ⟨_, fun _ => rfl⟩ | exact ⟨undef, fun _ => rfl⟩
    apply obl_det
    case hrun =>
      intro D y wz hW hD R hR
      have HRR := Lib.hid hR
      clear hR
      have HW := Lib.hid hW
      clear hW hD
      go_wp2_with fail
      exact HRR.out _ HW.out
    case hnp => rfl
    case hv => first | exact ⟨_, fun _ => rfl⟩ | exact ⟨undef, fun _ => rfl⟩
    apply obl_det
    case hrun =>
      intro D y wz hW hD R hR
      have HRR := Lib.hid hR
      clear hR
      have HW := Lib.hid hW
      clear hW hD
      go_wp2_with fail
      exact HRR.out _ HW.out
    case hnp => rfl
    case hv => first | exact ⟨_, fun _ => rfl⟩ | exact ⟨undef, fun _ => rfl⟩
    apply obl_det
    case hrun =>
      intro D y wz hW hD R hR
      have HRR := Lib.hid hR
      clear hR
      have HW := Lib.hid hW
      have h1 := (C0.out.call HW.out).cell 1 rfl 2
      clear hW hD
      go_wp2_with fail
      exact HRR.out _ HW.out
    case hnp => rfl
    case hv => first | exact ⟨_, fun _ => rfl⟩ | exact ⟨undef, fun _ => rfl⟩
    apply obl_det
    case hrun =>
      intro D y wz hW hD R hR
      have HRR := Lib.hid hR
      clear hR
      have HW := Lib.hid hW
      clear hW hD
      go_wp2_with fail
      exact HRR.out _ HW.out
    case hnp => rfl
    case hv => first | exact ⟨_, fun _ => rfl⟩ | exact ⟨undef, fun _ => rfl⟩
    apply obl_det
    case hrun =>
      intro D y wz hW hD R hR
      have HRR := Lib.hid hR
      clear hR
      have HW := Lib.hid hW
      clear hW hD
      go_wp2_with fail
      exact HRR.out _ HW.out
    case hnp => rfl
    case hv => first | exact ⟨_, fun _ => rfl⟩ | exact ⟨undef, fun _ => rfl⟩
    apply obl_det
    case hrun =>
      intro D y wz hW hD R hR
      have HRR := Lib.hid hR
      clear hR
      have HW := Lib.hid hW
      clear hW hD
      go_wp2_with fail
      exact HRR.out _ HW.out
    case hnp => rfl
    case hv => first | exact ⟨_, fun _ => rfl⟩ | exact ⟨undef, fun _ => rfl⟩
    apply obl_det
    case hrun =>
      intro D y wz hW hD R hR
      have HRR := Lib.hid hR
      clear hR
      have HW := Lib.hid hW
      clear hW hD
      go_wp2_with fail
      exact HRR.out _ HW.out
    case hnp => rfl
    case hv => first | exact ⟨_, fun _ => rfl⟩ | exact ⟨undef, fun _ => rfl⟩
    apply obl_nil
    intro D y w8 hall hW
    have HB8 := Lib.hid (C0.out.bel.trans (hW.mono C0.out.bel.size))
    clear hall hW
    go_wp2_with fail
    go_ret
    rw [HE3.out]
    exact ⟨rfl, HB8.out⟩
  by_cases h3 : n3 = s.things.length
  case neg =>
    have hq : ((n3 : Int) != (s.things.length : Int)) = true := by rw [bne_iff_ne]; omega
    have HE3 : Hid (TE = 3) := by unfold Hid; rw [HE.out]; simp; exact fun h => absurd h h3
    clear HE
    refine wp_region_inv0 (by kernel_rfl) (by kernel_rfl) (fun D w' => Below W0.heap.size W0 w') (Below.refl _ _).drew ?_
    apply obl_det
    case hrun =>
      intro D y wz hW hD R hR
      have HRR := Lib.hid hR
      clear hR
      have HW := Lib.hid hW
      clear hW hD
      go_wp2_with fail
      exact HRR.out _ HW.out
    case hnp => rfl
    case hv => first | exact ⟨_, fun _ => rfl⟩ | exact ⟨undef, fun _ => rfl⟩
    apply obl_det
    case hrun =>
      intro D y wz hW hD R hR
      have HRR := Lib.hid hR
      clear hR
      have HW := Lib.hid hW
      have h1 := (C0.out.call HW.out).cell 1 rfl 0
      clear hW hD
      go_wp2_with fail
      exact HRR.out _ HW.out
    case hnp => rfl
    case hv => first | exact ⟨_, fun _ => rfl⟩ | exact ⟨undef, fun _ => rfl⟩
    apply obl_det
    case hrun =>
      intro D y wz hW hD R hR
      have HRR := Lib.hid hR
      clear hR
      have HW := Lib.hid hW
      clear hW hD
      go_wp2_with fail
      exact HRR.out _ HW.out
    case hnp => rfl
    case hv => first | exact ⟨_, fun _ => rfl⟩ | exact ⟨undef, fun _ => rfl⟩
    apply obl_det
    case hrun =>
      intro D y wz hW hD R hR
      have HRR := Lib.hid hR
      clear hR
      have HW := Lib.hid hW
      have h1 := (C0.out.call HW.out).cell 0 rfl 1
      clear hW hD
      go_wp2_with fail
      exact HRR.out _ HW.out
    case hnp => rfl
    case hv => first | exact ⟨_, fun _ => rfl⟩ | exact ⟨undef, fun _ => rfl⟩
    apply obl_det
    case hrun =>
      intro D y wz hW hD R hR
      have HRR := Lib.hid hR
      clear hR
      have HW := Lib.hid hW
      clear hW hD
      go_wp2_with fail
      exact HRR.out _ HW.out
    case hnp => rfl
    case hv => first | exact ⟨_, fun _ => rfl⟩ | exact ⟨undef, fun _ => rfl⟩
    apply obl_det
    case hrun =>
      intro D y wz hW hD R hR
      have HRR := Lib.hid hR
      clear hR
      have HW := Lib.hid hW
      clear hW hD
      go_wp2_with fail
      exact HRR.out _ HW.out
    case hnp => rfl
    case hv => first | exact ⟨_, fun _ => rfl⟩ | exact ⟨undef, fun _ => rfl⟩
    apply obl_det
    case hrun =>
      intro D y wz hW hD R hR
      have HRR := Lib.hid hR
      clear hR
      have HW := Lib.hid hW
      have HZ := Lib.hid (C0.out.bel.trans (HW.out.mono C0.out.bel.size))
      clear hW hD
      go_wp2_with fail
      refine (HL1 _ ((HX.out.1.below HZ.out).mono HZ.out.size)).out.mono ?_
      rintro e w' ⟨rfl, rfl⟩
      go_wp2_with fail
      exact HRR.out _ HW.out
    case hnp => rfl
    case hv => first | exact ⟨_, fun _ => rfl⟩ | exact ⟨undef, fun _ => rfl⟩
    apply obl_det
    case hrun =>
      intro D y wz hW hD R hR
      have HRR := Lib.hid hR
      clear hR
      have HW := Lib.hid hW
      clear hW hD
      go_wp2_with fail
      exact HRR.out _ HW.out
    case hnp => rfl
    case hv => first | exact ⟨_, fun _ => rfl⟩ | exact ⟨undef, fun _ => rfl⟩
    apply obl_det
    case hrun =>
      intro D y wz hW hD R hR
      have HRR := Lib.hid hR
      clear hR
      have HW := Lib.hid hW
      clear hW hD
      go_wp2_with fail
      exact HRR.out _ HW.out
    case hnp => rfl
    case hv => first | exact ⟨_, fun _ => rfl⟩ | exact ⟨undef, fun _ => rfl⟩
    apply obl_det
    case hrun =>
      intro D y wz hW hD R hR
      have HRR := Lib.hid hR
      clear hR
      have HW := Lib.hid hW
      clear hW hD
      go_wp2_with fail
      exact HRR.out _ HW.out
    case hnp => rfl
    case hv => first | exact ⟨_, fun _ => rfl⟩ | exact ⟨undef, fun _ => rfl⟩
    apply obl_det
    case hrun =>
      intro D y wz hW hD R hR
      have HRR := Lib.hid hR
      clear hR
      have HW := Lib.hid hW
      have h1 := (C0.out.call HW.out).cell 1 rfl 1
      clear hW hD
      go_wp2_with fail
      exact HRR.out _ HW.out
    case hnp => rfl
    case hv => first | exact ⟨_, fun _ => rfl⟩ | exact ⟨undef, fun _ => rfl⟩
    apply obl_det
    case hrun =>
      intro D y wz hW hD R hR
      have HRR := Lib.hid hR
      clear hR
      have HW := Lib.hid hW
      clear hW hD
      go_wp2_with fail
      exact HRR.out _ HW.out
    case hnp => rfl
    case hv => first | exact ⟨_, fun _ => rfl⟩ | exact ⟨undef, fun _ => rfl⟩
    apply obl_det
    case hrun =>
      intro D y wz hW hD R hR
      have HRR := Lib.hid hR
      clear hR
      have HW := Lib.hid hW
      clear hW hD
      go_wp2_with fail
      exact HRR.out _ HW.out
    case hnp => rfl
    case hv => first | exact ⟨_, fun _ => rfl⟩ | exact ⟨undef, fun _ => rfl⟩
    apply obl_det
    case hrun =>
      intro D y wz hW hD R hR
      have HRR := Lib.hid hR
      clear hR
      have HW := Lib.hid hW
      clear hW hD
      go_wp2_with fail
      exact HRR.out _ HW.out
    case hnp => rfl
    case hv => first | exact ⟨_, fun _ => rfl⟩ | exact ⟨undef, fun _ => rfl⟩
    apply obl_det
    case hrun =>
      intro D y wz hW hD R hR
      have HRR := Lib.hid hR
      clear hR
      have HW := Lib.hid hW
      clear hW hD
      go_wp2_with fail
      exact HRR.out _ HW.out
    case hnp => rfl
    case hv => first | exact ⟨_, fun _ => rfl⟩ | exact ⟨undef, fun _ => rfl⟩
    apply obl_det
    case hrun =>
      intro D y wz hW hD R hR
      have HRR := Lib.hid hR
      clear hR
      have HW := Lib.hid hW
      have HZ := Lib.hid (C0.out.bel.trans (HW.out.mono C0.out.bel.size))
      have h1 := (HZ.out.cell (p := ⟨b, o + k * 3 + 1, none⟩) HBB.out).trans HBK.out
      clear hW hD
      go_wp2_with fail
      exact HRR.out _ HW.out
    case hnp => rfl
    case hv => first | exact ⟨_, fun _ => rfl⟩ | exact ⟨undef, fun _ => rfl⟩
    apply obl_det
    case hrun =>
      intro D y wz hW hD R hR
      have HRR := Lib.hid hR
      clear hR
      have HW := Lib.hid hW
      clear hW hD
      go_wp2_with fail
      exact HRR.out _ HW.out
    case hnp => rfl
    case hv => first | exact ⟨_, fun _ => rfl⟩ | exact ⟨undef, fun _ => rfl⟩
    apply obl_det
    case hrun =>
      intro D y wz hW hD R hR
      have HRR := Lib.hid hR
      clear hR
      have HW := Lib.hid hW
      clear hW hD
      go_wp2_with fail
      exact HRR.out _ HW.out
    case hnp => rfl
    case hv => first | exact ⟨_, fun _ => rfl⟩ | exact ⟨undef, fun _ => rfl⟩
    apply obl_det
    case hrun =>
      intro D y wz hW hD R hR
      have HRR := Lib.hid hR
      clear hR
      have HW := Lib.hid hW
      have HZ := Lib.hid (C0.out.bel.trans (HW.out.mono C0.out.bel.size))
      clear hW hD
      go_wp2_with fail
      refine (HL2 _ ((HX.out.2.1.below HZ.out).mono HZ.out.size)).out.mono ?_
      rintro e w' ⟨rfl, rfl⟩
      go_wp2_with fail
      exact HRR.out _ HW.out
    case hnp => rfl
    case hv => first | exact ⟨_, fun _ => rfl⟩ | exact ⟨undef, fun _ => rfl⟩
    apply obl_det
    case hrun =>
      intro D y wz hW hD R hR
      have HRR := Lib.hid hR
      clear hR
      have HW := Lib.hid hW
      clear hW hD
      go_wp2_with fail
      exact HRR.out _ HW.out
    case hnp => rfl
    case hv => first | exact ⟨_, fun _ => rfl⟩ | exact ⟨undef, fun _ => rfl⟩
    apply obl_det
    case hrun =>
      intro D y wz hW hD R hR
      have HRR := Lib.hid hR
      clear hR
      have HW := Lib.hid hW
      clear hW hD
      go_wp2_with fail
      exact HRR.out _ HW.out
    case hnp => rfl
    case hv => first | exact ⟨_, fun _ => rfl⟩ | exact ⟨undef, fun _ => rfl⟩
    apply obl_det
    case hrun =>
      intro D y wz hW hD R hR
      have HRR := Lib.hid hR
      clear hR
      have HW := Lib.hid hW
      clear hW hD
      go_wp2_with fail
      exact HRR.out _ HW.out
    case hnp => rfl
    case hv => first | exact ⟨_, fun _ => rfl⟩ | exact ⟨undef, fun _ => rfl⟩
    apply obl_det
    case hrun =>
      intro D y wz hW hD R hR
      have HRR := Lib.hid hR
      clear hR
      have HW := Lib.hid hW
      clear hW hD
      go_wp2_with fail
      exact HRR.out _ HW.out
    case hnp => rfl
    case hv => first | exact ⟨_, fun _ => rfl⟩ | exact ⟨undef, fun _ => rfl⟩
    apply obl_det
    case hrun =>
      intro D y wz hW hD R hR
      have HRR := Lib.hid hR
      clear hR
      have HW := Lib.hid hW
      have h1 := (C0.out.call HW.out).cell 1 rfl 2
      clear hW hD
      go_wp2_with fail
      exact HRR.out _ HW.out
    case hnp => rfl
    case hv => first | exact ⟨_, fun _ => rfl⟩ | exact ⟨undef, fun _ => rfl⟩
    apply obl_det
    case hrun =>
      intro D y wz hW hD R hR
      have HRR := Lib.hid hR
      clear hR
      have HW := Lib.hid hW
      clear hW hD
      go_wp2_with fail
      exact HRR.out _ HW.out
    case hnp => rfl
    case hv => first | exact ⟨_, fun _ => rfl⟩ | exact ⟨undef, fun _ => rfl⟩
    apply obl_det
    case hrun =>
      intro D y wz hW hD R hR
      have HRR := Lib.hid hR
      clear hR
      have HW := Lib.hid hW
      clear hW hD
      go_wp2_with fail
      exact HRR.out _ HW.out
    case hnp => rfl
    case hv => first | exact ⟨_, fun _ => rfl⟩ | exact ⟨undef, fun _ => rfl⟩
    apply obl_det
    case hrun =>
      intro D y wz hW hD R hR
      have HRR := Lib.hid hR
      clear hR
      have HW := Lib.hid hW
      clear hW hD
      go_wp2_with fail
      exact HRR.out _ HW.out
    case hnp => rfl
    case hv => first | exact ⟨_, fun _ => rfl⟩ | exact ⟨undef, fun _ => rfl⟩
    apply obl_det
    case hrun =>
      intro D y wz hW hD R hR
      have HRR := Lib.hid hR
      clear hR
      have HW := Lib.hid hW
      clear hW hD
      go_wp2_with fail
      exact HRR.out _ HW.out
    case hnp => rfl
    case hv => first | exact ⟨_, fun _ => rfl⟩ | exact ⟨undef, fun _ => rfl⟩
    apply obl_nil
    intro D y w8 hall hW
    have HB8 := Lib.hid (C0.out.bel.trans (hW.mono C0.out.bel.size))
    clear hall hW
    go_wp2_with fail
    go_ret
    rw [HE3.out]
    exact ⟨rfl, HB8.out⟩
  subst h3
  have hq : ((s.things.length : Int) != (s.things.length : Int)) = false := by simp
  rw [if_neg (by simp)] at HE
  refine wp_region_inv0 (by kernel_rfl) (by kernel_rfl) (fun D w' => Below W0.heap.size W0 w') (Below.refl _ _).drew ?_
  apply obl_det
  case hrun =>
    intro D y wz hW hD R hR
    have HRR := Lib.hid hR
    clear hR
    have HW := Lib.hid hW
    clear hW hD
    go_wp2_with fail
    exact HRR.out _ HW.out
  case hnp => rfl
  case hv => first | exact ⟨_, fun _ => rfl⟩ | exact ⟨undef, fun _ => rfl⟩
  apply obl_det
  case hrun =>
    intro D y wz hW hD R hR
    have HRR := Lib.hid hR
    clear hR
    have HW := Lib.hid hW
    have h1 := (C0.out.call HW.out).cell 1 rfl 0
    clear hW hD
    go_wp2_with fail
    exact HRR.out _ HW.out
  case hnp => rfl
  case hv => first | exact ⟨_, fun _ => rfl⟩ | exact ⟨undef, fun _ => rfl⟩
  apply obl_det
  case hrun =>
    intro D y wz hW hD R hR
    have HRR := Lib.hid hR
    clear hR
    have HW := Lib.hid hW
    clear hW hD
    go_wp2_with fail
    exact HRR.out _ HW.out
  case hnp => rfl
  case hv => first | exact ⟨_, fun _ => rfl⟩ | exact ⟨undef, fun _ => rfl⟩
  apply obl_det
  case hrun =>
    intro D y wz hW hD R hR
    have HRR := Lib.hid hR
    clear hR
    have HW := Lib.hid hW
    have h1 := (C0.out.call HW.out).cell 0 rfl 1
    clear hW hD
    go_wp2_with fail
    exact HRR.out _ HW.out
  case hnp => rfl
  case hv => first | exact ⟨_, fun _ => rfl⟩ | exact ⟨undef, fun _ => rfl⟩
  apply obl_det
  case hrun =>
    intro D y wz hW hD R hR
    have HRR := Lib.hid hR
    clear hR
    have HW := Lib.hid hW
    clear hW hD
    go_wp2_with fail
    exact HRR.out _ HW.out
  case hnp => rfl
  case hv => first | exact ⟨_, fun _ => rfl⟩ | exact ⟨undef, fun _ => rfl⟩
  apply obl_det
  case hrun =>
    intro D y wz hW hD R hR
    have HRR := Lib.hid hR
    clear hR
    have HW := Lib.hid hW
    clear hW hD
    go_wp2_with fail
    exact HRR.out _ HW.out
  case hnp => rfl
  case hv => first | exact ⟨_, fun _ => rfl⟩ | exact ⟨undef, fun _ => rfl⟩
  apply obl_det
  case hrun =>
    intro D y wz hW hD R hR
    have HRR := Lib.hid hR
    clear hR
    have HW := Lib.hid hW
    have HZ := Lib.hid (C0.out.bel.trans (HW.out.mono C0.out.bel.size))
    clear hW hD
    go_wp2_with fail
    refine (HL1 _ ((HX.out.1.below HZ.out).mono HZ.out.size)).out.mono ?_
    rintro e w' ⟨rfl, rfl⟩
    go_wp2_with fail
    exact HRR.out _ HW.out
  case hnp => rfl
  case hv => first | exact ⟨_, fun _ => rfl⟩ | exact ⟨undef, fun _ => rfl⟩
  apply obl_det
  case hrun =>
    intro D y wz hW hD R hR
    have HRR := Lib.hid hR
    clear hR
    have HW := Lib.hid hW
    clear hW hD
    go_wp2_with fail
    exact HRR.out _ HW.out
  case hnp => rfl
  case hv => first | exact ⟨_, fun _ => rfl⟩ | exact ⟨undef, fun _ => rfl⟩
  apply obl_det
  case hrun =>
    intro D y wz hW hD R hR
    have HRR := Lib.hid hR
    clear hR
    have HW := Lib.hid hW
    clear hW hD
    go_wp2_with fail
    exact HRR.out _ HW.out
  case hnp => rfl
  case hv => first | exact ⟨_, fun _ => rfl⟩ | exact ⟨undef, fun _ => rfl⟩
  apply obl_det
  case hrun =>
    intro D y wz hW hD R hR
    have HRR := Lib.hid hR
    clear hR
    have HW := Lib.hid hW
    clear hW hD
    go_wp2_with fail
    exact HRR.out _ HW.out
  case hnp => rfl
  case hv => first | exact ⟨_, fun _ => rfl⟩ | exact ⟨undef, fun _ => rfl⟩
  apply obl_det
  case hrun =>
    intro D y wz hW hD R hR
    have HRR := Lib.hid hR
    clear hR
    have HW := Lib.hid hW
    have h1 := (C0.out.call HW.out).cell 1 rfl 1
    clear hW hD
    go_wp2_with fail
    exact HRR.out _ HW.out
  case hnp => rfl
  case hv => first | exact ⟨_, fun _ => rfl⟩ | exact ⟨undef, fun _ => rfl⟩
  apply obl_det
  case hrun =>
    intro D y wz hW hD R hR
    have HRR := Lib.hid hR
    clear hR
    have HW := Lib.hid hW
    clear hW hD
    go_wp2_with fail
    exact HRR.out _ HW.out
  case hnp => rfl
  case hv => first | exact ⟨_, fun _ => rfl⟩ | exact ⟨undef, fun _ => rfl⟩
  apply obl_det
  case hrun =>
    intro D y wz hW hD R hR
    have HRR := Lib.hid hR
    clear hR
    have HW := Lib.hid hW
    clear hW hD
    go_wp2_with fail
    exact HRR.out _ HW.out
  case hnp => rfl
  case hv => first | exact ⟨_, fun _ => rfl⟩ | exact ⟨undef, fun _ => rfl⟩
  apply obl_det
  case hrun =>
    intro D y wz hW hD R hR
    have HRR := Lib.hid hR
    clear hR
    have HW := Lib.hid hW
    clear hW hD
    go_wp2_with fail
    exact HRR.out _ HW.out
  case hnp => rfl
  case hv => first | exact ⟨_, fun _ => rfl⟩ | exact ⟨undef, fun _ => rfl⟩
  apply obl_det
  case hrun =>
    intro D y wz hW hD R hR
    have HRR := Lib.hid hR
    clear hR
    have HW := Lib.hid hW
    clear hW hD
    go_wp2_with fail
    exact HRR.out _ HW.out
  case hnp => rfl
  case hv => first | exact ⟨_, fun _ => rfl⟩ | exact ⟨undef, fun _ => rfl⟩
  apply obl_det
  case hrun =>
    intro D y wz hW hD R hR
    have HRR := Lib.hid hR
    clear hR
    have HW := Lib.hid hW
    have HZ := Lib.hid (C0.out.bel.trans (HW.out.mono C0.out.bel.size))
    have h1 := (HZ.out.cell (p := ⟨b, o + k * 3 + 1, none⟩) HBB.out).trans HBK.out
    clear hW hD
    go_wp2_with fail
    exact HRR.out _ HW.out
  case hnp => rfl
  case hv => first | exact ⟨_, fun _ => rfl⟩ | exact ⟨undef, fun _ => rfl⟩
  apply obl_det
  case hrun =>
    intro D y wz hW hD R hR
    have HRR := Lib.hid hR
    clear hR
    have HW := Lib.hid hW
    clear hW hD
    go_wp2_with fail
    exact HRR.out _ HW.out
  case hnp => rfl
  case hv => first | exact ⟨_, fun _ => rfl⟩ | exact ⟨undef, fun _ => rfl⟩
  apply obl_det
  case hrun =>
    intro D y wz hW hD R hR
    have HRR := Lib.hid hR
    clear hR
    have HW := Lib.hid hW
    clear hW hD
    go_wp2_with fail
    exact HRR.out _ HW.out
  case hnp => rfl
  case hv => first | exact ⟨_, fun _ => rfl⟩ | exact ⟨undef, fun _ => rfl⟩
  apply obl_det
  case hrun =>
    intro D y wz hW hD R hR
    have HRR := Lib.hid hR
    clear hR
    have HW := Lib.hid hW
    have HZ := Lib.hid (C0.out.bel.trans (HW.out.mono C0.out.bel.size))
    clear hW hD
    go_wp2_with fail
    refine (HL2 _ ((HX.out.2.1.below HZ.out).mono HZ.out.size)).out.mono ?_
    rintro e w' ⟨rfl, rfl⟩
    go_wp2_with fail
    exact HRR.out _ HW.out
  case hnp => rfl
  case hv => first | exact ⟨_, fun _ => rfl⟩ | exact ⟨undef, fun _ => rfl⟩
  apply obl_det
  case hrun =>
    intro D y wz hW hD R hR
    have HRR := Lib.hid hR
    clear hR
    have HW := Lib.hid hW
    clear hW hD
    go_wp2_with fail
    exact HRR.out _ HW.out
  case hnp => rfl
  case hv => first | exact ⟨_, fun _ => rfl⟩ | exact ⟨undef, fun _ => rfl⟩
  apply obl_det
  case hrun =>
    intro D y wz hW hD R hR
    have HRR := Lib.hid hR
    clear hR
    have HW := Lib.hid hW
    clear hW hD
    go_wp2_with fail
    exact HRR.out _ HW.out
  case hnp => rfl
  case hv => first | exact ⟨_, fun _ => rfl⟩ | exact ⟨undef, fun _ => rfl⟩
  apply obl_det
  case hrun =>
    intro D y wz hW hD R hR
    have HRR := Lib.hid hR
    clear hR
    have HW := Lib.hid hW
    clear hW hD
    go_wp2_with fail
    exact HRR.out _ HW.out
  case hnp => rfl
  case hv => first | exact ⟨_, fun _ => rfl⟩ | exact ⟨undef, fun _ => rfl⟩
  apply obl_det
  case hrun =>
    intro D y wz hW hD R hR
    have HRR := Lib.hid hR
    clear hR
    have HW := Lib.hid hW
    clear hW hD
    go_wp2_with fail
    exact HRR.out _ HW.out
  case hnp => rfl
  case hv => first | exact ⟨_, fun _ => rfl⟩ | exact ⟨undef, fun _ => rfl⟩
  apply obl_det
  case hrun =>
    intro D y wz hW hD R hR
    have HRR := Lib.hid hR
    clear hR
    have HW := Lib.hid hW
    have h1 := (C0.out.call HW.out).cell 1 rfl 2
    clear hW hD
    go_wp2_with fail
    exact HRR.out _ HW.out
  case hnp => rfl
  case hv => first | exact ⟨_, fun _ => rfl⟩ | exact ⟨undef, fun _ => rfl⟩
  apply obl_det
  case hrun =>
    intro D y wz hW hD R hR
    have HRR := Lib.hid hR
    clear hR
    have HW := Lib.hid hW
    clear hW hD
    go_wp2_with fail
    exact HRR.out _ HW.out
  case hnp => rfl
  case hv => first | exact ⟨_, fun _ => rfl⟩ | exact ⟨undef, fun _ => rfl⟩
  apply obl_det
  case hrun =>
    intro D y wz hW hD R hR
    have HRR := Lib.hid hR
    clear hR
    have HW := Lib.hid hW
    clear hW hD
    go_wp2_with fail
    exact HRR.out _ HW.out
  case hnp => rfl
  case hv => first | exact ⟨_, fun _ => rfl⟩ | exact ⟨undef, fun _ => rfl⟩
  apply obl_det
  case hrun =>
    intro D y wz hW hD R hR
    have HRR := Lib.hid hR
    clear hR
    have HW := Lib.hid hW
    clear hW hD
    go_wp2_with fail
    exact HRR.out _ HW.out
  case hnp => rfl
  case hv => first | exact ⟨_, fun _ => rfl⟩ | exact ⟨undef, fun _ => rfl⟩
  apply obl_det
  case hrun =>
    intro D y wz hW hD R hR
    have HRR := Lib.hid hR
    clear hR
    have HW := Lib.hid hW
    clear hW hD
    go_wp2_with fail
    exact HRR.out _ HW.out
  case hnp => rfl
  case hv => first | exact ⟨_, fun _ => rfl⟩ | exact ⟨undef, fun _ => rfl⟩
  apply obl_nil
  intro D y w8 hall hW
  have HB8 := Lib.hid (C0.out.bel.trans (hW.mono C0.out.bel.size))
  have C1 := Lib.hid (C0.out.call hW)
  clear hall hW C0 HL1 HL2 HB8 hq
  obtain ⟨e1, HLL⟩ := listsB_spec HR1.out
  have HLL := Lib.hid HLL
  rw [HM1.out] at e1
  subst e1
  obtain ⟨e2, HLB⟩ := listsB_spec HR2.out
  have HLB := Lib.hid HLB
  rw [HM2.out] at e2
  have e3 := e2.symm
  clear e2
  subst e3
  clear HR1 HR2
  have hc0 := C1.out.cell 0 rfl 0
  have hc1 := C1.out.cell 0 rfl 1
  go_wp2_with fail
  refine (ranges_ref s l (.slice ta s.things.length tc) (.slice la s.lots.length lc) (.slice (some ⟨b, o, none⟩) l.length c) _ ((HS.out.below C1.out.bel).mono C1.out.bel.size) ((HL.out.below C1.out.bel).mono C1.out.bel.size) HG.out).mono ?_
  rintro e w2 ⟨tv, rfl, ht, hb⟩
  have C2 := Lib.hid (C1.out.call hb)
  have HT := Lib.hid ht
  obtain ⟨va, vc, rfl, -, -⟩ := sl_shape ht
  rw [rangesV_length] at HT ⊢
  clear ht hb C1 hc0 hc1
  go_wp2_with fail
  go_loopw [11] (fun tv wr => ∃ t : Nat, tv = .int .i64 t ∧ t ≤ s.things.length ∧ Below w2.heap.size w2 wr ∧ ∀ t', t' < t → truthIn s l (rangesV s l) (l.getD k default) x t' = true) (fun tv _ => s.things.length - (intOf tv).toNat)
  case atStart => exact ⟨0, rfl, by omega, Below.refl _ _, fun t' h => by omega⟩
  case round =>
    obtain ⟨t, rfl, ht, hb, hin⟩ := hrel
    have HB := Lib.hid hb
    have HIN := Lib.hid hin
    clear hb hin
    by_cases htl : t < s.things.length
    · have hti : (t : Int) < (s.things.length : Int) := by omega
      obtain ⟨W2, hW2⟩ : ∃ x, x = wr := ⟨_, rfl⟩
      subst hW2
      go_wp2_with fail
      have CR := Lib.hid (C2.out.call HB.out)
      have HBA := Lib.hid CR.out.bel
      obtain ⟨b', o', bA, oA, cA, he, -, hbA, ha1, ha2, ha3⟩ := added_at HL.out hk HBO.out.alen htl
      cases he
      obtain ⟨bX, oX, rfl, hbX, hx1⟩ := HX.out.2.2.at' (i := t) (by rw [HN3.out]; exact htl)
      have HA1 := Lib.hid ha1
      have HA2 := Lib.hid ha2
      have HA3 := Lib.hid ha3
      have HX1 := Lib.hid hx1
      have HUA := Lib.hid hbA
      have HUX := Lib.hid hbX
      have HAN := Lib.hid (isA_next s (l.getD k default) x t)
      have HBN := Lib.hid (isB_next s l (l.getD k default) x t)
      have HBZ : Hid (isB s l (l.getD k default) x t 0 = isA s (l.getD k default) x t s.lots.length) := isB_zero s l _ x t
      have HTI : Hid (isB s l (l.getD k default) x t nb = truthIn s l (rangesV s l) (l.getD k default) x t) := by
        have h := isB_end s l (l.getD k default) x t
        rw [hnb] at h
        exact h
      have HIA : Hid (isA s (l.getD k default) x t 0 = inB (x.added.getD t 0) ((l.getD k default).added.getD t (0, 0)).1 ((l.getD k default).added.getD t (0, 0)).2) := by
        unfold Hid isA
        rw [inB_out]
        simp
      generalize isA s (l.getD k default) x t = AF at *
      generalize isB s l (l.getD k default) x t = BF at *
      obtain ⟨TF, hTF⟩ : ∃ b, truthIn s l (rangesV s l) (l.getD k default) x t = b := ⟨_, rfl⟩
      rw [hTF] at HTI
      have HTF := Lib.hid hTF
      clear hTF
      generalize ((l.getD k default).added.getD t (0, 0)) = pq at *
      obtain ⟨p1, p2⟩ := pq
      simp only at HA2 HA3 HIA
      generalize x.added.getD t 0 = xt at *
      have HIR := fun w => Lib.hid (in_r (AF 0) xt p1 p2 w HIA.out.symm)
      clear ha1 ha2 ha3 hx1 hbA hbX HIA
      refine wp_region_inv0 (by kernel_rfl) (by kernel_rfl) (fun D w' => Below W2.heap.size W2 w') (Below.refl _ _).drew ?_
      apply obl_det
      case hrun =>
        intro D y wz hW hD R hR
        have HRR := Lib.hid hR
        clear hR
        have HW := Lib.hid hW
        clear hW hD
        go_wp2_with fail
        exact HRR.out _ HW.out
      case hnp => rfl
      case hv => first | exact ⟨_, fun _ => rfl⟩ | exact ⟨undef, fun _ => rfl⟩
      apply obl_det
      case hrun =>
        intro D y wz hW hD R hR
        have HRR := Lib.hid hR
        clear hR
        have HW := Lib.hid hW
        have h1 := (CR.out.call HW.out).cell 1 rfl 2
        clear hW hD
        go_wp2_with fail
        exact HRR.out _ HW.out
      case hnp => rfl
      case hv => first | exact ⟨_, fun _ => rfl⟩ | exact ⟨undef, fun _ => rfl⟩
      apply obl_det
      case hrun =>
        intro D y wz hW hD R hR
        have HRR := Lib.hid hR
        clear hR
        have HW := Lib.hid hW
        clear hW hD
        go_wp2_with fail
        exact HRR.out _ HW.out
      case hnp => rfl
      case hv => first | exact ⟨_, fun _ => rfl⟩ | exact ⟨undef, fun _ => rfl⟩
      apply obl_det
      case hrun =>
        intro D y wz hW hD R hR
        have HRR := Lib.hid hR
        clear hR
        have HW := Lib.hid hW
        clear hW hD
        go_wp2_with fail
        exact HRR.out _ HW.out
      case hnp => rfl
      case hv => first | exact ⟨_, fun _ => rfl⟩ | exact ⟨undef, fun _ => rfl⟩
      apply obl_det
      case hrun =>
        intro D y wz hW hD R hR
        have HRR := Lib.hid hR
        clear hR
        have HW := Lib.hid hW
        have HZ := Lib.hid (HBA.out.trans (HW.out.mono HBA.out.size))
        have h1 := (HZ.out.cell (p := ⟨bX, oX + t, none⟩) HUX.out).trans HX1.out
        clear hW hD
        go_wp2_with fail
        exact HRR.out _ HW.out
      case hnp => rfl
      case hv => first | exact ⟨_, fun _ => rfl⟩ | exact ⟨undef, fun _ => rfl⟩
      apply obl_det
      case hrun =>
        intro D y wz hW hD R hR
        have HRR := Lib.hid hR
        clear hR
        have HW := Lib.hid hW
        clear hW hD
        go_wp2_with fail
        exact HRR.out _ HW.out
      case hnp => rfl
      case hv => first | exact ⟨_, fun _ => rfl⟩ | exact ⟨undef, fun _ => rfl⟩
      apply obl_det
      case hrun =>
        intro D y wz hW hD R hR
        have HRR := Lib.hid hR
        clear hR
        have HW := Lib.hid hW
        clear hW hD
        go_wp2_with fail
        exact HRR.out _ HW.out
      case hnp => rfl
      case hv => first | exact ⟨_, fun _ => rfl⟩ | exact ⟨undef, fun _ => rfl⟩
      apply obl_det
      case hrun =>
        intro D y wz hW hD R hR
        have HRR := Lib.hid hR
        clear hR
        have HW := Lib.hid hW
        clear hW hD
        go_wp2_with fail
        exact HRR.out _ HW.out
      case hnp => rfl
      case hv => first | exact ⟨_, fun _ => rfl⟩ | exact ⟨undef, fun _ => rfl⟩
      apply obl_det
      case hrun =>
        intro D y wz hW hD R hR
        have HRR := Lib.hid hR
        clear hR
        have HW := Lib.hid hW
        clear hW hD
        go_wp2_with fail
        exact HRR.out _ HW.out
      case hnp => rfl
      case hv => first | exact ⟨_, fun _ => rfl⟩ | exact ⟨undef, fun _ => rfl⟩
      apply obl_det
      case hrun =>
        intro D y wz hW hD R hR
        have HRR := Lib.hid hR
        clear hR
        have HW := Lib.hid hW
        have HZ := Lib.hid (HBA.out.trans (HW.out.mono HBA.out.size))
        have h1 := (HZ.out.cell (p := ⟨b, o + k * 3 + 2, none⟩) HBB.out).trans HA1.out
        clear hW hD
        go_wp2_with fail
        exact HRR.out _ HW.out
      case hnp => rfl
      case hv => first | exact ⟨_, fun _ => rfl⟩ | exact ⟨undef, fun _ => rfl⟩
      apply obl_det
      case hrun =>
        intro D y wz hW hD R hR
        have HRR := Lib.hid hR
        clear hR
        have HW := Lib.hid hW
        clear hW hD
        go_wp2_with fail
        exact HRR.out _ HW.out
      case hnp => rfl
      case hv => first | exact ⟨_, fun _ => rfl⟩ | exact ⟨undef, fun _ => rfl⟩
      apply obl_det
      case hrun =>
        intro D y wz hW hD R hR
        have HRR := Lib.hid hR
        clear hR
        have HW := Lib.hid hW
        clear hW hD
        go_wp2_with fail
        exact HRR.out _ HW.out
      case hnp => rfl
      case hv => first | exact ⟨_, fun _ => rfl⟩ | exact ⟨undef, fun _ => rfl⟩
      apply obl_det
      case hrun =>
        intro D y wz hW hD R hR
        have HRR := Lib.hid hR
        clear hR
        have HW := Lib.hid hW
        clear hW hD
        go_wp2_with fail
        exact HRR.out _ HW.out
      case hnp => rfl
      case hv => first | exact ⟨_, fun _ => rfl⟩ | exact ⟨undef, fun _ => rfl⟩
      apply obl_det
      case hrun =>
        intro D y wz hW hD R hR
        have HRR := Lib.hid hR
        clear hR
        have HW := Lib.hid hW
        have HZ := Lib.hid (HBA.out.trans (HW.out.mono HBA.out.size))
        have h1 := (HZ.out.cell (p := ⟨bA, oA + t * 2, none⟩) HUA.out).trans HA2.out
        clear hW hD
        go_wp2_with fail
        exact HRR.out _ HW.out
      case hnp => rfl
      case hv => first | exact ⟨_, fun _ => rfl⟩ | exact ⟨undef, fun _ => rfl⟩
      apply obl_det
      case hrun =>
        intro D y wz hW hD R hR
        have HRR := Lib.hid hR
        clear hR
        have HW := Lib.hid hW
        clear hW hD
        go_wp2_with fail
        exact HRR.out _ HW.out
      case hnp => rfl
      case hv => first | exact ⟨_, fun _ => rfl⟩ | exact ⟨undef, fun _ => rfl⟩
      apply obl_det
      case hrun =>
        intro D y wz hW hD R hR
        have HRR := Lib.hid hR
        clear hR
        have HW := Lib.hid hW
        clear hW hD
        go_wp2_with fail
        exact HRR.out _ HW.out
      case hnp => rfl
      case hv => first | exact ⟨_, fun _ => rfl⟩ | exact ⟨undef, fun _ => rfl⟩
      apply obl_det
      case hrun =>
        intro D y wz hW hD R hR
        have HRR := Lib.hid hR
        clear hR
        have HW := Lib.hid hW
        clear hW hD
        go_wp2_with fail
        exact HRR.out _ HW.out
      case hnp => rfl
      case hv => first | exact ⟨_, fun _ => rfl⟩ | exact ⟨undef, fun _ => rfl⟩
      apply obl_det
      case hrun =>
        intro D y wz hW hD R hR
        have HRR := Lib.hid hR
        clear hR
        have HW := Lib.hid hW
        clear hW hD
        go_wp2_with fail
        exact HRR.out _ HW.out
      case hnp => rfl
      case hv => first | exact ⟨_, fun _ => rfl⟩ | exact ⟨undef, fun _ => rfl⟩
      apply obl_det
      case hrun =>
        intro D y wz hW hD R hR
        have HRR := Lib.hid hR
        clear hR
        have HW := Lib.hid hW
        have HZ := Lib.hid (HBA.out.trans (HW.out.mono HBA.out.size))
        have h1 := (HZ.out.cell (p := ⟨b, o + k * 3 + 2, none⟩) HBB.out).trans HA1.out
        clear hW hD
        go_wp2_with fail
        exact HRR.out _ HW.out
      case hnp => rfl
      case hv => first | exact ⟨_, fun _ => rfl⟩ | exact ⟨undef, fun _ => rfl⟩
      apply obl_det
      case hrun =>
        intro D y wz hW hD R hR
        have HRR := Lib.hid hR
        clear hR
        have HW := Lib.hid hW
        clear hW hD
        go_wp2_with fail
        exact HRR.out _ HW.out
      case hnp => rfl
      case hv => first | exact ⟨_, fun _ => rfl⟩ | exact ⟨undef, fun _ => rfl⟩
      apply obl_det
      case hrun =>
        intro D y wz hW hD R hR
        have HRR := Lib.hid hR
        clear hR
        have HW := Lib.hid hW
        clear hW hD
        go_wp2_with fail
        exact HRR.out _ HW.out
      case hnp => rfl
      case hv => first | exact ⟨_, fun _ => rfl⟩ | exact ⟨undef, fun _ => rfl⟩
      apply obl_det
      case hrun =>
        intro D y wz hW hD R hR
        have HRR := Lib.hid hR
        clear hR
        have HW := Lib.hid hW
        clear hW hD
        go_wp2_with fail
        exact HRR.out _ HW.out
      case hnp => rfl
      case hv => first | exact ⟨_, fun _ => rfl⟩ | exact ⟨undef, fun _ => rfl⟩
      apply obl_det
      case hrun =>
        intro D y wz hW hD R hR
        have HRR := Lib.hid hR
        clear hR
        have HW := Lib.hid hW
        have HZ := Lib.hid (HBA.out.trans (HW.out.mono HBA.out.size))
        have h1 := (HZ.out.cell (p := ⟨bA, oA + t * 2 + 1, none⟩) HUA.out).trans HA3.out
        clear hW hD
        go_wp2_with fail
        exact HRR.out _ HW.out
      case hnp => rfl
      case hv => first | exact ⟨_, fun _ => rfl⟩ | exact ⟨undef, fun _ => rfl⟩
      apply obl_det
      case hrun =>
        intro D y wz hW hD R hR
        have HRR := Lib.hid hR
        clear hR
        have HW := Lib.hid hW
        clear hW hD
        go_wp2_with fail
        refine (HIR _).out.mono ?_
        rintro e w' ⟨rfl, rfl⟩
        go_wp2_with fail
        exact HRR.out _ HW.out
      case hnp => rfl
      case hv => first | exact ⟨_, fun _ => rfl⟩ | exact ⟨undef, fun _ => rfl⟩
      apply obl_det
      case hrun =>
        intro D y wz hW hD R hR
        have HRR := Lib.hid hR
        clear hR
        have HW := Lib.hid hW
        clear hW hD
        go_wp2_with fail
        exact HRR.out _ HW.out
      case hnp => rfl
      case hv => first | exact ⟨_, fun _ => rfl⟩ | exact ⟨undef, fun _ => rfl⟩
      apply obl_nil
      intro D y w8 hall hW
      have HB8 := Lib.hid (HB.out.trans (hW.mono HB.out.size))
      clear hall hW HA1 HA2 HA3 HX1 HUA HUX HIR CR HBA HB
      go_wp2_with fail
      have CR := Lib.hid (C2.out.call HB8.out)
      have HBA := Lib.hid CR.out.bel
      go_loopw [12, 13] (fun bv iv wr => ∃ i : Nat, bv = .bool (AF i) ∧ iv = .int .i64 i ∧ i ≤ s.lots.length ∧ Below w8.heap.size w8 wr) (fun _ iv _ => s.lots.length - (intOf iv).toNat)
      case atStart => exact ⟨0, rfl, rfl, by omega, Below.refl _ _⟩
      case round =>
        obtain ⟨i, rfl, rfl, hi, hb⟩ := hrel
        have HB := Lib.hid hb
        clear hb
        have CQ := Lib.hid (CR.out.call HB.out)
        have hs1 := CQ.out.cell 0 rfl 1
        have HNX := Lib.hid (HAN.out i)
        by_cases hil : i < s.lots.length
        · have hii : (i : Int) < (s.lots.length : Int) := by omega
          obtain ⟨r, hr⟩ : ∃ r, AF i = r := ⟨_, rfl⟩
          rw [hr] at HNX ⊢
          clear hr
          cases r
          case false =>
            have HN2 : Hid (AF (i + 1) = false) := by unfold Hid; rw [HNX.out]; rfl
            clear HNX
            go_wp2_with fail
            clear hs1
            refine wp_region_inv0 (by kernel_rfl) (by kernel_rfl) (fun D w' => Below wr.heap.size wr w') (Below.refl _ _).drew ?_
            apply obl_det
            case hrun =>
              intro D y wz hW hD R hR
              have HRR := Lib.hid hR
              clear hR
              have HW := Lib.hid hW
              clear hW hD
              go_wp2_with fail
              exact HRR.out _ HW.out
            case hnp => rfl
            case hv => first | exact ⟨_, fun _ => rfl⟩ | exact ⟨undef, fun _ => rfl⟩
            apply obl_det
            case hrun =>
              intro D y wz hW hD R hR
              have HRR := Lib.hid hR
              clear hR
              have HW := Lib.hid hW
              clear hW hD
              go_wp2_with fail
              exact HRR.out _ HW.out
            case hnp => rfl
            case hv => first | exact ⟨_, fun _ => rfl⟩ | exact ⟨undef, fun _ => rfl⟩
            apply obl_det
            case hrun =>
              intro D y wz hW hD R hR
              have HRR := Lib.hid hR
              clear hR
              have HW := Lib.hid hW
              clear hW hD
              go_wp2_with fail
              exact HRR.out _ HW.out
            case hnp => rfl
            case hv => first | exact ⟨_, fun _ => rfl⟩ | exact ⟨undef, fun _ => rfl⟩
            apply obl_det
            case hrun =>
              intro D y wz hW hD R hR
              have HRR := Lib.hid hR
              clear hR
              have HW := Lib.hid hW
              clear hW hD
              go_wp2_with fail
              exact HRR.out _ HW.out
            case hnp => rfl
            case hv => first | exact ⟨_, fun _ => rfl⟩ | exact ⟨undef, fun _ => rfl⟩
            apply obl_det
            case hrun =>
              intro D y wz hW hD R hR
              have HRR := Lib.hid hR
              clear hR
              have HW := Lib.hid hW
              clear hW hD
              go_wp2_with fail
              exact HRR.out _ HW.out
            case hnp => rfl
            case hv => first | exact ⟨_, fun _ => rfl⟩ | exact ⟨undef, fun _ => rfl⟩
            apply obl_det
            case hrun =>
              intro D y wz hW hD R hR
              have HRR := Lib.hid hR
              clear hR
              have HW := Lib.hid hW
              clear hW hD
              go_wp2_with fail
              exact HRR.out _ HW.out
            case hnp => rfl
            case hv => first | exact ⟨_, fun _ => rfl⟩ | exact ⟨undef, fun _ => rfl⟩
            apply obl_det
            case hrun =>
              intro D y wz hW hD R hR
              have HRR := Lib.hid hR
              clear hR
              have HW := Lib.hid hW
              clear hW hD
              go_wp2_with fail
              exact HRR.out _ HW.out
            case hnp => rfl
            case hv => first | exact ⟨_, fun _ => rfl⟩ | exact ⟨undef, fun _ => rfl⟩
            apply obl_det
            case hrun =>
              intro D y wz hW hD R hR
              have HRR := Lib.hid hR
              clear hR
              have HW := Lib.hid hW
              clear hW hD
              go_wp2_with fail
              exact HRR.out _ HW.out
            case hnp => rfl
            case hv => first | exact ⟨_, fun _ => rfl⟩ | exact ⟨undef, fun _ => rfl⟩
            apply obl_det
            case hrun =>
              intro D y wz hW hD R hR
              have HRR := Lib.hid hR
              clear hR
              have HW := Lib.hid hW
              clear hW hD
              go_wp2_with fail
              exact HRR.out _ HW.out
            case hnp => rfl
            case hv => first | exact ⟨_, fun _ => rfl⟩ | exact ⟨undef, fun _ => rfl⟩
            apply obl_det
            case hrun =>
              intro D y wz hW hD R hR
              have HRR := Lib.hid hR
              clear hR
              have HW := Lib.hid hW
              clear hW hD
              go_wp2_with fail
              exact HRR.out _ HW.out
            case hnp => rfl
            case hv => first | exact ⟨_, fun _ => rfl⟩ | exact ⟨undef, fun _ => rfl⟩
            apply obl_det
            case hrun =>
              intro D y wz hW hD R hR
              have HRR := Lib.hid hR
              clear hR
              have HW := Lib.hid hW
              clear hW hD
              go_wp2_with fail
              exact HRR.out _ HW.out
            case hnp => rfl
            case hv => first | exact ⟨_, fun _ => rfl⟩ | exact ⟨undef, fun _ => rfl⟩
            apply obl_det
            case hrun =>
              intro D y wz hW hD R hR
              have HRR := Lib.hid hR
              clear hR
              have HW := Lib.hid hW
              clear hW hD
              go_wp2_with fail
              exact HRR.out _ HW.out
            case hnp => rfl
            case hv => first | exact ⟨_, fun _ => rfl⟩ | exact ⟨undef, fun _ => rfl⟩
            apply obl_det
            case hrun =>
              intro D y wz hW hD R hR
              have HRR := Lib.hid hR
              clear hR
              have HW := Lib.hid hW
              clear hW hD
              go_wp2_with fail
              exact HRR.out _ HW.out
            case hnp => rfl
            case hv => first | exact ⟨_, fun _ => rfl⟩ | exact ⟨undef, fun _ => rfl⟩
            apply obl_det
            case hrun =>
              intro D y wz hW hD R hR
              have HRR := Lib.hid hR
              clear hR
              have HW := Lib.hid hW
              clear hW hD
              go_wp2_with fail
              exact HRR.out _ HW.out
            case hnp => rfl
            case hv => first | exact ⟨_, fun _ => rfl⟩ | exact ⟨undef, fun _ => rfl⟩
            apply obl_det
            case hrun =>
              intro D y wz hW hD R hR
              have HRR := Lib.hid hR
              clear hR
              have HW := Lib.hid hW
              clear hW hD
              go_wp2_with fail
              exact HRR.out _ HW.out
            case hnp => rfl
            case hv => first | exact ⟨_, fun _ => rfl⟩ | exact ⟨undef, fun _ => rfl⟩
            apply obl_det
            case hrun =>
              intro D y wz hW hD R hR
              have HRR := Lib.hid hR
              clear hR
              have HW := Lib.hid hW
              clear hW hD
              go_wp2_with fail
              exact HRR.out _ HW.out
            case hnp => rfl
            case hv => first | exact ⟨_, fun _ => rfl⟩ | exact ⟨undef, fun _ => rfl⟩
            apply obl_det
            case hrun =>
              intro D y wz hW hD R hR
              have HRR := Lib.hid hR
              clear hR
              have HW := Lib.hid hW
              clear hW hD
              go_wp2_with fail
              exact HRR.out _ HW.out
            case hnp => rfl
            case hv => first | exact ⟨_, fun _ => rfl⟩ | exact ⟨undef, fun _ => rfl⟩
            apply obl_det
            case hrun =>
              intro D y wz hW hD R hR
              have HRR := Lib.hid hR
              clear hR
              have HW := Lib.hid hW
              clear hW hD
              go_wp2_with fail
              exact HRR.out _ HW.out
            case hnp => rfl
            case hv => first | exact ⟨_, fun _ => rfl⟩ | exact ⟨undef, fun _ => rfl⟩
            apply obl_det
            case hrun =>
              intro D y wz hW hD R hR
              have HRR := Lib.hid hR
              clear hR
              have HW := Lib.hid hW
              clear hW hD
              go_wp2_with fail
              exact HRR.out _ HW.out
            case hnp => rfl
            case hv => first | exact ⟨_, fun _ => rfl⟩ | exact ⟨undef, fun _ => rfl⟩
            apply obl_det
            case hrun =>
              intro D y wz hW hD R hR
              have HRR := Lib.hid hR
              clear hR
              have HW := Lib.hid hW
              clear hW hD
              go_wp2_with fail
              exact HRR.out _ HW.out
            case hnp => rfl
            case hv => first | exact ⟨_, fun _ => rfl⟩ | exact ⟨undef, fun _ => rfl⟩
            apply obl_det
            case hrun =>
              intro D y wz hW hD R hR
              have HRR := Lib.hid hR
              clear hR
              have HW := Lib.hid hW
              clear hW hD
              go_wp2_with fail
              exact HRR.out _ HW.out
            case hnp => rfl
            case hv => first | exact ⟨_, fun _ => rfl⟩ | exact ⟨undef, fun _ => rfl⟩
            apply obl_det
            case hrun =>
              intro D y wz hW hD R hR
              have HRR := Lib.hid hR
              clear hR
              have HW := Lib.hid hW
              clear hW hD
              go_wp2_with fail
              exact HRR.out _ HW.out
            case hnp => rfl
            case hv => first | exact ⟨_, fun _ => rfl⟩ | exact ⟨undef, fun _ => rfl⟩
            apply obl_det
            case hrun =>
              intro D y wz hW hD R hR
              have HRR := Lib.hid hR
              clear hR
              have HW := Lib.hid hW
              clear hW hD
              go_wp2_with fail
              exact HRR.out _ HW.out
            case hnp => rfl
            case hv => first | exact ⟨_, fun _ => rfl⟩ | exact ⟨undef, fun _ => rfl⟩
            apply obl_det
            case hrun =>
              intro D y wz hW hD R hR
              have HRR := Lib.hid hR
              clear hR
              have HW := Lib.hid hW
              clear hW hD
              go_wp2_with fail
              exact HRR.out _ HW.out
            case hnp => rfl
            case hv => first | exact ⟨_, fun _ => rfl⟩ | exact ⟨undef, fun _ => rfl⟩
            apply obl_det
            case hrun =>
              intro D y wz hW hD R hR
              have HRR := Lib.hid hR
              clear hR
              have HW := Lib.hid hW
              clear hW hD
              go_wp2_with fail
              exact HRR.out _ HW.out
            case hnp => rfl
            case hv => first | exact ⟨_, fun _ => rfl⟩ | exact ⟨undef, fun _ => rfl⟩
            apply obl_det
            case hrun =>
              intro D y wz hW hD R hR
              have HRR := Lib.hid hR
              clear hR
              have HW := Lib.hid hW
              clear hW hD
              go_wp2_with fail
              exact HRR.out _ HW.out
            case hnp => rfl
            case hv => first | exact ⟨_, fun _ => rfl⟩ | exact ⟨undef, fun _ => rfl⟩
            apply obl_det
            case hrun =>
              intro D y wz hW hD R hR
              have HRR := Lib.hid hR
              clear hR
              have HW := Lib.hid hW
              clear hW hD
              go_wp2_with fail
              exact HRR.out _ HW.out
            case hnp => rfl
            case hv => first | exact ⟨_, fun _ => rfl⟩ | exact ⟨undef, fun _ => rfl⟩
            apply obl_det
            case hrun =>
              intro D y wz hW hD R hR
              have HRR := Lib.hid hR
              clear hR
              have HW := Lib.hid hW
              clear hW hD
              go_wp2_with fail
              exact HRR.out _ HW.out
            case hnp => rfl
            case hv => first | exact ⟨_, fun _ => rfl⟩ | exact ⟨undef, fun _ => rfl⟩
            apply obl_det
            case hrun =>
              intro D y wz hW hD R hR
              have HRR := Lib.hid hR
              clear hR
              have HW := Lib.hid hW
              clear hW hD
              go_wp2_with fail
              exact HRR.out _ HW.out
            case hnp => rfl
            case hv => first | exact ⟨_, fun _ => rfl⟩ | exact ⟨undef, fun _ => rfl⟩
            apply obl_det
            case hrun =>
              intro D y wz hW hD R hR
              have HRR := Lib.hid hR
              clear hR
              have HW := Lib.hid hW
              clear hW hD
              go_wp2_with fail
              exact HRR.out _ HW.out
            case hnp => rfl
            case hv => first | exact ⟨_, fun _ => rfl⟩ | exact ⟨undef, fun _ => rfl⟩
            apply obl_det
            case hrun =>
              intro D y wz hW hD R hR
              have HRR := Lib.hid hR
              clear hR
              have HW := Lib.hid hW
              clear hW hD
              go_wp2_with fail
              exact HRR.out _ HW.out
            case hnp => rfl
            case hv => first | exact ⟨_, fun _ => rfl⟩ | exact ⟨undef, fun _ => rfl⟩
            apply obl_det
            case hrun =>
              intro D y wz hW hD R hR
              have HRR := Lib.hid hR
              clear hR
              have HW := Lib.hid hW
              clear hW hD
              go_wp2_with fail
              exact HRR.out _ HW.out
            case hnp => rfl
            case hv => first | exact ⟨_, fun _ => rfl⟩ | exact ⟨undef, fun _ => rfl⟩
            apply obl_det
            case hrun =>
              intro D y wz hW hD R hR
              have HRR := Lib.hid hR
              clear hR
              have HW := Lib.hid hW
              clear hW hD
              go_wp2_with fail
              exact HRR.out _ HW.out
            case hnp => rfl
            case hv => first | exact ⟨_, fun _ => rfl⟩ | exact ⟨undef, fun _ => rfl⟩
            apply obl_nil
            intro D y w8 hall hW
            have HB9 := Lib.hid (HB.out.trans (hW.mono HB.out.size))
            clear hall hW
            go_wp2_with fail
            refine ⟨⟨i + 1, by rw [HN2.out], by push_cast; rfl, by omega, HB9.out⟩, ?_⟩
            simp [intOf]; omega
          have HBC := Lib.hid CQ.out.bel
          obtain ⟨bl, ol, bP, oP, cP, rfl, hbl, hbP, hp1, hp2, hp3⟩ := parts_at HS.out.2 hil (HG.out.sh.plen i hil) htl
          obtain ⟨bj, oj, bR, oR, cR, rfl, hbj, hbR, hj1, hj2⟩ := list_at HX.out.1 (i := i) (by rw [HM1.out]; exact hil) (HLL.out i hil) htl
          have HP1 := Lib.hid hp1
          have HP2 := Lib.hid hp2
          have HP3 := Lib.hid hp3
          have HJ1 := Lib.hid hj1
          have HJ2 := Lib.hid hj2
          have HUL := Lib.hid hbl
          have HUP := Lib.hid hbP
          have HUJ := Lib.hid hbj
          have HUR := Lib.hid hbR
          have HIA : Hid (AF (i + 1) = inB ((x.lots.getD i []).getD t 0) ((s.lots.getD i default).parts.getD t (0, 0)).1 ((s.lots.getD i default).parts.getD t (0, 0)).2) := by
            unfold Hid
            rw [HNX.out, inB_out]
            rfl
          generalize ((s.lots.getD i default).parts.getD t (0, 0)) = pq at *
          obtain ⟨p1, p2⟩ := pq
          simp only at HP2 HP3 HIA
          generalize (x.lots.getD i []).getD t 0 = xt at *
          have HIR := fun w => Lib.hid (in_r (AF (i + 1)) xt p1 p2 w HIA.out.symm)
          clear hp1 hp2 hp3 hj1 hj2 hbl hbP hbj hbR HIA HNX
          go_wp2_with fail
          clear hs1
          refine wp_region_inv0 (by kernel_rfl) (by kernel_rfl) (fun D w' => Below wr.heap.size wr w') (Below.refl _ _).drew ?_
          apply obl_det
          case hrun =>
            intro D y wz hW hD R hR
            have HRR := Lib.hid hR
            clear hR
            have HW := Lib.hid hW
            clear hW hD
            go_wp2_with fail
            exact HRR.out _ HW.out
          case hnp => rfl
          case hv => first | exact ⟨_, fun _ => rfl⟩ | exact ⟨undef, fun _ => rfl⟩
          apply obl_det
          case hrun =>
            intro D y wz hW hD R hR
            have HRR := Lib.hid hR
            clear hR
            have HW := Lib.hid hW
            clear hW hD
            go_wp2_with fail
            exact HRR.out _ HW.out
          case hnp => rfl
          case hv => first | exact ⟨_, fun _ => rfl⟩ | exact ⟨undef, fun _ => rfl⟩
          apply obl_det
          case hrun =>
            intro D y wz hW hD R hR
            have HRR := Lib.hid hR
            clear hR
            have HW := Lib.hid hW
            clear hW hD
            go_wp2_with fail
            exact HRR.out _ HW.out
          case hnp => rfl
          case hv => first | exact ⟨_, fun _ => rfl⟩ | exact ⟨undef, fun _ => rfl⟩
          apply obl_det
          case hrun =>
            intro D y wz hW hD R hR
            have HRR := Lib.hid hR
            clear hR
            have HW := Lib.hid hW
            have h1 := (CQ.out.call HW.out).cell 1 rfl 0
            clear hW hD
            go_wp2_with fail
            exact HRR.out _ HW.out
          case hnp => rfl
          case hv => first | exact ⟨_, fun _ => rfl⟩ | exact ⟨undef, fun _ => rfl⟩
          apply obl_det
          case hrun =>
            intro D y wz hW hD R hR
            have HRR := Lib.hid hR
            clear hR
            have HW := Lib.hid hW
            clear hW hD
            go_wp2_with fail
            exact HRR.out _ HW.out
          case hnp => rfl
          case hv => first | exact ⟨_, fun _ => rfl⟩ | exact ⟨undef, fun _ => rfl⟩
          apply obl_det
          case hrun =>
            intro D y wz hW hD R hR
            have HRR := Lib.hid hR
            clear hR
            have HW := Lib.hid hW
            clear hW hD
            go_wp2_with fail
            exact HRR.out _ HW.out
          case hnp => rfl
          case hv => first | exact ⟨_, fun _ => rfl⟩ | exact ⟨undef, fun _ => rfl⟩
          apply obl_det
          case hrun =>
            intro D y wz hW hD R hR
            have HRR := Lib.hid hR
            clear hR
            have HW := Lib.hid hW
            have HZ := Lib.hid (HBC.out.trans (HW.out.mono HBC.out.size))
            have h1 := (HZ.out.cell (p := ⟨bj, oj + i, none⟩) HUJ.out).trans HJ1.out
            clear hW hD
            go_wp2_with fail
            exact HRR.out _ HW.out
          case hnp => rfl
          case hv => first | exact ⟨_, fun _ => rfl⟩ | exact ⟨undef, fun _ => rfl⟩
          apply obl_det
          case hrun =>
            intro D y wz hW hD R hR
            have HRR := Lib.hid hR
            clear hR
            have HW := Lib.hid hW
            clear hW hD
            go_wp2_with fail
            exact HRR.out _ HW.out
          case hnp => rfl
          case hv => first | exact ⟨_, fun _ => rfl⟩ | exact ⟨undef, fun _ => rfl⟩
          apply obl_det
          case hrun =>
            intro D y wz hW hD R hR
            have HRR := Lib.hid hR
            clear hR
            have HW := Lib.hid hW
            clear hW hD
            go_wp2_with fail
            exact HRR.out _ HW.out
          case hnp => rfl
          case hv => first | exact ⟨_, fun _ => rfl⟩ | exact ⟨undef, fun _ => rfl⟩
          apply obl_det
          case hrun =>
            intro D y wz hW hD R hR
            have HRR := Lib.hid hR
            clear hR
            have HW := Lib.hid hW
            have HZ := Lib.hid (HBC.out.trans (HW.out.mono HBC.out.size))
            have h1 := (HZ.out.cell (p := ⟨bR, oR + t, none⟩) HUR.out).trans HJ2.out
            clear hW hD
            go_wp2_with fail
            exact HRR.out _ HW.out
          case hnp => rfl
          case hv => first | exact ⟨_, fun _ => rfl⟩ | exact ⟨undef, fun _ => rfl⟩
          apply obl_det
          case hrun =>
            intro D y wz hW hD R hR
            have HRR := Lib.hid hR
            clear hR
            have HW := Lib.hid hW
            clear hW hD
            go_wp2_with fail
            exact HRR.out _ HW.out
          case hnp => rfl
          case hv => first | exact ⟨_, fun _ => rfl⟩ | exact ⟨undef, fun _ => rfl⟩
          apply obl_det
          case hrun =>
            intro D y wz hW hD R hR
            have HRR := Lib.hid hR
            clear hR
            have HW := Lib.hid hW
            have h1 := (CQ.out.call HW.out).cell 0 rfl 1
            clear hW hD
            go_wp2_with fail
            exact HRR.out _ HW.out
          case hnp => rfl
          case hv => first | exact ⟨_, fun _ => rfl⟩ | exact ⟨undef, fun _ => rfl⟩
          apply obl_det
          case hrun =>
            intro D y wz hW hD R hR
            have HRR := Lib.hid hR
            clear hR
            have HW := Lib.hid hW
            clear hW hD
            go_wp2_with fail
            exact HRR.out _ HW.out
          case hnp => rfl
          case hv => first | exact ⟨_, fun _ => rfl⟩ | exact ⟨undef, fun _ => rfl⟩
          apply obl_det
          case hrun =>
            intro D y wz hW hD R hR
            have HRR := Lib.hid hR
            clear hR
            have HW := Lib.hid hW
            clear hW hD
            go_wp2_with fail
            exact HRR.out _ HW.out
          case hnp => rfl
          case hv => first | exact ⟨_, fun _ => rfl⟩ | exact ⟨undef, fun _ => rfl⟩
          apply obl_det
          case hrun =>
            intro D y wz hW hD R hR
            have HRR := Lib.hid hR
            clear hR
            have HW := Lib.hid hW
            clear hW hD
            go_wp2_with fail
            exact HRR.out _ HW.out
          case hnp => rfl
          case hv => first | exact ⟨_, fun _ => rfl⟩ | exact ⟨undef, fun _ => rfl⟩
          apply obl_det
          case hrun =>
            intro D y wz hW hD R hR
            have HRR := Lib.hid hR
            clear hR
            have HW := Lib.hid hW
            have HZ := Lib.hid (HBC.out.trans (HW.out.mono HBC.out.size))
            have h1 := (HZ.out.cell (p := ⟨bl, ol + i * 2 + 1, none⟩) HUL.out).trans HP1.out
            clear hW hD
            go_wp2_with fail
            exact HRR.out _ HW.out
          case hnp => rfl
          case hv => first | exact ⟨_, fun _ => rfl⟩ | exact ⟨undef, fun _ => rfl⟩
          apply obl_det
          case hrun =>
            intro D y wz hW hD R hR
            have HRR := Lib.hid hR
            clear hR
            have HW := Lib.hid hW
            clear hW hD
            go_wp2_with fail
            exact HRR.out _ HW.out
          case hnp => rfl
          case hv => first | exact ⟨_, fun _ => rfl⟩ | exact ⟨undef, fun _ => rfl⟩
          apply obl_det
          case hrun =>
            intro D y wz hW hD R hR
            have HRR := Lib.hid hR
            clear hR
            have HW := Lib.hid hW
            clear hW hD
            go_wp2_with fail
            exact HRR.out _ HW.out
          case hnp => rfl
          case hv => first | exact ⟨_, fun _ => rfl⟩ | exact ⟨undef, fun _ => rfl⟩
          apply obl_det
          case hrun =>
            intro D y wz hW hD R hR
            have HRR := Lib.hid hR
            clear hR
            have HW := Lib.hid hW
            clear hW hD
            go_wp2_with fail
            exact HRR.out _ HW.out
          case hnp => rfl
          case hv => first | exact ⟨_, fun _ => rfl⟩ | exact ⟨undef, fun _ => rfl⟩
          apply obl_det
          case hrun =>
            intro D y wz hW hD R hR
            have HRR := Lib.hid hR
            clear hR
            have HW := Lib.hid hW
            have HZ := Lib.hid (HBC.out.trans (HW.out.mono HBC.out.size))
            have h1 := (HZ.out.cell (p := ⟨bP, oP + t * 2, none⟩) HUP.out).trans HP2.out
            clear hW hD
            go_wp2_with fail
            exact HRR.out _ HW.out
          case hnp => rfl
          case hv => first | exact ⟨_, fun _ => rfl⟩ | exact ⟨undef, fun _ => rfl⟩
          apply obl_det
          case hrun =>
            intro D y wz hW hD R hR
            have HRR := Lib.hid hR
            clear hR
            have HW := Lib.hid hW
            clear hW hD
            go_wp2_with fail
            exact HRR.out _ HW.out
          case hnp => rfl
          case hv => first | exact ⟨_, fun _ => rfl⟩ | exact ⟨undef, fun _ => rfl⟩
          apply obl_det
          case hrun =>
            intro D y wz hW hD R hR
            have HRR := Lib.hid hR
            clear hR
            have HW := Lib.hid hW
            have h1 := (CQ.out.call HW.out).cell 0 rfl 1
            clear hW hD
            go_wp2_with fail
            exact HRR.out _ HW.out
          case hnp => rfl
          case hv => first | exact ⟨_, fun _ => rfl⟩ | exact ⟨undef, fun _ => rfl⟩
          apply obl_det
          case hrun =>
            intro D y wz hW hD R hR
            have HRR := Lib.hid hR
            clear hR
            have HW := Lib.hid hW
            clear hW hD
            go_wp2_with fail
            exact HRR.out _ HW.out
          case hnp => rfl
          case hv => first | exact ⟨_, fun _ => rfl⟩ | exact ⟨undef, fun _ => rfl⟩
          apply obl_det
          case hrun =>
            intro D y wz hW hD R hR
            have HRR := Lib.hid hR
            clear hR
            have HW := Lib.hid hW
            clear hW hD
            go_wp2_with fail
            exact HRR.out _ HW.out
          case hnp => rfl
          case hv => first | exact ⟨_, fun _ => rfl⟩ | exact ⟨undef, fun _ => rfl⟩
          apply obl_det
          case hrun =>
            intro D y wz hW hD R hR
            have HRR := Lib.hid hR
            clear hR
            have HW := Lib.hid hW
            clear hW hD
            go_wp2_with fail
            exact HRR.out _ HW.out
          case hnp => rfl
          case hv => first | exact ⟨_, fun _ => rfl⟩ | exact ⟨undef, fun _ => rfl⟩
          apply obl_det
          case hrun =>
            intro D y wz hW hD R hR
            have HRR := Lib.hid hR
            clear hR
            have HW := Lib.hid hW
            have HZ := Lib.hid (HBC.out.trans (HW.out.mono HBC.out.size))
            have h1 := (HZ.out.cell (p := ⟨bl, ol + i * 2 + 1, none⟩) HUL.out).trans HP1.out
            clear hW hD
            go_wp2_with fail
            exact HRR.out _ HW.out
          case hnp => rfl
          case hv => first | exact ⟨_, fun _ => rfl⟩ | exact ⟨undef, fun _ => rfl⟩
          apply obl_det
          case hrun =>
            intro D y wz hW hD R hR
            have HRR := Lib.hid hR
            clear hR
            have HW := Lib.hid hW
            clear hW hD
            go_wp2_with fail
            exact HRR.out _ HW.out
          case hnp => rfl
          case hv => first | exact ⟨_, fun _ => rfl⟩ | exact ⟨undef, fun _ => rfl⟩
          apply obl_det
          case hrun =>
            intro D y wz hW hD R hR
            have HRR := Lib.hid hR
            clear hR
            have HW := Lib.hid hW
            clear hW hD
            go_wp2_with fail
            exact HRR.out _ HW.out
          case hnp => rfl
          case hv => first | exact ⟨_, fun _ => rfl⟩ | exact ⟨undef, fun _ => rfl⟩
          apply obl_det
          case hrun =>
            intro D y wz hW hD R hR
            have HRR := Lib.hid hR
            clear hR
            have HW := Lib.hid hW
            clear hW hD
            go_wp2_with fail
            exact HRR.out _ HW.out
          case hnp => rfl
          case hv => first | exact ⟨_, fun _ => rfl⟩ | exact ⟨undef, fun _ => rfl⟩
          apply obl_det
          case hrun =>
            intro D y wz hW hD R hR
            have HRR := Lib.hid hR
            clear hR
            have HW := Lib.hid hW
            have HZ := Lib.hid (HBC.out.trans (HW.out.mono HBC.out.size))
            have h1 := (HZ.out.cell (p := ⟨bP, oP + t * 2 + 1, none⟩) HUP.out).trans HP3.out
            clear hW hD
            go_wp2_with fail
            exact HRR.out _ HW.out
          case hnp => rfl
          case hv => first | exact ⟨_, fun _ => rfl⟩ | exact ⟨undef, fun _ => rfl⟩
          apply obl_det
          case hrun =>
            intro D y wz hW hD R hR
            have HRR := Lib.hid hR
            clear hR
            have HW := Lib.hid hW
            clear hW hD
            go_wp2_with fail
            refine (HIR _).out.mono ?_
            rintro e w' ⟨rfl, rfl⟩
            go_wp2_with fail
            exact HRR.out _ HW.out
          case hnp => rfl
          case hv => first | exact ⟨_, fun _ => rfl⟩ | exact ⟨undef, fun _ => rfl⟩
          apply obl_det
          case hrun =>
            intro D y wz hW hD R hR
            have HRR := Lib.hid hR
            clear hR
            have HW := Lib.hid hW
            clear hW hD
            go_wp2_with fail
            exact HRR.out _ HW.out
          case hnp => rfl
          case hv => first | exact ⟨_, fun _ => rfl⟩ | exact ⟨undef, fun _ => rfl⟩
          apply obl_det
          case hrun =>
            intro D y wz hW hD R hR
            have HRR := Lib.hid hR
            clear hR
            have HW := Lib.hid hW
            clear hW hD
            go_wp2_with fail
            exact HRR.out _ HW.out
          case hnp => rfl
          case hv => first | exact ⟨_, fun _ => rfl⟩ | exact ⟨undef, fun _ => rfl⟩
          apply obl_nil
          intro D y w8 hall hW
          have HB9 := Lib.hid (HB.out.trans (hW.mono HB.out.size))
          clear hall hW
          go_wp2_with fail
          refine ⟨⟨i + 1, rfl, by push_cast; rfl, by omega, HB9.out⟩, ?_⟩
          simp [intOf]; omega
        · obtain rfl : i = s.lots.length := by omega
          rw [← HBZ.out]
          clear HNX HAN HBZ
          have HB9 := Lib.hid (HB8.out.trans (HB.out.mono HB8.out.size))
          clear HB CR HBA HB8
          go_wp2_with fail
          clear hs1
          go_loopw [12, 14] (fun bv iv wr => ∃ i : Nat, bv = .bool (BF i) ∧ iv = .int .i64 i ∧ i ≤ nb ∧ Below w2.heap.size w2 wr) (fun _ iv _ => nb - (intOf iv).toNat)
          case atStart => exact ⟨0, rfl, rfl, by omega, HB9.out⟩
          case round =>
            clear HB9 CQ
            obtain ⟨i, rfl, rfl, hi, hb⟩ := hrel
            have HB := Lib.hid hb
            clear hb
            have CQ := Lib.hid (C2.out.call HB.out)
            have HBC := Lib.hid CQ.out.bel
            have hs1 := (HBC.out.cell (p := ⟨b, o + k * 3 + 1, none⟩) HBB.out).trans HBK.out
            by_cases hil : i < nb
            · have hii : (i : Int) < (nb : Int) := by omega
              have hblen := HBO.out.blen
              have hil2 : i < l.length := by omega
              have hik : (i : Int) < (l.length : Int) := by omega
              obtain ⟨tb, to, bT, oT, cT, rfl, htb, hbT, hq1, hq2, hq3⟩ := table_at HT.out (i := i) (by rw [rangesV_length]; exact hil2) (row_len s l hil2) htl
              obtain ⟨b', o', he, -, g1, g2, g3, hd1, hd2, hd3, hwt⟩ := weigh HG.out hil2 HL.out
              cases he
              obtain ⟨bj, oj, bR, oR, cR, rfl, hbj, hbR, hj1, hj2⟩ := list_at HX.out.2.1 (i := i) (by rw [HM2.out]; exact hil) (HLB.out i hil) htl
              have HQ1 := Lib.hid hq1
              have HQ2 := Lib.hid hq2
              have HQ3 := Lib.hid hq3
              have HUT := Lib.hid htb
              have HUB := Lib.hid hbT
              have HD1 := Lib.hid hd1
              have HD2 := Lib.hid hd2
              have HD3 := Lib.hid hd3
              have HWT := Lib.hid hwt
              have HJ1 := Lib.hid hj1
              have HJ2 := Lib.hid hj2
              have HUJ := Lib.hid hbj
              have HUR := Lib.hid hbR
              have HNX : Hid (BF (i + 1) = (BF i && inB ((x.back.getD i []).getD t 0) (partsV (weightV (l.getD i default)) (micV s l i t)).1 (partsV (weightV (l.getD i default)) (micV s l i t)).2)) := by
                unfold Hid
                rw [HBN.out, inB_out]
                rfl
              have HMO := Lib.hid (mic_ok HG.out.sh hn6 (k := i) (fun j hj => HG.out.pre j (by omega)) hil2 t)
              have HWP := Lib.hid (HG.out.pre.pos HG.out.sh hn6 (Nat.le_refl _) hil2)
              have HPR := fun w => Lib.hid (parts_ref (micV s l i t).1 (micV s l i t).2 (weightV (l.getD i default)) w HMO.out.1 HMO.out.2.1 HMO.out.2.2 HWP.out.1 HWP.out.2)
              clear hq1 hq2 hq3 hd1 hd2 hd3 hwt hj1 hj2 hbj hbR htb hbT HMO HWP
              have HQ2 : Hid (w2.cell? ⟨bT, oT + t * 2, none⟩ = some (.int .i64 (micV s l i t).1)) := HQ2.out
              have HQ3 : Hid (w2.cell? ⟨bT, oT + t * 2 + 1, none⟩ = some (.int .i64 (micV s l i t).2)) := HQ3.out
              obtain ⟨M, hM⟩ : ∃ M, micV s l i t = M := ⟨_, rfl⟩
              rw [hM] at HQ2 HQ3 HNX HPR
              clear hM
              obtain ⟨mc1, mc2⟩ := M
              simp only at HQ2 HQ3 HNX HPR
              obtain ⟨WT, hWT⟩ : ∃ WT, weightV (l.getD i default) = WT := ⟨_, rfl⟩
              rw [hWT] at HNX HPR HWT
              clear hWT
              obtain ⟨p, hp⟩ : ∃ p, partsV WT (mc1, mc2) = p := ⟨_, rfl⟩
              rw [hp] at HNX HPR
              clear hp
              obtain ⟨p1, p2⟩ := p
              simp only at HNX HPR
              generalize (x.back.getD i []).getD t 0 = xt at *
              go_wp2_with fail
              clear hs1
              refine wp_region_inv1 (by kernel_rfl) (by kernel_rfl) [15] (fun D y w' => PlW wr #[.int .i64 p1, .int .i64 p2] (D 13) (D 14) (y 15) w') ⟨(Below.refl _ _).drew, fun h => (by cases h)⟩ ?FP ?hFP ?_
              case hFP =>
                intro y
                simp only [fill, List.foldl, Act.put, List.setIfInBounds_toArray, List.set]
                exact rfl
              apply obl_det
              case hrun =>
                intro D y wz hW hD R hR
                have HRR := Lib.hid hR
                clear hR
                have HW := Lib.hid hW
                clear hW hD
                go_wp2_with fail
                exact HRR.out _ ⟨HW.out.bel, HW.out.al⟩
              case hnp => rfl
              case hv => first | exact ⟨_, fun _ => rfl⟩ | exact ⟨undef, fun _ => rfl⟩
              apply obl_det
              case hrun =>
                intro D y wz hW hD R hR
                have HRR := Lib.hid hR
                clear hR
                have HW := Lib.hid hW
                clear hW hD
                go_wp2_with fail
                exact HRR.out _ ⟨HW.out.bel, HW.out.al⟩
              case hnp => rfl
              case hv => first | exact ⟨_, fun _ => rfl⟩ | exact ⟨undef, fun _ => rfl⟩
              apply obl_det
              case hrun =>
                intro D y wz hW hD R hR
                have HRR := Lib.hid hR
                clear hR
                have HW := Lib.hid hW
                clear hW hD
                go_wp2_with fail
                exact HRR.out _ ⟨HW.out.bel, HW.out.al⟩
              case hnp => rfl
              case hv => first | exact ⟨_, fun _ => rfl⟩ | exact ⟨undef, fun _ => rfl⟩
              apply obl_det
              case hrun =>
                intro D y wz hW hD R hR
                have HRR := Lib.hid hR
                clear hR
                have HW := Lib.hid hW
                have HY := Lib.hid (HB.out.trans (HW.out.bel.mono HB.out.size))
                have h1 := (HY.out.cell (p := ⟨tb, to + i, none⟩) HUT.out).trans HQ1.out
                clear hW hD
                go_wp2_with fail
                exact HRR.out _ ⟨HW.out.bel, HW.out.al⟩
              case hnp => rfl
              case hv => first | exact ⟨_, fun _ => rfl⟩ | exact ⟨undef, fun _ => rfl⟩
              apply obl_det
              case hrun =>
                intro D y wz hW hD R hR
                have HRR := Lib.hid hR
                clear hR
                have HW := Lib.hid hW
                clear hW hD
                go_wp2_with fail
                exact HRR.out _ ⟨HW.out.bel, HW.out.al⟩
              case hnp => rfl
              case hv => first | exact ⟨_, fun _ => rfl⟩ | exact ⟨undef, fun _ => rfl⟩
              apply obl_det
              case hrun =>
                intro D y wz hW hD R hR
                have HRR := Lib.hid hR
                clear hR
                have HW := Lib.hid hW
                clear hW hD
                go_wp2_with fail
                exact HRR.out _ ⟨HW.out.bel, HW.out.al⟩
              case hnp => rfl
              case hv => first | exact ⟨_, fun _ => rfl⟩ | exact ⟨undef, fun _ => rfl⟩
              apply obl_det
              case hrun =>
                intro D y wz hW hD R hR
                have HRR := Lib.hid hR
                clear hR
                have HW := Lib.hid hW
                have HY := Lib.hid (HB.out.trans (HW.out.bel.mono HB.out.size))
                have h1 := (HY.out.cell (p := ⟨bT, oT + t * 2, none⟩) HUB.out).trans HQ2.out
                have h2 := (HY.out.cell (p := ⟨bT, oT + t * 2 + 1, none⟩) HUB.out).trans HQ3.out
                clear hW hD
                go_wp2_with fail
                exact HRR.out _ ⟨HW.out.bel, HW.out.al⟩
              case hnp => rfl
              case hv => first | exact ⟨_, fun _ => rfl⟩ | exact ⟨undef, fun _ => rfl⟩
              apply obl_det
              case hrun =>
                intro D y wz hW hD R hR
                have HRR := Lib.hid hR
                clear hR
                have HW := Lib.hid hW
                clear hW hD
                go_wp2_with fail
                exact HRR.out _ ⟨HW.out.bel, HW.out.al⟩
              case hnp => rfl
              case hv => first | exact ⟨_, fun _ => rfl⟩ | exact ⟨undef, fun _ => rfl⟩
              apply obl_det
              case hrun =>
                intro D y wz hW hD R hR
                have HRR := Lib.hid hR
                clear hR
                have HW := Lib.hid hW
                clear hW hD
                go_wp2_with fail
                exact HRR.out _ ⟨HW.out.bel, HW.out.al⟩
              case hnp => rfl
              case hv => first | exact ⟨_, fun _ => rfl⟩ | exact ⟨undef, fun _ => rfl⟩
              apply obl_det
              case hrun =>
                intro D y wz hW hD R hR
                have HRR := Lib.hid hR
                clear hR
                have HW := Lib.hid hW
                clear hW hD
                go_wp2_with fail
                exact HRR.out _ ⟨HW.out.bel, HW.out.al⟩
              case hnp => rfl
              case hv => first | exact ⟨_, fun _ => rfl⟩ | exact ⟨undef, fun _ => rfl⟩
              apply obl_det
              case hrun =>
                intro D y wz hW hD R hR
                have HRR := Lib.hid hR
                clear hR
                have HW := Lib.hid hW
                have HZ := Lib.hid (HBC.out.trans (HW.out.bel.mono HBC.out.size))
                have h1 := (HZ.out.cell (p := ⟨b, o + i * 3, none⟩) HBB.out).trans HD1.out
                have h2 := (HZ.out.cell (p := ⟨b, o + i * 3 + 1, none⟩) HBB.out).trans HD2.out
                have h3 := (HZ.out.cell (p := ⟨b, o + i * 3 + 2, none⟩) HBB.out).trans HD3.out
                clear hW hD
                go_wp2_with fail
                exact HRR.out _ ⟨HW.out.bel, HW.out.al⟩
              case hnp => rfl
              case hv => first | exact ⟨_, fun _ => rfl⟩ | exact ⟨undef, fun _ => rfl⟩
              apply obl_det
              case hrun =>
                intro D y wz hW hD R hR
                have HRR := Lib.hid hR
                clear hR
                have HW := Lib.hid hW
                have HZ := Lib.hid (HBC.out.trans (HW.out.bel.mono HBC.out.size))
                clear hW hD
                go_wp2_with fail
                refine (HWT.out _ HZ.out).mono ?_
                rintro e w' ⟨rfl, hb⟩
                have HW2 := Lib.hid (PlW.next HW.out hb)
                clear hb
                go_wp2_with fail
                exact HRR.out _ ⟨HW2.out.bel, HW2.out.al⟩
              case hnp => rfl
              case hv => first | exact ⟨_, fun _ => rfl⟩ | exact ⟨undef, fun _ => rfl⟩
              apply obl_det
              case hrun =>
                intro D y wz hW hD R hR
                have HRR := Lib.hid hR
                clear hR
                have HW := Lib.hid hW
                clear hW hD
                go_wp2_with fail
                refine (HPR _).out.mono ?_
                rintro e w' ⟨rfl, hb⟩
                have HW2 := Lib.hid (PlW.next HW.out hb)
                clear hb
                go_wp2_with fail
                exact HRR.out _ ⟨HW2.out.bel, HW2.out.al⟩
              case hnp => rfl
              case hv => first | exact ⟨_, fun _ => rfl⟩ | exact ⟨undef, fun _ => rfl⟩
              apply obl_priv 15
              case hd => rfl
              case hp => rfl
              case hrun =>
                intro D y wz hW hD R hR
                have HRR := Lib.hid hR
                clear hR
                have h14 : D 14 = false := hD.post _ 14 rfl (by kernel_rfl)
                have HBS := Lib.hid hW.bel
                have H14 := Lib.hid h14
                clear hW hD h14
                go_wp2_with fail
                refine HRR.out (.pointer (some ⟨wz.heap.size, 0, none⟩)) _ ⟨HBS.out.alloc HBS.out.size _, fun _ => ⟨_, rfl, HBS.out.size, ?_⟩⟩
                show _ = some (Obj.cells (if D 14 = true then _ else _) 51)
                rw [H14.out]
                exact heap_alloc_new _ _
              apply obl_det
              case hrun =>
                intro D y wz hW hD R hR
                have HRR := Lib.hid hR
                clear hR
                have h14 : D 14 = false := hD.not
                obtain ⟨gp, e, hgt, hcell⟩ := hW.al (hD.pre _ 13 rfl (by kernel_rfl))
                rw [h14] at hcell
                have CC := Lib.hid (Bs.snoc (l := []) (w := wr) ⟨by simp, by simp, by simp, hW.bel⟩ (by simp) hcell hgt)
                have E := Lib.hid e
                have HGT := Lib.hid hgt
                clear hW hD h14 hcell e hgt
                refine wpList_store_bs rfl 51 _ _ rfl CC.out 0 gp #[.int .i64 p1, .int .i64 p2] _ _ rfl E.out rfl info51 rfl (by simp [Value.oneCell']) ?_
                intro w4 hC4
                simp only [Act.put]
                go_simp
                exact HRR.out _ ⟨hC4.bel, fun _ => ⟨gp, E.out, HGT.out, hC4.get 0 rfl⟩⟩
              case hnp => rfl
              case hv => first | exact ⟨_, fun _ => rfl⟩ | exact ⟨undef, fun _ => rfl⟩
              apply obl_nil
              intro D y w9 hall hW
              obtain ⟨gp, e, hgt, hcell⟩ := hW.al (hall 13 (by decide))
              rw [hall 14 (by decide)] at hcell
              have HCE := Lib.hid hcell
              have HB9 := Lib.hid (HB.out.trans (hW.bel.mono HB.out.size))
              have CP := Lib.hid (C2.out.call HB9.out)
              have HBD := Lib.hid CP.out.bel
              clear hW hall hcell hgt HQ1 HQ2 HQ3 HUT HUB HD1 HD2 HD3 HWT HPR HB HBC CQ
              rw [e]
              clear e
              simp only [if_true] at HCE
              go_wp2_with fail
              obtain ⟨r, hr⟩ : ∃ r, BF i = r := ⟨_, rfl⟩
              rw [hr] at HNX ⊢
              clear hr
              cases r
              case false =>
                have HN2 : Hid (BF (i + 1) = false) := by unfold Hid; rw [HNX.out]; rfl
                clear HNX
                refine wp_region_inv0 (by kernel_rfl) (by kernel_rfl) (fun D w' => Below w9.heap.size w9 w') (Below.refl _ _).drew ?_
                apply obl_det
                case hrun =>
                  intro D y wz hW hD R hR
                  have HRR := Lib.hid hR
                  clear hR
                  have HW := Lib.hid hW
                  clear hW hD
                  go_wp2_with fail
                  exact HRR.out _ HW.out
                case hnp => rfl
                case hv => first | exact ⟨_, fun _ => rfl⟩ | exact ⟨undef, fun _ => rfl⟩
                apply obl_det
                case hrun =>
                  intro D y wz hW hD R hR
                  have HRR := Lib.hid hR
                  clear hR
                  have HW := Lib.hid hW
                  clear hW hD
                  go_wp2_with fail
                  exact HRR.out _ HW.out
                case hnp => rfl
                case hv => first | exact ⟨_, fun _ => rfl⟩ | exact ⟨undef, fun _ => rfl⟩
                apply obl_det
                case hrun =>
                  intro D y wz hW hD R hR
                  have HRR := Lib.hid hR
                  clear hR
                  have HW := Lib.hid hW
                  clear hW hD
                  go_wp2_with fail
                  exact HRR.out _ HW.out
                case hnp => rfl
                case hv => first | exact ⟨_, fun _ => rfl⟩ | exact ⟨undef, fun _ => rfl⟩
                apply obl_det
                case hrun =>
                  intro D y wz hW hD R hR
                  have HRR := Lib.hid hR
                  clear hR
                  have HW := Lib.hid hW
                  clear hW hD
                  go_wp2_with fail
                  exact HRR.out _ HW.out
                case hnp => rfl
                case hv => first | exact ⟨_, fun _ => rfl⟩ | exact ⟨undef, fun _ => rfl⟩
                apply obl_det
                case hrun =>
                  intro D y wz hW hD R hR
                  have HRR := Lib.hid hR
                  clear hR
                  have HW := Lib.hid hW
                  clear hW hD
                  go_wp2_with fail
                  exact HRR.out _ HW.out
                case hnp => rfl
                case hv => first | exact ⟨_, fun _ => rfl⟩ | exact ⟨undef, fun _ => rfl⟩
                apply obl_det
                case hrun =>
                  intro D y wz hW hD R hR
                  have HRR := Lib.hid hR
                  clear hR
                  have HW := Lib.hid hW
                  clear hW hD
                  go_wp2_with fail
                  exact HRR.out _ HW.out
                case hnp => rfl
                case hv => first | exact ⟨_, fun _ => rfl⟩ | exact ⟨undef, fun _ => rfl⟩
                apply obl_det
                case hrun =>
                  intro D y wz hW hD R hR
                  have HRR := Lib.hid hR
                  clear hR
                  have HW := Lib.hid hW
                  clear hW hD
                  go_wp2_with fail
                  exact HRR.out _ HW.out
                case hnp => rfl
                case hv => first | exact ⟨_, fun _ => rfl⟩ | exact ⟨undef, fun _ => rfl⟩
                apply obl_det
                case hrun =>
                  intro D y wz hW hD R hR
                  have HRR := Lib.hid hR
                  clear hR
                  have HW := Lib.hid hW
                  clear hW hD
                  go_wp2_with fail
                  exact HRR.out _ HW.out
                case hnp => rfl
                case hv => first | exact ⟨_, fun _ => rfl⟩ | exact ⟨undef, fun _ => rfl⟩
                apply obl_det
                case hrun =>
                  intro D y wz hW hD R hR
                  have HRR := Lib.hid hR
                  clear hR
                  have HW := Lib.hid hW
                  clear hW hD
                  go_wp2_with fail
                  exact HRR.out _ HW.out
                case hnp => rfl
                case hv => first | exact ⟨_, fun _ => rfl⟩ | exact ⟨undef, fun _ => rfl⟩
                apply obl_det
                case hrun =>
                  intro D y wz hW hD R hR
                  have HRR := Lib.hid hR
                  clear hR
                  have HW := Lib.hid hW
                  clear hW hD
                  go_wp2_with fail
                  exact HRR.out _ HW.out
                case hnp => rfl
                case hv => first | exact ⟨_, fun _ => rfl⟩ | exact ⟨undef, fun _ => rfl⟩
                apply obl_det
                case hrun =>
                  intro D y wz hW hD R hR
                  have HRR := Lib.hid hR
                  clear hR
                  have HW := Lib.hid hW
                  clear hW hD
                  go_wp2_with fail
                  exact HRR.out _ HW.out
                case hnp => rfl
                case hv => first | exact ⟨_, fun _ => rfl⟩ | exact ⟨undef, fun _ => rfl⟩
                apply obl_det
                case hrun =>
                  intro D y wz hW hD R hR
                  have HRR := Lib.hid hR
                  clear hR
                  have HW := Lib.hid hW
                  clear hW hD
                  go_wp2_with fail
                  exact HRR.out _ HW.out
                case hnp => rfl
                case hv => first | exact ⟨_, fun _ => rfl⟩ | exact ⟨undef, fun _ => rfl⟩
                apply obl_det
                case hrun =>
                  intro D y wz hW hD R hR
                  have HRR := Lib.hid hR
                  clear hR
                  have HW := Lib.hid hW
                  clear hW hD
                  go_wp2_with fail
                  exact HRR.out _ HW.out
                case hnp => rfl
                case hv => first | exact ⟨_, fun _ => rfl⟩ | exact ⟨undef, fun _ => rfl⟩
                apply obl_det
                case hrun =>
                  intro D y wz hW hD R hR
                  have HRR := Lib.hid hR
                  clear hR
                  have HW := Lib.hid hW
                  clear hW hD
                  go_wp2_with fail
                  exact HRR.out _ HW.out
                case hnp => rfl
                case hv => first | exact ⟨_, fun _ => rfl⟩ | exact ⟨undef, fun _ => rfl⟩
                apply obl_det
                case hrun =>
                  intro D y wz hW hD R hR
                  have HRR := Lib.hid hR
                  clear hR
                  have HW := Lib.hid hW
                  clear hW hD
                  go_wp2_with fail
                  exact HRR.out _ HW.out
                case hnp => rfl
                case hv => first | exact ⟨_, fun _ => rfl⟩ | exact ⟨undef, fun _ => rfl⟩
                apply obl_det
                case hrun =>
                  intro D y wz hW hD R hR
                  have HRR := Lib.hid hR
                  clear hR
                  have HW := Lib.hid hW
                  clear hW hD
                  go_wp2_with fail
                  exact HRR.out _ HW.out
                case hnp => rfl
                case hv => first | exact ⟨_, fun _ => rfl⟩ | exact ⟨undef, fun _ => rfl⟩
                apply obl_det
                case hrun =>
                  intro D y wz hW hD R hR
                  have HRR := Lib.hid hR
                  clear hR
                  have HW := Lib.hid hW
                  clear hW hD
                  go_wp2_with fail
                  exact HRR.out _ HW.out
                case hnp => rfl
                case hv => first | exact ⟨_, fun _ => rfl⟩ | exact ⟨undef, fun _ => rfl⟩
                apply obl_nil
                intro D y w8 hall hW
                have HB10 := Lib.hid (HB9.out.trans (hW.mono HB9.out.size))
                clear hall hW
                go_wp2_with fail
                refine ⟨⟨i + 1, by rw [HN2.out], by push_cast; rfl, by omega, HB10.out⟩, ?_⟩
                simp [intOf]; omega
              have HNX : Hid (BF (i + 1) = inB xt p1 p2) := by unfold Hid; rw [HNX.out]; rfl
              have HIR := fun w => Lib.hid (in_r (BF (i + 1)) xt p1 p2 w HNX.out.symm)
              clear HNX
              refine wp_region_inv0 (by kernel_rfl) (by kernel_rfl) (fun D w' => Below w9.heap.size w9 w') (Below.refl _ _).drew ?_
              apply obl_det
              case hrun =>
                intro D y wz hW hD R hR
                have HRR := Lib.hid hR
                clear hR
                have HW := Lib.hid hW
                clear hW hD
                go_wp2_with fail
                exact HRR.out _ HW.out
              case hnp => rfl
              case hv => first | exact ⟨_, fun _ => rfl⟩ | exact ⟨undef, fun _ => rfl⟩
              apply obl_det
              case hrun =>
                intro D y wz hW hD R hR
                have HRR := Lib.hid hR
                clear hR
                have HW := Lib.hid hW
                clear hW hD
                go_wp2_with fail
                exact HRR.out _ HW.out
              case hnp => rfl
              case hv => first | exact ⟨_, fun _ => rfl⟩ | exact ⟨undef, fun _ => rfl⟩
              apply obl_det
              case hrun =>
                intro D y wz hW hD R hR
                have HRR := Lib.hid hR
                clear hR
                have HW := Lib.hid hW
                clear hW hD
                go_wp2_with fail
                exact HRR.out _ HW.out
              case hnp => rfl
              case hv => first | exact ⟨_, fun _ => rfl⟩ | exact ⟨undef, fun _ => rfl⟩
              apply obl_det
              case hrun =>
                intro D y wz hW hD R hR
                have HRR := Lib.hid hR
                clear hR
                have HW := Lib.hid hW
                have h1 := (CP.out.call HW.out).cell 1 rfl 1
                clear hW hD
                go_wp2_with fail
                exact HRR.out _ HW.out
              case hnp => rfl
              case hv => first | exact ⟨_, fun _ => rfl⟩ | exact ⟨undef, fun _ => rfl⟩
              apply obl_det
              case hrun =>
                intro D y wz hW hD R hR
                have HRR := Lib.hid hR
                clear hR
                have HW := Lib.hid hW
                clear hW hD
                go_wp2_with fail
                exact HRR.out _ HW.out
              case hnp => rfl
              case hv => first | exact ⟨_, fun _ => rfl⟩ | exact ⟨undef, fun _ => rfl⟩
              apply obl_det
              case hrun =>
                intro D y wz hW hD R hR
                have HRR := Lib.hid hR
                clear hR
                have HW := Lib.hid hW
                clear hW hD
                go_wp2_with fail
                exact HRR.out _ HW.out
              case hnp => rfl
              case hv => first | exact ⟨_, fun _ => rfl⟩ | exact ⟨undef, fun _ => rfl⟩
              apply obl_det
              case hrun =>
                intro D y wz hW hD R hR
                have HRR := Lib.hid hR
                clear hR
                have HW := Lib.hid hW
                have HZ := Lib.hid (HBD.out.trans (HW.out.mono HBD.out.size))
                have h1 := (HZ.out.cell (p := ⟨bj, oj + i, none⟩) HUJ.out).trans HJ1.out
                clear hW hD
                go_wp2_with fail
                exact HRR.out _ HW.out
              case hnp => rfl
              case hv => first | exact ⟨_, fun _ => rfl⟩ | exact ⟨undef, fun _ => rfl⟩
              apply obl_det
              case hrun =>
                intro D y wz hW hD R hR
                have HRR := Lib.hid hR
                clear hR
                have HW := Lib.hid hW
                clear hW hD
                go_wp2_with fail
                exact HRR.out _ HW.out
              case hnp => rfl
              case hv => first | exact ⟨_, fun _ => rfl⟩ | exact ⟨undef, fun _ => rfl⟩
              apply obl_det
              case hrun =>
                intro D y wz hW hD R hR
                have HRR := Lib.hid hR
                clear hR
                have HW := Lib.hid hW
                clear hW hD
                go_wp2_with fail
                exact HRR.out _ HW.out
              case hnp => rfl
              case hv => first | exact ⟨_, fun _ => rfl⟩ | exact ⟨undef, fun _ => rfl⟩
              apply obl_det
              case hrun =>
                intro D y wz hW hD R hR
                have HRR := Lib.hid hR
                clear hR
                have HW := Lib.hid hW
                have HZ := Lib.hid (HBD.out.trans (HW.out.mono HBD.out.size))
                have h1 := (HZ.out.cell (p := ⟨bR, oR + t, none⟩) HUR.out).trans HJ2.out
                clear hW hD
                go_wp2_with fail
                exact HRR.out _ HW.out
              case hnp => rfl
              case hv => first | exact ⟨_, fun _ => rfl⟩ | exact ⟨undef, fun _ => rfl⟩
              apply obl_det
              case hrun =>
                intro D y wz hW hD R hR
                have HRR := Lib.hid hR
                clear hR
                have HW := Lib.hid hW
                clear hW hD
                go_wp2_with fail
                exact HRR.out _ HW.out
              case hnp => rfl
              case hv => first | exact ⟨_, fun _ => rfl⟩ | exact ⟨undef, fun _ => rfl⟩
              apply obl_det
              case hrun =>
                intro D y wz hW hD R hR
                have HRR := Lib.hid hR
                clear hR
                have HW := Lib.hid hW
                have h1 := cell_of_row _ _ 0 _ _ _ (block_keep HCE.out HW.out)
                clear hW hD
                go_wp2_with fail
                exact HRR.out _ HW.out
              case hnp => rfl
              case hv => first | exact ⟨_, fun _ => rfl⟩ | exact ⟨undef, fun _ => rfl⟩
              apply obl_det
              case hrun =>
                intro D y wz hW hD R hR
                have HRR := Lib.hid hR
                clear hR
                have HW := Lib.hid hW
                clear hW hD
                go_wp2_with fail
                exact HRR.out _ HW.out
              case hnp => rfl
              case hv => first | exact ⟨_, fun _ => rfl⟩ | exact ⟨undef, fun _ => rfl⟩
              apply obl_det
              case hrun =>
                intro D y wz hW hD R hR
                have HRR := Lib.hid hR
                clear hR
                have HW := Lib.hid hW
                have h1 := cell_of_row _ _ 1 _ _ _ (block_keep HCE.out HW.out)
                clear hW hD
                go_wp2_with fail
                exact HRR.out _ HW.out
              case hnp => rfl
              case hv => first | exact ⟨_, fun _ => rfl⟩ | exact ⟨undef, fun _ => rfl⟩
              apply obl_det
              case hrun =>
                intro D y wz hW hD R hR
                have HRR := Lib.hid hR
                clear hR
                have HW := Lib.hid hW
                clear hW hD
                go_wp2_with fail
                refine (HIR _).out.mono ?_
                rintro e w' ⟨rfl, rfl⟩
                go_wp2_with fail
                exact HRR.out _ HW.out
              case hnp => rfl
              case hv => first | exact ⟨_, fun _ => rfl⟩ | exact ⟨undef, fun _ => rfl⟩
              apply obl_det
              case hrun =>
                intro D y wz hW hD R hR
                have HRR := Lib.hid hR
                clear hR
                have HW := Lib.hid hW
                clear hW hD
                go_wp2_with fail
                exact HRR.out _ HW.out
              case hnp => rfl
              case hv => first | exact ⟨_, fun _ => rfl⟩ | exact ⟨undef, fun _ => rfl⟩
              apply obl_det
              case hrun =>
                intro D y wz hW hD R hR
                have HRR := Lib.hid hR
                clear hR
                have HW := Lib.hid hW
                clear hW hD
                go_wp2_with fail
                exact HRR.out _ HW.out
              case hnp => rfl
              case hv => first | exact ⟨_, fun _ => rfl⟩ | exact ⟨undef, fun _ => rfl⟩
              apply obl_nil
              intro D y w8 hall hW
              have HB10 := Lib.hid (HB9.out.trans (hW.mono HB9.out.size))
              clear hall hW
              go_wp2_with fail
              refine ⟨⟨i + 1, rfl, by push_cast; rfl, by omega, HB10.out⟩, ?_⟩
              simp [intOf]; omega
            · obtain rfl : i = nb := by omega
              rw [HTI.out]
              obtain ⟨r, hr⟩ : ∃ r, TF = r := ⟨_, rfl⟩
              rw [hr]
              have HR := Lib.hid hr
              clear hr HTI
              cases r
              case false =>
                have HE7 : Hid (TE = 7) := by
                  unfold Hid
                  rw [HE.out, if_neg]
                  intro h
                  have := List.all_eq_true.1 h t (List.mem_range.2 htl)
                  rw [HTF.out, HR.out] at this
                  cases this
                go_wp2_with fail
                go_ret
                rw [HE7.out]
                exact ⟨rfl, HBC.out⟩
              go_wp2_with fail
              refine ⟨⟨t + 1, by push_cast; rfl, by omega, HB.out, fun t' h => ?_⟩, ?_⟩
              · by_cases h1 : t' < t
                · exact HIN.out t' h1
                · obtain rfl : t' = t := by omega
                  exact HTF.out.trans HR.out
              · simp [intOf]; omega
    · obtain rfl : t = s.things.length := by omega
      have HE0 : Hid (TE = 0) := by
        unfold Hid
        rw [HE.out, if_pos]
        exact List.all_eq_true.2 fun t ht => HIN.out t (List.mem_range.1 ht)
      go_wp2_with fail
      go_ret
      rw [HE0.out]
      exact ⟨rfl, C2.out.bel.trans (HB.out.mono C2.out.bel.size)⟩
end Go.Proofs.Ytaigbhhmmdfdcaa
