/- ScentBack: the walk. -/
import Derived.Test.YtaigbhhmmdfdcaaY28
namespace Go.Proofs.Ytaigbhhmmdfdcaa
open Go.RowKit
theorem all_step (f : Nat → Bool) (t : Nat) : (List.range (t + 1)).all f = ((List.range t).all f && f t) := by rw [List.range_succ, List.all_append]; simp
theorem take_bad {s : Shop} {l : List Bat} (h : batchesE s l ≠ 0) (lot : Int) : takeV s l lot = ((0, 0), batchesE s l) := by unfold takeV; rw [if_pos h]
set_option maxRecDepth 100000 in
set_option maxHeartbeats 16000000 in
theorem back_law (s : Shop) (l : List Bat) (x0 x1 : Int) (hx0 : 0 ≤ x0 ∧ x0 ≤ 4294967295) (hx1 : 0 ≤ x1 ∧ x1 ≤ 4294967295) (vt vl v : Value) (w : World) (hs : ShopAt w.heap.size w vt vl s) (hl : BatsIn w.heap.size w v l) :
    Calls Try.prog 10 #[.agg #[vt, vl], v, .agg #[.int .u32 x0, .int .u32 x1]] w (fun e w' => e = .returned (.bool true) ∧ Below w.heap.size w w') := by
  have HS := Lib.hid hs
  have HL := Lib.hid hl
  obtain ⟨ta, tc, rfl, -, -⟩ := sl_shape hs.1
  obtain ⟨la, lc, rfl, -, -⟩ := sl_shape hs.2
  obtain ⟨a, c, rfl, hlc, hlen⟩ := sl_shape hl
  clear hs hl
  have C0 : Hid (Bs w [(w.heap.size, .cells #[.slice ta s.things.length tc, .slice la s.lots.length lc] 25), (w.heap.size + 1, .cells #[.int .u32 x0, .int .u32 x1] 77)] _) := ((Bs.nil w).push _ rfl (.cells #[.slice ta s.things.length tc, .slice la s.lots.length lc] 25)).push (w.heap.size + 1) (by simp) (.cells #[.int .u32 x0, .int .u32 x1] 77)
  have hc0 := C0.out.cell 0 rfl 0
  have hc1 := C0.out.cell 0 rfl 1
  have HG : Hid (batchesE s l = 0 → AllGood s l) := all_good
  have HTB : Hid (batchesE s l ≠ 0 → takeV s l 0 = ((0, 0), batchesE s l)) := fun h => take_bad h 0
  have HBF := Lib.hid (fun (hz : batchesE s l = 0) lot hl g hg => @back_facts s l hz lot hl g hg)
  have HMO := Lib.hid (fun (hz : batchesE s l = 0) lot hl g hg => @more_ok s l hz lot hl g hg)
  have H2 := fun w h1 h2 => Lib.hid (batches_ref s l (.slice ta s.things.length tc) (.slice la s.lots.length lc) (.slice a l.length c) w h1 h2)
  have H3 := fun lot w h1 h2 => Lib.hid (take_any s l lot (.slice ta s.things.length tc) (.slice la s.lots.length lc) (.slice a l.length c) w h1 h2)
  unfold RetSpan at H3
  generalize batchesE s l = E at *
  go_enter Try.func10, Try.ntmps10
  go_wp2_with fail
  refine (H2 _ ((HS.out.below C0.out.bel).mono C0.out.bel.size) ((HL.out.below C0.out.bel).mono C0.out.bel.size)).out.mono ?_
  rintro e w1 ⟨rfl, hb⟩
  have C1 := Lib.hid (C0.out.call hb)
  clear hb C0 hc0 hc1 H2
  have hc0 := C1.out.cell 0 rfl 0
  have hc1 := C1.out.cell 0 rfl 1
  by_cases hE : E = 0
  case neg =>
    have hq : (E != 0) = true := by simpa using hE
    have HT0 := Lib.hid (HTB.out hE)
    clear hE HG HTB HBF HMO
    go_wp2_with fail
    refine (H3 0 _ ((HS.out.below C1.out.bel).mono C1.out.bel.size) ((HL.out.below C1.out.bel).mono C1.out.bel.size)).out.mono ?_
    rintro e w2 ⟨rfl, hb⟩
    have C2 := Lib.hid (C1.out.call hb)
    rw [HT0.out]
    simp only
    clear hb C1 hc0 hc1
    go_wp2_with fail
    refine (awake_any _).mono ?_
    rintro e w3 ⟨rfl, hb⟩
    have C3 := Lib.hid ((C2.out.alloc (.cells #[.int .i64 0, .int .i64 0] 51)).call hb)
    clear hb C2
    go_wp2_with fail
    go_ret
    exact ⟨rfl, C3.out.bel⟩
  subst hE
  have HGD := Lib.hid (HG.out rfl)
  have HBQ := Lib.hid (HBF.out rfl)
  have HMQ := Lib.hid (HMO.out rfl)
  obtain ⟨hsh, hn1, hn6, -⟩ := HG.out rfl
  have hnt5 := hsh.nt5
  have hnt1 := hsh.nt1
  have hnl1 := hsh.nl1
  have hnl6 := hsh.nl6
  clear HG HTB HBF HMO hsh
  have ha0 : 0 ≤ x0 % (s.lots.length : Int) := Int.emod_nonneg _ (by omega)
  have ha1 : x0 % (s.lots.length : Int) < s.lots.length := Int.emod_lt_of_pos _ (by omega)
  obtain ⟨lot, hlo⟩ : ∃ d : Nat, x0 % (s.lots.length : Int) = (d : Int) := ⟨(x0 % (s.lots.length : Int)).toNat, by omega⟩
  have hlot : lot < s.lots.length := by omega
  have hloti : (lot : Int) < (s.lots.length : Int) := by omega
  clear ha0 ha1
  obtain ⟨L, hL⟩ : ∃ L, l.length - 1 = L := ⟨_, rfl⟩
  rw [hL] at HBQ HMQ
  have HLE := Lib.hid hL
  have hLl : L < l.length := by omega
  have hLi : (L : Int) < (l.length : Int) := by omega
  have hLE : (l.length : Int) - 1 = (L : Int) := by omega
  clear hL
  have HBO := Lib.hid (bat_ok0 (batchE_zero (HGD.out.pre L hLl)).1)
  obtain ⟨b, o, bG, oG, cG, rfl, hbb, hbG, hg1, hg2⟩ := gram_at HL.out hLl HBO.out.glen hlot
  have HG1 := Lib.hid hg1
  have HG2 := Lib.hid hg2
  have HBB := Lib.hid hbb
  have HUG := Lib.hid hbG
  have hgb := HBO.out.gram lot
  clear hg1 hg2 hbb hbG
  have hy0 := C1.out.cell 1 rfl 0
  go_wp2_with fail
  try rw [hlo]
  try rw [hLE]
  clear hlo hLE hc0 hc1 hy0
  obtain ⟨gl, hgl⟩ : ∃ gl, (l.getD L default).grams.getD lot 0 = gl := ⟨_, rfl⟩
  rw [hgl] at HG2 hgb
  have HGL := Lib.hid hgl
  clear hgl
  have hr0 : 0 ≤ x1 % (100000 - gl + 1) := Int.emod_nonneg _ (by omega)
  have hr1 : x1 % (100000 - gl + 1) < 100000 - gl + 1 := Int.emod_lt_of_pos _ (by omega)
  obtain ⟨g, hg⟩ : ∃ g, x1 % (100000 - gl + 1) = g := ⟨_, rfl⟩
  rw [hg] at hr0 hr1
  have HGE := Lib.hid hg
  clear hg
  have HBA := Lib.hid C1.out.bel
  refine wp_region_inv0 (by kernel_rfl) (by kernel_rfl) (fun D w' => Below w1.heap.size w1 w') (Below.refl _ _).drew ?_
  apply obl_det
  case hrun =>
    intro D y wz hW hD R hR
    have HRR := Lib.hid hR
    clear hR
    have HW := Lib.hid hW
    clear hW hD
    go_wp2_with fail
    exact HRR.out _ HW.out
  case hnp => rfl
  case hv => first | exact ⟨_, fun _ => rfl⟩ | exact ⟨undef, fun _ => rfl⟩
  apply obl_det
  case hrun =>
    intro D y wz hW hD R hR
    have HRR := Lib.hid hR
    clear hR
    have HW := Lib.hid hW
    have h1 := (C1.out.call HW.out).cell 1 rfl 1
    clear hW hD
    go_wp2_with fail
    exact HRR.out _ HW.out
  case hnp => rfl
  case hv => first | exact ⟨_, fun _ => rfl⟩ | exact ⟨undef, fun _ => rfl⟩
  apply obl_det
  case hrun =>
    intro D y wz hW hD R hR
    have HRR := Lib.hid hR
    clear hR
    have HW := Lib.hid hW
    clear hW hD
    go_wp2_with fail
    exact HRR.out _ HW.out
  case hnp => rfl
  case hv => first | exact ⟨_, fun _ => rfl⟩ | exact ⟨undef, fun _ => rfl⟩
  apply obl_det
  case hrun =>
    intro D y wz hW hD R hR
    have HRR := Lib.hid hR
    clear hR
    have HW := Lib.hid hW
    clear hW hD
    go_wp2_with fail
    exact HRR.out _ HW.out
  case hnp => rfl
  case hv => first | exact ⟨_, fun _ => rfl⟩ | exact ⟨undef, fun _ => rfl⟩
  apply obl_det
  case hrun =>
    intro D y wz hW hD R hR
    have HRR := Lib.hid hR
    clear hR
    have HW := Lib.hid hW
    clear hW hD
    go_wp2_with fail
    exact HRR.out _ HW.out
  case hnp => rfl
  case hv => first | exact ⟨_, fun _ => rfl⟩ | exact ⟨undef, fun _ => rfl⟩
  apply obl_det
  case hrun =>
    intro D y wz hW hD R hR
    have HRR := Lib.hid hR
    clear hR
    have HW := Lib.hid hW
    clear hW hD
    go_wp2_with fail
    exact HRR.out _ HW.out
  case hnp => rfl
  case hv => first | exact ⟨_, fun _ => rfl⟩ | exact ⟨undef, fun _ => rfl⟩
  apply obl_det
  case hrun =>
    intro D y wz hW hD R hR
    have HRR := Lib.hid hR
    clear hR
    have HW := Lib.hid hW
    clear hW hD
    go_wp2_with fail
    exact HRR.out _ HW.out
  case hnp => rfl
  case hv => first | exact ⟨_, fun _ => rfl⟩ | exact ⟨undef, fun _ => rfl⟩
  apply obl_det
  case hrun =>
    intro D y wz hW hD R hR
    have HRR := Lib.hid hR
    clear hR
    have HW := Lib.hid hW
    have HZ := Lib.hid (HBA.out.trans (HW.out.mono HBA.out.size))
    have h1 := (HZ.out.cell (p := ⟨b, o + L * 3, none⟩) HBB.out).trans HG1.out
    clear hW hD
    go_wp2_with fail
    exact HRR.out _ HW.out
  case hnp => rfl
  case hv => first | exact ⟨_, fun _ => rfl⟩ | exact ⟨undef, fun _ => rfl⟩
  apply obl_det
  case hrun =>
    intro D y wz hW hD R hR
    have HRR := Lib.hid hR
    clear hR
    have HW := Lib.hid hW
    clear hW hD
    go_wp2_with fail
    exact HRR.out _ HW.out
  case hnp => rfl
  case hv => first | exact ⟨_, fun _ => rfl⟩ | exact ⟨undef, fun _ => rfl⟩
  apply obl_det
  case hrun =>
    intro D y wz hW hD R hR
    have HRR := Lib.hid hR
    clear hR
    have HW := Lib.hid hW
    clear hW hD
    go_wp2_with fail
    exact HRR.out _ HW.out
  case hnp => rfl
  case hv => first | exact ⟨_, fun _ => rfl⟩ | exact ⟨undef, fun _ => rfl⟩
  apply obl_det
  case hrun =>
    intro D y wz hW hD R hR
    have HRR := Lib.hid hR
    clear hR
    have HW := Lib.hid hW
    have HZ := Lib.hid (HBA.out.trans (HW.out.mono HBA.out.size))
    have h1 := (HZ.out.cell (p := ⟨bG, oG + lot, none⟩) HUG.out).trans HG2.out
    clear hW hD
    go_wp2_with fail
    exact HRR.out _ HW.out
  case hnp => rfl
  case hv => first | exact ⟨_, fun _ => rfl⟩ | exact ⟨undef, fun _ => rfl⟩
  apply obl_det
  case hrun =>
    intro D y wz hW hD R hR
    have HRR := Lib.hid hR
    clear hR
    have HW := Lib.hid hW
    clear hW hD
    go_wp2_with fail
    exact HRR.out _ HW.out
  case hnp => rfl
  case hv => first | exact ⟨_, fun _ => rfl⟩ | exact ⟨undef, fun _ => rfl⟩
  apply obl_det
  case hrun =>
    intro D y wz hW hD R hR
    have HRR := Lib.hid hR
    clear hR
    have HW := Lib.hid hW
    clear hW hD
    go_wp2_with fail
    exact HRR.out _ HW.out
  case hnp => rfl
  case hv => first | exact ⟨_, fun _ => rfl⟩ | exact ⟨undef, fun _ => rfl⟩
  apply obl_det
  case hrun =>
    intro D y wz hW hD R hR
    have HRR := Lib.hid hR
    clear hR
    have HW := Lib.hid hW
    clear hW hD
    go_wp2_with fail
    try rw [HGE.out]
    exact HRR.out _ HW.out
  case hnp => rfl
  case hv => first | exact ⟨_, fun _ => rfl⟩ | exact ⟨undef, fun _ => rfl⟩
  apply obl_det
  case hrun =>
    intro D y wz hW hD R hR
    have HRR := Lib.hid hR
    clear hR
    have HW := Lib.hid hW
    clear hW hD
    go_wp2_with fail
    exact HRR.out _ HW.out
  case hnp => rfl
  case hv => first | exact ⟨_, fun _ => rfl⟩ | exact ⟨undef, fun _ => rfl⟩
  apply obl_nil
  intro D y w8 hall hW
  have C2 := Lib.hid (C1.out.call hW)
  clear hall hW C1 HBA HGE
  have hc0 := C2.out.cell 0 rfl 0
  have hc1 := C2.out.cell 0 rfl 1
  have hsum : (l.getD L default).grams.getD lot 0 + g ≤ 100000 := by rw [HGL.out]; omega
  obtain ⟨lo, hi, e9, htk, he9, hlh, hiff⟩ := HBQ.out lot hlot (g := g) ⟨hr0, hsum⟩
  have HTK := Lib.hid htk
  have HIF := Lib.hid hiff
  have HMZ := Lib.hid (HMQ.out lot hlot (g := g) ⟨hr0, hsum⟩)
  rw [HGL.out] at hlh
  have HLH := Lib.hid hlh
  clear htk hiff hlh HBQ HMQ hsum
  go_wp2_with fail
  refine (H3 (lot : Int) _ ((HS.out.below C2.out.bel).mono C2.out.bel.size) ((HL.out.below C2.out.bel).mono C2.out.bel.size)).out.mono ?_
  rintro e w3 ⟨rfl, hb⟩
  have C3 := Lib.hid (C2.out.call hb)
  rw [HTK.out]
  simp only
  clear hb C2 hc0 hc1 H3 HTK
  have C4 := Lib.hid (C3.out.push _ rfl (.cells #[.int .i64 lo, .int .i64 hi] 51))
  obtain ⟨G, hG⟩ : ∃ G, w3.heap.size = G := ⟨_, rfl⟩
  obtain ⟨W4, hW4⟩ : ∃ W, w3.alloc (.cells #[.int .i64 lo, .int .i64 hi] 51) = W := ⟨_, rfl⟩
  rw [hG, hW4] at C4
  go_wp2_with fail
  try rw [hW4]
  try rw [hG]
  clear hG hW4 C3
  have HBA := Lib.hid C4.out.bel

  rcases he9 with h9 | h9
  · rw [h9]
    have H9 := Lib.hid h9
    clear h9
    have K1 : Hid (decide (lo < 0) = false) := decide_eq_false (by have := HLH.out H9.out; omega)
    have K2 : Hid (decide (100000 - gl < hi) = false) := decide_eq_false (by have := HLH.out H9.out; omega)
    have K3 : Hid (decide (hi < lo) = false) := decide_eq_false (by have := HLH.out H9.out; omega)
    refine wp_region_inv0 (by kernel_rfl) (by kernel_rfl) (fun D w' => Below W4.heap.size W4 w') (Below.refl _ _).drew ?_
    apply obl_det
    case hrun =>
      intro D y wz hW hD R hR
      have HRR := Lib.hid hR
      clear hR
      have HW := Lib.hid hW
      clear hW hD
      go_wp2_with fail
      exact HRR.out _ HW.out
    case hnp => rfl
    case hv => first | exact ⟨_, fun _ => rfl⟩ | exact ⟨undef, fun _ => rfl⟩
    apply obl_det
    case hrun =>
      intro D y wz hW hD R hR
      have HRR := Lib.hid hR
      clear hR
      have HW := Lib.hid hW
      clear hW hD
      go_wp2_with fail
      exact HRR.out _ HW.out
    case hnp => rfl
    case hv => first | exact ⟨_, fun _ => rfl⟩ | exact ⟨undef, fun _ => rfl⟩
    apply obl_det
    case hrun =>
      intro D y wz hW hD R hR
      have HRR := Lib.hid hR
      clear hR
      have HW := Lib.hid hW
      clear hW hD
      go_wp2_with fail
      exact HRR.out _ HW.out
    case hnp => rfl
    case hv => first | exact ⟨_, fun _ => rfl⟩ | exact ⟨undef, fun _ => rfl⟩
    apply obl_det
    case hrun =>
      intro D y wz hW hD R hR
      have HRR := Lib.hid hR
      clear hR
      have HW := Lib.hid hW
      clear hW hD
      go_wp2_with fail
      exact HRR.out _ HW.out
    case hnp => rfl
    case hv => first | exact ⟨_, fun _ => rfl⟩ | exact ⟨undef, fun _ => rfl⟩
    apply obl_det
    case hrun =>
      intro D y wz hW hD R hR
      have HRR := Lib.hid hR
      clear hR
      have HW := Lib.hid hW
      clear hW hD
      go_wp2_with fail
      exact HRR.out _ HW.out
    case hnp => rfl
    case hv => first | exact ⟨_, fun _ => rfl⟩ | exact ⟨undef, fun _ => rfl⟩
    apply obl_det
    case hrun =>
      intro D y wz hW hD R hR
      have HRR := Lib.hid hR
      clear hR
      have HW := Lib.hid hW
      clear hW hD
      go_wp2_with fail
      exact HRR.out _ HW.out
    case hnp => rfl
    case hv => first | exact ⟨_, fun _ => rfl⟩ | exact ⟨undef, fun _ => rfl⟩
    apply obl_det
    case hrun =>
      intro D y wz hW hD R hR
      have HRR := Lib.hid hR
      clear hR
      have HW := Lib.hid hW
      clear hW hD
      go_wp2_with fail
      exact HRR.out _ HW.out
    case hnp => rfl
    case hv => first | exact ⟨_, fun _ => rfl⟩ | exact ⟨undef, fun _ => rfl⟩
    apply obl_det
    case hrun =>
      intro D y wz hW hD R hR
      have HRR := Lib.hid hR
      clear hR
      have HW := Lib.hid hW
      clear hW hD
      go_wp2_with fail
      exact HRR.out _ HW.out
    case hnp => rfl
    case hv => first | exact ⟨_, fun _ => rfl⟩ | exact ⟨undef, fun _ => rfl⟩
    apply obl_det
    case hrun =>
      intro D y wz hW hD R hR
      have HRR := Lib.hid hR
      clear hR
      have HW := Lib.hid hW
      clear hW hD
      go_wp2_with fail
      exact HRR.out _ HW.out
    case hnp => rfl
    case hv => first | exact ⟨_, fun _ => rfl⟩ | exact ⟨undef, fun _ => rfl⟩
    apply obl_det
    case hrun =>
      intro D y wz hW hD R hR
      have HRR := Lib.hid hR
      clear hR
      have HW := Lib.hid hW
      clear hW hD
      go_wp2_with fail
      exact HRR.out _ HW.out
    case hnp => rfl
    case hv => first | exact ⟨_, fun _ => rfl⟩ | exact ⟨undef, fun _ => rfl⟩
    apply obl_det
    case hrun =>
      intro D y wz hW hD R hR
      have HRR := Lib.hid hR
      clear hR
      have HW := Lib.hid hW
      clear hW hD
      go_wp2_with fail
      exact HRR.out _ HW.out
    case hnp => rfl
    case hv => first | exact ⟨_, fun _ => rfl⟩ | exact ⟨undef, fun _ => rfl⟩
    apply obl_det
    case hrun =>
      intro D y wz hW hD R hR
      have HRR := Lib.hid hR
      clear hR
      have HW := Lib.hid hW
      have h1 := (C4.out.call HW.out).cell 2 rfl 0
      clear hW hD
      go_wp2_with fail
      exact HRR.out _ HW.out
    case hnp => rfl
    case hv => first | exact ⟨_, fun _ => rfl⟩ | exact ⟨undef, fun _ => rfl⟩
    apply obl_det
    case hrun =>
      intro D y wz hW hD R hR
      have HRR := Lib.hid hR
      clear hR
      have HW := Lib.hid hW
      have h1 := K1.out
      clear hW hD
      go_wp2_with fail
      exact HRR.out _ HW.out
    case hnp => rfl
    case hv => first | exact ⟨_, fun _ => rfl⟩ | exact ⟨undef, fun _ => rfl⟩
    apply obl_det
    case hrun =>
      intro D y wz hW hD R hR
      have HRR := Lib.hid hR
      clear hR
      have HW := Lib.hid hW
      clear hW hD
      go_wp2_with fail
      exact HRR.out _ HW.out
    case hnp => rfl
    case hv => first | exact ⟨_, fun _ => rfl⟩ | exact ⟨undef, fun _ => rfl⟩
    apply obl_det
    case hrun =>
      intro D y wz hW hD R hR
      have HRR := Lib.hid hR
      clear hR
      have HW := Lib.hid hW
      clear hW hD
      go_wp2_with fail
      exact HRR.out _ HW.out
    case hnp => rfl
    case hv => first | exact ⟨_, fun _ => rfl⟩ | exact ⟨undef, fun _ => rfl⟩
    apply obl_det
    case hrun =>
      intro D y wz hW hD R hR
      have HRR := Lib.hid hR
      clear hR
      have HW := Lib.hid hW
      have h1 := (C4.out.call HW.out).cell 2 rfl 1
      clear hW hD
      go_wp2_with fail
      exact HRR.out _ HW.out
    case hnp => rfl
    case hv => first | exact ⟨_, fun _ => rfl⟩ | exact ⟨undef, fun _ => rfl⟩
    apply obl_det
    case hrun =>
      intro D y wz hW hD R hR
      have HRR := Lib.hid hR
      clear hR
      have HW := Lib.hid hW
      clear hW hD
      go_wp2_with fail
      exact HRR.out _ HW.out
    case hnp => rfl
    case hv => first | exact ⟨_, fun _ => rfl⟩ | exact ⟨undef, fun _ => rfl⟩
    apply obl_det
    case hrun =>
      intro D y wz hW hD R hR
      have HRR := Lib.hid hR
      clear hR
      have HW := Lib.hid hW
      clear hW hD
      go_wp2_with fail
      exact HRR.out _ HW.out
    case hnp => rfl
    case hv => first | exact ⟨_, fun _ => rfl⟩ | exact ⟨undef, fun _ => rfl⟩
    apply obl_det
    case hrun =>
      intro D y wz hW hD R hR
      have HRR := Lib.hid hR
      clear hR
      have HW := Lib.hid hW
      clear hW hD
      go_wp2_with fail
      exact HRR.out _ HW.out
    case hnp => rfl
    case hv => first | exact ⟨_, fun _ => rfl⟩ | exact ⟨undef, fun _ => rfl⟩
    apply obl_det
    case hrun =>
      intro D y wz hW hD R hR
      have HRR := Lib.hid hR
      clear hR
      have HW := Lib.hid hW
      clear hW hD
      go_wp2_with fail
      exact HRR.out _ HW.out
    case hnp => rfl
    case hv => first | exact ⟨_, fun _ => rfl⟩ | exact ⟨undef, fun _ => rfl⟩
    apply obl_det
    case hrun =>
      intro D y wz hW hD R hR
      have HRR := Lib.hid hR
      clear hR
      have HW := Lib.hid hW
      have HZ := Lib.hid (HBA.out.trans (HW.out.mono HBA.out.size))
      have h1 := (HZ.out.cell (p := ⟨b, o + L * 3, none⟩) HBB.out).trans HG1.out
      clear hW hD
      go_wp2_with fail
      exact HRR.out _ HW.out
    case hnp => rfl
    case hv => first | exact ⟨_, fun _ => rfl⟩ | exact ⟨undef, fun _ => rfl⟩
    apply obl_det
    case hrun =>
      intro D y wz hW hD R hR
      have HRR := Lib.hid hR
      clear hR
      have HW := Lib.hid hW
      clear hW hD
      go_wp2_with fail
      exact HRR.out _ HW.out
    case hnp => rfl
    case hv => first | exact ⟨_, fun _ => rfl⟩ | exact ⟨undef, fun _ => rfl⟩
    apply obl_det
    case hrun =>
      intro D y wz hW hD R hR
      have HRR := Lib.hid hR
      clear hR
      have HW := Lib.hid hW
      clear hW hD
      go_wp2_with fail
      exact HRR.out _ HW.out
    case hnp => rfl
    case hv => first | exact ⟨_, fun _ => rfl⟩ | exact ⟨undef, fun _ => rfl⟩
    apply obl_det
    case hrun =>
      intro D y wz hW hD R hR
      have HRR := Lib.hid hR
      clear hR
      have HW := Lib.hid hW
      have HZ := Lib.hid (HBA.out.trans (HW.out.mono HBA.out.size))
      have h1 := (HZ.out.cell (p := ⟨bG, oG + lot, none⟩) HUG.out).trans HG2.out
      clear hW hD
      go_wp2_with fail
      exact HRR.out _ HW.out
    case hnp => rfl
    case hv => first | exact ⟨_, fun _ => rfl⟩ | exact ⟨undef, fun _ => rfl⟩
    apply obl_det
    case hrun =>
      intro D y wz hW hD R hR
      have HRR := Lib.hid hR
      clear hR
      have HW := Lib.hid hW
      clear hW hD
      go_wp2_with fail
      exact HRR.out _ HW.out
    case hnp => rfl
    case hv => first | exact ⟨_, fun _ => rfl⟩ | exact ⟨undef, fun _ => rfl⟩
    apply obl_det
    case hrun =>
      intro D y wz hW hD R hR
      have HRR := Lib.hid hR
      clear hR
      have HW := Lib.hid hW
      have h1 := K2.out
      clear hW hD
      go_wp2_with fail
      exact HRR.out _ HW.out
    case hnp => rfl
    case hv => first | exact ⟨_, fun _ => rfl⟩ | exact ⟨undef, fun _ => rfl⟩
    apply obl_det
    case hrun =>
      intro D y wz hW hD R hR
      have HRR := Lib.hid hR
      clear hR
      have HW := Lib.hid hW
      clear hW hD
      go_wp2_with fail
      exact HRR.out _ HW.out
    case hnp => rfl
    case hv => first | exact ⟨_, fun _ => rfl⟩ | exact ⟨undef, fun _ => rfl⟩
    apply obl_det
    case hrun =>
      intro D y wz hW hD R hR
      have HRR := Lib.hid hR
      clear hR
      have HW := Lib.hid hW
      clear hW hD
      go_wp2_with fail
      exact HRR.out _ HW.out
    case hnp => rfl
    case hv => first | exact ⟨_, fun _ => rfl⟩ | exact ⟨undef, fun _ => rfl⟩
    apply obl_det
    case hrun =>
      intro D y wz hW hD R hR
      have HRR := Lib.hid hR
      clear hR
      have HW := Lib.hid hW
      clear hW hD
      go_wp2_with fail
      exact HRR.out _ HW.out
    case hnp => rfl
    case hv => first | exact ⟨_, fun _ => rfl⟩ | exact ⟨undef, fun _ => rfl⟩
    apply obl_det
    case hrun =>
      intro D y wz hW hD R hR
      have HRR := Lib.hid hR
      clear hR
      have HW := Lib.hid hW
      have h1 := (C4.out.call HW.out).cell 2 rfl 0
      clear hW hD
      go_wp2_with fail
      exact HRR.out _ HW.out
    case hnp => rfl
    case hv => first | exact ⟨_, fun _ => rfl⟩ | exact ⟨undef, fun _ => rfl⟩
    apply obl_det
    case hrun =>
      intro D y wz hW hD R hR
      have HRR := Lib.hid hR
      clear hR
      have HW := Lib.hid hW
      clear hW hD
      go_wp2_with fail
      exact HRR.out _ HW.out
    case hnp => rfl
    case hv => first | exact ⟨_, fun _ => rfl⟩ | exact ⟨undef, fun _ => rfl⟩
    apply obl_det
    case hrun =>
      intro D y wz hW hD R hR
      have HRR := Lib.hid hR
      clear hR
      have HW := Lib.hid hW
      have h1 := (C4.out.call HW.out).cell 2 rfl 1
      clear hW hD
      go_wp2_with fail
      exact HRR.out _ HW.out
    case hnp => rfl
    case hv => first | exact ⟨_, fun _ => rfl⟩ | exact ⟨undef, fun _ => rfl⟩
    apply obl_det
    case hrun =>
      intro D y wz hW hD R hR
      have HRR := Lib.hid hR
      clear hR
      have HW := Lib.hid hW
      have h1 := K3.out
      clear hW hD
      go_wp2_with fail
      exact HRR.out _ HW.out
    case hnp => rfl
    case hv => first | exact ⟨_, fun _ => rfl⟩ | exact ⟨undef, fun _ => rfl⟩
    apply obl_det
    case hrun =>
      intro D y wz hW hD R hR
      have HRR := Lib.hid hR
      clear hR
      have HW := Lib.hid hW
      clear hW hD
      go_wp2_with fail
      exact HRR.out _ HW.out
    case hnp => rfl
    case hv => first | exact ⟨_, fun _ => rfl⟩ | exact ⟨undef, fun _ => rfl⟩
    apply obl_det
    case hrun =>
      intro D y wz hW hD R hR
      have HRR := Lib.hid hR
      clear hR
      have HW := Lib.hid hW
      clear hW hD
      go_wp2_with fail
      exact HRR.out _ HW.out
    case hnp => rfl
    case hv => first | exact ⟨_, fun _ => rfl⟩ | exact ⟨undef, fun _ => rfl⟩
    apply obl_det
    case hrun =>
      intro D y wz hW hD R hR
      have HRR := Lib.hid hR
      clear hR
      have HW := Lib.hid hW
      clear hW hD
      go_wp2_with fail
      exact HRR.out _ HW.out
    case hnp => rfl
    case hv => first | exact ⟨_, fun _ => rfl⟩ | exact ⟨undef, fun _ => rfl⟩
    apply obl_nil
    intro D y w5 hall hW
    have C5 := Lib.hid (C4.out.call hW)
    clear hall hW C4 HBA
    clear K1 K2 K3
    have HMR := fun w h => Lib.hid (more_ref l lot g (.slice (some ⟨b, o, none⟩) l.length c) w h hn1 hn6 (by rw [HLE.out, HBO.out.glen]; exact hlot) (by rw [HLE.out, HBO.out.glen]; exact hnl6) (by rw [HLE.out]; exact HBO.out.gram lot) ⟨hr0, by omega⟩)
    have HML := Lib.hid (moreL_len l lot g)
    have HMW : Hid (weightV ((moreL l lot g).getD L default) = weightV (l.getD L default) + g) := by
      unfold Hid
      rw [← HLE.out, moreL_last hn1, moreB_weight _ g (by rw [HLE.out, HBO.out.glen]; exact hlot)]
    obtain ⟨M, hM⟩ : ∃ M, moreL l lot g = M := ⟨_, rfl⟩
    rw [hM] at HIF HMZ HML HMW
    simp only [hM] at HMR
    clear hM
    go_wp2_with fail
    refine (HMR _ ((HL.out.below C5.out.bel).mono C5.out.bel.size)).out.mono ?_
    rintro e w6 ⟨tm, rfl, hm, hb⟩
    have C6 := Lib.hid (C5.out.call hb)
    have HLM := Lib.hid hm
    obtain ⟨am, cm, rfl, -, -⟩ := sl_shape hm
    rw [HML.out] at HLM ⊢
    clear hm hb C5 HMR
    have hc0 := C6.out.cell 0 rfl 0
    have hc1 := C6.out.cell 0 rfl 1
    have HCM := fun w h1 h2 => Lib.hid (content_any s M (.slice ta s.things.length tc) (.slice la s.lots.length lc) (.slice am l.length cm) w h1 h2)
    unfold RetTable at HCM
    have hcv : contentV s M = rangesV s M := by unfold contentV; rw [if_neg (by simp [HMZ.out])]
    rw [hcv, HMZ.out] at HCM
    clear hcv
    have HGM := Lib.hid (all_good HMZ.out)
    go_wp2_with fail
    refine (HCM _ ((HS.out.below C6.out.bel).mono C6.out.bel.size) HLM.out).out.mono ?_
    rintro e w7 ⟨tv, rfl, ht, hb⟩
    have C7 := Lib.hid (C6.out.call hb)
    have HB67 := Lib.hid hb
    have HT := Lib.hid ht
    obtain ⟨va, vc, rfl, -, -⟩ := sl_shape ht
    rw [rangesV_length, HML.out] at HT ⊢
    clear ht hb C6 hc0 hc1 HCM
    have hq : ((l.length : Int) != (l.length : Int)) = false := by simp
    have hLM : L < M.length := by rw [HML.out]; exact hLl
    obtain ⟨tb, to, bT, oT, cT, rfl, htb, hbT, hq3, -, -⟩ := table_at HT.out (i := L) (by rw [rangesV_length]; exact hLM) (row_len s M hLM) (t := 0) (by omega)
    obtain ⟨bm, om, rfl, hbm, u1, u2, u3, hd1, hd2, hd3, hwt⟩ := weigh HGM.out hLM HLM.out
    have HQ3 := Lib.hid hq3
    have HUT := Lib.hid htb
    have HD1 := Lib.hid hd1
    have HD2 := Lib.hid hd2
    have HD3 := Lib.hid hd3
    have HUM := Lib.hid hbm
    have HWT := Lib.hid hwt
    have hwb := HGM.out.pre.pos HGM.out.sh HGM.out.n6 (Nat.le_refl _) hLM
    have HWF : Hid ((List.range s.things.length).all (fun t => decide ((micV s M L t).2 ≤ (s.things.getD t default).limit * (weightV (l.getD L default) + g))) = decide (e9 = 0 ∧ lo ≤ g ∧ g ≤ hi)) := by
      unfold Hid
      rw [Bool.eq_iff_iff, List.all_eq_true, decide_eq_true_eq, HIF.out]
      constructor
      · intro h t ht; exact of_decide_eq_true (h t (List.mem_range.2 ht))
      · intro h t ht; exact decide_eq_true (h t (List.mem_range.1 ht))
    have HWS := Lib.hid (fun t => all_step (fun t => decide ((micV s M L t).2 ≤ (s.things.getD t default).limit * (weightV (l.getD L default) + g))) t)
    rw [← HMW.out] at HWF
    simp only [← HMW.out] at HWS
    have HWZ : Hid ((List.range 0).all (fun t => decide ((micV s M L t).2 ≤ (s.things.getD t default).limit * weightV (M.getD L default))) = true) := rfl
    obtain ⟨WF, hWF⟩ : ∃ f : Nat → Bool, (fun n => (List.range n).all (fun t => decide ((micV s M L t).2 ≤ (s.things.getD t default).limit * weightV (M.getD L default)))) = f := ⟨_, rfl⟩
    have HWF : Hid (WF s.things.length = decide (e9 = 0 ∧ lo ≤ g ∧ g ≤ hi)) := by rw [← hWF]; exact HWF
    have HWZ : Hid (WF 0 = true) := by rw [← hWF]; exact HWZ
    have HWS : Hid (∀ t, WF (t + 1) = (WF t && decide ((micV s M L t).2 ≤ (s.things.getD t default).limit * weightV (M.getD L default)))) := by rw [← hWF]; exact HWS
    clear hWF hq3 htb hd1 hd2 hd3 hbm hwt hbT HMW HIF HMZ
    go_wp2_with fail
    clear hq
    go_loopw [17, 18] (fun bv iv wr => ∃ t : Nat, bv = .bool (WF t) ∧ iv = .int .i64 t ∧ t ≤ s.things.length ∧ Below w7.heap.size w7 wr) (fun _ iv _ => s.things.length - (intOf iv).toNat)
    case atStart => exact ⟨0, by rw [HWZ.out], rfl, by omega, Below.refl _ _⟩
    case round =>
      obtain ⟨t, rfl, rfl, ht, hb⟩ := hrel
      have HBR := Lib.hid hb
      clear hb
      have CR := Lib.hid (C7.out.call HBR.out)
      have hs0 := CR.out.cell 0 rfl 0
      have hk0 := (HBR.out.cell (p := ⟨tb, to + L, none⟩) HUT.out).trans HQ3.out
      by_cases htl : t < s.things.length
      · have hti : (t : Int) < (s.things.length : Int) := by omega
        have HNX := Lib.hid (HWS.out t)
        obtain ⟨r, hr⟩ : ∃ r, WF t = r := ⟨_, rfl⟩
        rw [hr] at HNX ⊢
        clear hr
        cases r
        case false =>
          have HN2 : Hid (WF (t + 1) = false) := by unfold Hid; rw [HNX.out]; rfl
          clear HNX
          go_wp2_with fail
          clear hs0 hk0
          refine wp_region_inv0 (by kernel_rfl) (by kernel_rfl) (fun D w' => Below wr.heap.size wr w') (Below.refl _ _).drew ?_
          apply obl_det
          case hrun =>
            intro D y wz hW hD R hR
            have HRR := Lib.hid hR
            clear hR
            have HW := Lib.hid hW
            clear hW hD
            go_wp2_with fail
            exact HRR.out _ HW.out
          case hnp => rfl
          case hv => first | exact ⟨_, fun _ => rfl⟩ | exact ⟨undef, fun _ => rfl⟩
          apply obl_det
          case hrun =>
            intro D y wz hW hD R hR
            have HRR := Lib.hid hR
            clear hR
            have HW := Lib.hid hW
            clear hW hD
            go_wp2_with fail
            exact HRR.out _ HW.out
          case hnp => rfl
          case hv => first | exact ⟨_, fun _ => rfl⟩ | exact ⟨undef, fun _ => rfl⟩
          apply obl_det
          case hrun =>
            intro D y wz hW hD R hR
            have HRR := Lib.hid hR
            clear hR
            have HW := Lib.hid hW
            clear hW hD
            go_wp2_with fail
            exact HRR.out _ HW.out
          case hnp => rfl
          case hv => first | exact ⟨_, fun _ => rfl⟩ | exact ⟨undef, fun _ => rfl⟩
          apply obl_det
          case hrun =>
            intro D y wz hW hD R hR
            have HRR := Lib.hid hR
            clear hR
            have HW := Lib.hid hW
            clear hW hD
            go_wp2_with fail
            exact HRR.out _ HW.out
          case hnp => rfl
          case hv => first | exact ⟨_, fun _ => rfl⟩ | exact ⟨undef, fun _ => rfl⟩
          apply obl_det
          case hrun =>
            intro D y wz hW hD R hR
            have HRR := Lib.hid hR
            clear hR
            have HW := Lib.hid hW
            clear hW hD
            go_wp2_with fail
            exact HRR.out _ HW.out
          case hnp => rfl
          case hv => first | exact ⟨_, fun _ => rfl⟩ | exact ⟨undef, fun _ => rfl⟩
          apply obl_det
          case hrun =>
            intro D y wz hW hD R hR
            have HRR := Lib.hid hR
            clear hR
            have HW := Lib.hid hW
            clear hW hD
            go_wp2_with fail
            exact HRR.out _ HW.out
          case hnp => rfl
          case hv => first | exact ⟨_, fun _ => rfl⟩ | exact ⟨undef, fun _ => rfl⟩
          apply obl_det
          case hrun =>
            intro D y wz hW hD R hR
            have HRR := Lib.hid hR
            clear hR
            have HW := Lib.hid hW
            clear hW hD
            go_wp2_with fail
            exact HRR.out _ HW.out
          case hnp => rfl
          case hv => first | exact ⟨_, fun _ => rfl⟩ | exact ⟨undef, fun _ => rfl⟩
          apply obl_det
          case hrun =>
            intro D y wz hW hD R hR
            have HRR := Lib.hid hR
            clear hR
            have HW := Lib.hid hW
            clear hW hD
            go_wp2_with fail
            exact HRR.out _ HW.out
          case hnp => rfl
          case hv => first | exact ⟨_, fun _ => rfl⟩ | exact ⟨undef, fun _ => rfl⟩
          apply obl_det
          case hrun =>
            intro D y wz hW hD R hR
            have HRR := Lib.hid hR
            clear hR
            have HW := Lib.hid hW
            clear hW hD
            go_wp2_with fail
            exact HRR.out _ HW.out
          case hnp => rfl
          case hv => first | exact ⟨_, fun _ => rfl⟩ | exact ⟨undef, fun _ => rfl⟩
          apply obl_det
          case hrun =>
            intro D y wz hW hD R hR
            have HRR := Lib.hid hR
            clear hR
            have HW := Lib.hid hW
            clear hW hD
            go_wp2_with fail
            exact HRR.out _ HW.out
          case hnp => rfl
          case hv => first | exact ⟨_, fun _ => rfl⟩ | exact ⟨undef, fun _ => rfl⟩
          apply obl_det
          case hrun =>
            intro D y wz hW hD R hR
            have HRR := Lib.hid hR
            clear hR
            have HW := Lib.hid hW
            clear hW hD
            go_wp2_with fail
            exact HRR.out _ HW.out
          case hnp => rfl
          case hv => first | exact ⟨_, fun _ => rfl⟩ | exact ⟨undef, fun _ => rfl⟩
          apply obl_det
          case hrun =>
            intro D y wz hW hD R hR
            have HRR := Lib.hid hR
            clear hR
            have HW := Lib.hid hW
            clear hW hD
            go_wp2_with fail
            exact HRR.out _ HW.out
          case hnp => rfl
          case hv => first | exact ⟨_, fun _ => rfl⟩ | exact ⟨undef, fun _ => rfl⟩
          apply obl_det
          case hrun =>
            intro D y wz hW hD R hR
            have HRR := Lib.hid hR
            clear hR
            have HW := Lib.hid hW
            clear hW hD
            go_wp2_with fail
            exact HRR.out _ HW.out
          case hnp => rfl
          case hv => first | exact ⟨_, fun _ => rfl⟩ | exact ⟨undef, fun _ => rfl⟩
          apply obl_det
          case hrun =>
            intro D y wz hW hD R hR
            have HRR := Lib.hid hR
            clear hR
            have HW := Lib.hid hW
            clear hW hD
            go_wp2_with fail
            exact HRR.out _ HW.out
          case hnp => rfl
          case hv => first | exact ⟨_, fun _ => rfl⟩ | exact ⟨undef, fun _ => rfl⟩
          apply obl_det
          case hrun =>
            intro D y wz hW hD R hR
            have HRR := Lib.hid hR
            clear hR
            have HW := Lib.hid hW
            clear hW hD
            go_wp2_with fail
            exact HRR.out _ HW.out
          case hnp => rfl
          case hv => first | exact ⟨_, fun _ => rfl⟩ | exact ⟨undef, fun _ => rfl⟩
          apply obl_det
          case hrun =>
            intro D y wz hW hD R hR
            have HRR := Lib.hid hR
            clear hR
            have HW := Lib.hid hW
            clear hW hD
            go_wp2_with fail
            exact HRR.out _ HW.out
          case hnp => rfl
          case hv => first | exact ⟨_, fun _ => rfl⟩ | exact ⟨undef, fun _ => rfl⟩
          apply obl_det
          case hrun =>
            intro D y wz hW hD R hR
            have HRR := Lib.hid hR
            clear hR
            have HW := Lib.hid hW
            clear hW hD
            go_wp2_with fail
            exact HRR.out _ HW.out
          case hnp => rfl
          case hv => first | exact ⟨_, fun _ => rfl⟩ | exact ⟨undef, fun _ => rfl⟩
          apply obl_det
          case hrun =>
            intro D y wz hW hD R hR
            have HRR := Lib.hid hR
            clear hR
            have HW := Lib.hid hW
            clear hW hD
            go_wp2_with fail
            exact HRR.out _ HW.out
          case hnp => rfl
          case hv => first | exact ⟨_, fun _ => rfl⟩ | exact ⟨undef, fun _ => rfl⟩
          apply obl_det
          case hrun =>
            intro D y wz hW hD R hR
            have HRR := Lib.hid hR
            clear hR
            have HW := Lib.hid hW
            clear hW hD
            go_wp2_with fail
            exact HRR.out _ HW.out
          case hnp => rfl
          case hv => first | exact ⟨_, fun _ => rfl⟩ | exact ⟨undef, fun _ => rfl⟩
          apply obl_det
          case hrun =>
            intro D y wz hW hD R hR
            have HRR := Lib.hid hR
            clear hR
            have HW := Lib.hid hW
            clear hW hD
            go_wp2_with fail
            exact HRR.out _ HW.out
          case hnp => rfl
          case hv => first | exact ⟨_, fun _ => rfl⟩ | exact ⟨undef, fun _ => rfl⟩
          apply obl_det
          case hrun =>
            intro D y wz hW hD R hR
            have HRR := Lib.hid hR
            clear hR
            have HW := Lib.hid hW
            clear hW hD
            go_wp2_with fail
            exact HRR.out _ HW.out
          case hnp => rfl
          case hv => first | exact ⟨_, fun _ => rfl⟩ | exact ⟨undef, fun _ => rfl⟩
          apply obl_det
          case hrun =>
            intro D y wz hW hD R hR
            have HRR := Lib.hid hR
            clear hR
            have HW := Lib.hid hW
            clear hW hD
            go_wp2_with fail
            exact HRR.out _ HW.out
          case hnp => rfl
          case hv => first | exact ⟨_, fun _ => rfl⟩ | exact ⟨undef, fun _ => rfl⟩
          apply obl_det
          case hrun =>
            intro D y wz hW hD R hR
            have HRR := Lib.hid hR
            clear hR
            have HW := Lib.hid hW
            clear hW hD
            go_wp2_with fail
            exact HRR.out _ HW.out
          case hnp => rfl
          case hv => first | exact ⟨_, fun _ => rfl⟩ | exact ⟨undef, fun _ => rfl⟩
          apply obl_det
          case hrun =>
            intro D y wz hW hD R hR
            have HRR := Lib.hid hR
            clear hR
            have HW := Lib.hid hW
            clear hW hD
            go_wp2_with fail
            exact HRR.out _ HW.out
          case hnp => rfl
          case hv => first | exact ⟨_, fun _ => rfl⟩ | exact ⟨undef, fun _ => rfl⟩
          apply obl_det
          case hrun =>
            intro D y wz hW hD R hR
            have HRR := Lib.hid hR
            clear hR
            have HW := Lib.hid hW
            clear hW hD
            go_wp2_with fail
            exact HRR.out _ HW.out
          case hnp => rfl
          case hv => first | exact ⟨_, fun _ => rfl⟩ | exact ⟨undef, fun _ => rfl⟩
          apply obl_nil
          intro D y w8 hall hW
          have HB8 := Lib.hid (HBR.out.trans (hW.mono HBR.out.size))
          clear hall hW
          go_wp2_with fail
          refine ⟨⟨t + 1, by rw [HN2.out], by push_cast; rfl, by omega, HB8.out⟩, ?_⟩
          simp [intOf]; omega
        have HBA := Lib.hid CR.out.bel
        have HB6 := Lib.hid (HB67.out.trans (HBR.out.mono HB67.out.size))
        obtain ⟨tb', to', bT', oT', cT', he, -, hbT2, hp0, -, hp2⟩ := table_at HT.out (i := L) (by rw [rangesV_length]; exact hLM) (row_len s M hLM) htl
        cases he
        have e0 := hp0.symm.trans HQ3.out
        obtain ⟨rfl, rfl, rfl⟩ : bT' = bT ∧ oT' = oT ∧ cT' = cT := by simpa [and_assoc] using e0
        have HP2 : Hid (w7.cell? ⟨bT', oT' + t * 2 + 1, none⟩ = some (.int .i64 (micV s M L t).2)) := hp2
        have HUP := Lib.hid hbT2
        obtain ⟨b3, o3, rfl, hb3, hl3⟩ := limit_at HS.out.1 htl
        have HL3 := Lib.hid hl3
        have HU3 := Lib.hid hb3
        have hlim := HGM.out.sh.limit t htl
        have hmb := mic_ok HGM.out.sh HGM.out.n6 (k := L) (fun j hj => HGM.out.pre j (by omega)) hLM t
        clear hp0 hp2 hbT2 e0 hl3 hb3
        generalize (s.things.getD t default).limit = LM at *
        generalize (micV s M L t) = MC at *
        obtain ⟨mc1, mc2⟩ := MC
        simp only at HP2 HNX hmb
        obtain ⟨WM, hWM⟩ : ∃ WM, weightV (M.getD L default) = WM := ⟨_, rfl⟩
        rw [hWM] at hwb HNX
        have HWT2 := Lib.hid (fun w h => HWT.out w h)
        rw [hWM] at HWT2
        clear hWM
        have hm := mul_bound hlim (show 0 ≤ WM ∧ WM ≤ 1200000 by omega)
        have HWP : Hid (wrap64 (LM * WM) = LM * WM) := by unfold Hid wrap64; omega
        obtain ⟨P, hP⟩ : ∃ P, LM * WM = P := ⟨_, rfl⟩
        rw [hP] at HWP HNX hm
        have HH := Lib.hid hP
        clear hP
        go_wp2_with fail
        clear hs0 hk0
        refine wp_region_inv0 (by kernel_rfl) (by kernel_rfl) (fun D w' => Below wr.heap.size wr w') (Below.refl _ _).drew ?_
        apply obl_det
        case hrun =>
          intro D y wz hW hD R hR
          have HRR := Lib.hid hR
          clear hR
          have HW := Lib.hid hW
          clear hW hD
          go_wp2_with fail
          exact HRR.out _ HW.out
        case hnp => rfl
        case hv => first | exact ⟨_, fun _ => rfl⟩ | exact ⟨undef, fun _ => rfl⟩
        apply obl_det
        case hrun =>
          intro D y wz hW hD R hR
          have HRR := Lib.hid hR
          clear hR
          have HW := Lib.hid hW
          clear hW hD
          go_wp2_with fail
          exact HRR.out _ HW.out
        case hnp => rfl
        case hv => first | exact ⟨_, fun _ => rfl⟩ | exact ⟨undef, fun _ => rfl⟩
        apply obl_det
        case hrun =>
          intro D y wz hW hD R hR
          have HRR := Lib.hid hR
          clear hR
          have HW := Lib.hid hW
          clear hW hD
          go_wp2_with fail
          exact HRR.out _ HW.out
        case hnp => rfl
        case hv => first | exact ⟨_, fun _ => rfl⟩ | exact ⟨undef, fun _ => rfl⟩
        apply obl_det
        case hrun =>
          intro D y wz hW hD R hR
          have HRR := Lib.hid hR
          clear hR
          have HW := Lib.hid hW
          clear hW hD
          go_wp2_with fail
          exact HRR.out _ HW.out
        case hnp => rfl
        case hv => first | exact ⟨_, fun _ => rfl⟩ | exact ⟨undef, fun _ => rfl⟩
        apply obl_det
        case hrun =>
          intro D y wz hW hD R hR
          have HRR := Lib.hid hR
          clear hR
          have HW := Lib.hid hW
          clear hW hD
          go_wp2_with fail
          exact HRR.out _ HW.out
        case hnp => rfl
        case hv => first | exact ⟨_, fun _ => rfl⟩ | exact ⟨undef, fun _ => rfl⟩
        apply obl_det
        case hrun =>
          intro D y wz hW hD R hR
          have HRR := Lib.hid hR
          clear hR
          have HW := Lib.hid hW
          have HY := Lib.hid (HBR.out.trans (HW.out.mono HBR.out.size))
          have h1 := (HY.out.cell (p := ⟨tb, to + L, none⟩) HUT.out).trans HQ3.out
          clear hW hD
          go_wp2_with fail
          exact HRR.out _ HW.out
        case hnp => rfl
        case hv => first | exact ⟨_, fun _ => rfl⟩ | exact ⟨undef, fun _ => rfl⟩
        apply obl_det
        case hrun =>
          intro D y wz hW hD R hR
          have HRR := Lib.hid hR
          clear hR
          have HW := Lib.hid hW
          clear hW hD
          go_wp2_with fail
          exact HRR.out _ HW.out
        case hnp => rfl
        case hv => first | exact ⟨_, fun _ => rfl⟩ | exact ⟨undef, fun _ => rfl⟩
        apply obl_det
        case hrun =>
          intro D y wz hW hD R hR
          have HRR := Lib.hid hR
          clear hR
          have HW := Lib.hid hW
          clear hW hD
          go_wp2_with fail
          exact HRR.out _ HW.out
        case hnp => rfl
        case hv => first | exact ⟨_, fun _ => rfl⟩ | exact ⟨undef, fun _ => rfl⟩
        apply obl_det
        case hrun =>
          intro D y wz hW hD R hR
          have HRR := Lib.hid hR
          clear hR
          have HW := Lib.hid hW
          clear hW hD
          go_wp2_with fail
          exact HRR.out _ HW.out
        case hnp => rfl
        case hv => first | exact ⟨_, fun _ => rfl⟩ | exact ⟨undef, fun _ => rfl⟩
        apply obl_det
        case hrun =>
          intro D y wz hW hD R hR
          have HRR := Lib.hid hR
          clear hR
          have HW := Lib.hid hW
          have HY := Lib.hid (HBR.out.trans (HW.out.mono HBR.out.size))
          have h1 := (HY.out.cell (p := ⟨bT', oT' + t * 2 + 1, none⟩) HUP.out).trans HP2.out
          clear hW hD
          go_wp2_with fail
          exact HRR.out _ HW.out
        case hnp => rfl
        case hv => first | exact ⟨_, fun _ => rfl⟩ | exact ⟨undef, fun _ => rfl⟩
        apply obl_det
        case hrun =>
          intro D y wz hW hD R hR
          have HRR := Lib.hid hR
          clear hR
          have HW := Lib.hid hW
          clear hW hD
          go_wp2_with fail
          exact HRR.out _ HW.out
        case hnp => rfl
        case hv => first | exact ⟨_, fun _ => rfl⟩ | exact ⟨undef, fun _ => rfl⟩
        apply obl_det
        case hrun =>
          intro D y wz hW hD R hR
          have HRR := Lib.hid hR
          clear hR
          have HW := Lib.hid hW
          have h1 := (CR.out.call HW.out).cell 0 rfl 0
          clear hW hD
          go_wp2_with fail
          exact HRR.out _ HW.out
        case hnp => rfl
        case hv => first | exact ⟨_, fun _ => rfl⟩ | exact ⟨undef, fun _ => rfl⟩
        apply obl_det
        case hrun =>
          intro D y wz hW hD R hR
          have HRR := Lib.hid hR
          clear hR
          have HW := Lib.hid hW
          clear hW hD
          go_wp2_with fail
          exact HRR.out _ HW.out
        case hnp => rfl
        case hv => first | exact ⟨_, fun _ => rfl⟩ | exact ⟨undef, fun _ => rfl⟩
        apply obl_det
        case hrun =>
          intro D y wz hW hD R hR
          have HRR := Lib.hid hR
          clear hR
          have HW := Lib.hid hW
          clear hW hD
          go_wp2_with fail
          exact HRR.out _ HW.out
        case hnp => rfl
        case hv => first | exact ⟨_, fun _ => rfl⟩ | exact ⟨undef, fun _ => rfl⟩
        apply obl_det
        case hrun =>
          intro D y wz hW hD R hR
          have HRR := Lib.hid hR
          clear hR
          have HW := Lib.hid hW
          clear hW hD
          go_wp2_with fail
          exact HRR.out _ HW.out
        case hnp => rfl
        case hv => first | exact ⟨_, fun _ => rfl⟩ | exact ⟨undef, fun _ => rfl⟩
        apply obl_det
        case hrun =>
          intro D y wz hW hD R hR
          have HRR := Lib.hid hR
          clear hR
          have HW := Lib.hid hW
          have HZ := Lib.hid (HBA.out.trans (HW.out.mono HBA.out.size))
          have h1 := (HZ.out.cell (p := ⟨b3, o3 + t * 5 + 2, none⟩) HU3.out).trans HL3.out
          clear hW hD
          go_wp2_with fail
          exact HRR.out _ HW.out
        case hnp => rfl
        case hv => first | exact ⟨_, fun _ => rfl⟩ | exact ⟨undef, fun _ => rfl⟩
        apply obl_det
        case hrun =>
          intro D y wz hW hD R hR
          have HRR := Lib.hid hR
          clear hR
          have HW := Lib.hid hW
          clear hW hD
          go_wp2_with fail
          exact HRR.out _ HW.out
        case hnp => rfl
        case hv => first | exact ⟨_, fun _ => rfl⟩ | exact ⟨undef, fun _ => rfl⟩
        apply obl_det
        case hrun =>
          intro D y wz hW hD R hR
          have HRR := Lib.hid hR
          clear hR
          have HW := Lib.hid hW
          clear hW hD
          go_wp2_with fail
          exact HRR.out _ HW.out
        case hnp => rfl
        case hv => first | exact ⟨_, fun _ => rfl⟩ | exact ⟨undef, fun _ => rfl⟩
        apply obl_det
        case hrun =>
          intro D y wz hW hD R hR
          have HRR := Lib.hid hR
          clear hR
          have HW := Lib.hid hW
          clear hW hD
          go_wp2_with fail
          exact HRR.out _ HW.out
        case hnp => rfl
        case hv => first | exact ⟨_, fun _ => rfl⟩ | exact ⟨undef, fun _ => rfl⟩
        apply obl_det
        case hrun =>
          intro D y wz hW hD R hR
          have HRR := Lib.hid hR
          clear hR
          have HW := Lib.hid hW
          have HX := Lib.hid (HB6.out.trans (HW.out.mono HB6.out.size))
          have h1 := (HX.out.cell (p := ⟨bm, om + L * 3, none⟩) HUM.out).trans HD1.out
          have h2 := (HX.out.cell (p := ⟨bm, om + L * 3 + 1, none⟩) HUM.out).trans HD2.out
          have h3 := (HX.out.cell (p := ⟨bm, om + L * 3 + 2, none⟩) HUM.out).trans HD3.out
          clear hW hD
          go_wp2_with fail
          exact HRR.out _ HW.out
        case hnp => rfl
        case hv => first | exact ⟨_, fun _ => rfl⟩ | exact ⟨undef, fun _ => rfl⟩
        apply obl_det
        case hrun =>
          intro D y wz hW hD R hR
          have HRR := Lib.hid hR
          clear hR
          have HW := Lib.hid hW
          have HX := Lib.hid (HB6.out.trans (HW.out.mono HB6.out.size))
          clear hW hD
          go_wp2_with fail
          refine (HWT2.out _ HX.out).mono ?_
          rintro e w' ⟨rfl, hb⟩
          have HW2 := Lib.hid (HW.out.trans (hb.mono HW.out.size))
          clear hb
          go_wp2_with fail
          exact HRR.out _ HW2.out
        case hnp => rfl
        case hv => first | exact ⟨_, fun _ => rfl⟩ | exact ⟨undef, fun _ => rfl⟩
        apply obl_det
        case hrun =>
          intro D y wz hW hD R hR
          have HRR := Lib.hid hR
          clear hR
          have HW := Lib.hid hW
          clear hW hD
          go_wp2_with fail
          rw [HH.out, HWP.out]
          exact HRR.out _ HW.out
        case hnp => rfl
        case hv => first | exact ⟨_, fun _ => rfl⟩ | exact ⟨undef, fun _ => rfl⟩
        apply obl_det
        case hrun =>
          intro D y wz hW hD R hR
          have HRR := Lib.hid hR
          clear hR
          have HW := Lib.hid hW
          clear hW hD
          go_wp2_with fail
          exact HRR.out _ HW.out
        case hnp => rfl
        case hv => first | exact ⟨_, fun _ => rfl⟩ | exact ⟨undef, fun _ => rfl⟩
        apply obl_det
        case hrun =>
          intro D y wz hW hD R hR
          have HRR := Lib.hid hR
          clear hR
          have HW := Lib.hid hW
          clear hW hD
          go_wp2_with fail
          exact HRR.out _ HW.out
        case hnp => rfl
        case hv => first | exact ⟨_, fun _ => rfl⟩ | exact ⟨undef, fun _ => rfl⟩
        apply obl_det
        case hrun =>
          intro D y wz hW hD R hR
          have HRR := Lib.hid hR
          clear hR
          have HW := Lib.hid hW
          clear hW hD
          go_wp2_with fail
          exact HRR.out _ HW.out
        case hnp => rfl
        case hv => first | exact ⟨_, fun _ => rfl⟩ | exact ⟨undef, fun _ => rfl⟩
        apply obl_nil
        intro D y w8 hall hW
        have HB8 := Lib.hid (HBR.out.trans (hW.mono HBR.out.size))
        clear hall hW
        go_wp2_with fail
        refine ⟨⟨t + 1, by rw [HNX.out]; rfl, by push_cast; rfl, by omega, HB8.out⟩, ?_⟩
        simp [intOf]; omega
      · obtain rfl : t = s.things.length := by omega
        rw [HWF.out]
        have h20 := CR.out.cell 2 rfl 0
        have h21 := CR.out.cell 2 rfl 1
        clear hk0
        by_cases j1 : lo ≤ g
        · by_cases j2 : g ≤ hi
          · rw [show decide (e9 = 0 ∧ lo ≤ g ∧ g ≤ hi) = true from decide_eq_true ⟨H9.out, j1, j2⟩]
            have i1 : decide (lo ≤ g) = true := decide_eq_true j1
            have i2 : decide (g ≤ hi) = true := decide_eq_true j2
            go_wp2_with fail
            refine (awake_any _).mono ?_
            rintro e w14 ⟨rfl, hb⟩
            have CX := Lib.hid (CR.out.call hb)
            clear hb CR HBR
            go_wp2_with fail
            go_ret
            exact ⟨rfl, CX.out.bel⟩
          · rw [show decide (e9 = 0 ∧ lo ≤ g ∧ g ≤ hi) = false from decide_eq_false (fun h => j2 h.2.2)]
            have i1 : decide (lo ≤ g) = true := decide_eq_true j1
            have i2 : decide (g ≤ hi) = false := decide_eq_false j2
            clear j2
            go_wp2_with fail
            refine (awake_any _).mono ?_
            rintro e w14 ⟨rfl, hb⟩
            have CX := Lib.hid (CR.out.call hb)
            clear hb CR HBR
            go_wp2_with fail
            go_ret
            exact ⟨rfl, CX.out.bel⟩
        · rw [show decide (e9 = 0 ∧ lo ≤ g ∧ g ≤ hi) = false from decide_eq_false (fun h => j1 h.2.1)]
          have i1 : decide (lo ≤ g) = false := decide_eq_false j1
          clear j1
          go_wp2_with fail
          refine (awake_any _).mono ?_
          rintro e w14 ⟨rfl, hb⟩
          have CX := Lib.hid (CR.out.call hb)
          clear hb CR HBR
          go_wp2_with fail
          go_ret
          exact ⟨rfl, CX.out.bel⟩
  · rw [h9]
    have H9 := Lib.hid h9
    clear h9
    refine wp_region_inv0 (by kernel_rfl) (by kernel_rfl) (fun D w' => Below W4.heap.size W4 w') (Below.refl _ _).drew ?_
    apply obl_det
    case hrun =>
      intro D y wz hW hD R hR
      have HRR := Lib.hid hR
      clear hR
      have HW := Lib.hid hW
      clear hW hD
      go_wp2_with fail
      exact HRR.out _ HW.out
    case hnp => rfl
    case hv => first | exact ⟨_, fun _ => rfl⟩ | exact ⟨undef, fun _ => rfl⟩
    apply obl_det
    case hrun =>
      intro D y wz hW hD R hR
      have HRR := Lib.hid hR
      clear hR
      have HW := Lib.hid hW
      clear hW hD
      go_wp2_with fail
      exact HRR.out _ HW.out
    case hnp => rfl
    case hv => first | exact ⟨_, fun _ => rfl⟩ | exact ⟨undef, fun _ => rfl⟩
    apply obl_det
    case hrun =>
      intro D y wz hW hD R hR
      have HRR := Lib.hid hR
      clear hR
      have HW := Lib.hid hW
      clear hW hD
      go_wp2_with fail
      exact HRR.out _ HW.out
    case hnp => rfl
    case hv => first | exact ⟨_, fun _ => rfl⟩ | exact ⟨undef, fun _ => rfl⟩
    apply obl_det
    case hrun =>
      intro D y wz hW hD R hR
      have HRR := Lib.hid hR
      clear hR
      have HW := Lib.hid hW
      clear hW hD
      go_wp2_with fail
      exact HRR.out _ HW.out
    case hnp => rfl
    case hv => first | exact ⟨_, fun _ => rfl⟩ | exact ⟨undef, fun _ => rfl⟩
    apply obl_det
    case hrun =>
      intro D y wz hW hD R hR
      have HRR := Lib.hid hR
      clear hR
      have HW := Lib.hid hW
      clear hW hD
      go_wp2_with fail
      exact HRR.out _ HW.out
    case hnp => rfl
    case hv => first | exact ⟨_, fun _ => rfl⟩ | exact ⟨undef, fun _ => rfl⟩
    apply obl_det
    case hrun =>
      intro D y wz hW hD R hR
      have HRR := Lib.hid hR
      clear hR
      have HW := Lib.hid hW
      clear hW hD
      go_wp2_with fail
      exact HRR.out _ HW.out
    case hnp => rfl
    case hv => first | exact ⟨_, fun _ => rfl⟩ | exact ⟨undef, fun _ => rfl⟩
    apply obl_det
    case hrun =>
      intro D y wz hW hD R hR
      have HRR := Lib.hid hR
      clear hR
      have HW := Lib.hid hW
      clear hW hD
      go_wp2_with fail
      exact HRR.out _ HW.out
    case hnp => rfl
    case hv => first | exact ⟨_, fun _ => rfl⟩ | exact ⟨undef, fun _ => rfl⟩
    apply obl_det
    case hrun =>
      intro D y wz hW hD R hR
      have HRR := Lib.hid hR
      clear hR
      have HW := Lib.hid hW
      clear hW hD
      go_wp2_with fail
      exact HRR.out _ HW.out
    case hnp => rfl
    case hv => first | exact ⟨_, fun _ => rfl⟩ | exact ⟨undef, fun _ => rfl⟩
    apply obl_det
    case hrun =>
      intro D y wz hW hD R hR
      have HRR := Lib.hid hR
      clear hR
      have HW := Lib.hid hW
      clear hW hD
      go_wp2_with fail
      exact HRR.out _ HW.out
    case hnp => rfl
    case hv => first | exact ⟨_, fun _ => rfl⟩ | exact ⟨undef, fun _ => rfl⟩
    apply obl_det
    case hrun =>
      intro D y wz hW hD R hR
      have HRR := Lib.hid hR
      clear hR
      have HW := Lib.hid hW
      clear hW hD
      go_wp2_with fail
      exact HRR.out _ HW.out
    case hnp => rfl
    case hv => first | exact ⟨_, fun _ => rfl⟩ | exact ⟨undef, fun _ => rfl⟩
    apply obl_det
    case hrun =>
      intro D y wz hW hD R hR
      have HRR := Lib.hid hR
      clear hR
      have HW := Lib.hid hW
      clear hW hD
      go_wp2_with fail
      exact HRR.out _ HW.out
    case hnp => rfl
    case hv => first | exact ⟨_, fun _ => rfl⟩ | exact ⟨undef, fun _ => rfl⟩
    apply obl_det
    case hrun =>
      intro D y wz hW hD R hR
      have HRR := Lib.hid hR
      clear hR
      have HW := Lib.hid hW
      clear hW hD
      go_wp2_with fail
      exact HRR.out _ HW.out
    case hnp => rfl
    case hv => first | exact ⟨_, fun _ => rfl⟩ | exact ⟨undef, fun _ => rfl⟩
    apply obl_det
    case hrun =>
      intro D y wz hW hD R hR
      have HRR := Lib.hid hR
      clear hR
      have HW := Lib.hid hW
      clear hW hD
      go_wp2_with fail
      exact HRR.out _ HW.out
    case hnp => rfl
    case hv => first | exact ⟨_, fun _ => rfl⟩ | exact ⟨undef, fun _ => rfl⟩
    apply obl_det
    case hrun =>
      intro D y wz hW hD R hR
      have HRR := Lib.hid hR
      clear hR
      have HW := Lib.hid hW
      clear hW hD
      go_wp2_with fail
      exact HRR.out _ HW.out
    case hnp => rfl
    case hv => first | exact ⟨_, fun _ => rfl⟩ | exact ⟨undef, fun _ => rfl⟩
    apply obl_det
    case hrun =>
      intro D y wz hW hD R hR
      have HRR := Lib.hid hR
      clear hR
      have HW := Lib.hid hW
      clear hW hD
      go_wp2_with fail
      exact HRR.out _ HW.out
    case hnp => rfl
    case hv => first | exact ⟨_, fun _ => rfl⟩ | exact ⟨undef, fun _ => rfl⟩
    apply obl_det
    case hrun =>
      intro D y wz hW hD R hR
      have HRR := Lib.hid hR
      clear hR
      have HW := Lib.hid hW
      clear hW hD
      go_wp2_with fail
      exact HRR.out _ HW.out
    case hnp => rfl
    case hv => first | exact ⟨_, fun _ => rfl⟩ | exact ⟨undef, fun _ => rfl⟩
    apply obl_det
    case hrun =>
      intro D y wz hW hD R hR
      have HRR := Lib.hid hR
      clear hR
      have HW := Lib.hid hW
      clear hW hD
      go_wp2_with fail
      exact HRR.out _ HW.out
    case hnp => rfl
    case hv => first | exact ⟨_, fun _ => rfl⟩ | exact ⟨undef, fun _ => rfl⟩
    apply obl_det
    case hrun =>
      intro D y wz hW hD R hR
      have HRR := Lib.hid hR
      clear hR
      have HW := Lib.hid hW
      clear hW hD
      go_wp2_with fail
      exact HRR.out _ HW.out
    case hnp => rfl
    case hv => first | exact ⟨_, fun _ => rfl⟩ | exact ⟨undef, fun _ => rfl⟩
    apply obl_det
    case hrun =>
      intro D y wz hW hD R hR
      have HRR := Lib.hid hR
      clear hR
      have HW := Lib.hid hW
      clear hW hD
      go_wp2_with fail
      exact HRR.out _ HW.out
    case hnp => rfl
    case hv => first | exact ⟨_, fun _ => rfl⟩ | exact ⟨undef, fun _ => rfl⟩
    apply obl_det
    case hrun =>
      intro D y wz hW hD R hR
      have HRR := Lib.hid hR
      clear hR
      have HW := Lib.hid hW
      clear hW hD
      go_wp2_with fail
      exact HRR.out _ HW.out
    case hnp => rfl
    case hv => first | exact ⟨_, fun _ => rfl⟩ | exact ⟨undef, fun _ => rfl⟩
    apply obl_det
    case hrun =>
      intro D y wz hW hD R hR
      have HRR := Lib.hid hR
      clear hR
      have HW := Lib.hid hW
      clear hW hD
      go_wp2_with fail
      exact HRR.out _ HW.out
    case hnp => rfl
    case hv => first | exact ⟨_, fun _ => rfl⟩ | exact ⟨undef, fun _ => rfl⟩
    apply obl_det
    case hrun =>
      intro D y wz hW hD R hR
      have HRR := Lib.hid hR
      clear hR
      have HW := Lib.hid hW
      clear hW hD
      go_wp2_with fail
      exact HRR.out _ HW.out
    case hnp => rfl
    case hv => first | exact ⟨_, fun _ => rfl⟩ | exact ⟨undef, fun _ => rfl⟩
    apply obl_det
    case hrun =>
      intro D y wz hW hD R hR
      have HRR := Lib.hid hR
      clear hR
      have HW := Lib.hid hW
      clear hW hD
      go_wp2_with fail
      exact HRR.out _ HW.out
    case hnp => rfl
    case hv => first | exact ⟨_, fun _ => rfl⟩ | exact ⟨undef, fun _ => rfl⟩
    apply obl_det
    case hrun =>
      intro D y wz hW hD R hR
      have HRR := Lib.hid hR
      clear hR
      have HW := Lib.hid hW
      clear hW hD
      go_wp2_with fail
      exact HRR.out _ HW.out
    case hnp => rfl
    case hv => first | exact ⟨_, fun _ => rfl⟩ | exact ⟨undef, fun _ => rfl⟩
    apply obl_det
    case hrun =>
      intro D y wz hW hD R hR
      have HRR := Lib.hid hR
      clear hR
      have HW := Lib.hid hW
      clear hW hD
      go_wp2_with fail
      exact HRR.out _ HW.out
    case hnp => rfl
    case hv => first | exact ⟨_, fun _ => rfl⟩ | exact ⟨undef, fun _ => rfl⟩
    apply obl_det
    case hrun =>
      intro D y wz hW hD R hR
      have HRR := Lib.hid hR
      clear hR
      have HW := Lib.hid hW
      clear hW hD
      go_wp2_with fail
      exact HRR.out _ HW.out
    case hnp => rfl
    case hv => first | exact ⟨_, fun _ => rfl⟩ | exact ⟨undef, fun _ => rfl⟩
    apply obl_det
    case hrun =>
      intro D y wz hW hD R hR
      have HRR := Lib.hid hR
      clear hR
      have HW := Lib.hid hW
      clear hW hD
      go_wp2_with fail
      exact HRR.out _ HW.out
    case hnp => rfl
    case hv => first | exact ⟨_, fun _ => rfl⟩ | exact ⟨undef, fun _ => rfl⟩
    apply obl_det
    case hrun =>
      intro D y wz hW hD R hR
      have HRR := Lib.hid hR
      clear hR
      have HW := Lib.hid hW
      clear hW hD
      go_wp2_with fail
      exact HRR.out _ HW.out
    case hnp => rfl
    case hv => first | exact ⟨_, fun _ => rfl⟩ | exact ⟨undef, fun _ => rfl⟩
    apply obl_det
    case hrun =>
      intro D y wz hW hD R hR
      have HRR := Lib.hid hR
      clear hR
      have HW := Lib.hid hW
      clear hW hD
      go_wp2_with fail
      exact HRR.out _ HW.out
    case hnp => rfl
    case hv => first | exact ⟨_, fun _ => rfl⟩ | exact ⟨undef, fun _ => rfl⟩
    apply obl_det
    case hrun =>
      intro D y wz hW hD R hR
      have HRR := Lib.hid hR
      clear hR
      have HW := Lib.hid hW
      clear hW hD
      go_wp2_with fail
      exact HRR.out _ HW.out
    case hnp => rfl
    case hv => first | exact ⟨_, fun _ => rfl⟩ | exact ⟨undef, fun _ => rfl⟩
    apply obl_det
    case hrun =>
      intro D y wz hW hD R hR
      have HRR := Lib.hid hR
      clear hR
      have HW := Lib.hid hW
      clear hW hD
      go_wp2_with fail
      exact HRR.out _ HW.out
    case hnp => rfl
    case hv => first | exact ⟨_, fun _ => rfl⟩ | exact ⟨undef, fun _ => rfl⟩
    apply obl_det
    case hrun =>
      intro D y wz hW hD R hR
      have HRR := Lib.hid hR
      clear hR
      have HW := Lib.hid hW
      clear hW hD
      go_wp2_with fail
      exact HRR.out _ HW.out
    case hnp => rfl
    case hv => first | exact ⟨_, fun _ => rfl⟩ | exact ⟨undef, fun _ => rfl⟩
    apply obl_det
    case hrun =>
      intro D y wz hW hD R hR
      have HRR := Lib.hid hR
      clear hR
      have HW := Lib.hid hW
      clear hW hD
      go_wp2_with fail
      exact HRR.out _ HW.out
    case hnp => rfl
    case hv => first | exact ⟨_, fun _ => rfl⟩ | exact ⟨undef, fun _ => rfl⟩
    apply obl_det
    case hrun =>
      intro D y wz hW hD R hR
      have HRR := Lib.hid hR
      clear hR
      have HW := Lib.hid hW
      clear hW hD
      go_wp2_with fail
      exact HRR.out _ HW.out
    case hnp => rfl
    case hv => first | exact ⟨_, fun _ => rfl⟩ | exact ⟨undef, fun _ => rfl⟩
    apply obl_det
    case hrun =>
      intro D y wz hW hD R hR
      have HRR := Lib.hid hR
      clear hR
      have HW := Lib.hid hW
      clear hW hD
      go_wp2_with fail
      exact HRR.out _ HW.out
    case hnp => rfl
    case hv => first | exact ⟨_, fun _ => rfl⟩ | exact ⟨undef, fun _ => rfl⟩
    apply obl_det
    case hrun =>
      intro D y wz hW hD R hR
      have HRR := Lib.hid hR
      clear hR
      have HW := Lib.hid hW
      clear hW hD
      go_wp2_with fail
      exact HRR.out _ HW.out
    case hnp => rfl
    case hv => first | exact ⟨_, fun _ => rfl⟩ | exact ⟨undef, fun _ => rfl⟩
    apply obl_nil
    intro D y w5 hall hW
    have C5 := Lib.hid (C4.out.call hW)
    clear hall hW C4 HBA
    have HMR := fun w h => Lib.hid (more_ref l lot g (.slice (some ⟨b, o, none⟩) l.length c) w h hn1 hn6 (by rw [HLE.out, HBO.out.glen]; exact hlot) (by rw [HLE.out, HBO.out.glen]; exact hnl6) (by rw [HLE.out]; exact HBO.out.gram lot) ⟨hr0, by omega⟩)
    have HML := Lib.hid (moreL_len l lot g)
    have HMW : Hid (weightV ((moreL l lot g).getD L default) = weightV (l.getD L default) + g) := by
      unfold Hid
      rw [← HLE.out, moreL_last hn1, moreB_weight _ g (by rw [HLE.out, HBO.out.glen]; exact hlot)]
    obtain ⟨M, hM⟩ : ∃ M, moreL l lot g = M := ⟨_, rfl⟩
    rw [hM] at HIF HMZ HML HMW
    simp only [hM] at HMR
    clear hM
    go_wp2_with fail
    refine (HMR _ ((HL.out.below C5.out.bel).mono C5.out.bel.size)).out.mono ?_
    rintro e w6 ⟨tm, rfl, hm, hb⟩
    have C6 := Lib.hid (C5.out.call hb)
    have HLM := Lib.hid hm
    obtain ⟨am, cm, rfl, -, -⟩ := sl_shape hm
    rw [HML.out] at HLM ⊢
    clear hm hb C5 HMR
    have hc0 := C6.out.cell 0 rfl 0
    have hc1 := C6.out.cell 0 rfl 1
    have HCM := fun w h1 h2 => Lib.hid (content_any s M (.slice ta s.things.length tc) (.slice la s.lots.length lc) (.slice am l.length cm) w h1 h2)
    unfold RetTable at HCM
    have hcv : contentV s M = rangesV s M := by unfold contentV; rw [if_neg (by simp [HMZ.out])]
    rw [hcv, HMZ.out] at HCM
    clear hcv
    have HGM := Lib.hid (all_good HMZ.out)
    go_wp2_with fail
    refine (HCM _ ((HS.out.below C6.out.bel).mono C6.out.bel.size) HLM.out).out.mono ?_
    rintro e w7 ⟨tv, rfl, ht, hb⟩
    have C7 := Lib.hid (C6.out.call hb)
    have HB67 := Lib.hid hb
    have HT := Lib.hid ht
    obtain ⟨va, vc, rfl, -, -⟩ := sl_shape ht
    rw [rangesV_length, HML.out] at HT ⊢
    clear ht hb C6 hc0 hc1 HCM
    have hq : ((l.length : Int) != (l.length : Int)) = false := by simp
    have hLM : L < M.length := by rw [HML.out]; exact hLl
    obtain ⟨tb, to, bT, oT, cT, rfl, htb, hbT, hq3, -, -⟩ := table_at HT.out (i := L) (by rw [rangesV_length]; exact hLM) (row_len s M hLM) (t := 0) (by omega)
    obtain ⟨bm, om, rfl, hbm, u1, u2, u3, hd1, hd2, hd3, hwt⟩ := weigh HGM.out hLM HLM.out
    have HQ3 := Lib.hid hq3
    have HUT := Lib.hid htb
    have HD1 := Lib.hid hd1
    have HD2 := Lib.hid hd2
    have HD3 := Lib.hid hd3
    have HUM := Lib.hid hbm
    have HWT := Lib.hid hwt
    have hwb := HGM.out.pre.pos HGM.out.sh HGM.out.n6 (Nat.le_refl _) hLM
    have HWF : Hid ((List.range s.things.length).all (fun t => decide ((micV s M L t).2 ≤ (s.things.getD t default).limit * (weightV (l.getD L default) + g))) = decide (e9 = 0 ∧ lo ≤ g ∧ g ≤ hi)) := by
      unfold Hid
      rw [Bool.eq_iff_iff, List.all_eq_true, decide_eq_true_eq, HIF.out]
      constructor
      · intro h t ht; exact of_decide_eq_true (h t (List.mem_range.2 ht))
      · intro h t ht; exact decide_eq_true (h t (List.mem_range.1 ht))
    have HWS := Lib.hid (fun t => all_step (fun t => decide ((micV s M L t).2 ≤ (s.things.getD t default).limit * (weightV (l.getD L default) + g))) t)
    rw [← HMW.out] at HWF
    simp only [← HMW.out] at HWS
    have HWZ : Hid ((List.range 0).all (fun t => decide ((micV s M L t).2 ≤ (s.things.getD t default).limit * weightV (M.getD L default))) = true) := rfl
    obtain ⟨WF, hWF⟩ : ∃ f : Nat → Bool, (fun n => (List.range n).all (fun t => decide ((micV s M L t).2 ≤ (s.things.getD t default).limit * weightV (M.getD L default)))) = f := ⟨_, rfl⟩
    have HWF : Hid (WF s.things.length = decide (e9 = 0 ∧ lo ≤ g ∧ g ≤ hi)) := by rw [← hWF]; exact HWF
    have HWZ : Hid (WF 0 = true) := by rw [← hWF]; exact HWZ
    have HWS : Hid (∀ t, WF (t + 1) = (WF t && decide ((micV s M L t).2 ≤ (s.things.getD t default).limit * weightV (M.getD L default)))) := by rw [← hWF]; exact HWS
    clear hWF hq3 htb hd1 hd2 hd3 hbm hwt hbT HMW HIF HMZ
    go_wp2_with fail
    clear hq
    go_loopw [17, 18] (fun bv iv wr => ∃ t : Nat, bv = .bool (WF t) ∧ iv = .int .i64 t ∧ t ≤ s.things.length ∧ Below w7.heap.size w7 wr) (fun _ iv _ => s.things.length - (intOf iv).toNat)
    case atStart => exact ⟨0, by rw [HWZ.out], rfl, by omega, Below.refl _ _⟩
    case round =>
      obtain ⟨t, rfl, rfl, ht, hb⟩ := hrel
      have HBR := Lib.hid hb
      clear hb
      have CR := Lib.hid (C7.out.call HBR.out)
      have hs0 := CR.out.cell 0 rfl 0
      have hk0 := (HBR.out.cell (p := ⟨tb, to + L, none⟩) HUT.out).trans HQ3.out
      by_cases htl : t < s.things.length
      · have hti : (t : Int) < (s.things.length : Int) := by omega
        have HNX := Lib.hid (HWS.out t)
        obtain ⟨r, hr⟩ : ∃ r, WF t = r := ⟨_, rfl⟩
        rw [hr] at HNX ⊢
        clear hr
        cases r
        case false =>
          have HN2 : Hid (WF (t + 1) = false) := by unfold Hid; rw [HNX.out]; rfl
          clear HNX
          go_wp2_with fail
          clear hs0 hk0
          refine wp_region_inv0 (by kernel_rfl) (by kernel_rfl) (fun D w' => Below wr.heap.size wr w') (Below.refl _ _).drew ?_
          apply obl_det
          case hrun =>
            intro D y wz hW hD R hR
            have HRR := Lib.hid hR
            clear hR
            have HW := Lib.hid hW
            clear hW hD
            go_wp2_with fail
            exact HRR.out _ HW.out
          case hnp => rfl
          case hv => first | exact ⟨_, fun _ => rfl⟩ | exact ⟨undef, fun _ => rfl⟩
          apply obl_det
          case hrun =>
            intro D y wz hW hD R hR
            have HRR := Lib.hid hR
            clear hR
            have HW := Lib.hid hW
            clear hW hD
            go_wp2_with fail
            exact HRR.out _ HW.out
          case hnp => rfl
          case hv => first | exact ⟨_, fun _ => rfl⟩ | exact ⟨undef, fun _ => rfl⟩
          apply obl_det
          case hrun =>
            intro D y wz hW hD R hR
            have HRR := Lib.hid hR
            clear hR
            have HW := Lib.hid hW
            clear hW hD
            go_wp2_with fail
            exact HRR.out _ HW.out
          case hnp => rfl
          case hv => first | exact ⟨_, fun _ => rfl⟩ | exact ⟨undef, fun _ => rfl⟩
          apply obl_det
          case hrun =>
            intro D y wz hW hD R hR
            have HRR := Lib.hid hR
            clear hR
            have HW := Lib.hid hW
            clear hW hD
            go_wp2_with fail
            exact HRR.out _ HW.out
          case hnp => rfl
          case hv => first | exact ⟨_, fun _ => rfl⟩ | exact ⟨undef, fun _ => rfl⟩
          apply obl_det
          case hrun =>
            intro D y wz hW hD R hR
            have HRR := Lib.hid hR
            clear hR
            have HW := Lib.hid hW
            clear hW hD
            go_wp2_with fail
            exact HRR.out _ HW.out
          case hnp => rfl
          case hv => first | exact ⟨_, fun _ => rfl⟩ | exact ⟨undef, fun _ => rfl⟩
          apply obl_det
          case hrun =>
            intro D y wz hW hD R hR
            have HRR := Lib.hid hR
            clear hR
            have HW := Lib.hid hW
            clear hW hD
            go_wp2_with fail
            exact HRR.out _ HW.out
          case hnp => rfl
          case hv => first | exact ⟨_, fun _ => rfl⟩ | exact ⟨undef, fun _ => rfl⟩
          apply obl_det
          case hrun =>
            intro D y wz hW hD R hR
            have HRR := Lib.hid hR
            clear hR
            have HW := Lib.hid hW
            clear hW hD
            go_wp2_with fail
            exact HRR.out _ HW.out
          case hnp => rfl
          case hv => first | exact ⟨_, fun _ => rfl⟩ | exact ⟨undef, fun _ => rfl⟩
          apply obl_det
          case hrun =>
            intro D y wz hW hD R hR
            have HRR := Lib.hid hR
            clear hR
            have HW := Lib.hid hW
            clear hW hD
            go_wp2_with fail
            exact HRR.out _ HW.out
          case hnp => rfl
          case hv => first | exact ⟨_, fun _ => rfl⟩ | exact ⟨undef, fun _ => rfl⟩
          apply obl_det
          case hrun =>
            intro D y wz hW hD R hR
            have HRR := Lib.hid hR
            clear hR
            have HW := Lib.hid hW
            clear hW hD
            go_wp2_with fail
            exact HRR.out _ HW.out
          case hnp => rfl
          case hv => first | exact ⟨_, fun _ => rfl⟩ | exact ⟨undef, fun _ => rfl⟩
          apply obl_det
          case hrun =>
            intro D y wz hW hD R hR
            have HRR := Lib.hid hR
            clear hR
            have HW := Lib.hid hW
            clear hW hD
            go_wp2_with fail
            exact HRR.out _ HW.out
          case hnp => rfl
          case hv => first | exact ⟨_, fun _ => rfl⟩ | exact ⟨undef, fun _ => rfl⟩
          apply obl_det
          case hrun =>
            intro D y wz hW hD R hR
            have HRR := Lib.hid hR
            clear hR
            have HW := Lib.hid hW
            clear hW hD
            go_wp2_with fail
            exact HRR.out _ HW.out
          case hnp => rfl
          case hv => first | exact ⟨_, fun _ => rfl⟩ | exact ⟨undef, fun _ => rfl⟩
          apply obl_det
          case hrun =>
            intro D y wz hW hD R hR
            have HRR := Lib.hid hR
            clear hR
            have HW := Lib.hid hW
            clear hW hD
            go_wp2_with fail
            exact HRR.out _ HW.out
          case hnp => rfl
          case hv => first | exact ⟨_, fun _ => rfl⟩ | exact ⟨undef, fun _ => rfl⟩
          apply obl_det
          case hrun =>
            intro D y wz hW hD R hR
            have HRR := Lib.hid hR
            clear hR
            have HW := Lib.hid hW
            clear hW hD
            go_wp2_with fail
            exact HRR.out _ HW.out
          case hnp => rfl
          case hv => first | exact ⟨_, fun _ => rfl⟩ | exact ⟨undef, fun _ => rfl⟩
          apply obl_det
          case hrun =>
            intro D y wz hW hD R hR
            have HRR := Lib.hid hR
            clear hR
            have HW := Lib.hid hW
            clear hW hD
            go_wp2_with fail
            exact HRR.out _ HW.out
          case hnp => rfl
          case hv => first | exact ⟨_, fun _ => rfl⟩ | exact ⟨undef, fun _ => rfl⟩
          apply obl_det
          case hrun =>
            intro D y wz hW hD R hR
            have HRR := Lib.hid hR
            clear hR
            have HW := Lib.hid hW
            clear hW hD
            go_wp2_with fail
            exact HRR.out _ HW.out
          case hnp => rfl
          case hv => first | exact ⟨_, fun _ => rfl⟩ | exact ⟨undef, fun _ => rfl⟩
          apply obl_det
          case hrun =>
            intro D y wz hW hD R hR
            have HRR := Lib.hid hR
            clear hR
            have HW := Lib.hid hW
            clear hW hD
            go_wp2_with fail
            exact HRR.out _ HW.out
          case hnp => rfl
          case hv => first | exact ⟨_, fun _ => rfl⟩ | exact ⟨undef, fun _ => rfl⟩
          apply obl_det
          case hrun =>
            intro D y wz hW hD R hR
            have HRR := Lib.hid hR
            clear hR
            have HW := Lib.hid hW
            clear hW hD
            go_wp2_with fail
            exact HRR.out _ HW.out
          case hnp => rfl
          case hv => first | exact ⟨_, fun _ => rfl⟩ | exact ⟨undef, fun _ => rfl⟩
          apply obl_det
          case hrun =>
            intro D y wz hW hD R hR
            have HRR := Lib.hid hR
            clear hR
            have HW := Lib.hid hW
            clear hW hD
            go_wp2_with fail
            exact HRR.out _ HW.out
          case hnp => rfl
          case hv => first | exact ⟨_, fun _ => rfl⟩ | exact ⟨undef, fun _ => rfl⟩
          apply obl_det
          case hrun =>
            intro D y wz hW hD R hR
            have HRR := Lib.hid hR
            clear hR
            have HW := Lib.hid hW
            clear hW hD
            go_wp2_with fail
            exact HRR.out _ HW.out
          case hnp => rfl
          case hv => first | exact ⟨_, fun _ => rfl⟩ | exact ⟨undef, fun _ => rfl⟩
          apply obl_det
          case hrun =>
            intro D y wz hW hD R hR
            have HRR := Lib.hid hR
            clear hR
            have HW := Lib.hid hW
            clear hW hD
            go_wp2_with fail
            exact HRR.out _ HW.out
          case hnp => rfl
          case hv => first | exact ⟨_, fun _ => rfl⟩ | exact ⟨undef, fun _ => rfl⟩
          apply obl_det
          case hrun =>
            intro D y wz hW hD R hR
            have HRR := Lib.hid hR
            clear hR
            have HW := Lib.hid hW
            clear hW hD
            go_wp2_with fail
            exact HRR.out _ HW.out
          case hnp => rfl
          case hv => first | exact ⟨_, fun _ => rfl⟩ | exact ⟨undef, fun _ => rfl⟩
          apply obl_det
          case hrun =>
            intro D y wz hW hD R hR
            have HRR := Lib.hid hR
            clear hR
            have HW := Lib.hid hW
            clear hW hD
            go_wp2_with fail
            exact HRR.out _ HW.out
          case hnp => rfl
          case hv => first | exact ⟨_, fun _ => rfl⟩ | exact ⟨undef, fun _ => rfl⟩
          apply obl_det
          case hrun =>
            intro D y wz hW hD R hR
            have HRR := Lib.hid hR
            clear hR
            have HW := Lib.hid hW
            clear hW hD
            go_wp2_with fail
            exact HRR.out _ HW.out
          case hnp => rfl
          case hv => first | exact ⟨_, fun _ => rfl⟩ | exact ⟨undef, fun _ => rfl⟩
          apply obl_det
          case hrun =>
            intro D y wz hW hD R hR
            have HRR := Lib.hid hR
            clear hR
            have HW := Lib.hid hW
            clear hW hD
            go_wp2_with fail
            exact HRR.out _ HW.out
          case hnp => rfl
          case hv => first | exact ⟨_, fun _ => rfl⟩ | exact ⟨undef, fun _ => rfl⟩
          apply obl_det
          case hrun =>
            intro D y wz hW hD R hR
            have HRR := Lib.hid hR
            clear hR
            have HW := Lib.hid hW
            clear hW hD
            go_wp2_with fail
            exact HRR.out _ HW.out
          case hnp => rfl
          case hv => first | exact ⟨_, fun _ => rfl⟩ | exact ⟨undef, fun _ => rfl⟩
          apply obl_nil
          intro D y w8 hall hW
          have HB8 := Lib.hid (HBR.out.trans (hW.mono HBR.out.size))
          clear hall hW
          go_wp2_with fail
          refine ⟨⟨t + 1, by rw [HN2.out], by push_cast; rfl, by omega, HB8.out⟩, ?_⟩
          simp [intOf]; omega
        have HBA := Lib.hid CR.out.bel
        have HB6 := Lib.hid (HB67.out.trans (HBR.out.mono HB67.out.size))
        obtain ⟨tb', to', bT', oT', cT', he, -, hbT2, hp0, -, hp2⟩ := table_at HT.out (i := L) (by rw [rangesV_length]; exact hLM) (row_len s M hLM) htl
        cases he
        have e0 := hp0.symm.trans HQ3.out
        obtain ⟨rfl, rfl, rfl⟩ : bT' = bT ∧ oT' = oT ∧ cT' = cT := by simpa [and_assoc] using e0
        have HP2 : Hid (w7.cell? ⟨bT', oT' + t * 2 + 1, none⟩ = some (.int .i64 (micV s M L t).2)) := hp2
        have HUP := Lib.hid hbT2
        obtain ⟨b3, o3, rfl, hb3, hl3⟩ := limit_at HS.out.1 htl
        have HL3 := Lib.hid hl3
        have HU3 := Lib.hid hb3
        have hlim := HGM.out.sh.limit t htl
        have hmb := mic_ok HGM.out.sh HGM.out.n6 (k := L) (fun j hj => HGM.out.pre j (by omega)) hLM t
        clear hp0 hp2 hbT2 e0 hl3 hb3
        generalize (s.things.getD t default).limit = LM at *
        generalize (micV s M L t) = MC at *
        obtain ⟨mc1, mc2⟩ := MC
        simp only at HP2 HNX hmb
        obtain ⟨WM, hWM⟩ : ∃ WM, weightV (M.getD L default) = WM := ⟨_, rfl⟩
        rw [hWM] at hwb HNX
        have HWT2 := Lib.hid (fun w h => HWT.out w h)
        rw [hWM] at HWT2
        clear hWM
        have hm := mul_bound hlim (show 0 ≤ WM ∧ WM ≤ 1200000 by omega)
        have HWP : Hid (wrap64 (LM * WM) = LM * WM) := by unfold Hid wrap64; omega
        obtain ⟨P, hP⟩ : ∃ P, LM * WM = P := ⟨_, rfl⟩
        rw [hP] at HWP HNX hm
        have HH := Lib.hid hP
        clear hP
        go_wp2_with fail
        clear hs0 hk0
        refine wp_region_inv0 (by kernel_rfl) (by kernel_rfl) (fun D w' => Below wr.heap.size wr w') (Below.refl _ _).drew ?_
        apply obl_det
        case hrun =>
          intro D y wz hW hD R hR
          have HRR := Lib.hid hR
          clear hR
          have HW := Lib.hid hW
          clear hW hD
          go_wp2_with fail
          exact HRR.out _ HW.out
        case hnp => rfl
        case hv => first | exact ⟨_, fun _ => rfl⟩ | exact ⟨undef, fun _ => rfl⟩
        apply obl_det
        case hrun =>
          intro D y wz hW hD R hR
          have HRR := Lib.hid hR
          clear hR
          have HW := Lib.hid hW
          clear hW hD
          go_wp2_with fail
          exact HRR.out _ HW.out
        case hnp => rfl
        case hv => first | exact ⟨_, fun _ => rfl⟩ | exact ⟨undef, fun _ => rfl⟩
        apply obl_det
        case hrun =>
          intro D y wz hW hD R hR
          have HRR := Lib.hid hR
          clear hR
          have HW := Lib.hid hW
          clear hW hD
          go_wp2_with fail
          exact HRR.out _ HW.out
        case hnp => rfl
        case hv => first | exact ⟨_, fun _ => rfl⟩ | exact ⟨undef, fun _ => rfl⟩
        apply obl_det
        case hrun =>
          intro D y wz hW hD R hR
          have HRR := Lib.hid hR
          clear hR
          have HW := Lib.hid hW
          clear hW hD
          go_wp2_with fail
          exact HRR.out _ HW.out
        case hnp => rfl
        case hv => first | exact ⟨_, fun _ => rfl⟩ | exact ⟨undef, fun _ => rfl⟩
        apply obl_det
        case hrun =>
          intro D y wz hW hD R hR
          have HRR := Lib.hid hR
          clear hR
          have HW := Lib.hid hW
          clear hW hD
          go_wp2_with fail
          exact HRR.out _ HW.out
        case hnp => rfl
        case hv => first | exact ⟨_, fun _ => rfl⟩ | exact ⟨undef, fun _ => rfl⟩
        apply obl_det
        case hrun =>
          intro D y wz hW hD R hR
          have HRR := Lib.hid hR
          clear hR
          have HW := Lib.hid hW
          have HY := Lib.hid (HBR.out.trans (HW.out.mono HBR.out.size))
          have h1 := (HY.out.cell (p := ⟨tb, to + L, none⟩) HUT.out).trans HQ3.out
          clear hW hD
          go_wp2_with fail
          exact HRR.out _ HW.out
        case hnp => rfl
        case hv => first | exact ⟨_, fun _ => rfl⟩ | exact ⟨undef, fun _ => rfl⟩
        apply obl_det
        case hrun =>
          intro D y wz hW hD R hR
          have HRR := Lib.hid hR
          clear hR
          have HW := Lib.hid hW
          clear hW hD
          go_wp2_with fail
          exact HRR.out _ HW.out
        case hnp => rfl
        case hv => first | exact ⟨_, fun _ => rfl⟩ | exact ⟨undef, fun _ => rfl⟩
        apply obl_det
        case hrun =>
          intro D y wz hW hD R hR
          have HRR := Lib.hid hR
          clear hR
          have HW := Lib.hid hW
          clear hW hD
          go_wp2_with fail
          exact HRR.out _ HW.out
        case hnp => rfl
        case hv => first | exact ⟨_, fun _ => rfl⟩ | exact ⟨undef, fun _ => rfl⟩
        apply obl_det
        case hrun =>
          intro D y wz hW hD R hR
          have HRR := Lib.hid hR
          clear hR
          have HW := Lib.hid hW
          clear hW hD
          go_wp2_with fail
          exact HRR.out _ HW.out
        case hnp => rfl
        case hv => first | exact ⟨_, fun _ => rfl⟩ | exact ⟨undef, fun _ => rfl⟩
        apply obl_det
        case hrun =>
          intro D y wz hW hD R hR
          have HRR := Lib.hid hR
          clear hR
          have HW := Lib.hid hW
          have HY := Lib.hid (HBR.out.trans (HW.out.mono HBR.out.size))
          have h1 := (HY.out.cell (p := ⟨bT', oT' + t * 2 + 1, none⟩) HUP.out).trans HP2.out
          clear hW hD
          go_wp2_with fail
          exact HRR.out _ HW.out
        case hnp => rfl
        case hv => first | exact ⟨_, fun _ => rfl⟩ | exact ⟨undef, fun _ => rfl⟩
        apply obl_det
        case hrun =>
          intro D y wz hW hD R hR
          have HRR := Lib.hid hR
          clear hR
          have HW := Lib.hid hW
          clear hW hD
          go_wp2_with fail
          exact HRR.out _ HW.out
        case hnp => rfl
        case hv => first | exact ⟨_, fun _ => rfl⟩ | exact ⟨undef, fun _ => rfl⟩
        apply obl_det
        case hrun =>
          intro D y wz hW hD R hR
          have HRR := Lib.hid hR
          clear hR
          have HW := Lib.hid hW
          have h1 := (CR.out.call HW.out).cell 0 rfl 0
          clear hW hD
          go_wp2_with fail
          exact HRR.out _ HW.out
        case hnp => rfl
        case hv => first | exact ⟨_, fun _ => rfl⟩ | exact ⟨undef, fun _ => rfl⟩
        apply obl_det
        case hrun =>
          intro D y wz hW hD R hR
          have HRR := Lib.hid hR
          clear hR
          have HW := Lib.hid hW
          clear hW hD
          go_wp2_with fail
          exact HRR.out _ HW.out
        case hnp => rfl
        case hv => first | exact ⟨_, fun _ => rfl⟩ | exact ⟨undef, fun _ => rfl⟩
        apply obl_det
        case hrun =>
          intro D y wz hW hD R hR
          have HRR := Lib.hid hR
          clear hR
          have HW := Lib.hid hW
          clear hW hD
          go_wp2_with fail
          exact HRR.out _ HW.out
        case hnp => rfl
        case hv => first | exact ⟨_, fun _ => rfl⟩ | exact ⟨undef, fun _ => rfl⟩
        apply obl_det
        case hrun =>
          intro D y wz hW hD R hR
          have HRR := Lib.hid hR
          clear hR
          have HW := Lib.hid hW
          clear hW hD
          go_wp2_with fail
          exact HRR.out _ HW.out
        case hnp => rfl
        case hv => first | exact ⟨_, fun _ => rfl⟩ | exact ⟨undef, fun _ => rfl⟩
        apply obl_det
        case hrun =>
          intro D y wz hW hD R hR
          have HRR := Lib.hid hR
          clear hR
          have HW := Lib.hid hW
          have HZ := Lib.hid (HBA.out.trans (HW.out.mono HBA.out.size))
          have h1 := (HZ.out.cell (p := ⟨b3, o3 + t * 5 + 2, none⟩) HU3.out).trans HL3.out
          clear hW hD
          go_wp2_with fail
          exact HRR.out _ HW.out
        case hnp => rfl
        case hv => first | exact ⟨_, fun _ => rfl⟩ | exact ⟨undef, fun _ => rfl⟩
        apply obl_det
        case hrun =>
          intro D y wz hW hD R hR
          have HRR := Lib.hid hR
          clear hR
          have HW := Lib.hid hW
          clear hW hD
          go_wp2_with fail
          exact HRR.out _ HW.out
        case hnp => rfl
        case hv => first | exact ⟨_, fun _ => rfl⟩ | exact ⟨undef, fun _ => rfl⟩
        apply obl_det
        case hrun =>
          intro D y wz hW hD R hR
          have HRR := Lib.hid hR
          clear hR
          have HW := Lib.hid hW
          clear hW hD
          go_wp2_with fail
          exact HRR.out _ HW.out
        case hnp => rfl
        case hv => first | exact ⟨_, fun _ => rfl⟩ | exact ⟨undef, fun _ => rfl⟩
        apply obl_det
        case hrun =>
          intro D y wz hW hD R hR
          have HRR := Lib.hid hR
          clear hR
          have HW := Lib.hid hW
          clear hW hD
          go_wp2_with fail
          exact HRR.out _ HW.out
        case hnp => rfl
        case hv => first | exact ⟨_, fun _ => rfl⟩ | exact ⟨undef, fun _ => rfl⟩
        apply obl_det
        case hrun =>
          intro D y wz hW hD R hR
          have HRR := Lib.hid hR
          clear hR
          have HW := Lib.hid hW
          have HX := Lib.hid (HB6.out.trans (HW.out.mono HB6.out.size))
          have h1 := (HX.out.cell (p := ⟨bm, om + L * 3, none⟩) HUM.out).trans HD1.out
          have h2 := (HX.out.cell (p := ⟨bm, om + L * 3 + 1, none⟩) HUM.out).trans HD2.out
          have h3 := (HX.out.cell (p := ⟨bm, om + L * 3 + 2, none⟩) HUM.out).trans HD3.out
          clear hW hD
          go_wp2_with fail
          exact HRR.out _ HW.out
        case hnp => rfl
        case hv => first | exact ⟨_, fun _ => rfl⟩ | exact ⟨undef, fun _ => rfl⟩
        apply obl_det
        case hrun =>
          intro D y wz hW hD R hR
          have HRR := Lib.hid hR
          clear hR
          have HW := Lib.hid hW
          have HX := Lib.hid (HB6.out.trans (HW.out.mono HB6.out.size))
          clear hW hD
          go_wp2_with fail
          refine (HWT2.out _ HX.out).mono ?_
          rintro e w' ⟨rfl, hb⟩
          have HW2 := Lib.hid (HW.out.trans (hb.mono HW.out.size))
          clear hb
          go_wp2_with fail
          exact HRR.out _ HW2.out
        case hnp => rfl
        case hv => first | exact ⟨_, fun _ => rfl⟩ | exact ⟨undef, fun _ => rfl⟩
        apply obl_det
        case hrun =>
          intro D y wz hW hD R hR
          have HRR := Lib.hid hR
          clear hR
          have HW := Lib.hid hW
          clear hW hD
          go_wp2_with fail
          rw [HH.out, HWP.out]
          exact HRR.out _ HW.out
        case hnp => rfl
        case hv => first | exact ⟨_, fun _ => rfl⟩ | exact ⟨undef, fun _ => rfl⟩
        apply obl_det
        case hrun =>
          intro D y wz hW hD R hR
          have HRR := Lib.hid hR
          clear hR
          have HW := Lib.hid hW
          clear hW hD
          go_wp2_with fail
          exact HRR.out _ HW.out
        case hnp => rfl
        case hv => first | exact ⟨_, fun _ => rfl⟩ | exact ⟨undef, fun _ => rfl⟩
        apply obl_det
        case hrun =>
          intro D y wz hW hD R hR
          have HRR := Lib.hid hR
          clear hR
          have HW := Lib.hid hW
          clear hW hD
          go_wp2_with fail
          exact HRR.out _ HW.out
        case hnp => rfl
        case hv => first | exact ⟨_, fun _ => rfl⟩ | exact ⟨undef, fun _ => rfl⟩
        apply obl_det
        case hrun =>
          intro D y wz hW hD R hR
          have HRR := Lib.hid hR
          clear hR
          have HW := Lib.hid hW
          clear hW hD
          go_wp2_with fail
          exact HRR.out _ HW.out
        case hnp => rfl
        case hv => first | exact ⟨_, fun _ => rfl⟩ | exact ⟨undef, fun _ => rfl⟩
        apply obl_nil
        intro D y w8 hall hW
        have HB8 := Lib.hid (HBR.out.trans (hW.mono HBR.out.size))
        clear hall hW
        go_wp2_with fail
        refine ⟨⟨t + 1, by rw [HNX.out]; rfl, by push_cast; rfl, by omega, HB8.out⟩, ?_⟩
        simp [intOf]; omega
      · obtain rfl : t = s.things.length := by omega
        rw [HWF.out]
        have h20 := CR.out.cell 2 rfl 0
        have h21 := CR.out.cell 2 rfl 1
        clear hk0
        rw [show decide (e9 = 0 ∧ lo ≤ g ∧ g ≤ hi) = false from decide_eq_false (by rw [H9.out]; omega)]
        go_wp2_with fail
        refine (awake_any _).mono ?_
        rintro e w14 ⟨rfl, hb⟩
        have CX := Lib.hid (CR.out.call hb)
        clear hb CR HBR
        go_wp2_with fail
        go_ret
        exact ⟨rfl, CX.out.bel⟩
end Go.Proofs.Ytaigbhhmmdfdcaa
