/- stearinref07.Keeps. -/
import Derived.Test.YtaigbhhmmdfdcaaY8
namespace Go.Proofs.Ytaigbhhmmdfdcaa
open Go.RowKit
set_option maxRecDepth 100000 in
set_option maxHeartbeats 8000000 in
/-- Keeps -/
theorem keeps_ref (s : Shop) (l : List Bat) (vt vl v : Value) (w : World) (hv : ShopAt w.heap.size w vt vl s) (hl' : BatsIn w.heap.size w v l) :
    Calls Try.prog 26 #[.agg #[vt, vl], v] w (Ret3 (keepsV s l) w) := by
  unfold Ret3
  have HS := Lib.hid hv
  have HL := Lib.hid hl'
  obtain ⟨ta, tc, rfl, -, -⟩ := sl_shape hv.1
  obtain ⟨la, lc, rfl, -, -⟩ := sl_shape hv.2
  obtain ⟨a, c, rfl, hlc, hlen⟩ := sl_shape hl'
  clear hv hl'
  have C0 : Hid (Bs w [(w.heap.size, .cells #[.slice ta s.things.length tc, .slice la s.lots.length lc] 25)] _) := (Bs.nil w).push _ rfl (.cells #[.slice ta s.things.length tc, .slice la s.lots.length lc] 25)
  have hc0 := C0.out.cell 0 rfl 0
  have hc1 := C0.out.cell 0 rfl 1
  have HG : Hid (batchesE s l = 0 → AllGood s l) := all_good
  have HC : Hid (contentV s l = if batchesE s l ≠ 0 then [] else rangesV s l) := rfl
  have HCV : Hid (keepsV s l = if batchesE s l ≠ 0 then (0, 0, batchesE s l) else ((keepsTo s l l.length).1, (keepsTo s l l.length).2, 0)) := rfl
  have H2 := fun w h1 h2 => Lib.hid (content_ref s l (.slice ta s.things.length tc) (.slice la s.lots.length lc) (.slice a l.length c) w h1 h2)
  unfold RetTable at H2
  generalize contentV s l = CV at *
  generalize keepsV s l = KV at *
  generalize batchesE s l = E at *
  go_enter Try.func26, Try.ntmps26
  go_wp2_with fail
  refine (H2 _ ((HS.out.below C0.out.bel).mono C0.out.bel.size) ((HL.out.below C0.out.bel).mono C0.out.bel.size)).out.mono ?_
  rintro e w1 ⟨tv, rfl, hi, hb⟩
  have C1 := Lib.hid (C0.out.call hb)
  have HT := Lib.hid hi
  clear hb hi C0 hc0 hc1 H2
  by_cases hE : E = 0
  case neg =>
    have hq : (E != 0) = true := by simpa using hE
    have HZ : Hid (KV = (0, 0, E)) := by unfold Hid; rw [HCV.out, if_pos hE]
    clear hE HG HC
    go_wp2_with fail
    go_ret3
    rw [HZ.out]
    exact ⟨rfl, C1.out.bel⟩
  subst hE
  have HGD := Lib.hid (HG.out rfl)
  have HZ : Hid (KV = ((keepsTo s l l.length).1, (keepsTo s l l.length).2, 0)) := by unfold Hid; rw [HCV.out, if_neg (fun h => h rfl)]
  have hcv : CV = rangesV s l := by rw [HC.out, if_neg (fun h => h rfl)]
  subst hcv
  have hn6 := HGD.out.n6
  have hnt5 := HGD.out.sh.nt5
  clear HG HC HCV
  obtain ⟨xa, xc, rfl, -⟩ := sl_shape HT.out
  rw [rangesV_length] at HT ⊢
  go_wp2_with fail
  go_loopw [9] (fun kv wr => ∃ k : Nat, kv = .int .i64 k ∧ k ≤ l.length ∧ Below w1.heap.size w1 wr ∧ keepsTo s l k = (-1, -1)) (fun kv _ => l.length - (intOf kv).toNat)
  case atStart => exact ⟨0, rfl, by omega, Below.refl _ _, rfl⟩
  case round =>
    obtain ⟨k, rfl, hk, hb, hkt⟩ := hrel
    have HB := Lib.hid hb
    have HKT := Lib.hid hkt
    clear hb hkt
    by_cases hkl : k < l.length
    · have hki : (k : Int) < (l.length : Int) := by omega
      obtain ⟨W2, hW2⟩ : ∃ x, x = wr := ⟨_, rfl⟩
      subst hW2
      go_wp2_with fail
      have HKN := Lib.hid (fun h : keepsT s l k = none => keepsTo_next HKT.out h)
      have HKF := Lib.hid (fun t (h : keepsT s l k = some t) => keepsTo_found HKT.out h hkl)
      have HKD : Hid (keepsT s l k = firstOf (aboveB s (l.getD k default) ((rangesV s l).getD k [])) s.things.length) := rfl
      go_loopw [10] (fun iv wr => ∃ t : Nat, iv = .int .i64 t ∧ t ≤ s.things.length ∧ Below w1.heap.size w1 wr ∧ firstOf (aboveB s (l.getD k default) ((rangesV s l).getD k [])) t = none) (fun iv _ => s.things.length - (intOf iv).toNat)
      case atStart => exact ⟨0, rfl, by omega, HB.out, rfl⟩
      case round =>
        clear HB
        obtain ⟨t, rfl, ht, hb, hf⟩ := hrel
        have HB := Lib.hid hb
        have HF := Lib.hid hf
        clear hb hf
        have HBA : Hid (Below w.heap.size w wr) := C1.out.bel.trans (HB.out.mono C1.out.bel.size)
        have CR := Lib.hid (C1.out.call HB.out)
        have hcb0 := CR.out.cell 0 rfl 0
        by_cases htl : t < s.things.length
        · have hti : (t : Int) < (s.things.length : Int) := by omega
          have HGO := Lib.hid ((bat_ok0 (batchE_zero (HGD.out.pre k hkl)).1).gramsOk HGD.out.sh.nl6 (show k ≤ 6 by omega))
          have hpos := HGD.out.pre.pos HGD.out.sh hn6 (Nat.le_refl _) hkl
          have hlim := HGD.out.sh.limit t htl
          obtain ⟨tb, to, rfl, htb, rv, hrc, hsp⟩ := HT.out.at' (i := k) (by rw [rangesV_length]; exact hkl)
          have hrc : w1.cell? ⟨tb, to + k, none⟩ = some rv := by have h := hrc; simpa [rdSpans] using h
          have HRW : Hid ((rangesV s l).getD k default = (List.range s.things.length).map (micV s l k)) := row_eq s l hkl
          rw [HRW.out] at hsp
          obtain ⟨ra, rc, rfl, -⟩ := sl_shape hsp
          obtain ⟨br, or, rfl, hbr, hq1, hq2⟩ := hsp.at' (i := t) (by simpa using htl)
          have hmr : ((List.range s.things.length).map (micV s l k)).getD t default = micV s l k t := mapr_get _ _ _ htl _
          rw [hmr] at hq2
          have HQ2 : Hid (w1.cell? ⟨br, or + t * 2 + 1, none⟩ = some (.int .i64 (micV s l k t).2)) := hq2
          have hln : ((List.range s.things.length).map (micV s l k)).length = s.things.length := by simp
          rw [hln] at hrc
          have HRC := Lib.hid hrc
          have HTB := Lib.hid htb
          have HBR := Lib.hid hbr
          clear hrc hsp htb hbr hq1 hq2 hmr hln
          obtain ⟨b3, o3, he, hb3, -, -, hl3, -⟩ := HS.out.1.at' htl
          cases he
          have HL3 : Hid (w.cell? ⟨b3, o3 + t * 5 + 2, none⟩ = some (.int .i64 (s.things.getD t default).limit)) := hl3
          have HB3 := Lib.hid hb3
          obtain ⟨b, o, he, hbb, vg, vb, va, hd1, hd2, hd3, hat⟩ := HL.out.at' hkl
          cases he
          have HD1 : Hid (w.cell? ⟨b, o + k * 3, none⟩ = some vg) := hd1
          have HD2 : Hid (w.cell? ⟨b, o + k * 3 + 1, none⟩ = some vb) := hd2
          have HD3 : Hid (w.cell? ⟨b, o + k * 3 + 2, none⟩ = some va) := hd3
          have HBB := Lib.hid hbb
          have HAT := Lib.hid hat
          obtain ⟨e1, f1, rfl, -⟩ := hat.1
          obtain ⟨e2, f2, rfl, -⟩ := hat.2.1
          obtain ⟨e3, f3, rfl, -⟩ := sl_shape hat.2.2
          clear hat hbb hd1 hd2 hd3 hl3 hb3
          have HWT := fun w h => Lib.hid (weight_ref (l.getD k default) (.slice e1 (l.getD k default).grams.length f1) (.slice e2 (l.getD k default).back.length f2) (.slice e3 (l.getD k default).added.length f3) w h HGO.out.1 HGO.out.2)
          have HAB : Hid (aboveB s (l.getD k default) ((rangesV s l).getD k []) t = decide ((s.things.getD t default).limit * weightV (l.getD k default) < (micV s l k t).2)) := rfl
          have hmb := mic_ok HGD.out.sh hn6 (k := k) (fun j hj => HGD.out.pre j (by omega)) hkl t
          generalize (s.things.getD t default).limit = LM at *
          generalize weightV (l.getD k default) = WT at *
          generalize (micV s l k t) = MC at *
          obtain ⟨mc1, mc2⟩ := MC
          simp only at HQ2 HAB hmb
          generalize (l.getD k default).grams.length = m1 at *
          generalize (l.getD k default).back.length = m2 at *
          generalize (l.getD k default).added.length = m3 at *
          have hm := mul_bound hlim (show 0 ≤ WT ∧ WT ≤ 1200000 by omega)
          have HWP : Hid (wrap64 (LM * WT) = LM * WT) := by unfold Hid wrap64; omega
          obtain ⟨P, hP⟩ : ∃ P, LM * WT = P := ⟨_, rfl⟩
          rw [hP] at HWP HAB hm
          have HH := Lib.hid hP
          clear hP
          go_wp2_with fail
          clear hcb0
          by_cases hgt : P < mc2
          · have HTR : Hid (keepsT s l k = some t) := by
              unfold Hid
              rw [HKD.out]
              exact firstOf_some HF.out (by rw [HAB.out]; simpa using hgt) htl
            have HKK := Lib.hid (HKF.out t HTR.out)
            refine wp_region_inv0 (by kernel_rfl) (by kernel_rfl) (fun D w' => Below wr.heap.size wr w') (Below.refl _ _).drew ?_
            apply obl_det
            case hrun =>
              intro D y wz hW hD R hR
              have HRR := Lib.hid hR
              clear hR
              have HW := Lib.hid hW
              clear hW hD
              go_wp2_with fail
              exact HRR.out _ HW.out
            case hnp => rfl
            case hv => first | exact ⟨_, fun _ => rfl⟩ | exact ⟨undef, fun _ => rfl⟩
            apply obl_det
            case hrun =>
              intro D y wz hW hD R hR
              have HRR := Lib.hid hR
              clear hR
              have HW := Lib.hid hW
              clear hW hD
              go_wp2_with fail
              exact HRR.out _ HW.out
            case hnp => rfl
            case hv => first | exact ⟨_, fun _ => rfl⟩ | exact ⟨undef, fun _ => rfl⟩
            apply obl_det
            case hrun =>
              intro D y wz hW hD R hR
              have HRR := Lib.hid hR
              clear hR
              have HW := Lib.hid hW
              clear hW hD
              go_wp2_with fail
              exact HRR.out _ HW.out
            case hnp => rfl
            case hv => first | exact ⟨_, fun _ => rfl⟩ | exact ⟨undef, fun _ => rfl⟩
            apply obl_det
            case hrun =>
              intro D y wz hW hD R hR
              have HRR := Lib.hid hR
              clear hR
              have HW := Lib.hid hW
              have HY := Lib.hid (HB.out.trans (HW.out.mono HB.out.size))
              have h1 := (HY.out.cell (p := ⟨tb, to + k, none⟩) HTB.out).trans HRC.out
              clear hW hD
              go_wp2_with fail
              exact HRR.out _ HW.out
            case hnp => rfl
            case hv => first | exact ⟨_, fun _ => rfl⟩ | exact ⟨undef, fun _ => rfl⟩
            apply obl_det
            case hrun =>
              intro D y wz hW hD R hR
              have HRR := Lib.hid hR
              clear hR
              have HW := Lib.hid hW
              clear hW hD
              go_wp2_with fail
              exact HRR.out _ HW.out
            case hnp => rfl
            case hv => first | exact ⟨_, fun _ => rfl⟩ | exact ⟨undef, fun _ => rfl⟩
            apply obl_det
            case hrun =>
              intro D y wz hW hD R hR
              have HRR := Lib.hid hR
              clear hR
              have HW := Lib.hid hW
              clear hW hD
              go_wp2_with fail
              exact HRR.out _ HW.out
            case hnp => rfl
            case hv => first | exact ⟨_, fun _ => rfl⟩ | exact ⟨undef, fun _ => rfl⟩
            apply obl_det
            case hrun =>
              intro D y wz hW hD R hR
              have HRR := Lib.hid hR
              clear hR
              have HW := Lib.hid hW
              clear hW hD
              go_wp2_with fail
              exact HRR.out _ HW.out
            case hnp => rfl
            case hv => first | exact ⟨_, fun _ => rfl⟩ | exact ⟨undef, fun _ => rfl⟩
            apply obl_det
            case hrun =>
              intro D y wz hW hD R hR
              have HRR := Lib.hid hR
              clear hR
              have HW := Lib.hid hW
              have HY := Lib.hid (HB.out.trans (HW.out.mono HB.out.size))
              have h1 := (HY.out.cell (p := ⟨br, or + t * 2 + 1, none⟩) HBR.out).trans HQ2.out
              clear hW hD
              go_wp2_with fail
              exact HRR.out _ HW.out
            case hnp => rfl
            case hv => first | exact ⟨_, fun _ => rfl⟩ | exact ⟨undef, fun _ => rfl⟩
            apply obl_det
            case hrun =>
              intro D y wz hW hD R hR
              have HRR := Lib.hid hR
              clear hR
              have HW := Lib.hid hW
              clear hW hD
              go_wp2_with fail
              exact HRR.out _ HW.out
            case hnp => rfl
            case hv => first | exact ⟨_, fun _ => rfl⟩ | exact ⟨undef, fun _ => rfl⟩
            apply obl_det
            case hrun =>
              intro D y wz hW hD R hR
              have HRR := Lib.hid hR
              clear hR
              have HW := Lib.hid hW
              have h1 := (CR.out.call HW.out).cell 0 rfl 0
              clear hW hD
              go_wp2_with fail
              exact HRR.out _ HW.out
            case hnp => rfl
            case hv => first | exact ⟨_, fun _ => rfl⟩ | exact ⟨undef, fun _ => rfl⟩
            apply obl_det
            case hrun =>
              intro D y wz hW hD R hR
              have HRR := Lib.hid hR
              clear hR
              have HW := Lib.hid hW
              clear hW hD
              go_wp2_with fail
              exact HRR.out _ HW.out
            case hnp => rfl
            case hv => first | exact ⟨_, fun _ => rfl⟩ | exact ⟨undef, fun _ => rfl⟩
            apply obl_det
            case hrun =>
              intro D y wz hW hD R hR
              have HRR := Lib.hid hR
              clear hR
              have HW := Lib.hid hW
              clear hW hD
              go_wp2_with fail
              exact HRR.out _ HW.out
            case hnp => rfl
            case hv => first | exact ⟨_, fun _ => rfl⟩ | exact ⟨undef, fun _ => rfl⟩
            apply obl_det
            case hrun =>
              intro D y wz hW hD R hR
              have HRR := Lib.hid hR
              clear hR
              have HW := Lib.hid hW
              clear hW hD
              go_wp2_with fail
              exact HRR.out _ HW.out
            case hnp => rfl
            case hv => first | exact ⟨_, fun _ => rfl⟩ | exact ⟨undef, fun _ => rfl⟩
            apply obl_det
            case hrun =>
              intro D y wz hW hD R hR
              have HRR := Lib.hid hR
              clear hR
              have HW := Lib.hid hW
              have HZ := Lib.hid (HBA.out.trans (HW.out.mono HBA.out.size))
              have h1 := (HZ.out.cell (p := ⟨b3, o3 + t * 5 + 2, none⟩) HB3.out).trans HL3.out
              clear hW hD
              go_wp2_with fail
              exact HRR.out _ HW.out
            case hnp => rfl
            case hv => first | exact ⟨_, fun _ => rfl⟩ | exact ⟨undef, fun _ => rfl⟩
            apply obl_det
            case hrun =>
              intro D y wz hW hD R hR
              have HRR := Lib.hid hR
              clear hR
              have HW := Lib.hid hW
              clear hW hD
              go_wp2_with fail
              exact HRR.out _ HW.out
            case hnp => rfl
            case hv => first | exact ⟨_, fun _ => rfl⟩ | exact ⟨undef, fun _ => rfl⟩
            apply obl_det
            case hrun =>
              intro D y wz hW hD R hR
              have HRR := Lib.hid hR
              clear hR
              have HW := Lib.hid hW
              clear hW hD
              go_wp2_with fail
              exact HRR.out _ HW.out
            case hnp => rfl
            case hv => first | exact ⟨_, fun _ => rfl⟩ | exact ⟨undef, fun _ => rfl⟩
            apply obl_det
            case hrun =>
              intro D y wz hW hD R hR
              have HRR := Lib.hid hR
              clear hR
              have HW := Lib.hid hW
              clear hW hD
              go_wp2_with fail
              exact HRR.out _ HW.out
            case hnp => rfl
            case hv => first | exact ⟨_, fun _ => rfl⟩ | exact ⟨undef, fun _ => rfl⟩
            apply obl_det
            case hrun =>
              intro D y wz hW hD R hR
              have HRR := Lib.hid hR
              clear hR
              have HW := Lib.hid hW
              have HZ := Lib.hid (HBA.out.trans (HW.out.mono HBA.out.size))
              have h1 := (HZ.out.cell (p := ⟨b, o + k * 3, none⟩) HBB.out).trans HD1.out
              have h2 := (HZ.out.cell (p := ⟨b, o + k * 3 + 1, none⟩) HBB.out).trans HD2.out
              have h3 := (HZ.out.cell (p := ⟨b, o + k * 3 + 2, none⟩) HBB.out).trans HD3.out
              clear hW hD
              go_wp2_with fail
              exact HRR.out _ HW.out
            case hnp => rfl
            case hv => first | exact ⟨_, fun _ => rfl⟩ | exact ⟨undef, fun _ => rfl⟩
            apply obl_det
            case hrun =>
              intro D y wz hW hD R hR
              have HRR := Lib.hid hR
              clear hR
              have HW := Lib.hid hW
              have HZ := Lib.hid (HBA.out.trans (HW.out.mono HBA.out.size))
              clear hW hD
              go_wp2_with fail
              refine (HWT _ ((HAT.out.below HZ.out).mono HZ.out.size)).out.mono ?_
              rintro e w' ⟨rfl, hb⟩
              have HW2 := Lib.hid (HW.out.trans (hb.mono HW.out.size))
              clear hb
              go_wp2_with fail
              exact HRR.out _ HW2.out
            case hnp => rfl
            case hv => first | exact ⟨_, fun _ => rfl⟩ | exact ⟨undef, fun _ => rfl⟩
            apply obl_det
            case hrun =>
              intro D y wz hW hD R hR
              have HRR := Lib.hid hR
              clear hR
              have HW := Lib.hid hW
              clear hW hD
              go_wp2_with fail
              rw [HH.out, HWP.out]
              exact HRR.out _ HW.out
            case hnp => rfl
            case hv => first | exact ⟨_, fun _ => rfl⟩ | exact ⟨undef, fun _ => rfl⟩
            apply obl_det
            case hrun =>
              intro D y wz hW hD R hR
              have HRR := Lib.hid hR
              clear hR
              have HW := Lib.hid hW
              clear hW hD
              go_wp2_with fail
              exact HRR.out _ HW.out
            case hnp => rfl
            case hv => first | exact ⟨_, fun _ => rfl⟩ | exact ⟨undef, fun _ => rfl⟩
            apply obl_nil
            intro D y w8 hall hW
            have HB8 := Lib.hid (HB.out.trans (hW.mono HB.out.size))
            clear hall hW
            go_wp2_with fail
            go_ret3
            rw [HZ.out, HKK.out]
            exact ⟨rfl, C1.out.bel.trans (HB8.out.mono C1.out.bel.size)⟩
          · have hle : mc2 ≤ P := by omega
            clear hgt
            refine wp_region_inv0 (by kernel_rfl) (by kernel_rfl) (fun D w' => Below wr.heap.size wr w') (Below.refl _ _).drew ?_
            apply obl_det
            case hrun =>
              intro D y wz hW hD R hR
              have HRR := Lib.hid hR
              clear hR
              have HW := Lib.hid hW
              clear hW hD
              go_wp2_with fail
              exact HRR.out _ HW.out
            case hnp => rfl
            case hv => first | exact ⟨_, fun _ => rfl⟩ | exact ⟨undef, fun _ => rfl⟩
            apply obl_det
            case hrun =>
              intro D y wz hW hD R hR
              have HRR := Lib.hid hR
              clear hR
              have HW := Lib.hid hW
              clear hW hD
              go_wp2_with fail
              exact HRR.out _ HW.out
            case hnp => rfl
            case hv => first | exact ⟨_, fun _ => rfl⟩ | exact ⟨undef, fun _ => rfl⟩
            apply obl_det
            case hrun =>
              intro D y wz hW hD R hR
              have HRR := Lib.hid hR
              clear hR
              have HW := Lib.hid hW
              clear hW hD
              go_wp2_with fail
              exact HRR.out _ HW.out
            case hnp => rfl
            case hv => first | exact ⟨_, fun _ => rfl⟩ | exact ⟨undef, fun _ => rfl⟩
            apply obl_det
            case hrun =>
              intro D y wz hW hD R hR
              have HRR := Lib.hid hR
              clear hR
              have HW := Lib.hid hW
              have HY := Lib.hid (HB.out.trans (HW.out.mono HB.out.size))
              have h1 := (HY.out.cell (p := ⟨tb, to + k, none⟩) HTB.out).trans HRC.out
              clear hW hD
              go_wp2_with fail
              exact HRR.out _ HW.out
            case hnp => rfl
            case hv => first | exact ⟨_, fun _ => rfl⟩ | exact ⟨undef, fun _ => rfl⟩
            apply obl_det
            case hrun =>
              intro D y wz hW hD R hR
              have HRR := Lib.hid hR
              clear hR
              have HW := Lib.hid hW
              clear hW hD
              go_wp2_with fail
              exact HRR.out _ HW.out
            case hnp => rfl
            case hv => first | exact ⟨_, fun _ => rfl⟩ | exact ⟨undef, fun _ => rfl⟩
            apply obl_det
            case hrun =>
              intro D y wz hW hD R hR
              have HRR := Lib.hid hR
              clear hR
              have HW := Lib.hid hW
              clear hW hD
              go_wp2_with fail
              exact HRR.out _ HW.out
            case hnp => rfl
            case hv => first | exact ⟨_, fun _ => rfl⟩ | exact ⟨undef, fun _ => rfl⟩
            apply obl_det
            case hrun =>
              intro D y wz hW hD R hR
              have HRR := Lib.hid hR
              clear hR
              have HW := Lib.hid hW
              clear hW hD
              go_wp2_with fail
              exact HRR.out _ HW.out
            case hnp => rfl
            case hv => first | exact ⟨_, fun _ => rfl⟩ | exact ⟨undef, fun _ => rfl⟩
            apply obl_det
            case hrun =>
              intro D y wz hW hD R hR
              have HRR := Lib.hid hR
              clear hR
              have HW := Lib.hid hW
              have HY := Lib.hid (HB.out.trans (HW.out.mono HB.out.size))
              have h1 := (HY.out.cell (p := ⟨br, or + t * 2 + 1, none⟩) HBR.out).trans HQ2.out
              clear hW hD
              go_wp2_with fail
              exact HRR.out _ HW.out
            case hnp => rfl
            case hv => first | exact ⟨_, fun _ => rfl⟩ | exact ⟨undef, fun _ => rfl⟩
            apply obl_det
            case hrun =>
              intro D y wz hW hD R hR
              have HRR := Lib.hid hR
              clear hR
              have HW := Lib.hid hW
              clear hW hD
              go_wp2_with fail
              exact HRR.out _ HW.out
            case hnp => rfl
            case hv => first | exact ⟨_, fun _ => rfl⟩ | exact ⟨undef, fun _ => rfl⟩
            apply obl_det
            case hrun =>
              intro D y wz hW hD R hR
              have HRR := Lib.hid hR
              clear hR
              have HW := Lib.hid hW
              have h1 := (CR.out.call HW.out).cell 0 rfl 0
              clear hW hD
              go_wp2_with fail
              exact HRR.out _ HW.out
            case hnp => rfl
            case hv => first | exact ⟨_, fun _ => rfl⟩ | exact ⟨undef, fun _ => rfl⟩
            apply obl_det
            case hrun =>
              intro D y wz hW hD R hR
              have HRR := Lib.hid hR
              clear hR
              have HW := Lib.hid hW
              clear hW hD
              go_wp2_with fail
              exact HRR.out _ HW.out
            case hnp => rfl
            case hv => first | exact ⟨_, fun _ => rfl⟩ | exact ⟨undef, fun _ => rfl⟩
            apply obl_det
            case hrun =>
              intro D y wz hW hD R hR
              have HRR := Lib.hid hR
              clear hR
              have HW := Lib.hid hW
              clear hW hD
              go_wp2_with fail
              exact HRR.out _ HW.out
            case hnp => rfl
            case hv => first | exact ⟨_, fun _ => rfl⟩ | exact ⟨undef, fun _ => rfl⟩
            apply obl_det
            case hrun =>
              intro D y wz hW hD R hR
              have HRR := Lib.hid hR
              clear hR
              have HW := Lib.hid hW
              clear hW hD
              go_wp2_with fail
              exact HRR.out _ HW.out
            case hnp => rfl
            case hv => first | exact ⟨_, fun _ => rfl⟩ | exact ⟨undef, fun _ => rfl⟩
            apply obl_det
            case hrun =>
              intro D y wz hW hD R hR
              have HRR := Lib.hid hR
              clear hR
              have HW := Lib.hid hW
              have HZ := Lib.hid (HBA.out.trans (HW.out.mono HBA.out.size))
              have h1 := (HZ.out.cell (p := ⟨b3, o3 + t * 5 + 2, none⟩) HB3.out).trans HL3.out
              clear hW hD
              go_wp2_with fail
              exact HRR.out _ HW.out
            case hnp => rfl
            case hv => first | exact ⟨_, fun _ => rfl⟩ | exact ⟨undef, fun _ => rfl⟩
            apply obl_det
            case hrun =>
              intro D y wz hW hD R hR
              have HRR := Lib.hid hR
              clear hR
              have HW := Lib.hid hW
              clear hW hD
              go_wp2_with fail
              exact HRR.out _ HW.out
            case hnp => rfl
            case hv => first | exact ⟨_, fun _ => rfl⟩ | exact ⟨undef, fun _ => rfl⟩
            apply obl_det
            case hrun =>
              intro D y wz hW hD R hR
              have HRR := Lib.hid hR
              clear hR
              have HW := Lib.hid hW
              clear hW hD
              go_wp2_with fail
              exact HRR.out _ HW.out
            case hnp => rfl
            case hv => first | exact ⟨_, fun _ => rfl⟩ | exact ⟨undef, fun _ => rfl⟩
            apply obl_det
            case hrun =>
              intro D y wz hW hD R hR
              have HRR := Lib.hid hR
              clear hR
              have HW := Lib.hid hW
              clear hW hD
              go_wp2_with fail
              exact HRR.out _ HW.out
            case hnp => rfl
            case hv => first | exact ⟨_, fun _ => rfl⟩ | exact ⟨undef, fun _ => rfl⟩
            apply obl_det
            case hrun =>
              intro D y wz hW hD R hR
              have HRR := Lib.hid hR
              clear hR
              have HW := Lib.hid hW
              have HZ := Lib.hid (HBA.out.trans (HW.out.mono HBA.out.size))
              have h1 := (HZ.out.cell (p := ⟨b, o + k * 3, none⟩) HBB.out).trans HD1.out
              have h2 := (HZ.out.cell (p := ⟨b, o + k * 3 + 1, none⟩) HBB.out).trans HD2.out
              have h3 := (HZ.out.cell (p := ⟨b, o + k * 3 + 2, none⟩) HBB.out).trans HD3.out
              clear hW hD
              go_wp2_with fail
              exact HRR.out _ HW.out
            case hnp => rfl
            case hv => first | exact ⟨_, fun _ => rfl⟩ | exact ⟨undef, fun _ => rfl⟩
            apply obl_det
            case hrun =>
              intro D y wz hW hD R hR
              have HRR := Lib.hid hR
              clear hR
              have HW := Lib.hid hW
              have HZ := Lib.hid (HBA.out.trans (HW.out.mono HBA.out.size))
              clear hW hD
              go_wp2_with fail
              refine (HWT _ ((HAT.out.below HZ.out).mono HZ.out.size)).out.mono ?_
              rintro e w' ⟨rfl, hb⟩
              have HW2 := Lib.hid (HW.out.trans (hb.mono HW.out.size))
              clear hb
              go_wp2_with fail
              exact HRR.out _ HW2.out
            case hnp => rfl
            case hv => first | exact ⟨_, fun _ => rfl⟩ | exact ⟨undef, fun _ => rfl⟩
            apply obl_det
            case hrun =>
              intro D y wz hW hD R hR
              have HRR := Lib.hid hR
              clear hR
              have HW := Lib.hid hW
              clear hW hD
              go_wp2_with fail
              rw [HH.out, HWP.out]
              exact HRR.out _ HW.out
            case hnp => rfl
            case hv => first | exact ⟨_, fun _ => rfl⟩ | exact ⟨undef, fun _ => rfl⟩
            apply obl_det
            case hrun =>
              intro D y wz hW hD R hR
              have HRR := Lib.hid hR
              clear hR
              have HW := Lib.hid hW
              clear hW hD
              go_wp2_with fail
              exact HRR.out _ HW.out
            case hnp => rfl
            case hv => first | exact ⟨_, fun _ => rfl⟩ | exact ⟨undef, fun _ => rfl⟩
            apply obl_nil
            intro D y w8 hall hW
            have HB8 := Lib.hid (HB.out.trans (hW.mono HB.out.size))
            clear hall hW
            go_wp2_with fail
            refine ⟨⟨t + 1, by push_cast; rfl, by omega, HB8.out, ?_⟩, ?_⟩
            · simp only [firstOf, HF.out, HAB.out]
              rw [if_neg (by simp; omega)]
            · simp [intOf]; omega
        · obtain rfl : t = s.things.length := by omega
          go_wp2_with fail
          refine ⟨⟨k + 1, by push_cast; rfl, by omega, HB.out, ?_⟩, ?_⟩
          · exact HKN.out (by rw [HKD.out]; exact HF.out)
          · simp [intOf]; omega
    · obtain rfl : k = l.length := by omega
      go_wp2_with fail
      go_ret3
      rw [HZ.out, HKT.out]
      exact ⟨rfl, C1.out.bel.trans (HB.out.mono C1.out.bel.size)⟩
end Go.Proofs.Ytaigbhhmmdfdcaa
