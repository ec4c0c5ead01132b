/- back of the laws. -/
import Derived.Test.YtaigbhhmmdfdcaaY15
namespace Go.Proofs.Ytaigbhhmmdfdcaa
open Go.RowKit
/-- The parts with which a batch comes back. -/
def backV (s : Shop) (l : List Bat) (k : Nat) : List (Int × Int) := (List.range s.things.length).map (fun t => partsV (weightV (l.getD k default)) (micV s l k t))
set_option maxRecDepth 100000 in
set_option maxHeartbeats 8000000 in
theorem back82 (s : Shop) (l : List Bat) (k : Nat) (hg : AllGood s l) (hk : k < l.length) (v u : Value) (w : World) (hv : BatsIn w.heap.size w v l) (hu : TableIn w.heap.size w u (rangesV s l)) :
    Calls Try.prog 82 #[v, u, .int .i64 k] w fun e w' => ∃ t, e = .returned t ∧ SpansIn w'.heap.size w' t (backV s l k) ∧ Below w.heap.size w w' := by
  have HV := Lib.hid hv
  have HU := Lib.hid hu
  have hn6 := hg.n6
  have hnt5 := hg.sh.nt5
  have HGO := Lib.hid ((bat_ok0 (batchE_zero (hg.pre k hk)).1).gramsOk hg.sh.nl6 (show k ≤ 6 by omega))
  have HPOS := Lib.hid (hg.pre.pos hg.sh hn6 (Nat.le_refl _) hk)
  have HMB := fun t => Lib.hid (mic_ok hg.sh hn6 (k := k) (fun j hj => hg.pre j (by omega)) hk t)
  obtain ⟨a, c, rfl, -, -⟩ := sl_shape hv
  obtain ⟨xa, xc, rfl, -⟩ := sl_shape hu
  clear hv hu hg
  rw [rangesV_length] at HU ⊢
  obtain ⟨tb, to, rfl, htb, rv, hrc, hsp⟩ := HU.out.at' (i := k) (by rw [rangesV_length]; exact hk)
  have hrc : w.cell? ⟨tb, to + k, none⟩ = some rv := by have h := hrc; simpa [rdSpans] using h
  have HRW : Hid ((rangesV s l).getD k default = (List.range s.things.length).map (micV s l k)) := row_eq s l hk
  rw [HRW.out] at hsp
  obtain ⟨ra, rc, rfl, -⟩ := sl_shape hsp
  have hln : ((List.range s.things.length).map (micV s l k)).length = s.things.length := by simp
  rw [hln] at hrc hsp
  have HRC := Lib.hid hrc
  have HTB := Lib.hid htb
  have HROW := Lib.hid hsp
  clear hrc hsp htb hln HRW
  obtain ⟨b, o, he, hbb, vg, vb, va, hd1, hd2, hd3, hat⟩ := HV.out.at' hk
  cases he
  have HD1 : Hid (w.cell? ⟨b, o + k * 3, none⟩ = some vg) := hd1
  have HD2 : Hid (w.cell? ⟨b, o + k * 3 + 1, none⟩ = some vb) := hd2
  have HD3 : Hid (w.cell? ⟨b, o + k * 3 + 2, none⟩ = some va) := hd3
  have HBB := Lib.hid hbb
  have HAT := Lib.hid hat
  obtain ⟨e1, f1, rfl, -⟩ := hat.1
  obtain ⟨e2, f2, rfl, -⟩ := hat.2.1
  obtain ⟨e3, f3, rfl, -⟩ := sl_shape hat.2.2
  clear hat hbb hd1 hd2 hd3
  have HWT := fun w h => Lib.hid (weight_ref (l.getD k default) (.slice e1 (l.getD k default).grams.length f1) (.slice e2 (l.getD k default).back.length f2) (.slice e3 (l.getD k default).added.length f3) w h HGO.out.1 HGO.out.2)
  obtain ⟨B, hB⟩ : ∃ B, w.heap.size = B := ⟨_, rfl⟩
  have HBW : Hid (w.heap.size = B) := hB
  have HB0 : Hid (Below B w w) := Below.refl _ _
  clear hB
  have hki : (k : Int) < (l.length : Int) := by omega
  generalize (l.getD k default).grams.length = m1 at *
  generalize (l.getD k default).back.length = m2 at *
  generalize (l.getD k default).added.length = m3 at *
  go_enter Try.func82, Try.ntmps82
  go_wp2_with fail
  go_loopw [7, 8] (fun tx iv wr => ∃ (t : Nat) (tv : Value), tv = tx ∧ iv = .int .i64 t ∧ t ≤ s.things.length ∧ Below B w wr ∧ B ≤ wr.heap.size ∧ wr.ownsRow B 51 2 tv t (spCells ((List.range t).map (fun t => partsV (weightV (l.getD k default)) (micV s l k t))))) (fun _ iv _ => s.things.length - (intOf iv).toNat)
  case atStart => exact ⟨0, _, rfl, rfl, by omega, HB0.out, Nat.le_of_eq HBW.out.symm, World.ownsRow_nil _ _ 51 2⟩
  case round =>
    clear HB0
    obtain ⟨t, tv, rfl, rfl, ht, hb, hle, hT⟩ := hrel
    have HB := Lib.hid hb
    have HT := Lib.hid hT
    have HLE := Lib.hid hle
    clear hb hT hle
    have h0 := (HB.out.cell (p := ⟨tb, to + k, none⟩) (by rw [← HBW.out]; exact HTB.out)).trans HRC.out
    by_cases htl : t < s.things.length
    · have hti : (t : Int) < (s.things.length : Int) := by omega
      obtain ⟨br, or, rfl, hbr, hq1, hq2⟩ := HROW.out.at' (i := t) (by simpa using htl)
      have hmr : ((List.range s.things.length).map (micV s l k)).getD t default = micV s l k t := mapr_get _ _ _ htl _
      rw [hmr] at hq1 hq2
      have HQ1 : Hid (w.cell? ⟨br, or + t * 2, none⟩ = some (.int .i64 (micV s l k t).1)) := hq1
      have HQ2 : Hid (w.cell? ⟨br, or + t * 2 + 1, none⟩ = some (.int .i64 (micV s l k t).2)) := hq2
      have HBR := Lib.hid hbr
      clear hq1 hq2 hmr hbr
      have HSN : Hid ((spCells ((List.range t).map (fun t => partsV (weightV (l.getD k default)) (micV s l k t)))) ++ [.int .i64 (partsV (weightV (l.getD k default)) (micV s l k t)).1, .int .i64 (partsV (weightV (l.getD k default)) (micV s l k t)).2] = spCells ((List.range (t + 1)).map (fun t => partsV (weightV (l.getD k default)) (micV s l k t)))) := by
        unfold Hid
        rw [List.range_succ, List.map_append]
        exact (spCells_snoc _ _).symm
      have HMT := Lib.hid (HMB t).out
      have HPR := fun w => Lib.hid (parts_ref (micV s l k t).1 (micV s l k t).2 (weightV (l.getD k default)) w HMT.out.1 HMT.out.2.1 HMT.out.2.2 HPOS.out.1 HPOS.out.2)
      obtain ⟨p, hp⟩ : ∃ p, partsV (weightV (l.getD k default)) (micV s l k t) = p := ⟨_, rfl⟩
      have HPR := fun w => Lib.hid (show Calls Try.prog 98 _ w (fun e w' => e = .returned (.agg #[.int .i64 p.1, .int .i64 p.2]) ∧ Below w.heap.size w w') by have h := (HPR w).out; rw [show ((micV s l k t).1, (micV s l k t).2) = micV s l k t from rfl, hp] at h; exact h)
      rw [hp] at HSN
      clear hp HMT
      obtain ⟨p1, p2⟩ := p
      obtain ⟨M, hM⟩ : ∃ M, micV s l k t = M := ⟨_, rfl⟩
      rw [hM] at HQ1 HQ2 HPR
      clear hM
      obtain ⟨mc1, mc2⟩ := M
      obtain ⟨WT, hWT⟩ : ∃ WT, weightV (l.getD k default) = WT := ⟨_, rfl⟩
      simp only [hWT] at HQ1 HQ2 HPR HWT
      have HSN := HSN
      obtain ⟨ta1, tc1, htv⟩ := ownsRow_slice HT.out
      have HTV := Lib.hid htv
      have HWTE := Lib.hid hWT
      clear htv hWT
      go_wp2_with fail
      clear h0
      refine wp_region_inv1 (by kernel_rfl) (by kernel_rfl) [32, 33, 7] (fun D y w' => AppX wr (B) 51 2 (tv) (t) ((spCells ((List.range t).map (fun t => partsV (weightV (l.getD k default)) (micV s l k t))))) [.int .i64 p1, .int .i64 p2] (D 14) (D 15) (y 32) (y 33) w' ∧ (D 16 = false → y 7 = tv) ∧ (D 16 = true → y 7 = y 33)) ?_ ?F1 ?hF1 ?_
      · exact ⟨AppX.start HT.out HLE.out, fun _ => rfl, fun h => (by cases h)⟩
      case hF1 =>
        intro y
        simp only [fill, List.foldl, Act.put, List.setIfInBounds_toArray, List.set]
        exact rfl
      apply obl_det
      case hrun =>
        intro D y wz hW hD R hR
        have HRR := Lib.hid hR
        clear hR
        have h15 : D 16 = false := hD.post _ 16 rfl (by kernel_rfl)
        refine wpList_mv rfl _ rfl (tv) (hW.2.1 h15) ?_
        have HW := Lib.hid hW
        clear hW hD
        go_wp2_with fail
        exact HRR.out _ HW.out
      case hnp => rfl
      case hv => first | exact ⟨_, fun _ => rfl⟩ | exact ⟨undef, fun _ => rfl⟩
      iterate 3
        (apply obl_det
         case hrun =>
           intro D y wz hW hD R hR
           have HRR := Lib.hid hR
           clear hR
           have HW := Lib.hid hW
           have hc2 := (cellB hW.1.bel).1
           clear hW hD
           go_wp2_with fail
           exact HRR.out _ HW.out
         case hnp => rfl
         case hv => first | exact ⟨_, fun _ => rfl⟩ | exact ⟨undef, fun _ => rfl⟩)
      apply obl_det
      case hrun =>
        intro D y wz hW hD R hR
        have HRR := Lib.hid hR
        clear hR
        have HW := Lib.hid hW
        have HZB := Lib.hid (HB.out.trans HW.out.1.bel)
        have h1 := (HZB.out.cell (p := ⟨tb, to + k, none⟩) (by rw [← HBW.out]; exact HTB.out)).trans HRC.out
        clear hW hD
        go_wp2_with fail
        exact HRR.out _ HW.out
      case hnp => rfl
      case hv => first | exact ⟨_, fun _ => rfl⟩ | exact ⟨undef, fun _ => rfl⟩
      iterate 2
        (apply obl_det
         case hrun =>
           intro D y wz hW hD R hR
           have HRR := Lib.hid hR
           clear hR
           have HW := Lib.hid hW
           have hc2 := (cellB hW.1.bel).1
           clear hW hD
           go_wp2_with fail
           exact HRR.out _ HW.out
         case hnp => rfl
         case hv => first | exact ⟨_, fun _ => rfl⟩ | exact ⟨undef, fun _ => rfl⟩)
      apply obl_det
      case hrun =>
        intro D y wz hW hD R hR
        have HRR := Lib.hid hR
        clear hR
        have HW := Lib.hid hW
        have HZB := Lib.hid (HB.out.trans HW.out.1.bel)
        have h1 := (HZB.out.cell (p := ⟨br, or + t * 2, none⟩) (by rw [← HBW.out]; exact HBR.out)).trans HQ1.out
        have h2 := (HZB.out.cell (p := ⟨br, or + t * 2 + 1, none⟩) (by rw [← HBW.out]; exact HBR.out)).trans HQ2.out
        clear hW hD
        go_wp2_with fail
        exact HRR.out _ HW.out
      case hnp => rfl
      case hv => first | exact ⟨_, fun _ => rfl⟩ | exact ⟨undef, fun _ => rfl⟩
      iterate 3
        (apply obl_det
         case hrun =>
           intro D y wz hW hD R hR
           have HRR := Lib.hid hR
           clear hR
           have HW := Lib.hid hW
           have hc2 := (cellB hW.1.bel).1
           clear hW hD
           go_wp2_with fail
           exact HRR.out _ HW.out
         case hnp => rfl
         case hv => first | exact ⟨_, fun _ => rfl⟩ | exact ⟨undef, fun _ => rfl⟩)
      apply obl_det
      case hrun =>
        intro D y wz hW hD R hR
        have HRR := Lib.hid hR
        clear hR
        have HW := Lib.hid hW
        have HZB := Lib.hid (HB.out.trans HW.out.1.bel)
        have h1 := (HZB.out.cell (p := ⟨b, o + k * 3, none⟩) (by rw [← HBW.out]; exact HBB.out)).trans HD1.out
        have h2 := (HZB.out.cell (p := ⟨b, o + k * 3 + 1, none⟩) (by rw [← HBW.out]; exact HBB.out)).trans HD2.out
        have h3 := (HZB.out.cell (p := ⟨b, o + k * 3 + 2, none⟩) (by rw [← HBW.out]; exact HBB.out)).trans HD3.out
        clear hW hD
        go_wp2_with fail
        exact HRR.out _ HW.out
      case hnp => rfl
      case hv => first | exact ⟨_, fun _ => rfl⟩ | exact ⟨undef, fun _ => rfl⟩
      apply obl_det
      case hrun =>
        intro D y wz hW hD R hR
        have HRR := Lib.hid hR
        clear hR
        have HW := Lib.hid hW
        have HZB := Lib.hid (HB.out.trans HW.out.1.bel)
        have HSZ : Hid (wr.heap.size ≤ wz.heap.size) := HW.out.1.bel.size
        clear hW hD
        go_wp2_with fail
        refine (HWT _ ((HAT.out.below (by rw [HBW.out]; exact HZB.out)).mono (by rw [HBW.out]; exact Nat.le_trans HLE.out HSZ.out))).out.mono ?_
        rintro e w' ⟨rfl, hbw⟩
        go_wp2_with fail
        exact HRR.out _ ⟨HW.out.1.call hbw, HW.out.2⟩
      case hnp => rfl
      case hv => first | exact ⟨_, fun _ => rfl⟩ | exact ⟨undef, fun _ => rfl⟩
      apply obl_det
      case hrun =>
        intro D y wz hW hD R hR
        have HRR := Lib.hid hR
        clear hR
        have HW := Lib.hid hW
        have hc2 := (cellB hW.1.bel).1
        clear hW hD
        go_wp2_with fail
        refine (HPR _).out.mono ?_
        rintro e w' ⟨rfl, hbw⟩
        go_wp2_with fail
        exact HRR.out _ ⟨HW.out.1.call hbw, HW.out.2⟩
      case hnp => rfl
      case hv => first | exact ⟨_, fun _ => rfl⟩ | exact ⟨undef, fun _ => rfl⟩
      apply obl_priv 32
      case hd => rfl
      case hp => rfl
      case hrun =>
        intro D y wz hW hD R hR
        have HRR := Lib.hid hR
        clear hR
        have h13 : D 14 = false := hD.not
        have h14 : D 15 = false := hD.post _ 15 rfl (by kernel_rfl)
        have hA := hW.1
        rw [h13, h14] at hA
        have HA := Lib.hid hA.laid
        have HV := Lib.hid hW.2
        have H14 := Lib.hid h14
        clear hA hW hD h13 h14
        go_wp2_with fail
        refine HRR.out (.slice (some ⟨wz.heap.size, 0, none⟩) 1 1) _ ?_
        show AppX wr (B) 51 2 (tv) (t) ((spCells ((List.range t).map (fun t => partsV (weightV (l.getD k default)) (micV s l k t))))) [.int .i64 p1, .int .i64 p2] true (D 15) (.slice (some ⟨wz.heap.size, 0, none⟩) 1 1) (y 33) _ ∧ (D 16 = false → y 7 = tv) ∧ (D 16 = true → y 7 = y 33)
        rw [H14.out]
        exact ⟨HA.out, HV.out⟩
      apply obl_priv 33
      case hd => rfl
      case hp => rfl
      case hrun =>
        intro D y wz hW hD R hR
        have HRR := Lib.hid hR
        clear hR
        have h14 : D 15 = false := hD.not
        have h13 : D 14 = true := hD.pre _ 14 rfl (by kernel_rfl)
        have h15 : D 16 = false := hD.post _ 16 rfl (by kernel_rfl)
        have hA := hW.1
        rw [h13, h14] at hA
        have HA := Lib.hid hA
        have HV := Lib.hid (hW.2.1 h15)
        have H13 := Lib.hid h13
        have H15 := Lib.hid h15
        have hbase := hA.le
        have ho := hA.row rfl
        obtain ⟨g, hyb, hgc⟩ := hA.lay rfl rfl
        clear hA hW hD h13 h14 h15
        obtain ⟨i0, hi0, hz0, hz1, hz2⟩ := info51'
        refine wpList_append_own _ rfl _ _ 54 rfl (B) 51 i0 (.agg #[.int .i64 0, .int .i64 0]) 2 16 Try.underlying54 hi0 hz0 hz1 hz2 rfl (by decide) _ _ _ rfl ho ⟨g, 0, none⟩ 1 1 [.int .i64 p1, .int .i64 p2] hyb rfl (cell_news _ _ _ _ hgc) (two_ints _ _) (by unfold maxLen; omega) (by omega) (by omega) ?_
        intro v' w12 hown12 hgrow12 _
        have HA2 := Lib.hid (HA.out.got hown12 hgrow12)
        clear ho hgc hown12 hgrow12 hi0 hz0 hz1 hz2 hyb
        go_wp2_with fail
        refine HRR.out v' _ ?_
        show AppX wr (B) 51 2 (tv) (t) ((spCells ((List.range t).map (fun t => partsV (weightV (l.getD k default)) (micV s l k t))))) [.int .i64 p1, .int .i64 p2] (D 14) true (y 32) v' _ ∧ (D 16 = false → y 7 = tv) ∧ (D 16 = true → y 7 = v')
        rw [H13.out]
        exact ⟨HA2.out, fun _ => HV.out, fun h => (by rw [H15.out] at h; cases h)⟩
      apply obl_priv 7
      case hd => rfl
      case hp => rfl
      case hrun =>
        intro D y wz hW hD R hR
        have HRR := Lib.hid hR
        clear hR
        have HA := Lib.hid hW.1
        clear hW hD
        go_wp2_with fail
        refine HRR.out (y 33) _ ?_
        show AppX wr (B) 51 2 (tv) (t) ((spCells ((List.range t).map (fun t => partsV (weightV (l.getD k default)) (micV s l k t))))) [.int .i64 p1, .int .i64 p2] (D 14) (D 15) (y 32) (y 33) _ ∧ (true = false → y 33 = tv) ∧ (true = true → y 33 = y 33)
        exact ⟨HA.out, fun h => (by cases h), fun _ => rfl⟩
      apply obl_nil
      intro D y w8 hall hW
      have h14 := hall 15 (by decide)
      have hy := hW.2.2 (hall 16 (by decide))
      have hA := hW.1
      rw [h14] at hA
      have HO8 := Lib.hid (hA.new rfl)
      have C8 := Lib.hid hA.bel
      clear hA hW hall h14
      rw [hy]
      clear hy
      generalize y 33 = yv at HO8 ⊢
      generalize y 32 = yb at ⊢
      rw [HSN.out] at HO8
      go_wp2_with fail
      refine ⟨⟨t + 1, _, rfl, by push_cast; rfl, by omega, HB.out.trans C8.out, Nat.le_trans HLE.out C8.out.size, HO8.out⟩, ?_⟩
      simp [intOf]; omega
    · obtain rfl : t = s.things.length := by omega
      have HTF : Hid (SpansIn wr.heap.size wr tv (backV s l k)) := OwnSpans.spans (base := B) (by unfold OwnSpans backV; simpa using HT.out) (by simp [backV]; omega)
      go_wp2_with fail
      go_ret
      exact ⟨_, rfl, HTF.out, by rw [HBW.out]; exact HB.out⟩
end Go.Proofs.Ytaigbhhmmdfdcaa
