/- narrow: the ranges that it hands back are a row of their own. -/
import Derived.Test.YtaigbhhmmdfdcaaY20
namespace Go.Proofs.Ytaigbhhmmdfdcaa
open Go.RowKit
set_option maxRecDepth 100000 in
set_option maxHeartbeats 8000000 in
theorem narrow48_own (l : List (Int × Int)) (x : List Int) (n : Nat) (hl : l.length ≤ 100) (hok : SpOk l) (hx : Turns x) (hn : n ≤ 1000) (v u : Value) (w : World) (hv : SpansIn w.heap.size w v l) (hu : IntsIn .u32 w.heap.size w u x) :
    Calls Try.prog 48 #[v, u, .int .i64 n] w fun e w' => ∃ t, e = .returned t ∧ OwnSpans w.heap.size w' t (narrowV l x n) ∧ Below w.heap.size w w' := by
  have HV := Lib.hid hv
  have HU := Lib.hid hu
  have HOK := Lib.hid hok
  have HX := Lib.hid hx
  obtain ⟨a, c, rfl, -, -⟩ := sl_shape hv
  clear hv hu hok hx
  obtain ⟨B, hB⟩ : ∃ B, w.heap.size = B := ⟨_, rfl⟩
  have HBW : Hid (w.heap.size = B) := hB
  have HB0 : Hid (Below B w w) := Below.refl _ _
  clear hB
  go_enter Try.func48, Try.ntmps48
  go_wp2_with fail
  go_loopw [7, 8] (fun tx iv wr => ∃ (k : Nat) (tv : Value), tv = tx ∧ iv = .int .i64 k ∧ k ≤ l.length ∧ Below B w wr ∧ B ≤ wr.heap.size ∧ wr.ownsRow B 51 2 tv k (spCells ((List.range k).map (fun i => narrowAt (l.getD i (0, 0)) x (n + i))))) (fun _ iv _ => l.length - (intOf iv).toNat)
  case atStart => exact ⟨0, _, rfl, rfl, by omega, HB0.out, Nat.le_of_eq HBW.out.symm, World.ownsRow_nil _ _ 51 2⟩
  case round =>
    clear HB0
    obtain ⟨k, tv, rfl, rfl, hk, hb, hle, hT⟩ := hrel
    have HB := Lib.hid hb
    have HT := Lib.hid hT
    have HLE := Lib.hid hle
    clear hb hT hle
    by_cases hkl : k < l.length
    · have hki : (k : Int) < (l.length : Int) := by omega
      obtain ⟨b, o, rfl, hbb, hc1, hc2⟩ := HV.out.at' hkl
      have HC1 : Hid (wr.cell? ⟨b, o + k * 2, none⟩ = some (.int .i64 (l.getD k (0, 0)).1)) := (HB.out.cell (p := ⟨b, o + k * 2, none⟩) (by rw [← HBW.out]; exact hbb)).trans hc1
      have HC2 : Hid (wr.cell? ⟨b, o + k * 2 + 1, none⟩ = some (.int .i64 (l.getD k (0, 0)).2)) := (HB.out.cell (p := ⟨b, o + k * 2 + 1, none⟩) (by rw [← HBW.out]; exact hbb)).trans hc2
      have HBB : Hid (b < B) := by rw [← HBW.out]; exact hbb
      have HSN : Hid ((spCells ((List.range k).map (fun i => narrowAt (l.getD i (0, 0)) x (n + i)))) ++ [.int .i64 (amongV (l.getD k (0, 0)) (turnV x (n + k))), .int .i64 (amongV (amongV (l.getD k (0, 0)) (turnV x (n + k)), (l.getD k (0, 0)).2) (turnV x (n + k + 1)))] = spCells ((List.range (k + 1)).map (fun i => narrowAt (l.getD i (0, 0)) x (n + i)))) := by
        unfold Hid
        rw [List.range_succ, List.map_append]
        exact (spCells_snoc _ (narrowAt (l.getD k (0, 0)) x (n + k))).symm
      have hpk := HOK.out k hkl
      have htb := turnV_bound HX.out (n + k)
      have htb2 := turnV_bound HX.out (n + k + 1)
      have hin := amongV_in hpk.2.1 (turnV x (n + k))
      have HAM2 := fun w => Lib.hid (among49 (amongV (l.getD k (0, 0)) (turnV x (n + k)), (l.getD k (0, 0)).2) (turnV x (n + k + 1)) w ⟨by simp only; omega, by simp only; omega, by simp only; omega⟩ htb2.1)
      have HTU2 := fun w h => Lib.hid (turn40 x HX.out (n + k + 1) (by omega) u w h)
      have HAM := fun w => Lib.hid (among49 (l.getD k (0, 0)) (turnV x (n + k)) w hpk htb.1)
      have HTU := fun w h => Lib.hid (turn40 x HX.out (n + k) (by omega) u w h)
      clear hc1 hc2 hbb
      obtain ⟨NK, hNK⟩ : ∃ NK, n + k = NK := ⟨_, rfl⟩
      have HNK : Hid (((n : Int) + (k : Int)) = (NK : Int)) := by unfold Hid; omega
      have hnk : NK ≤ 100000 := by omega
      rw [hNK] at HSN htb HAM HTU htb2 hin HAM2 HTU2
      clear hNK
      obtain ⟨NL, hNL⟩ : ∃ NL, NK + 1 = NL := ⟨_, rfl⟩
      have HNL : Hid (((NK : Int) + 1) = (NL : Int)) := by unfold Hid; omega
      rw [hNL] at HSN htb2 HAM2 HTU2
      have hnl : NL ≤ 100001 := by omega
      clear hNL
      generalize amongV (l.getD k (0, 0)) (turnV x NK) = A at *
      generalize turnV x NK = T at *
      generalize turnV x NL = T2 at *
      obtain ⟨p, hp⟩ : ∃ p, l.getD k (0, 0) = p := ⟨_, rfl⟩
      rw [hp] at HC1 HC2 HAM HAM2 HSN hin
      clear hp hpk
      obtain ⟨p1, p2⟩ := p
      simp only at HC1 HC2 HAM HAM2 HSN hin
      generalize amongV (A, p2) T2 = A2 at *
      obtain ⟨ta1, tc1, htv⟩ := ownsRow_slice HT.out
      have HTV := Lib.hid htv
      clear htv
      go_wp2_with fail
      refine wp_region_inv0 (by kernel_rfl) (by kernel_rfl) (fun D w' => Below wr.heap.size wr w') (Below.refl _ _).drew ?_
      apply obl_det
      case hrun =>
        intro D y wz hW hD R hR
        have HRR := Lib.hid hR
        clear hR
        have HW := Lib.hid hW
        clear hW hD
        go_wp2_with fail
        exact HRR.out _ HW.out
      case hnp => rfl
      case hv => first | exact ⟨_, fun _ => rfl⟩ | exact ⟨undef, fun _ => rfl⟩
      apply obl_det
      case hrun =>
        intro D y wz hW hD R hR
        have HRR := Lib.hid hR
        clear hR
        have HW := Lib.hid hW
        clear hW hD
        go_wp2_with fail
        exact HRR.out _ HW.out
      case hnp => rfl
      case hv => first | exact ⟨_, fun _ => rfl⟩ | exact ⟨undef, fun _ => rfl⟩
      apply obl_det
      case hrun =>
        intro D y wz hW hD R hR
        have HRR := Lib.hid hR
        clear hR
        have HW := Lib.hid hW
        clear hW hD
        go_wp2_with fail
        exact HRR.out _ HW.out
      case hnp => rfl
      case hv => first | exact ⟨_, fun _ => rfl⟩ | exact ⟨undef, fun _ => rfl⟩
      apply obl_det
      case hrun =>
        intro D y wz hW hD R hR
        have HRR := Lib.hid hR
        clear hR
        have HW := Lib.hid hW
        have h1 := (HW.out.cell (p := ⟨b, o + k * 2, none⟩) (Nat.lt_of_lt_of_le HBB.out HLE.out)).trans HC1.out
        have h2 := (HW.out.cell (p := ⟨b, o + k * 2 + 1, none⟩) (Nat.lt_of_lt_of_le HBB.out HLE.out)).trans HC2.out
        clear hW hD
        go_wp2_with fail
        exact HRR.out _ HW.out
      case hnp => rfl
      case hv => first | exact ⟨_, fun _ => rfl⟩ | exact ⟨undef, fun _ => rfl⟩
      apply obl_det
      case hrun =>
        intro D y wz hW hD R hR
        have HRR := Lib.hid hR
        clear hR
        have HW := Lib.hid hW
        clear hW hD
        go_wp2_with fail
        exact HRR.out _ HW.out
      case hnp => rfl
      case hv => first | exact ⟨_, fun _ => rfl⟩ | exact ⟨undef, fun _ => rfl⟩
      apply obl_det
      case hrun =>
        intro D y wz hW hD R hR
        have HRR := Lib.hid hR
        clear hR
        have HW := Lib.hid hW
        clear hW hD
        go_wp2_with fail
        exact HRR.out _ HW.out
      case hnp => rfl
      case hv => first | exact ⟨_, fun _ => rfl⟩ | exact ⟨undef, fun _ => rfl⟩
      apply obl_det
      case hrun =>
        intro D y wz hW hD R hR
        have HRR := Lib.hid hR
        clear hR
        have HW := Lib.hid hW
        clear hW hD
        go_wp2_with fail
        exact HRR.out _ HW.out
      case hnp => rfl
      case hv => first | exact ⟨_, fun _ => rfl⟩ | exact ⟨undef, fun _ => rfl⟩
      apply obl_det
      case hrun =>
        intro D y wz hW hD R hR
        have HRR := Lib.hid hR
        clear hR
        have HW := Lib.hid hW
        clear hW hD
        go_wp2_with fail
        rw [HNK.out]
        exact HRR.out _ HW.out
      case hnp => rfl
      case hv => first | exact ⟨_, fun _ => rfl⟩ | exact ⟨undef, fun _ => rfl⟩
      apply obl_det
      case hrun =>
        intro D y wz hW hD R hR
        have HRR := Lib.hid hR
        clear hR
        have HW := Lib.hid hW
        clear hW hD
        have HZB := Lib.hid (HB.out.trans (HW.out.mono HLE.out))
        have HUZ : Hid (IntsIn .u32 wz.heap.size wz u x) := (IntsIn.below HU.out (by rw [HBW.out]; exact HZB.out)).mono (by rw [HBW.out]; exact Nat.le_trans HLE.out HW.out.size)
        go_wp2_with fail
        refine (HTU _ HUZ.out).out.mono ?_
        rintro e w' ⟨rfl, rfl⟩
        go_wp2_with fail
        exact HRR.out _ HW.out
      case hnp => rfl
      case hv => first | exact ⟨_, fun _ => rfl⟩ | exact ⟨undef, fun _ => rfl⟩
      apply obl_det
      case hrun =>
        intro D y wz hW hD R hR
        have HRR := Lib.hid hR
        clear hR
        have HW := Lib.hid hW
        clear hW hD
        go_wp2_with fail
        refine (HAM _).out.mono ?_
        rintro e w' ⟨rfl, hb⟩
        have HW2 := Lib.hid (HW.out.trans (hb.mono HW.out.size))
        clear hb
        go_wp2_with fail
        exact HRR.out _ HW2.out
      case hnp => rfl
      case hv => first | exact ⟨_, fun _ => rfl⟩ | exact ⟨undef, fun _ => rfl⟩
      apply obl_det
      case hrun =>
        intro D y wz hW hD R hR
        have HRR := Lib.hid hR
        clear hR
        have HW := Lib.hid hW
        clear hW hD
        go_wp2_with fail
        exact HRR.out _ HW.out
      case hnp => rfl
      case hv => first | exact ⟨_, fun _ => rfl⟩ | exact ⟨undef, fun _ => rfl⟩
      apply obl_nil
      intro D y w7 hall hW
      have HB7 := Lib.hid (HB.out.trans (hW.mono HLE.out))
      have HT7 := Lib.hid (ownsRow.below HT.out hW)
      have HLE7 : Hid (B ≤ w7.heap.size) := Nat.le_trans HLE.out hW.size
      have HC2' : Hid (w7.cell? ⟨b, o + k * 2 + 1, none⟩ = some (.int .i64 p2)) := (hW.cell (p := ⟨b, o + k * 2 + 1, none⟩) (Nat.lt_of_lt_of_le HBB.out HLE.out)).trans HC2.out
      clear hall hW HC1 HC2 HT HB
      go_wp2_with fail
      refine wp_region_inv1 (by kernel_rfl) (by kernel_rfl) [43, 44, 7] (fun D y w' => AppX w7 (B) 51 2 (tv) (k) ((spCells ((List.range k).map (fun i => narrowAt (l.getD i (0, 0)) x (n + i))))) [.int .i64 A, .int .i64 A2] (D 17) (D 18) (y 43) (y 44) w' ∧ (D 19 = false → y 7 = tv) ∧ (D 19 = true → y 7 = y 44)) ?_ ?F1 ?hF1 ?_
      · exact ⟨AppX.start HT7.out HLE7.out, fun _ => rfl, fun h => (by cases h)⟩
      case hF1 =>
        intro y
        simp only [fill, List.foldl, Act.put, List.setIfInBounds_toArray, List.set]
        exact rfl
      apply obl_det
      case hrun =>
        intro D y wz hW hD R hR
        have HRR := Lib.hid hR
        clear hR
        have h15 : D 19 = false := hD.post _ 19 rfl (by kernel_rfl)
        refine wpList_mv rfl _ rfl (tv) (hW.2.1 h15) ?_
        have HW := Lib.hid hW
        clear hW hD
        go_wp2_with fail
        exact HRR.out _ HW.out
      case hnp => rfl
      case hv => first | exact ⟨_, fun _ => rfl⟩ | exact ⟨undef, fun _ => rfl⟩
      iterate 6
        (apply obl_det
         case hrun =>
           intro D y wz hW hD R hR
           have HRR := Lib.hid hR
           clear hR
           have HW := Lib.hid hW
           have hc2 := (cellB hW.1.bel).1
           clear hW hD
           go_wp2_with fail
           exact HRR.out _ HW.out
         case hnp => rfl
         case hv => first | exact ⟨_, fun _ => rfl⟩ | exact ⟨undef, fun _ => rfl⟩)
      apply obl_det
      case hrun =>
        intro D y wz hW hD R hR
        have HRR := Lib.hid hR
        clear hR
        have HW := Lib.hid hW
        have hd := (HW.out.1.bel.cell (p := ⟨b, o + k * 2 + 1, none⟩) HBB.out).trans HC2'.out
        clear hW hD
        go_wp2_with fail
        exact HRR.out _ HW.out
      case hnp => rfl
      case hv => first | exact ⟨_, fun _ => rfl⟩ | exact ⟨undef, fun _ => rfl⟩
      iterate 4
        (apply obl_det
         case hrun =>
           intro D y wz hW hD R hR
           have HRR := Lib.hid hR
           clear hR
           have HW := Lib.hid hW
           have hc2 := (cellB hW.1.bel).1
           clear hW hD
           go_wp2_with fail
           exact HRR.out _ HW.out
         case hnp => rfl
         case hv => first | exact ⟨_, fun _ => rfl⟩ | exact ⟨undef, fun _ => rfl⟩)
      apply obl_det
      case hrun =>
        intro D y wz hW hD R hR
        have HRR := Lib.hid hR
        clear hR
        have HW := Lib.hid hW
        have hc2 := (cellB hW.1.bel).1
        clear hW hD
        go_wp2_with fail
        rw [HNK.out]
        exact HRR.out _ HW.out
      case hnp => rfl
      case hv => first | exact ⟨_, fun _ => rfl⟩ | exact ⟨undef, fun _ => rfl⟩
      apply obl_det
      case hrun =>
        intro D y wz hW hD R hR
        have HRR := Lib.hid hR
        clear hR
        have HW := Lib.hid hW
        have hc2 := (cellB hW.1.bel).1
        clear hW hD
        go_wp2_with fail
        rw [HNL.out]
        exact HRR.out _ HW.out
      case hnp => rfl
      case hv => first | exact ⟨_, fun _ => rfl⟩ | exact ⟨undef, fun _ => rfl⟩
      apply obl_det
      case hrun =>
        intro D y wz hW hD R hR
        have HRR := Lib.hid hR
        clear hR
        have HW := Lib.hid hW
        have hc2 := (cellB hW.1.bel).1
        clear hW hD
        have HZB := Lib.hid (HB7.out.trans HW.out.1.bel)
        have HUZ : Hid (IntsIn .u32 wz.heap.size wz u x) := (IntsIn.below HU.out (by rw [HBW.out]; exact HZB.out)).mono (by rw [HBW.out]; exact Nat.le_trans HLE7.out HW.out.1.bel.size)
        go_wp2_with fail
        refine (HTU2 _ HUZ.out).out.mono ?_
        rintro e w' ⟨rfl, rfl⟩
        go_wp2_with fail
        exact HRR.out _ HW.out
      case hnp => rfl
      case hv => first | exact ⟨_, fun _ => rfl⟩ | exact ⟨undef, fun _ => rfl⟩
      apply obl_det
      case hrun =>
        intro D y wz hW hD R hR
        have HRR := Lib.hid hR
        clear hR
        have HW := Lib.hid hW
        have hc2 := (cellB hW.1.bel).1
        clear hW hD
        go_wp2_with fail
        refine (HAM2 _).out.mono ?_
        rintro e w' ⟨rfl, hbw⟩
        go_wp2_with fail
        exact HRR.out _ ⟨HW.out.1.call hbw, HW.out.2⟩
      case hnp => rfl
      case hv => first | exact ⟨_, fun _ => rfl⟩ | exact ⟨undef, fun _ => rfl⟩
      apply obl_det
      case hrun =>
        intro D y wz hW hD R hR
        have HRR := Lib.hid hR
        clear hR
        have HW := Lib.hid hW
        have hc2 := (cellB hW.1.bel).1
        clear hW hD
        go_wp2_with fail
        exact HRR.out _ HW.out
      case hnp => rfl
      case hv => first | exact ⟨_, fun _ => rfl⟩ | exact ⟨undef, fun _ => rfl⟩
      apply obl_priv 43
      case hd => rfl
      case hp => rfl
      case hrun =>
        intro D y wz hW hD R hR
        have HRR := Lib.hid hR
        clear hR
        have h13 : D 17 = false := hD.not
        have h14 : D 18 = false := hD.post _ 18 rfl (by kernel_rfl)
        have hA := hW.1
        rw [h13, h14] at hA
        have HA := Lib.hid hA.laid
        have HV := Lib.hid hW.2
        have H14 := Lib.hid h14
        clear hA hW hD h13 h14
        go_wp2_with fail
        refine HRR.out (.slice (some ⟨wz.heap.size, 0, none⟩) 1 1) _ ?_
        show AppX w7 (B) 51 2 (tv) (k) ((spCells ((List.range k).map (fun i => narrowAt (l.getD i (0, 0)) x (n + i))))) [.int .i64 A, .int .i64 A2] true (D 18) (.slice (some ⟨wz.heap.size, 0, none⟩) 1 1) (y 44) _ ∧ (D 19 = false → y 7 = tv) ∧ (D 19 = true → y 7 = y 44)
        rw [H14.out]
        exact ⟨HA.out, HV.out⟩
      apply obl_priv 44
      case hd => rfl
      case hp => rfl
      case hrun =>
        intro D y wz hW hD R hR
        have HRR := Lib.hid hR
        clear hR
        have h14 : D 18 = false := hD.not
        have h13 : D 17 = true := hD.pre _ 17 rfl (by kernel_rfl)
        have h15 : D 19 = false := hD.post _ 19 rfl (by kernel_rfl)
        have hA := hW.1
        rw [h13, h14] at hA
        have HA := Lib.hid hA
        have HV := Lib.hid (hW.2.1 h15)
        have H13 := Lib.hid h13
        have H15 := Lib.hid h15
        have hbase := hA.le
        have ho := hA.row rfl
        obtain ⟨g, hyb, hgc⟩ := hA.lay rfl rfl
        clear hA hW hD h13 h14 h15
        obtain ⟨i0, hi0, hz0, hz1, hz2⟩ := info51'
        refine wpList_append_own _ rfl _ _ 54 rfl (B) 51 i0 (.agg #[.int .i64 0, .int .i64 0]) 2 16 Try.underlying54 hi0 hz0 hz1 hz2 rfl (by decide) _ _ _ rfl ho ⟨g, 0, none⟩ 1 1 [.int .i64 A, .int .i64 A2] hyb rfl (cell_news _ _ _ _ hgc) (two_ints _ _) (by unfold maxLen; omega) (by omega) (by omega) ?_
        intro v' w12 hown12 hgrow12 _
        have HA2 := Lib.hid (HA.out.got hown12 hgrow12)
        clear ho hgc hown12 hgrow12 hi0 hz0 hz1 hz2 hyb
        go_wp2_with fail
        refine HRR.out v' _ ?_
        show AppX w7 (B) 51 2 (tv) (k) ((spCells ((List.range k).map (fun i => narrowAt (l.getD i (0, 0)) x (n + i))))) [.int .i64 A, .int .i64 A2] (D 17) true (y 43) v' _ ∧ (D 19 = false → y 7 = tv) ∧ (D 19 = true → y 7 = v')
        rw [H13.out]
        exact ⟨HA2.out, fun _ => HV.out, fun h => (by rw [H15.out] at h; cases h)⟩
      apply obl_priv 7
      case hd => rfl
      case hp => rfl
      case hrun =>
        intro D y wz hW hD R hR
        have HRR := Lib.hid hR
        clear hR
        have HA := Lib.hid hW.1
        clear hW hD
        go_wp2_with fail
        refine HRR.out (y 44) _ ?_
        show AppX w7 (B) 51 2 (tv) (k) ((spCells ((List.range k).map (fun i => narrowAt (l.getD i (0, 0)) x (n + i))))) [.int .i64 A, .int .i64 A2] (D 17) (D 18) (y 43) (y 44) _ ∧ (true = false → y 44 = tv) ∧ (true = true → y 44 = y 44)
        exact ⟨HA.out, fun h => (by cases h), fun _ => rfl⟩
      apply obl_nil
      intro D y w8 hall hW
      have h14 := hall 18 (by decide)
      have hy := hW.2.2 (hall 19 (by decide))
      have hA := hW.1
      rw [h14] at hA
      have HO8 := Lib.hid (hA.new rfl)
      have C8 := Lib.hid hA.bel
      clear hA hW hall h14
      rw [hy]
      clear hy
      generalize y 44 = yv at HO8 ⊢
      generalize y 43 = yb at ⊢
      rw [HSN.out] at HO8
      go_wp2_with fail
      refine ⟨⟨k + 1, _, rfl, by push_cast; rfl, by omega, HB7.out.trans C8.out, Nat.le_trans HLE7.out C8.out.size, HO8.out⟩, ?_⟩
      simp [intOf]; omega
    · obtain rfl : k = l.length := by omega
      have HTF : Hid (OwnSpans w.heap.size wr tv (narrowV l x n)) := by unfold Hid OwnSpans narrowV; rw [HBW.out]; simpa using HT.out
      go_wp2_with fail
      go_ret
      exact ⟨_, rfl, HTF.out, by rw [HBW.out]; exact HB.out⟩
end Go.Proofs.Ytaigbhhmmdfdcaa
