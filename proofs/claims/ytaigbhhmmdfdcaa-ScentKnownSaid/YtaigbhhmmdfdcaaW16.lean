/- scent.Left. -/
import Derived.Test.YtaigbhhmmdfdcaaW15
namespace Go.Proofs.Ytaigbhhmmdfdcaa
open Go.RowKit
/-- Ints are handed back, with an error. -/
def RetInts (t : List Int) (E : Int) (w : World) : Ending → World → Prop := fun e w' => ∃ tv, e = .returned (.tuple #[tv, .int .i64 E]) ∧ IntsIn .i64 w'.heap.size w' tv t ∧ Below w.heap.size w w'
theorem IntsIn.nil {k : IntKind} {o : Option Addr} {c : Nat} (B : Nat) (w : World) : IntsIn k B w (.slice o 0 c) [] := ⟨o, c, rfl, by simp, .inl rfl⟩
set_option maxRecDepth 100000 in
set_option maxHeartbeats 8000000 in
theorem left_any (s : Shop) (l : List Bat) (vt vl v : Value) (w : World) (hv : ShopAt w.heap.size w vt vl s) (hl' : BatsIn w.heap.size w v l) :
    Calls Try.prog 22 #[.agg #[vt, vl], v] w (RetInts (leftV s l) (batchesE s l) w) := by
  unfold RetInts
  have HV := Lib.hid hv
  have HL := Lib.hid hl'
  obtain ⟨ta, tc, rfl, -, htl⟩ := sl_shape hv.1
  obtain ⟨la, lc, rfl, -, hll⟩ := sl_shape hv.2
  obtain ⟨va, vc, rfl, -, hvl⟩ := sl_shape hl'
  clear hv hl'
  have hb0 := (Below.refl w.heap.size w).alloc (Nat.le_refl _) (.cells #[.slice ta s.things.length tc, .slice la s.lots.length lc] 25)
  have HB0 := Lib.hid hb0
  have HMELT := Lib.hid (melt_any s l _ _ _ _ (HV.out.next hb0) (HL.out.next hb0))
  clear hb0
  unfold MeltPost at HMELT
  have HCV : Hid (leftV s l = if batchesE s l ≠ 0 then [] else (List.range l.length).map fun k => weightV (l.getD k default) - takenV l k l.length) := rfl
  have HOKB := Lib.hid (all_ok (s := s) (l := l))
  obtain ⟨E, hE⟩ : ∃ x, batchesE s l = x := ⟨_, rfl⟩
  rw [hE] at HMELT HCV ⊢
  simp only [hE] at HOKB
  clear hE
  go_enter Try.func22, Try.ntmps22
  go_wp2_with fail
  refine HMELT.out.mono ?_
  rintro e w1 ⟨hbad, hgood⟩
  by_cases hz : E = 0
  case neg =>
    have hz2 : (E != 0) = true := by simpa using hz
    have HZ := Lib.hid hz
    obtain ⟨rfl, hb1⟩ := hbad hz
    clear hz hbad hgood
    have HB1 := Lib.hid (HB0.out.trans (hb1.mono (by simp)))
    clear hb1
    go_wp2_with fail
    go_ret2
    refine ⟨_, rfl, ?_, HB1.out⟩
    rw [HCV.out, if_pos HZ.out]
    exact IntsIn.nil _ _
  subst hz
  obtain ⟨g, bo, vr, rfl, hA⟩ := hgood rfl
  have HA := Lib.hid hA
  have HOK := Lib.hid (HOKB.out rfl)
  clear hbad hgood hA HOKB HMELT
  obtain ⟨ra, rc, hvr⟩ := HA.out.shape
  subst hvr
  have hn6 := HOK.out.l6
  have hnt5 := HOK.out.sh.nt5
  have HB1 := Lib.hid (HB0.out.trans (HA.out.bel.mono (by simp)))
  have HGS : Hid (w1.cell? ⟨w.heap.size, 0, none⟩ = some (.slice ta s.things.length tc) ∧ w1.cell? ⟨w.heap.size, 1, none⟩ = some (.slice la s.lots.length lc)) :=
    ⟨(Below.cell (p := ⟨w.heap.size, 0, none⟩) HA.out.bel (by simp)).trans (cell_of_row _ _ 0 _ _ _ (heap_alloc_new w (.cells #[.slice ta s.things.length tc, .slice la s.lots.length lc] 25))), (Below.cell (p := ⟨w.heap.size, 1, none⟩) HA.out.bel (by simp)).trans (cell_of_row _ _ 1 _ _ _ (heap_alloc_new w (.cells #[.slice ta s.things.length tc, .slice la s.lots.length lc] 25)))⟩
  have hgsl : w.heap.size < w1.heap.size := by have := HA.out.le; simp at this; omega
  obtain ⟨W1, HWW⟩ : ∃ x, Hid (w1.heap.size = x) := ⟨_, rfl⟩
  have HB2 := Lib.hid (Below.refl w1.heap.size w1)
  clear hgsl
  go_wp2_with fail
  rw [HWW.out] at HB2
  go_loopw [4, 20] (fun tx iv wr => ∃ (k : Nat) (tv : Value), tv = tx ∧ iv = .int .i64 k ∧ k ≤ l.length ∧ Below W1 w1 wr ∧ W1 ≤ wr.heap.size ∧ wr.ownsRow W1 3 1 tv k ((List.range k).map (fun i => Value.int .i64 (weightV (l.getD i default) - takenV l i l.length)))) (fun _ iv _ => l.length - (intOf iv).toNat)
  case atStart => exact ⟨0, _, rfl, rfl, by omega, HB2.out, by rw [HWW.out]; exact Nat.le_refl _, World.ownsRow_nil _ _ 3 1⟩
  case round =>
    obtain ⟨k, tv, rfl, rfl, hk, hBk, hW1, hT⟩ := hrel
    have HBk := Lib.hid hBk
    have HT := Lib.hid hT
    have HW1 := Lib.hid hW1
    clear hBk hT hW1
    by_cases hkl : k < l.length
    · obtain ⟨pb, pc, he, hpc, hpb, hcell⟩ := HA.out.ptr hkl
      cases he
      rw [HWW.out] at hpb
      have hgk : g k < W1 := by rw [← HWW.out]; exact block_lt (HA.out.obj k hkl)
      have q3 := (HBk.out.cell (p := ⟨g k, 3, none⟩) hgk).trans (HA.out.wt hkl)
      have q4 := (HBk.out.cell (p := ⟨g k, 4, none⟩) hgk).trans (HA.out.tk hkl)
      have hcell := (HBk.out.cell (p := ⟨pb, k, none⟩) hpb).trans hcell
      have hki : (k : Int) < (l.length : Int) := by omega
      have hpos := HOK.out.pre.pos HOK.out.sh hn6 (Nat.le_refl _) hkl
      have htk := taken_nonneg HOK.out.pre k
      have HXS : Hid (((List.range k).map (fun i => Value.int .i64 (weightV (l.getD i default) - takenV l i l.length))) ++ [.int .i64 (weightV (l.getD k default) - takenV l k l.length)] = (List.range (k + 1)).map (fun i => Value.int .i64 (weightV (l.getD i default) - takenV l i l.length))) := by unfold Hid; rw [List.range_succ, List.map_append]; rfl
      have hwr : W1 ≤ wr.heap.size := HW1.out
      generalize hwt : weightV (l.getD k default) = wt at *
      generalize htt : takenV l k l.length = tk at *
      clear hwt htt
      obtain ⟨ta1, tc1, htv⟩ := ownsRow_slice HT.out
      have HTV := Lib.hid htv
      clear htv
      go_wp2_with fail
      refine wp_region_inv1 (by kernel_rfl) (by kernel_rfl) [34, 35, 4] (fun D y w' => AppX wr (W1) 3 1 (tv) (k) (((List.range k).map (fun i => Value.int .i64 (weightV (l.getD i default) - takenV l i l.length)))) [.int .i64 (wt - tk)] (D 10) (D 11) (y 34) (y 35) w' ∧ (D 12 = false → y 4 = tv) ∧ (D 12 = true → y 4 = y 35)) ?_ ?F1 ?hF1 ?_
      · exact ⟨AppX.start HT.out HW1.out, fun _ => rfl, fun h => (by cases h)⟩
      case hF1 =>
        intro y
        simp only [fill, List.foldl, Act.put, List.setIfInBounds_toArray, List.set]
        exact rfl
      apply obl_det
      case hrun =>
        intro D y wz hW hD R hR
        have HRR := Lib.hid hR
        clear hR
        have h15 : D 12 = false := hD.post _ 12 rfl (by kernel_rfl)
        refine wpList_mv rfl _ rfl (tv) (hW.2.1 h15) ?_
        have HW := Lib.hid hW
        clear hW hD
        go_wp2
        exact HRR.out _ HW.out
      case hnp => rfl
      case hv => first | exact ⟨_, fun _ => rfl⟩ | exact ⟨undef, fun _ => rfl⟩
      iterate 9
        (apply obl_det
         case hrun =>
           intro D y wz hW hD R hR
           have HRR := Lib.hid hR
           clear hR
           have HW := Lib.hid hW
           have hc2 := (cellB hW.1.bel).1
           clear hW hD
           go_wp2
           exact HRR.out _ HW.out
         case hnp => rfl
         case hv => first | exact ⟨_, fun _ => rfl⟩ | exact ⟨undef, fun _ => rfl⟩)
      apply obl_priv 34
      case hd => rfl
      case hp => rfl
      case hrun =>
        intro D y wz hW hD R hR
        have HRR := Lib.hid hR
        clear hR
        have h13 : D 10 = false := hD.not
        have h14 : D 11 = false := hD.post _ 11 rfl (by kernel_rfl)
        have hA := hW.1
        rw [h13, h14] at hA
        have HA := Lib.hid hA.laid
        have HV := Lib.hid hW.2
        have H14 := Lib.hid h14
        clear hA hW hD h13 h14
        go_wp2
        refine HRR.out (.slice (some ⟨wz.heap.size, 0, none⟩) 1 1) _ ?_
        show AppX wr (W1) 3 1 (tv) (k) (((List.range k).map (fun i => Value.int .i64 (weightV (l.getD i default) - takenV l i l.length)))) [.int .i64 (wt - tk)] true (D 11) (.slice (some ⟨wz.heap.size, 0, none⟩) 1 1) (y 35) _ ∧ (D 12 = false → y 4 = tv) ∧ (D 12 = true → y 4 = y 35)
        rw [H14.out]
        exact ⟨HA.out, HV.out⟩
      apply obl_priv 35
      case hd => rfl
      case hp => rfl
      case hrun =>
        intro D y wz hW hD R hR
        have HRR := Lib.hid hR
        clear hR
        have h14 : D 11 = false := hD.not
        have h13 : D 10 = true := hD.pre _ 10 rfl (by kernel_rfl)
        have h15 : D 12 = false := hD.post _ 12 rfl (by kernel_rfl)
        have hA := hW.1
        rw [h13, h14] at hA
        have HA := Lib.hid hA
        have HV := Lib.hid (hW.2.1 h15)
        have H13 := Lib.hid h13
        have H15 := Lib.hid h15
        have hbase := hA.le
        have ho := hA.row rfl
        obtain ⟨g, hyb, hgc⟩ := hA.lay rfl rfl
        clear hA hW hD h13 h14 h15
        obtain ⟨i0, hi0, hz0, hz1, hz2⟩ := info3'
        refine wpList_append_own _ rfl _ _ 36 rfl (W1) 3 i0 (.int .i64 0) 1 8 Try.underlying36 hi0 hz0 hz1 hz2 rfl (by decide) _ _ _ rfl ho ⟨g, 0, none⟩ 1 1 [.int .i64 (wt - tk)] hyb rfl (cell_news _ _ _ _ hgc) (one_int _) (by unfold maxLen; omega) (by omega) (by omega) ?_
        intro v' w12 hown12 hgrow12 _
        have HA2 := Lib.hid (HA.out.got hown12 hgrow12)
        clear ho hgc hown12 hgrow12 hi0 hz0 hz1 hz2 hyb
        go_wp2
        refine HRR.out v' _ ?_
        show AppX wr (W1) 3 1 (tv) (k) (((List.range k).map (fun i => Value.int .i64 (weightV (l.getD i default) - takenV l i l.length)))) [.int .i64 (wt - tk)] (D 10) true (y 34) v' _ ∧ (D 12 = false → y 4 = tv) ∧ (D 12 = true → y 4 = v')
        rw [H13.out]
        exact ⟨HA2.out, fun _ => HV.out, fun h => (by rw [H15.out] at h; cases h)⟩
      apply obl_priv 4
      case hd => rfl
      case hp => rfl
      case hrun =>
        intro D y wz hW hD R hR
        have HRR := Lib.hid hR
        clear hR
        have HA := Lib.hid hW.1
        clear hW hD
        go_wp2
        refine HRR.out (y 35) _ ?_
        show AppX wr (W1) 3 1 (tv) (k) (((List.range k).map (fun i => Value.int .i64 (weightV (l.getD i default) - takenV l i l.length)))) [.int .i64 (wt - tk)] (D 10) (D 11) (y 34) (y 35) _ ∧ (true = false → y 35 = tv) ∧ (true = true → y 35 = y 35)
        exact ⟨HA.out, fun h => (by cases h), fun _ => rfl⟩
      apply obl_nil
      intro D y w8 hall hW
      have h14 := hall 11 (by decide)
      have hy := hW.2.2 (hall 12 (by decide))
      have hA := hW.1
      rw [h14] at hA
      have HO8 := Lib.hid (hA.new rfl)
      have C8 := Lib.hid hA.bel
      clear hA hW hall h14
      rw [hy]
      clear hy
      generalize y 35 = yv at HO8 ⊢
      generalize y 34 = yb at ⊢
      rw [HXS.out] at HO8
      go_wp2_with fail
      refine ⟨⟨k + 1, _, rfl, by push_cast; rfl, by omega, HBk.out.trans C8.out, Nat.le_trans HW1.out C8.out.size, HO8.out⟩, ?_⟩
      simp [intOf]
      omega
    · obtain rfl : k = l.length := by omega
      go_wp2_with fail
      go_ret2
      refine ⟨_, rfl, ?_, HB1.out.trans (HBk.out.mono (by rw [← HWW.out]; exact HB1.out.size))⟩
      rw [HCV.out, if_neg (fun h => h rfl)]
      refine OwnInts.ints (base := W1) ?_ (by simp; omega)
      unfold OwnInts
      rw [List.map_map, List.length_map, List.length_range]
      exact HT.out
end Go.Proofs.Ytaigbhhmmdfdcaa
