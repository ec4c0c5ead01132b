/- scent.Content. -/
import Derived.Test.YtaigbhhmmdfdcaaAx
namespace Go.Proofs.Ytaigbhhmmdfdcaa
open Go.RowKit
theorem row_eq (s : Shop) (l : List Bat) {k : Nat} (hk : k < l.length) : (rangesV s l).getD k [] = (List.range s.things.length).map (micV s l k) := by
  unfold rangesV
  rw [rowsV_get s l hk, rowsV_last]
  unfold rowV
  apply List.map_congr_left
  intro t ht
  rw [micV_eq s l hk, if_pos (List.mem_range.1 ht)]
theorem rangesV_length (s : Shop) (l : List Bat) : (rangesV s l).length = l.length := rowsV_length s l _
theorem mapr_get {α : Type} (f : Nat → α) (n i : Nat) (h : i < n) (d : α) : ((List.range n).map f).getD i d = f i := by
  rw [List.getD_eq_getElem?_getD, List.getElem?_map, List.getElem?_range h]; rfl
/-- A table is handed back, with an error. -/
def RetTable (t : List (List (Int × Int))) (E : Int) (w : World) : Ending → World → Prop := fun e w' => ∃ tv, e = .returned (.tuple #[tv, .int .i64 E]) ∧ TableIn w'.heap.size w' tv t ∧ Below w.heap.size w w'
set_option maxRecDepth 100000 in
set_option maxHeartbeats 8000000 in
theorem content_any (s : Shop) (l : List Bat) (vt vl v : Value) (w : World) (hv : ShopAt w.heap.size w vt vl s) (hl' : BatsIn w.heap.size w v l) :
    Calls Try.prog 19 #[.agg #[vt, vl], v] w (RetTable (contentV s l) (batchesE s l) w) := by
  have HV := Lib.hid hv
  have HL := Lib.hid hl'
  obtain ⟨ta, tc, rfl, -, htl⟩ := sl_shape hv.1
  obtain ⟨la, lc, rfl, -, hll⟩ := sl_shape hv.2
  obtain ⟨va, vc, rfl, -, hvl⟩ := sl_shape hl'
  clear hv hl'
  have hb0 := (Below.refl w.heap.size w).alloc (Nat.le_refl _) (.cells #[.slice ta s.things.length tc, .slice la s.lots.length lc] 25)
  have HB0 := Lib.hid hb0
  have HMELT := Lib.hid (melt_any s l _ _ _ _ (HV.out.next hb0) (HL.out.next hb0))
  clear hb0
  unfold RetTable
  unfold MeltPost at HMELT
  have HCV : Hid (contentV s l = if batchesE s l ≠ 0 then [] else rangesV s l) := rfl
  have HOKB := Lib.hid (all_ok (s := s) (l := l))
  obtain ⟨E, hE⟩ : ∃ x, batchesE s l = x := ⟨_, rfl⟩
  rw [hE] at HMELT HCV ⊢
  simp only [hE] at HOKB
  clear hE
  go_enter Try.func19, Try.ntmps19
  go_wp2_with fail
  refine HMELT.out.mono ?_
  rintro e w1 ⟨hbad, hgood⟩
  by_cases hz : E = 0
  case neg =>
    have hz2 : (E != 0) = true := by simpa using hz
    have HZ := Lib.hid hz
    obtain ⟨rfl, hb1⟩ := hbad hz
    clear hz hbad hgood
    have HB1 := Lib.hid (HB0.out.trans (hb1.mono (by simp)))
    clear hb1
    go_wp2_with fail
    go_ret2
    refine ⟨_, rfl, ?_, HB1.out⟩
    rw [HCV.out, if_pos HZ.out]
    exact SlIn.nil _ _
  subst hz
  obtain ⟨g, bo, vr, rfl, hA⟩ := hgood rfl
  have HA := Lib.hid hA
  have HOK := Lib.hid (HOKB.out rfl)
  clear hbad hgood hA HOKB HMELT
  obtain ⟨ra, rc, hvr⟩ := HA.out.shape
  subst hvr
  have hn6 := HOK.out.l6
  have hnt5 := HOK.out.sh.nt5
  have HW1 : Hid (w1.heap.size ≤ w1.heap.size) := Nat.le_refl _
  have HB1 := Lib.hid (HB0.out.trans (HA.out.bel.mono (by simp)))
  have HGS : Hid (w1.cell? ⟨w.heap.size, 0, none⟩ = some (.slice ta s.things.length tc)) :=
    (Below.cell (p := ⟨w.heap.size, 0, none⟩) HA.out.bel (by simp)).trans (cell_of_row _ _ 0 _ _ _ (heap_alloc_new w (.cells #[.slice ta s.things.length tc, .slice la s.lots.length lc] 25)))
  have hgsl : w.heap.size < w1.heap.size := by have := HA.out.le; simp at this; omega
  clear HW1
  obtain ⟨W1, HWW⟩ : ∃ x, Hid (w1.heap.size = x) := ⟨_, rfl⟩
  have HB2 := Lib.hid (Below.refl w1.heap.size w1)
  go_wp2_with fail
  rw [HWW.out] at hgsl HB2
  go_loopw [4, 20] (fun tx iv wr => ∃ (k : Nat) (us : List Value) (tv : Value), tv = tx ∧ iv = .int .i64 k ∧ k ≤ l.length ∧ Below W1 w1 wr ∧ W1 ≤ wr.heap.size ∧ OwnTable W1 wr tv k us (fun i => (List.range s.things.length).map (micV s l i))) (fun _ iv _ => l.length - (intOf iv).toNat)
  case atStart => exact ⟨0, [], _, rfl, rfl, by omega, HB2.out, by rw [HWW.out]; exact Nat.le_refl _, rfl, World.ownsRow_nil _ _ 54 1, fun i hi => by omega⟩
  case round =>
    obtain ⟨k, us, tv, rfl, rfl, hk, hBk, hW1, hT⟩ := hrel
    have HBk := Lib.hid hBk
    have HT := Lib.hid hT
    have HW1 := Lib.hid hW1
    clear hBk hT hW1
    obtain ⟨ta1, tc1, htv⟩ := ownsRow_slice HT.out.row
    have HTV := Lib.hid htv
    clear htv
    by_cases hkl : k < l.length
    · obtain ⟨pb, pc, he, hpc, hpb, hcell⟩ := HA.out.ptr hkl
      cases he
      rw [HWW.out] at hpb
      have HGK : Hid (g k < W1) := by rw [← HWW.out]; exact block_lt (HA.out.obj k hkl)
      have HCE : Hid (∀ t, t < 5 → wr.cell? ⟨g k, 5 + t * 2, none⟩ = some (.int .i64 (micV s l k t).1) ∧ wr.cell? ⟨g k, 5 + t * 2 + 1, none⟩ = some (.int .i64 (micV s l k t).2)) := fun t ht =>
        ⟨(HBk.out.cell (p := ⟨g k, _, none⟩) HGK.out).trans (HA.out.lo hkl ht), (HBk.out.cell (p := ⟨g k, _, none⟩) HGK.out).trans (HA.out.hi hkl ht)⟩
      have hcell := (HBk.out.cell (p := ⟨pb, k, none⟩) hpb).trans hcell
      have hgs := (HBk.out.cell (p := ⟨w.heap.size, 0, none⟩) hgsl).trans HGS.out
      have hki : (k : Int) < (l.length : Int) := by omega
      have hnt2 : (s.things.length : Int) ≤ 5 := by omega
      go_wp2_with fail
      refine wp_region_inv1 (by kernel_rfl) (by kernel_rfl) [32, 33, 34, 4] (fun D y w' => CtW wr W1 tv k us (fun i => (List.range s.things.length).map (micV s l i)) (D 8) (D 9) (D 10) (D 11) (y 32) (y 33) (y 34) (y 4) w') ?_ ?FC ?hFC ?_
      · exact CtW.start HT.out HW1.out
      case hFC =>
        intro y
        simp only [fill, List.foldl, Act.put, List.setIfInBounds_toArray, List.set]
        exact rfl
      apply obl_det
      case hrun =>
        intro D y wz hW hD R hR
        have HRR := Lib.hid hR
        clear hR
        have h11 : D 11 = false := hD.post _ 11 rfl (by kernel_rfl)
        refine wpList_mv rfl _ rfl tv (hW.t0 h11) ?_
        have HW := Lib.hid hW
        clear hW hD
        go_wp2
        exact HRR.out _ HW.out
      case hnp => rfl
      case hv => first | exact ⟨_, fun _ => rfl⟩ | exact ⟨undef, fun _ => rfl⟩
      iterate 7
        (apply obl_det
         case hrun =>
           intro D y wz hW hD R hR
           have HRR := Lib.hid hR
           clear hR
           have HW := Lib.hid hW
           have hc2 := (cellB hW.bel).1
           clear hW hD
           go_wp2
           exact HRR.out _ HW.out
         case hnp => rfl
         case hv => first | exact ⟨_, fun _ => rfl⟩ | exact ⟨undef, fun _ => rfl⟩)
      apply obl_priv 32
      case hd => rfl
      case hp => rfl
      case hrun =>
        intro D y wz hW hD R hR
        have HRR := Lib.hid hR
        clear hR
        have h8 : D 8 = false := hD.not
        have h9 : D 9 = false := hD.post _ 9 rfl (by kernel_rfl)
        have h10 : D 10 = false := hD.post _ 10 rfl (by kernel_rfl)
        have H9 := Lib.hid h9
        have H10 := Lib.hid h10
        rw [h8, h9, h10] at hW
        have HW := Lib.hid hW
        clear hW hD h8 h9 h10
        have HCL := Lib.hid (clone_any ((List.range s.things.length).map (micV s l k)) (by simp; omega) (g k) 5 5 wz (by have := HGK.out; have := HW.out.le; omega) (fun i hi => by
          have hi' : i < s.things.length := by simpa using hi
          rw [mapr_get _ _ _ hi']
          have e1 := HCE.out i (by omega)
          have hc2 := (cellB HW.out.bel).1
          exact ⟨(hc2 _ _ HGK.out).trans e1.1, (hc2 _ _ HGK.out).trans e1.2⟩))
        simp only [List.length_map, List.length_range] at HCL
        go_wp2_with fail
        refine HCL.out.mono ?_
        rintro e w'' ⟨cv, rfl, hown, hb⟩
        have HN := Lib.hid (HW.out.cloned hb hown)
        clear hown hb HCL
        go_wp2_with fail
        refine HRR.out cv _ ?_
        show CtW wr W1 tv k us (fun i => (List.range s.things.length).map (micV s l i)) true (D 9) (D 10) (D 11) cv (y 33) (y 34) (y 4) _
        rw [H9.out, H10.out]
        exact HN.out
      apply obl_priv 33
      case hd => rfl
      case hp => rfl
      case hrun =>
        intro D y wz hW hD R hR
        have HRR := Lib.hid hR
        clear hR
        have h8 : D 8 = true := hD.pre _ 8 rfl (by kernel_rfl)
        have h9 : D 9 = false := hD.not
        have h10 : D 10 = false := hD.post _ 10 rfl (by kernel_rfl)
        have H8 := Lib.hid h8
        have H10 := Lib.hid h10
        rw [h8, h9, h10] at hW
        obtain ⟨ya1, yc1, hsl⟩ := ownsRow_slice (hW.cl rfl rfl)
        simp only [List.length_map, List.length_range] at hsl
        have HW := Lib.hid hW
        have HSL := Lib.hid hsl
        clear hW hD h8 h9 h10 hsl
        rw [HSL.out]
        go_wp2
        rw [← HSL.out]
        refine HRR.out _ _ ?_
        show CtW wr W1 tv k us (fun i => (List.range s.things.length).map (micV s l i)) (D 8) true (D 10) (D 11) (y 32) (.slice (some ⟨wz.heap.size, 0, none⟩) 1 1) (y 34) (y 4) _
        rw [H8.out, H10.out]
        exact HW.out.laid
      apply obl_priv 34
      case hd => rfl
      case hp => rfl
      case hrun =>
        intro D y wz hW hD R hR
        have HRR := Lib.hid hR
        clear hR
        have h8 : D 8 = true := hD.pre _ 8 rfl (by kernel_rfl)
        have h9 : D 9 = true := hD.pre _ 9 rfl (by kernel_rfl)
        have h10 : D 10 = false := hD.not
        have h11 : D 11 = false := hD.post _ 11 rfl (by kernel_rfl)
        have H8 := Lib.hid h8
        have H9 := Lib.hid h9
        have H11 := Lib.hid h11
        rw [h8, h9, h10] at hW
        obtain ⟨ya1, yc1, hsl⟩ := ownsRow_slice (hW.cl rfl rfl)
        obtain ⟨gb, hyb, hgc⟩ := hW.bd rfl rfl
        have ho := (hW.tab rfl).row
        have hle := hW.le
        have HW := Lib.hid hW
        have HSL := Lib.hid hsl
        clear hW hD h8 h9 h10 h11 hsl
        obtain ⟨i0, hi0, hz0, hz1, hz2⟩ := info54'
        refine wpList_append_own _ rfl _ _ 32 rfl W1 54 i0 (.slice none 0 0) 1 24 Try.underlying32 hi0 hz0 hz1 hz2 rfl (by decide) _ _ _ rfl ho ⟨gb, 0, none⟩ 1 1 [y 32] hyb rfl (cell_news _ _ _ _ hgc) (one_of _ (by rw [HSL.out]; rfl)) (by unfold maxLen; omega) (by omega) hle ?_
        intro v' w12 hown12 hgrow12 _
        have HN := Lib.hid (HW.out.got H11.out hown12 hgrow12)
        clear ho hgc hown12 hgrow12 hi0 hz0 hz1 hz2 hyb
        go_wp2
        refine HRR.out v' _ ?_
        show CtW wr W1 tv k us (fun i => (List.range s.things.length).map (micV s l i)) (D 8) (D 9) true (D 11) (y 32) (y 33) v' (y 4) _
        rw [H8.out, H9.out]
        exact HN.out
      apply obl_priv 4
      case hd => rfl
      case hp => rfl
      case hrun =>
        intro D y wz hW hD R hR
        have HRR := Lib.hid hR
        clear hR
        have h10 : D 10 = true := hD.pre _ 10 rfl (by kernel_rfl)
        have H10 := Lib.hid h10
        have HW := Lib.hid hW
        clear hW hD h10
        go_wp2
        refine HRR.out (y 34) _ ?_
        show CtW wr W1 tv k us (fun i => (List.range s.things.length).map (micV s l i)) (D 8) (D 9) (D 10) true (y 32) (y 33) (y 34) (y 34) _
        have h := HW.out
        rw [H10.out] at h ⊢
        exact h.put
      apply obl_nil
      intro D y w8 hall hW
      have h10 := hall 10 (by decide)
      have h11 := hall 11 (by decide)
      rw [h10, h11] at hW
      obtain ⟨us', hT'⟩ := hW.ap rfl
      have hy := hW.t1 rfl
      have HT8 := Lib.hid hT'
      have HB8 := Lib.hid hW.bel
      have HLE8 := Lib.hid hW.le
      clear hW hall h10 h11 hT'
      rw [hy]
      clear hy
      generalize y 34 = yv at *
      generalize y 33 = yb at *
      generalize y 32 = yc at *
      go_wp2_with fail
      refine ⟨⟨k + 1, us', _, rfl, by push_cast; rfl, by omega, HBk.out.trans HB8.out, HLE8.out, HT8.out⟩, ?_⟩
      simp [intOf]
      omega
    · obtain rfl : k = l.length := by omega
      go_wp2_with fail
      go_ret2
      refine ⟨_, rfl, ?_, HB1.out.trans (HBk.out.mono (by rw [← HWW.out]; exact HB1.out.size))⟩
      rw [HCV.out, if_neg (fun h => h rfl)]
      exact HT.out.table (by omega) (fun i _ => by simp; omega) _ (rangesV_length s l) (fun i hi => row_eq s l hi)
end Go.Proofs.Ytaigbhhmmdfdcaa
