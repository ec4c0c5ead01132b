/- picked of the laws. -/
import Derived.Test.YtaigbhhmmdfdcaaY17
namespace Go.Proofs.Ytaigbhhmmdfdcaa
open Go.RowKit
/-- A number of each range, by turns. -/
def pickedV (l : List (Int × Int)) (x : List Int) (n : Nat) : List Int := (List.range l.length).map (fun i => amongV (l.getD i (0, 0)) (turnV x (n + i)))
/-- Ranges in order that fit. -/
def SpOk (l : List (Int × Int)) : Prop := ∀ i, i < l.length → -1000000000000000 ≤ (l.getD i (0, 0)).1 ∧ (l.getD i (0, 0)).1 ≤ (l.getD i (0, 0)).2 ∧ (l.getD i (0, 0)).2 ≤ 1000000000000000
set_option maxRecDepth 100000 in
set_option maxHeartbeats 8000000 in
theorem picked81 (l : List (Int × Int)) (x : List Int) (n : Nat) (hl : l.length ≤ 100) (hok : SpOk l) (hx : Turns x) (hn : n ≤ 1000) (v u : Value) (w : World) (hv : SpansIn w.heap.size w v l) (hu : IntsIn .u32 w.heap.size w u x) :
    Calls Try.prog 81 #[v, u, .int .i64 n] w fun e w' => ∃ t, e = .returned t ∧ IntsIn .i64 w'.heap.size w' t (pickedV l x n) ∧ Below w.heap.size w w' := by
  have HV := Lib.hid hv
  have HU := Lib.hid hu
  have HOK := Lib.hid hok
  have HX := Lib.hid hx
  obtain ⟨a, c, rfl, -, -⟩ := sl_shape hv
  clear hv hu hok hx
  obtain ⟨B, hB⟩ : ∃ B, w.heap.size = B := ⟨_, rfl⟩
  have HBW : Hid (w.heap.size = B) := hB
  have HB0 : Hid (Below B w w) := Below.refl _ _
  clear hB
  go_enter Try.func81, Try.ntmps81
  go_wp2_with fail
  go_loopw [7, 8] (fun tx iv wr => ∃ (k : Nat) (tv : Value), tv = tx ∧ iv = .int .i64 k ∧ k ≤ l.length ∧ Below B w wr ∧ B ≤ wr.heap.size ∧ wr.ownsRow B 3 1 tv k (((List.range k).map (fun i => amongV (l.getD i (0, 0)) (turnV x (n + i)))).map (Value.int .i64))) (fun _ iv _ => l.length - (intOf iv).toNat)
  case atStart => exact ⟨0, _, rfl, rfl, by omega, HB0.out, Nat.le_of_eq HBW.out.symm, World.ownsRow_nil _ _ 3 1⟩
  case round =>
    clear HB0
    obtain ⟨k, tv, rfl, rfl, hk, hb, hle, hT⟩ := hrel
    have HB := Lib.hid hb
    have HT := Lib.hid hT
    have HLE := Lib.hid hle
    clear hb hT hle
    by_cases hkl : k < l.length
    · have hki : (k : Int) < (l.length : Int) := by omega
      obtain ⟨b, o, rfl, hbb, hc1, hc2⟩ := HV.out.at' hkl
      have HC1 : Hid (wr.cell? ⟨b, o + k * 2, none⟩ = some (.int .i64 (l.getD k (0, 0)).1)) := (HB.out.cell (p := ⟨b, o + k * 2, none⟩) (by rw [← HBW.out]; exact hbb)).trans hc1
      have HC2 : Hid (wr.cell? ⟨b, o + k * 2 + 1, none⟩ = some (.int .i64 (l.getD k (0, 0)).2)) := (HB.out.cell (p := ⟨b, o + k * 2 + 1, none⟩) (by rw [← HBW.out]; exact hbb)).trans hc2
      have HBB : Hid (b < B) := by rw [← HBW.out]; exact hbb
      have HSN : Hid ((((List.range k).map (fun i => amongV (l.getD i (0, 0)) (turnV x (n + i)))).map (Value.int .i64)) ++ [.int .i64 (amongV (l.getD k (0, 0)) (turnV x (n + k)))] = ((List.range (k + 1)).map (fun i => amongV (l.getD i (0, 0)) (turnV x (n + i)))).map (Value.int .i64)) := by unfold Hid; rw [List.range_succ, List.map_append, List.map_append]; rfl
      have hpk := HOK.out k hkl
      have htb := turnV_bound HX.out (n + k)
      have HAM := fun w => Lib.hid (among49 (l.getD k (0, 0)) (turnV x (n + k)) w hpk htb.1)
      have HTU := fun w h => Lib.hid (turn40 x HX.out (n + k) (by omega) u w h)
      clear hc1 hc2 hbb
      obtain ⟨NK, hNK⟩ : ∃ NK, n + k = NK := ⟨_, rfl⟩
      have HNK : Hid (((n : Int) + (k : Int)) = (NK : Int)) := by unfold Hid; omega
      rw [hNK] at HSN htb HAM HTU
      clear hNK
      generalize amongV (l.getD k (0, 0)) (turnV x NK) = A at *
      generalize turnV x NK = T at *
      obtain ⟨p, hp⟩ : ∃ p, l.getD k (0, 0) = p := ⟨_, rfl⟩
      rw [hp] at HC1 HC2 HAM
      clear hp hpk
      obtain ⟨p1, p2⟩ := p
      simp only at HC1 HC2 HAM
      obtain ⟨ta1, tc1, htv⟩ := ownsRow_slice HT.out
      have HTV := Lib.hid htv
      clear htv
      go_wp2_with fail
      refine wp_region_inv1 (by kernel_rfl) (by kernel_rfl) [26, 27, 7] (fun D y w' => AppX wr (B) 3 1 (tv) (k) ((((List.range k).map (fun i => amongV (l.getD i (0, 0)) (turnV x (n + i)))).map (Value.int .i64))) [.int .i64 A] (D 11) (D 12) (y 26) (y 27) w' ∧ (D 13 = false → y 7 = tv) ∧ (D 13 = true → y 7 = y 27)) ?_ ?F1 ?hF1 ?_
      · exact ⟨AppX.start HT.out HLE.out, fun _ => rfl, fun h => (by cases h)⟩
      case hF1 =>
        intro y
        simp only [fill, List.foldl, Act.put, List.setIfInBounds_toArray, List.set]
        exact rfl
      apply obl_det
      case hrun =>
        intro D y wz hW hD R hR
        have HRR := Lib.hid hR
        clear hR
        have h15 : D 13 = false := hD.post _ 13 rfl (by kernel_rfl)
        refine wpList_mv rfl _ rfl (tv) (hW.2.1 h15) ?_
        have HW := Lib.hid hW
        clear hW hD
        go_wp2_with fail
        exact HRR.out _ HW.out
      case hnp => rfl
      case hv => first | exact ⟨_, fun _ => rfl⟩ | exact ⟨undef, fun _ => rfl⟩
      iterate 3
        (apply obl_det
         case hrun =>
           intro D y wz hW hD R hR
           have HRR := Lib.hid hR
           clear hR
           have HW := Lib.hid hW
           have hc2 := (cellB hW.1.bel).1
           clear hW hD
           go_wp2_with fail
           exact HRR.out _ HW.out
         case hnp => rfl
         case hv => first | exact ⟨_, fun _ => rfl⟩ | exact ⟨undef, fun _ => rfl⟩)
      apply obl_det
      case hrun =>
        intro D y wz hW hD R hR
        have HRR := Lib.hid hR
        clear hR
        have HW := Lib.hid hW
        have hc1 := (HW.out.1.bel.cell (p := ⟨b, o + k * 2, none⟩) HBB.out).trans HC1.out
        have hc2 := (HW.out.1.bel.cell (p := ⟨b, o + k * 2 + 1, none⟩) HBB.out).trans HC2.out
        clear hW hD
        go_wp2_with fail
        exact HRR.out _ HW.out
      case hnp => rfl
      case hv => first | exact ⟨_, fun _ => rfl⟩ | exact ⟨undef, fun _ => rfl⟩
      iterate 3
        (apply obl_det
         case hrun =>
           intro D y wz hW hD R hR
           have HRR := Lib.hid hR
           clear hR
           have HW := Lib.hid hW
           have hc2 := (cellB hW.1.bel).1
           clear hW hD
           go_wp2_with fail
           exact HRR.out _ HW.out
         case hnp => rfl
         case hv => first | exact ⟨_, fun _ => rfl⟩ | exact ⟨undef, fun _ => rfl⟩)
      apply obl_det
      case hrun =>
        intro D y wz hW hD R hR
        have HRR := Lib.hid hR
        clear hR
        have HW := Lib.hid hW
        have hc2 := (cellB hW.1.bel).1
        clear hW hD
        go_wp2_with fail
        rw [HNK.out]
        exact HRR.out _ HW.out
      case hnp => rfl
      case hv => first | exact ⟨_, fun _ => rfl⟩ | exact ⟨undef, fun _ => rfl⟩
      apply obl_det
      case hrun =>
        intro D y wz hW hD R hR
        have HRR := Lib.hid hR
        clear hR
        have HW := Lib.hid hW
        have HSZ := Lib.hid HW.out.1.bel.size
        clear hW hD
        have HZB := Lib.hid (HB.out.trans HW.out.1.bel)
        have HUZ : Hid (IntsIn .u32 wz.heap.size wz u x) := (IntsIn.below HU.out (by rw [HBW.out]; exact HZB.out)).mono (by rw [HBW.out]; exact Nat.le_trans HLE.out (Nat.le_trans (Nat.le_refl _) HSZ.out))
        go_wp2_with fail
        refine (HTU _ HUZ.out).out.mono ?_
        rintro e w' ⟨rfl, rfl⟩
        go_wp2_with fail
        exact HRR.out _ HW.out
      case hnp => rfl
      case hv => first | exact ⟨_, fun _ => rfl⟩ | exact ⟨undef, fun _ => rfl⟩
      apply obl_det
      case hrun =>
        intro D y wz hW hD R hR
        have HRR := Lib.hid hR
        clear hR
        have HW := Lib.hid hW
        have hc2 := (cellB hW.1.bel).1
        clear hW hD
        go_wp2_with fail
        refine (HAM _).out.mono ?_
        rintro e w' ⟨rfl, hbw⟩
        go_wp2_with fail
        exact HRR.out _ ⟨HW.out.1.call hbw, HW.out.2⟩
      case hnp => rfl
      case hv => first | exact ⟨_, fun _ => rfl⟩ | exact ⟨undef, fun _ => rfl⟩
      apply obl_priv 26
      case hd => rfl
      case hp => rfl
      case hrun =>
        intro D y wz hW hD R hR
        have HRR := Lib.hid hR
        clear hR
        have h13 : D 11 = false := hD.not
        have h14 : D 12 = false := hD.post _ 12 rfl (by kernel_rfl)
        have hA := hW.1
        rw [h13, h14] at hA
        have HA := Lib.hid hA.laid
        have HV := Lib.hid hW.2
        have H14 := Lib.hid h14
        clear hA hW hD h13 h14
        go_wp2_with fail
        refine HRR.out (.slice (some ⟨wz.heap.size, 0, none⟩) 1 1) _ ?_
        show AppX wr (B) 3 1 (tv) (k) ((((List.range k).map (fun i => amongV (l.getD i (0, 0)) (turnV x (n + i)))).map (Value.int .i64))) [.int .i64 A] true (D 12) (.slice (some ⟨wz.heap.size, 0, none⟩) 1 1) (y 27) _ ∧ (D 13 = false → y 7 = tv) ∧ (D 13 = true → y 7 = y 27)
        rw [H14.out]
        exact ⟨HA.out, HV.out⟩
      apply obl_priv 27
      case hd => rfl
      case hp => rfl
      case hrun =>
        intro D y wz hW hD R hR
        have HRR := Lib.hid hR
        clear hR
        have h14 : D 12 = false := hD.not
        have h13 : D 11 = true := hD.pre _ 11 rfl (by kernel_rfl)
        have h15 : D 13 = false := hD.post _ 13 rfl (by kernel_rfl)
        have hA := hW.1
        rw [h13, h14] at hA
        have HA := Lib.hid hA
        have HV := Lib.hid (hW.2.1 h15)
        have H13 := Lib.hid h13
        have H15 := Lib.hid h15
        have hbase := hA.le
        have ho := hA.row rfl
        obtain ⟨g, hyb, hgc⟩ := hA.lay rfl rfl
        clear hA hW hD h13 h14 h15
        obtain ⟨i0, hi0, hz0, hz1, hz2⟩ := info3'
        refine wpList_append_own _ rfl _ _ 36 rfl (B) 3 i0 (.int .i64 0) 1 8 Try.underlying36 hi0 hz0 hz1 hz2 rfl (by decide) _ _ _ rfl ho ⟨g, 0, none⟩ 1 1 [.int .i64 A] hyb rfl (cell_news _ _ _ _ hgc) (one_int _) (by unfold maxLen; omega) (by omega) (by omega) ?_
        intro v' w12 hown12 hgrow12 _
        have HA2 := Lib.hid (HA.out.got hown12 hgrow12)
        clear ho hgc hown12 hgrow12 hi0 hz0 hz1 hz2 hyb
        go_wp2_with fail
        refine HRR.out v' _ ?_
        show AppX wr (B) 3 1 (tv) (k) ((((List.range k).map (fun i => amongV (l.getD i (0, 0)) (turnV x (n + i)))).map (Value.int .i64))) [.int .i64 A] (D 11) true (y 26) v' _ ∧ (D 13 = false → y 7 = tv) ∧ (D 13 = true → y 7 = v')
        rw [H13.out]
        exact ⟨HA2.out, fun _ => HV.out, fun h => (by rw [H15.out] at h; cases h)⟩
      apply obl_priv 7
      case hd => rfl
      case hp => rfl
      case hrun =>
        intro D y wz hW hD R hR
        have HRR := Lib.hid hR
        clear hR
        have HA := Lib.hid hW.1
        clear hW hD
        go_wp2_with fail
        refine HRR.out (y 27) _ ?_
        show AppX wr (B) 3 1 (tv) (k) ((((List.range k).map (fun i => amongV (l.getD i (0, 0)) (turnV x (n + i)))).map (Value.int .i64))) [.int .i64 A] (D 11) (D 12) (y 26) (y 27) _ ∧ (true = false → y 27 = tv) ∧ (true = true → y 27 = y 27)
        exact ⟨HA.out, fun h => (by cases h), fun _ => rfl⟩
      apply obl_nil
      intro D y w8 hall hW
      have h14 := hall 12 (by decide)
      have hy := hW.2.2 (hall 13 (by decide))
      have hA := hW.1
      rw [h14] at hA
      have HO8 := Lib.hid (hA.new rfl)
      have C8 := Lib.hid hA.bel
      clear hA hW hall h14
      rw [hy]
      clear hy
      generalize y 27 = yv at HO8 ⊢
      generalize y 26 = yb at ⊢
      rw [HSN.out] at HO8
      go_wp2_with fail
      refine ⟨⟨k + 1, _, rfl, by push_cast; rfl, by omega, HB.out.trans C8.out, Nat.le_trans HLE.out C8.out.size, HO8.out⟩, ?_⟩
      simp [intOf]; omega
    · obtain rfl : k = l.length := by omega
      have HTF : Hid (IntsIn .i64 wr.heap.size wr tv (pickedV l x n)) := OwnInts.ints (base := B) (by unfold OwnInts pickedV; simpa using HT.out) (by simp [pickedV]; omega)
      go_wp2_with fail
      go_ret
      exact ⟨_, rfl, HTF.out, by rw [HBW.out]; exact HB.out⟩
end Go.Proofs.Ytaigbhhmmdfdcaa
