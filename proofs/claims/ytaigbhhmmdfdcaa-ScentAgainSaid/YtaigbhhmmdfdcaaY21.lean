/- picked, Ends, endsOf: the lists that they hand back are their own. -/
import Derived.Test.YtaigbhhmmdfdcaaY18
namespace Go.Proofs.Ytaigbhhmmdfdcaa
open Go.RowKit
set_option maxRecDepth 100000 in
set_option maxHeartbeats 8000000 in
theorem picked81_own (l : List (Int × Int)) (x : List Int) (n : Nat) (hl : l.length ≤ 100) (hok : SpOk l) (hx : Turns x) (hn : n ≤ 1000) (v u : Value) (w : World) (hv : SpansIn w.heap.size w v l) (hu : IntsIn .u32 w.heap.size w u x) :
    Calls Try.prog 81 #[v, u, .int .i64 n] w fun e w' => ∃ t, e = .returned t ∧ OwnInts w.heap.size w' t (pickedV l x n) ∧ Below w.heap.size w w' := by
  have HV := Lib.hid hv
  have HU := Lib.hid hu
  have HOK := Lib.hid hok
  have HX := Lib.hid hx
  obtain ⟨a, c, rfl, -, -⟩ := sl_shape hv
  clear hv hu hok hx
  obtain ⟨B, hB⟩ : ∃ B, w.heap.size = B := ⟨_, rfl⟩
  have HBW : Hid (w.heap.size = B) := hB
  have HB0 : Hid (Below B w w) := Below.refl _ _
  clear hB
  go_enter Try.func81, Try.ntmps81
  go_wp2_with fail
  go_loopw [7, 8] (fun tx iv wr => ∃ (k : Nat) (tv : Value), tv = tx ∧ iv = .int .i64 k ∧ k ≤ l.length ∧ Below B w wr ∧ B ≤ wr.heap.size ∧ wr.ownsRow B 3 1 tv k (((List.range k).map (fun i => amongV (l.getD i (0, 0)) (turnV x (n + i)))).map (Value.int .i64))) (fun _ iv _ => l.length - (intOf iv).toNat)
  case atStart => exact ⟨0, _, rfl, rfl, by omega, HB0.out, Nat.le_of_eq HBW.out.symm, World.ownsRow_nil _ _ 3 1⟩
  case round =>
    clear HB0
    obtain ⟨k, tv, rfl, rfl, hk, hb, hle, hT⟩ := hrel
    have HB := Lib.hid hb
    have HT := Lib.hid hT
    have HLE := Lib.hid hle
    clear hb hT hle
    by_cases hkl : k < l.length
    · have hki : (k : Int) < (l.length : Int) := by omega
      obtain ⟨b, o, rfl, hbb, hc1, hc2⟩ := HV.out.at' hkl
      have HC1 : Hid (wr.cell? ⟨b, o + k * 2, none⟩ = some (.int .i64 (l.getD k (0, 0)).1)) := (HB.out.cell (p := ⟨b, o + k * 2, none⟩) (by rw [← HBW.out]; exact hbb)).trans hc1
      have HC2 : Hid (wr.cell? ⟨b, o + k * 2 + 1, none⟩ = some (.int .i64 (l.getD k (0, 0)).2)) := (HB.out.cell (p := ⟨b, o + k * 2 + 1, none⟩) (by rw [← HBW.out]; exact hbb)).trans hc2
      have HBB : Hid (b < B) := by rw [← HBW.out]; exact hbb
      have HSN : Hid ((((List.range k).map (fun i => amongV (l.getD i (0, 0)) (turnV x (n + i)))).map (Value.int .i64)) ++ [.int .i64 (amongV (l.getD k (0, 0)) (turnV x (n + k)))] = ((List.range (k + 1)).map (fun i => amongV (l.getD i (0, 0)) (turnV x (n + i)))).map (Value.int .i64)) := by unfold Hid; rw [List.range_succ, List.map_append, List.map_append]; rfl
      have hpk := HOK.out k hkl
      have htb := turnV_bound HX.out (n + k)
      have HAM := fun w => Lib.hid (among49 (l.getD k (0, 0)) (turnV x (n + k)) w hpk htb.1)
      have HTU := fun w h => Lib.hid (turn40 x HX.out (n + k) (by omega) u w h)
      clear hc1 hc2 hbb
      obtain ⟨NK, hNK⟩ : ∃ NK, n + k = NK := ⟨_, rfl⟩
      have HNK : Hid (((n : Int) + (k : Int)) = (NK : Int)) := by unfold Hid; omega
      rw [hNK] at HSN htb HAM HTU
      clear hNK
      generalize amongV (l.getD k (0, 0)) (turnV x NK) = A at *
      generalize turnV x NK = T at *
      obtain ⟨p, hp⟩ : ∃ p, l.getD k (0, 0) = p := ⟨_, rfl⟩
      rw [hp] at HC1 HC2 HAM
      clear hp hpk
      obtain ⟨p1, p2⟩ := p
      simp only at HC1 HC2 HAM
      obtain ⟨ta1, tc1, htv⟩ := ownsRow_slice HT.out
      have HTV := Lib.hid htv
      clear htv
      go_wp2_with fail
      refine wp_region_inv1 (by kernel_rfl) (by kernel_rfl) [26, 27, 7] (fun D y w' => AppX wr (B) 3 1 (tv) (k) ((((List.range k).map (fun i => amongV (l.getD i (0, 0)) (turnV x (n + i)))).map (Value.int .i64))) [.int .i64 A] (D 11) (D 12) (y 26) (y 27) w' ∧ (D 13 = false → y 7 = tv) ∧ (D 13 = true → y 7 = y 27)) ?_ ?F1 ?hF1 ?_
      · exact ⟨AppX.start HT.out HLE.out, fun _ => rfl, fun h => (by cases h)⟩
      case hF1 =>
        intro y
        simp only [fill, List.foldl, Act.put, List.setIfInBounds_toArray, List.set]
        exact rfl
      apply obl_det
      case hrun =>
        intro D y wz hW hD R hR
        have HRR := Lib.hid hR
        clear hR
        have h15 : D 13 = false := hD.post _ 13 rfl (by kernel_rfl)
        refine wpList_mv rfl _ rfl (tv) (hW.2.1 h15) ?_
        have HW := Lib.hid hW
        clear hW hD
        go_wp2_with fail
        exact HRR.out _ HW.out
      case hnp => rfl
      case hv => first | exact ⟨_, fun _ => rfl⟩ | exact ⟨undef, fun _ => rfl⟩
      iterate 3
        (apply obl_det
         case hrun =>
           intro D y wz hW hD R hR
           have HRR := Lib.hid hR
           clear hR
           have HW := Lib.hid hW
           have hc2 := (cellB hW.1.bel).1
           clear hW hD
           go_wp2_with fail
           exact HRR.out _ HW.out
         case hnp => rfl
         case hv => first | exact ⟨_, fun _ => rfl⟩ | exact ⟨undef, fun _ => rfl⟩)
      apply obl_det
      case hrun =>
        intro D y wz hW hD R hR
        have HRR := Lib.hid hR
        clear hR
        have HW := Lib.hid hW
        have hc1 := (HW.out.1.bel.cell (p := ⟨b, o + k * 2, none⟩) HBB.out).trans HC1.out
        have hc2 := (HW.out.1.bel.cell (p := ⟨b, o + k * 2 + 1, none⟩) HBB.out).trans HC2.out
        clear hW hD
        go_wp2_with fail
        exact HRR.out _ HW.out
      case hnp => rfl
      case hv => first | exact ⟨_, fun _ => rfl⟩ | exact ⟨undef, fun _ => rfl⟩
      iterate 3
        (apply obl_det
         case hrun =>
           intro D y wz hW hD R hR
           have HRR := Lib.hid hR
           clear hR
           have HW := Lib.hid hW
           have hc2 := (cellB hW.1.bel).1
           clear hW hD
           go_wp2_with fail
           exact HRR.out _ HW.out
         case hnp => rfl
         case hv => first | exact ⟨_, fun _ => rfl⟩ | exact ⟨undef, fun _ => rfl⟩)
      apply obl_det
      case hrun =>
        intro D y wz hW hD R hR
        have HRR := Lib.hid hR
        clear hR
        have HW := Lib.hid hW
        have hc2 := (cellB hW.1.bel).1
        clear hW hD
        go_wp2_with fail
        rw [HNK.out]
        exact HRR.out _ HW.out
      case hnp => rfl
      case hv => first | exact ⟨_, fun _ => rfl⟩ | exact ⟨undef, fun _ => rfl⟩
      apply obl_det
      case hrun =>
        intro D y wz hW hD R hR
        have HRR := Lib.hid hR
        clear hR
        have HW := Lib.hid hW
        have HSZ := Lib.hid HW.out.1.bel.size
        clear hW hD
        have HZB := Lib.hid (HB.out.trans HW.out.1.bel)
        have HUZ : Hid (IntsIn .u32 wz.heap.size wz u x) := (IntsIn.below HU.out (by rw [HBW.out]; exact HZB.out)).mono (by rw [HBW.out]; exact Nat.le_trans HLE.out (Nat.le_trans (Nat.le_refl _) HSZ.out))
        go_wp2_with fail
        refine (HTU _ HUZ.out).out.mono ?_
        rintro e w' ⟨rfl, rfl⟩
        go_wp2_with fail
        exact HRR.out _ HW.out
      case hnp => rfl
      case hv => first | exact ⟨_, fun _ => rfl⟩ | exact ⟨undef, fun _ => rfl⟩
      apply obl_det
      case hrun =>
        intro D y wz hW hD R hR
        have HRR := Lib.hid hR
        clear hR
        have HW := Lib.hid hW
        have hc2 := (cellB hW.1.bel).1
        clear hW hD
        go_wp2_with fail
        refine (HAM _).out.mono ?_
        rintro e w' ⟨rfl, hbw⟩
        go_wp2_with fail
        exact HRR.out _ ⟨HW.out.1.call hbw, HW.out.2⟩
      case hnp => rfl
      case hv => first | exact ⟨_, fun _ => rfl⟩ | exact ⟨undef, fun _ => rfl⟩
      apply obl_priv 26
      case hd => rfl
      case hp => rfl
      case hrun =>
        intro D y wz hW hD R hR
        have HRR := Lib.hid hR
        clear hR
        have h13 : D 11 = false := hD.not
        have h14 : D 12 = false := hD.post _ 12 rfl (by kernel_rfl)
        have hA := hW.1
        rw [h13, h14] at hA
        have HA := Lib.hid hA.laid
        have HV := Lib.hid hW.2
        have H14 := Lib.hid h14
        clear hA hW hD h13 h14
        go_wp2_with fail
        refine HRR.out (.slice (some ⟨wz.heap.size, 0, none⟩) 1 1) _ ?_
        show AppX wr (B) 3 1 (tv) (k) ((((List.range k).map (fun i => amongV (l.getD i (0, 0)) (turnV x (n + i)))).map (Value.int .i64))) [.int .i64 A] true (D 12) (.slice (some ⟨wz.heap.size, 0, none⟩) 1 1) (y 27) _ ∧ (D 13 = false → y 7 = tv) ∧ (D 13 = true → y 7 = y 27)
        rw [H14.out]
        exact ⟨HA.out, HV.out⟩
      apply obl_priv 27
      case hd => rfl
      case hp => rfl
      case hrun =>
        intro D y wz hW hD R hR
        have HRR := Lib.hid hR
        clear hR
        have h14 : D 12 = false := hD.not
        have h13 : D 11 = true := hD.pre _ 11 rfl (by kernel_rfl)
        have h15 : D 13 = false := hD.post _ 13 rfl (by kernel_rfl)
        have hA := hW.1
        rw [h13, h14] at hA
        have HA := Lib.hid hA
        have HV := Lib.hid (hW.2.1 h15)
        have H13 := Lib.hid h13
        have H15 := Lib.hid h15
        have hbase := hA.le
        have ho := hA.row rfl
        obtain ⟨g, hyb, hgc⟩ := hA.lay rfl rfl
        clear hA hW hD h13 h14 h15
        obtain ⟨i0, hi0, hz0, hz1, hz2⟩ := info3'
        refine wpList_append_own _ rfl _ _ 36 rfl (B) 3 i0 (.int .i64 0) 1 8 Try.underlying36 hi0 hz0 hz1 hz2 rfl (by decide) _ _ _ rfl ho ⟨g, 0, none⟩ 1 1 [.int .i64 A] hyb rfl (cell_news _ _ _ _ hgc) (one_int _) (by unfold maxLen; omega) (by omega) (by omega) ?_
        intro v' w12 hown12 hgrow12 _
        have HA2 := Lib.hid (HA.out.got hown12 hgrow12)
        clear ho hgc hown12 hgrow12 hi0 hz0 hz1 hz2 hyb
        go_wp2_with fail
        refine HRR.out v' _ ?_
        show AppX wr (B) 3 1 (tv) (k) ((((List.range k).map (fun i => amongV (l.getD i (0, 0)) (turnV x (n + i)))).map (Value.int .i64))) [.int .i64 A] (D 11) true (y 26) v' _ ∧ (D 13 = false → y 7 = tv) ∧ (D 13 = true → y 7 = v')
        rw [H13.out]
        exact ⟨HA2.out, fun _ => HV.out, fun h => (by rw [H15.out] at h; cases h)⟩
      apply obl_priv 7
      case hd => rfl
      case hp => rfl
      case hrun =>
        intro D y wz hW hD R hR
        have HRR := Lib.hid hR
        clear hR
        have HA := Lib.hid hW.1
        clear hW hD
        go_wp2_with fail
        refine HRR.out (y 27) _ ?_
        show AppX wr (B) 3 1 (tv) (k) ((((List.range k).map (fun i => amongV (l.getD i (0, 0)) (turnV x (n + i)))).map (Value.int .i64))) [.int .i64 A] (D 11) (D 12) (y 26) (y 27) _ ∧ (true = false → y 27 = tv) ∧ (true = true → y 27 = y 27)
        exact ⟨HA.out, fun h => (by cases h), fun _ => rfl⟩
      apply obl_nil
      intro D y w8 hall hW
      have h14 := hall 12 (by decide)
      have hy := hW.2.2 (hall 13 (by decide))
      have hA := hW.1
      rw [h14] at hA
      have HO8 := Lib.hid (hA.new rfl)
      have C8 := Lib.hid hA.bel
      clear hA hW hall h14
      rw [hy]
      clear hy
      generalize y 27 = yv at HO8 ⊢
      generalize y 26 = yb at ⊢
      rw [HSN.out] at HO8
      go_wp2_with fail
      refine ⟨⟨k + 1, _, rfl, by push_cast; rfl, by omega, HB.out.trans C8.out, Nat.le_trans HLE.out C8.out.size, HO8.out⟩, ?_⟩
      simp [intOf]; omega
    · obtain rfl : k = l.length := by omega
      have HTF : Hid (OwnInts w.heap.size wr tv (pickedV l x n)) := by unfold Hid OwnInts pickedV; rw [HBW.out]; simpa using HT.out
      go_wp2_with fail
      go_ret
      exact ⟨_, rfl, HTF.out, by rw [HBW.out]; exact HB.out⟩
/-- Two lists of ints are handed back. -/
def RetTwoO (a b : List Int) (w : World) : Ending → World → Prop := fun e w' => ∃ u v, e = .returned (.tuple #[u, v]) ∧ OwnInts w.heap.size w' u a ∧ OwnInts w.heap.size w' v b ∧ Below w.heap.size w w'
set_option maxRecDepth 100000 in
set_option maxHeartbeats 16000000 in
/-- Ends -/
theorem ends_own (l : List (Int × Int)) (v : Value) (w : World) (hv : SpansIn w.heap.size w v l) (hl : l.length ≤ 100) : Calls Try.prog 43 #[v] w (RetTwoO (l.map Prod.fst) (l.map Prod.snd) w) := by
  unfold RetTwoO
  have HV := Lib.hid hv
  obtain ⟨a, c, rfl, -, -⟩ := sl_shape hv
  clear hv
  have HM0 : Hid (MoW w .nilFunc .nilFunc (.slice none 0 0) 0 [] (.slice none 0 0) 0 [] false false false false undef undef w) := ⟨Below.refl _ _, Nat.le_refl _, World.ownsRow_nil _ _ 3 1, World.ownsRow_nil _ _ 3 1, fun g e => by simp [Value.ownBlock] at e, fun h => (by cases h), fun h => (by cases h)⟩
  generalize hn : l.length = n at *
  have HN := Lib.hid hn
  clear hn
  go_enter Try.func43, Try.ntmps43
  go_wp2_with fail
  go_loopw [4, 5, 6] (fun c1 c2 iv wr => ∃ (k : Nat) (u1 u2 : Value), u1 = c1 ∧ u2 = c2 ∧ iv = .int .i64 k ∧ k ≤ n ∧ ∀ x1 x2, MoW w x1 x2 u1 k (((l.take k).map Prod.fst).map (Value.int .i64)) u2 k (((l.take k).map Prod.snd).map (Value.int .i64)) false false false false undef undef wr) (fun _ _ iv _ => n - (intOf iv).toNat)
  case atStart => exact ⟨0, _, _, rfl, rfl, rfl, by omega, fun x1 x2 => ⟨HM0.out.low, HM0.out.hs, HM0.out.r1, HM0.out.r2, HM0.out.ne, fun h => (by cases h), fun h => (by cases h)⟩⟩
  case round =>
    clear HM0
    obtain ⟨k, u1, u2, rfl, rfl, rfl, hk, hm⟩ := hrel
    have HM := Lib.hid hm
    clear hm
    have HLOW := Lib.hid (HM.out undef undef).low
    have HHS := Lib.hid (HM.out undef undef).hs
    by_cases hlt : k < n
    · have hki : (k : Int) < (n : Int) := by omega
      obtain ⟨b, o, rfl, hb, hc1, hc2⟩ := HV.out.at' (i := k) (by rw [HN.out]; exact hlt)
      have HC1 : Hid (w.cell? ⟨b, o + k * 2, none⟩ = some (.int .i64 (l.getD k default).1)) := hc1
      have HC2 : Hid (w.cell? ⟨b, o + k * 2 + 1, none⟩ = some (.int .i64 (l.getD k default).2)) := hc2
      have HBB := Lib.hid hb
      have HT1 : Hid (((l.take k).map Prod.fst).map (Value.int .i64) ++ [.int .i64 (l.getD k default).1] = ((l.take (k + 1)).map Prod.fst).map (Value.int .i64)) := by unfold Hid; rw [take_snoc l k (by rw [HN.out]; exact hlt) default]; simp
      have HT2 : Hid (((l.take k).map Prod.snd).map (Value.int .i64) ++ [.int .i64 (l.getD k default).2] = ((l.take (k + 1)).map Prod.snd).map (Value.int .i64)) := by unfold Hid; rw [take_snoc l k (by rw [HN.out]; exact hlt) default]; simp
      clear hc1 hc2 hb
      obtain ⟨p, hp⟩ : ∃ p, l.getD k default = p := ⟨_, rfl⟩
      rw [hp] at HC1 HC2 HT1 HT2
      clear hp
      obtain ⟨x, x'⟩ := p
      simp only at HC1 HC2 HT1 HT2
      generalize ((l.take k).map Prod.fst).map (Value.int .i64) = L1 at *
      generalize ((l.take k).map Prod.snd).map (Value.int .i64) = L2 at *
      go_wp2_with fail
      refine wp_region_inv1 (by kernel_rfl) (by kernel_rfl) [19, 20, 27, 28, 4, 5] (fun D y w' => EnW w (.int .i64 x) (.int .i64 x') u1 u2 k L1 L2 D y w') ?_ ?FE ?hFE ?_
      · have h := (HM.out (.int .i64 x) (.int .i64 x')).next (Below.refl wr.heap.size wr).drew
        exact ⟨⟨h.low, h.hs, h.r1, h.r2, h.ne, fun h => (by cases h), fun h => (by cases h)⟩, fun _ => rfl, fun h => (by cases h), fun _ => rfl, fun h => (by cases h)⟩
      case hFE =>
        intro y
        simp only [fill, List.foldl, Act.put, List.setIfInBounds_toArray, List.set]
        exact rfl
      clear HM HLOW HHS
      apply obl_det
      case hrun =>
        intro D y wz hW hD R hR
        have HRR := Lib.hid hR
        clear hR
        have h15 : D 16 = false := hD.post _ 16 rfl (by kernel_rfl)
        refine wpList_mv rfl _ rfl (u1) (hW.o4 h15) ?_
        have HW := Lib.hid hW
        clear hW hD
        go_wp2_with fail
        exact HRR.out _ ⟨HW.out.m, HW.out.o4, HW.out.n4, HW.out.o5, HW.out.n5⟩
      case hnp => rfl
      case hv => first | exact ⟨_, fun _ => rfl⟩ | exact ⟨undef, fun _ => rfl⟩
      apply obl_det
      case hrun =>
        intro D y wz hW hD R hR
        have HRR := Lib.hid hR
        clear hR
        have HW := Lib.hid hW
        clear hW hD
        go_wp2_with fail
        exact HRR.out _ ⟨HW.out.m, HW.out.o4, HW.out.n4, HW.out.o5, HW.out.n5⟩
      case hnp => rfl
      case hv => first | exact ⟨_, fun _ => rfl⟩ | exact ⟨undef, fun _ => rfl⟩
      apply obl_det
      case hrun =>
        intro D y wz hW hD R hR
        have HRR := Lib.hid hR
        clear hR
        have HW := Lib.hid hW
        clear hW hD
        go_wp2_with fail
        exact HRR.out _ ⟨HW.out.m, HW.out.o4, HW.out.n4, HW.out.o5, HW.out.n5⟩
      case hnp => rfl
      case hv => first | exact ⟨_, fun _ => rfl⟩ | exact ⟨undef, fun _ => rfl⟩
      apply obl_det
      case hrun =>
        intro D y wz hW hD R hR
        have HRR := Lib.hid hR
        clear hR
        have HW := Lib.hid hW
        clear hW hD
        go_wp2_with fail
        exact HRR.out _ ⟨HW.out.m, HW.out.o4, HW.out.n4, HW.out.o5, HW.out.n5⟩
      case hnp => rfl
      case hv => first | exact ⟨_, fun _ => rfl⟩ | exact ⟨undef, fun _ => rfl⟩
      apply obl_det
      case hrun =>
        intro D y wz hW hD R hR
        have HRR := Lib.hid hR
        clear hR
        have HW := Lib.hid hW
        clear hW hD
        go_wp2_with fail
        exact HRR.out _ ⟨HW.out.m, HW.out.o4, HW.out.n4, HW.out.o5, HW.out.n5⟩
      case hnp => rfl
      case hv => first | exact ⟨_, fun _ => rfl⟩ | exact ⟨undef, fun _ => rfl⟩
      apply obl_det
      case hrun =>
        intro D y wz hW hD R hR
        have HRR := Lib.hid hR
        clear hR
        have HW := Lib.hid hW
        have h1 := (HW.out.m.low.cell (p := ⟨b, o + k * 2, none⟩) HBB.out).trans HC1.out
        clear hW hD
        go_wp2_with fail
        exact HRR.out _ ⟨HW.out.m, HW.out.o4, HW.out.n4, HW.out.o5, HW.out.n5⟩
      case hnp => rfl
      case hv => first | exact ⟨_, fun _ => rfl⟩ | exact ⟨undef, fun _ => rfl⟩
      apply obl_priv 19
      case hd => rfl
      case hp => rfl
      case hrun =>
        intro D y wz hW hD R hR
        have HRR := Lib.hid hR
        clear hR
        have HW := Lib.hid hW
        clear hW hD
        go_wp2_with fail
        refine HRR.out (.slice (some ⟨wz.heap.size, 0, none⟩) 1 1) _ ?_
        exact ⟨HW.out.m.puts1, HW.out.o4, HW.out.n4, HW.out.o5, HW.out.n5⟩
      apply obl_priv 20
      case hd => rfl
      case hp => rfl
      case hrun =>
        intro D y wz hW hD R hR
        have HRR := Lib.hid hR
        clear hR
        have h15 : D 15 = false := hD.post _ 15 rfl (by kernel_rfl)
        have h7 : D 7 = false := hD.not
        have h6 : D 6 = true := hD.pre _ 6 rfl (by kernel_rfl)
        have h16 : D 16 = false := hD.post _ 16 rfl (by kernel_rfl)
        have h17 : D 17 = false := hD.post _ 17 rfl (by kernel_rfl)
        have hm := hW.m
        rw [h15, h7] at hm
        simp only [cond_false] at hm
        obtain ⟨bb, hyb, hgc, -⟩ := hm.s1 h6 rfl
        have HMM := Lib.hid hm
        have H4 := Lib.hid (hW.o4 h16)
        have H5 := Lib.hid (hW.o5 h17)
        have H15 := Lib.hid h15
        have H7 := Lib.hid h7
        have H16 := Lib.hid h16
        have H17 := Lib.hid h17
        clear hW hD h15 h7 h6 h16 h17 hm
        obtain ⟨i0, hi0, hz0, hz1, hz2⟩ := info3'
        refine wpList_append_lies _ rfl _ _ 36 rfl w.heap.size 3 i0 (.int .i64 0) 1 8 Try.underlying36 hi0 hz0 hz1 hz2 rfl (by decide) _ k _ rfl HMM.out.r1 ⟨bb, 0, none⟩ 1 1 [.int .i64 x] hyb rfl (cell_news _ _ _ _ hgc) (one_int _) (by omega) (by unfold maxLen; omega) (by omega) HMM.out.hs _ rfl ?_
        intro g cap w12 hown12 hgrow12 hgg12 _
        have HG := Lib.hid (HMM.out.gotr1 hown12 hgrow12 hgg12)
        clear hown12 hgrow12 hgg12 hyb hgc hi0 hz0 hz1 hz2
        go_wp2_with fail
        refine HRR.out _ _ ?_
        refine ⟨?_, fun _ => H4.out, fun h => absurd (h : D 16 = true) (by rw [H16.out]; simp), fun _ => H5.out, fun h => absurd (h : D 17 = true) (by rw [H17.out]; simp)⟩
        show MoW w _ _ _ _ _ (cond (D 15) _ _) (cond (D 15) _ _) (cond (D 15) _ _) (D 6) true (D 14) (D 15) (y 19) (y 27) _
        rw [H15.out]
        have h := HG.out
        exact h
      apply obl_det
      case hrun =>
        intro D y wz hW hD R hR
        have HRR := Lib.hid hR
        clear hR
        have h15 : D 17 = false := hD.post _ 17 rfl (by kernel_rfl)
        refine wpList_mv rfl _ rfl (u2) (hW.o5 h15) ?_
        have HW := Lib.hid hW
        clear hW hD
        go_wp2_with fail
        exact HRR.out _ ⟨HW.out.m, HW.out.o4, HW.out.n4, HW.out.o5, HW.out.n5⟩
      case hnp => rfl
      case hv => first | exact ⟨_, fun _ => rfl⟩ | exact ⟨undef, fun _ => rfl⟩
      apply obl_det
      case hrun =>
        intro D y wz hW hD R hR
        have HRR := Lib.hid hR
        clear hR
        have HW := Lib.hid hW
        clear hW hD
        go_wp2_with fail
        exact HRR.out _ ⟨HW.out.m, HW.out.o4, HW.out.n4, HW.out.o5, HW.out.n5⟩
      case hnp => rfl
      case hv => first | exact ⟨_, fun _ => rfl⟩ | exact ⟨undef, fun _ => rfl⟩
      apply obl_det
      case hrun =>
        intro D y wz hW hD R hR
        have HRR := Lib.hid hR
        clear hR
        have HW := Lib.hid hW
        clear hW hD
        go_wp2_with fail
        exact HRR.out _ ⟨HW.out.m, HW.out.o4, HW.out.n4, HW.out.o5, HW.out.n5⟩
      case hnp => rfl
      case hv => first | exact ⟨_, fun _ => rfl⟩ | exact ⟨undef, fun _ => rfl⟩
      apply obl_det
      case hrun =>
        intro D y wz hW hD R hR
        have HRR := Lib.hid hR
        clear hR
        have HW := Lib.hid hW
        clear hW hD
        go_wp2_with fail
        exact HRR.out _ ⟨HW.out.m, HW.out.o4, HW.out.n4, HW.out.o5, HW.out.n5⟩
      case hnp => rfl
      case hv => first | exact ⟨_, fun _ => rfl⟩ | exact ⟨undef, fun _ => rfl⟩
      apply obl_det
      case hrun =>
        intro D y wz hW hD R hR
        have HRR := Lib.hid hR
        clear hR
        have HW := Lib.hid hW
        clear hW hD
        go_wp2_with fail
        exact HRR.out _ ⟨HW.out.m, HW.out.o4, HW.out.n4, HW.out.o5, HW.out.n5⟩
      case hnp => rfl
      case hv => first | exact ⟨_, fun _ => rfl⟩ | exact ⟨undef, fun _ => rfl⟩
      apply obl_det
      case hrun =>
        intro D y wz hW hD R hR
        have HRR := Lib.hid hR
        clear hR
        have HW := Lib.hid hW
        have h1 := (HW.out.m.low.cell (p := ⟨b, o + k * 2 + 1, none⟩) HBB.out).trans HC2.out
        clear hW hD
        go_wp2_with fail
        exact HRR.out _ ⟨HW.out.m, HW.out.o4, HW.out.n4, HW.out.o5, HW.out.n5⟩
      case hnp => rfl
      case hv => first | exact ⟨_, fun _ => rfl⟩ | exact ⟨undef, fun _ => rfl⟩
      apply obl_priv 27
      case hd => rfl
      case hp => rfl
      case hrun =>
        intro D y wz hW hD R hR
        have HRR := Lib.hid hR
        clear hR
        have HW := Lib.hid hW
        clear hW hD
        go_wp2_with fail
        refine HRR.out (.slice (some ⟨wz.heap.size, 0, none⟩) 1 1) _ ?_
        exact ⟨HW.out.m.puts2, HW.out.o4, HW.out.n4, HW.out.o5, HW.out.n5⟩
      apply obl_priv 28
      case hd => rfl
      case hp => rfl
      case hrun =>
        intro D y wz hW hD R hR
        have HRR := Lib.hid hR
        clear hR
        have h15 : D 15 = false := hD.not
        have h7 : D 7 = true := hD.pre _ 7 rfl (by kernel_rfl)
        have h6 : D 14 = true := hD.pre _ 14 rfl (by kernel_rfl)
        have h16 : D 16 = false := hD.post _ 16 rfl (by kernel_rfl)
        have h17 : D 17 = false := hD.post _ 17 rfl (by kernel_rfl)
        have hm := hW.m
        rw [h15, h7] at hm
        simp only [cond_true, cond_false] at hm
        obtain ⟨bb, hyb, hgc, -⟩ := hm.s2 h6 rfl
        have HMM := Lib.hid hm
        have H4 := Lib.hid (hW.o4 h16)
        have H5 := Lib.hid (hW.o5 h17)
        have H15 := Lib.hid h15
        have H7 := Lib.hid h7
        have H16 := Lib.hid h16
        have H17 := Lib.hid h17
        clear hW hD h15 h7 h6 h16 h17 hm
        obtain ⟨i0, hi0, hz0, hz1, hz2⟩ := info3'
        refine wpList_append_lies _ rfl _ _ 36 rfl w.heap.size 3 i0 (.int .i64 0) 1 8 Try.underlying36 hi0 hz0 hz1 hz2 rfl (by decide) _ k _ rfl HMM.out.r2 ⟨bb, 0, none⟩ 1 1 [.int .i64 x'] hyb rfl (cell_news _ _ _ _ hgc) (one_int _) (by omega) (by unfold maxLen; omega) (by omega) HMM.out.hs _ rfl ?_
        intro g cap w12 hown12 hgrow12 hgg12 _
        have HG := Lib.hid (HMM.out.gotr2 hown12 hgrow12 hgg12)
        clear hown12 hgrow12 hgg12 hyb hgc hi0 hz0 hz1 hz2
        go_wp2_with fail
        refine HRR.out _ _ ?_
        refine ⟨?_, fun _ => H4.out, fun h => absurd (h : D 16 = true) (by rw [H16.out]; simp), fun _ => H5.out, fun h => absurd (h : D 17 = true) (by rw [H17.out]; simp)⟩
        show MoW w _ _ (cond (D 7) (y 20) _) (cond (D 7) _ _) (cond (D 7) _ _) _ _ _ (D 6) (D 7) (D 14) true (y 19) (y 27) _
        rw [H7.out]
        have h := HG.out
        exact h
      apply obl_priv 4
      case hd => rfl
      case hp => rfl
      case hrun =>
        intro D y wz hW hD R hR
        have HRR := Lib.hid hR
        clear hR
        have HW := Lib.hid hW
        clear hW hD
        go_wp2_with fail
        refine HRR.out (y 20) _ ?_
        exact ⟨HW.out.m, fun h => (by cases h), fun _ => rfl, HW.out.o5, HW.out.n5⟩
      apply obl_priv 5
      case hd => rfl
      case hp => rfl
      case hrun =>
        intro D y wz hW hD R hR
        have HRR := Lib.hid hR
        clear hR
        have HW := Lib.hid hW
        clear hW hD
        go_wp2_with fail
        refine HRR.out (y 28) _ ?_
        exact ⟨HW.out.m, HW.out.o4, HW.out.n4, fun h => (by cases h), fun _ => rfl⟩
      apply obl_nil
      intro D y w8 hall hW
      have hm := hW.m
      rw [hall 7 (by decide), hall 15 (by decide)] at hm
      simp only [cond_true, HT1.out, HT2.out] at hm
      have HMN := Lib.hid hm
      have h4 := hW.n4 (hall 16 (by decide))
      have h5 := hW.n5 (hall 17 (by decide))
      rw [h4, h5]
      clear hm hW hall h4 h5
      generalize y 20 = v1 at *
      generalize y 28 = v2 at *
      generalize y 19 = v3 at *
      generalize y 27 = v4 at *
      go_wp2_with fail
      refine ⟨⟨k + 1, _, _, rfl, rfl, by push_cast; rfl, by omega, fun x1 x2 => ⟨HMN.out.low, HMN.out.hs, HMN.out.r1, HMN.out.r2, HMN.out.ne, fun h => (by cases h), fun h => (by cases h)⟩⟩, ?_⟩
      simp [intOf]; omega
    · obtain rfl : n = k := by omega
      have hr1 := (HM.out undef undef).r1
      have hr2 := (HM.out undef undef).r2
      rw [List.take_of_length_le (by rw [HN.out]; exact Nat.le_refl _)] at hr1 hr2
      have H1 : Hid (OwnInts w.heap.size wr u1 (l.map Prod.fst)) := by unfold Hid OwnInts; simpa [HN.out] using hr1
      have H2 : Hid (OwnInts w.heap.size wr u2 (l.map Prod.snd)) := by unfold Hid OwnInts; simpa [HN.out] using hr2
      clear hr1 hr2
      go_wp2_with fail
      go_ret2
      exact ⟨_, _, rfl, H1.out, H2.out, HLOW.out⟩
/-- endsOf -/
theorem endsOf83_own (l : List (Int × Int)) (most : Bool) (v : Value) (w : World) (hv : SpansIn w.heap.size w v l) (hl : l.length ≤ 100) :
    Calls Try.prog 83 #[v, .bool most] w fun e w' => ∃ u, e = .returned u ∧ OwnInts w.heap.size w' u (l.map (sd most)) ∧ Below w.heap.size w w' := by
  have HE := Lib.hid (ends_own l v w hv hl)
  unfold RetTwoO at HE
  obtain ⟨a, c, rfl, -, -⟩ := sl_shape hv
  clear hv
  cases most
  · have e : l.map (sd false) = l.map Prod.fst := List.map_congr_left fun p _ => by simp [sd]
    rw [e]
    go_enter Try.func83, Try.ntmps83
    go_wp2_with fail
    refine HE.out.mono ?_
    rintro e w1 ⟨u, v, rfl, hu, hv, hb⟩
    have HU := Lib.hid hu
    have HB := Lib.hid hb
    clear hu hv hb
    go_wp2_with fail
    go_ret
    exact ⟨_, rfl, HU.out, HB.out⟩
  · have e : l.map (sd true) = l.map Prod.snd := List.map_congr_left fun p _ => by simp [sd]
    rw [e]
    go_enter Try.func83, Try.ntmps83
    go_wp2_with fail
    refine HE.out.mono ?_
    rintro e w1 ⟨u, v, rfl, hu, hv, hb⟩
    have HU := Lib.hid hv
    have HB := Lib.hid hb
    clear hu hv hb
    go_wp2_with fail
    go_ret
    exact ⟨_, rfl, HU.out, HB.out⟩
end Go.Proofs.Ytaigbhhmmdfdcaa
