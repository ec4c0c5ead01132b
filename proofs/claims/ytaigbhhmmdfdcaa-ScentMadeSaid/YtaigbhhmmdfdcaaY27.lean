/- stearinref07.Made. -/
import Derived.Test.YtaigbhhmmdfdcaaP15
import Derived.Test.YtaigbhhmmdfdcaaY26
namespace Go.Proofs.Ytaigbhhmmdfdcaa
open Go.RowKit
set_option maxRecDepth 100000 in
set_option maxHeartbeats 16000000 in
theorem made_ref (s : Shop) (l : List Bat) (k : Int) (x : Tru) (vt vl v tl tb ta' : Value) (w : World) (hv : ShopAt w.heap.size w vt vl s) (hl' : BatsIn w.heap.size w v l) (hx : TruAt w.heap.size w tl tb ta' x) :
    Calls Try.prog 28 #[.agg #[vt, vl], v, .int .i64 k, .agg #[tl, tb, ta']] w (RetInts (madeV s l k x) (madeE s l k x) w) := by
  unfold RetInts
  have HS := Lib.hid hv
  have HL := Lib.hid hl'
  have HX := Lib.hid hx
  obtain ⟨ta, tc, rfl, -, -⟩ := sl_shape hv.1
  obtain ⟨la, lc, rfl, -, -⟩ := sl_shape hv.2
  obtain ⟨a, c, rfl, hlc, hlen⟩ := sl_shape hl'
  obtain ⟨xl, c1, rfl, -, -⟩ := sl_shape hx.1
  obtain ⟨xb, c2, rfl, -, -⟩ := sl_shape hx.2.1
  obtain ⟨xa, c3, rfl⟩ := hx.2.2.shape rfl
  clear hv hl' hx
  have HME := Lib.hid (madeE_in s l k x)
  have HMV0 : Hid (madeE s l k x ≠ 0 → madeV s l k x = []) := fun h => by unfold madeV; rw [if_pos h]
  have HMV1 : Hid (madeE s l k x = 0 → madeV s l k x = (List.range s.things.length).map (madeT s (l.getD k.toNat default) x)) := fun h => by unfold madeV; rw [if_neg (by simp [h])]
  have HG : Hid (batchesE s l = 0 → AllGood s l) := all_good
  obtain ⟨m1, hm1⟩ : ∃ m, x.lots.length = m := ⟨_, rfl⟩
  obtain ⟨m2, hm2⟩ : ∃ m, x.back.length = m := ⟨_, rfl⟩
  obtain ⟨n3, hn3⟩ : ∃ m, x.added.length = m := ⟨_, rfl⟩
  rw [hm1, hm2, hn3] at HX ⊢
  have HM1 := Lib.hid hm1
  have HM2 := Lib.hid hm2
  have HN3 := Lib.hid hn3
  clear hm1 hm2 hn3
  have C0 : Hid (Bs w [(w.heap.size, .cells #[.slice ta s.things.length tc, .slice la s.lots.length lc] 25), (w.heap.size + 1, .cells #[.slice xl m1 c1, .slice xb m2 c2, .slice xa n3 c3] 44)] _) := ((Bs.nil w).push _ rfl (.cells #[.slice ta s.things.length tc, .slice la s.lots.length lc] 25)).push (w.heap.size + 1) (by simp) (.cells #[.slice xl m1 c1, .slice xb m2 c2, .slice xa n3 c3] 44)
  have hc0 := C0.out.cell 0 rfl 0
  have hc1 := C0.out.cell 0 rfl 1
  have H2 := fun w h1 h2 => Lib.hid (batches_ref s l (.slice ta s.things.length tc) (.slice la s.lots.length lc) (.slice a l.length c) w h1 h2)
  have H3 := Lib.hid (fun kk hk hg w h1 h2 h3 => truth_ref s l kk x (.slice ta s.things.length tc) (.slice la s.lots.length lc) (.slice a l.length c) (.slice xl m1 c1) (.slice xb m2 c2) (.slice xa n3 c3) w hg hk h1 h2 h3)
  generalize madeE s l k x = ME at *
  generalize madeV s l k x = MV at *
  generalize batchesE s l = E at *
  go_enter Try.func28, Try.ntmps28
  go_wp2_with fail
  refine (H2 _ ((HS.out.below C0.out.bel).mono C0.out.bel.size) ((HL.out.below C0.out.bel).mono C0.out.bel.size)).out.mono ?_
  rintro e w1 ⟨rfl, hb⟩
  have C1 := Lib.hid (C0.out.call hb)
  clear hb C0 hc0 hc1 H2
  by_cases hE : E = 0
  case neg =>
    have hq : (E == 0) = false := by simpa using hE
    have hq2 : (E != 0) = true := by simpa using hE
    have HE : Hid (ME = E) := by unfold Hid; rw [HME.out, if_pos hE]
    have HV : Hid (MV = []) := HMV0.out (by rw [HE.out]; exact hE)
    clear hE HME HMV0 HMV1 HG H3
    go_wp2_with fail
    go_ret2
    rw [HE.out, HV.out]
    exact ⟨_, rfl, IntsIn.nil _ _, C1.out.bel⟩
  subst hE
  have HGD := Lib.hid (HG.out rfl)
  rw [if_neg (by simp)] at HME
  have hn1 := HGD.out.n1
  have hn6 := HGD.out.n6
  have hnt1 := HGD.out.sh.nt1
  have hnt5 := HGD.out.sh.nt5
  have hnl6 := HGD.out.sh.nl6
  clear HG
  obtain ⟨r, hr⟩ : ∃ r, inB k 0 ((l.length : Int) - 1) = r := ⟨_, rfl⟩
  rw [hr] at HME
  have HR := Lib.hid hr
  clear hr
  go_wp2_with fail
  refine (in_r r _ _ _ _ HR.out).mono ?_
  rintro e w' ⟨rfl, rfl⟩
  cases r
  · have HE : Hid (ME = 4) := by unfold Hid; rw [HME.out]; rfl
    have HV : Hid (MV = []) := HMV0.out (by rw [HE.out]; decide)
    clear HME HMV0 HMV1 H3
    go_wp2_with fail
    go_ret2
    rw [HE.out, HV.out]
    exact ⟨_, rfl, IntsIn.nil _ _, C1.out.bel⟩
  rw [if_neg (by simp)] at HME
  obtain ⟨k, rfl⟩ : ∃ kk : Nat, k = kk := ⟨k.toNat, by have h := HR.out; unfold inB at h; simp at h; omega⟩
  have hk : k < l.length := by have h := HR.out; unfold inB at h; simp at h; omega
  rw [Int.toNat_natCast] at HME HMV1
  clear HR
  have HTR := fun w h1 h2 h3 => Lib.hid (H3.out k hk HGD.out w h1 h2 h3)
  have HFT := Lib.hid (fun (h : truthE s l k x = 0) => truthE_lens h)
  have HFF := Lib.hid (fun (h : truthE s l k x = 0) t ht => @made_fit s l HGD.out k hk x h t ht)
  generalize truthE s l k x = TE at *
  clear H3
  have hc0 := C1.out.cell 0 rfl 0
  have hc1 := C1.out.cell 0 rfl 1
  have hx0 := C1.out.cell 1 rfl 0
  have hx1 := C1.out.cell 1 rfl 1
  have hx2 := C1.out.cell 1 rfl 2
  go_wp2_with fail
  refine (HTR _ ((HS.out.below C1.out.bel).mono C1.out.bel.size) ((HL.out.below C1.out.bel).mono C1.out.bel.size) ((HX.out.below C1.out.bel).mono C1.out.bel.size)).out.mono ?_
  rintro e w2 ⟨rfl, hb⟩
  have C2 := Lib.hid (C1.out.call hb)
  clear hb C1 hc0 hc1 hx0 hx1 hx2 HTR
  by_cases hT : TE = 0
  case neg =>
    have hq2 : (TE != 0) = true := by simpa using hT
    have HE : Hid (ME = TE) := HME.out
    have HV : Hid (MV = []) := HMV0.out (by rw [HE.out]; exact hT)
    clear hT HME HMV0 HMV1 HFT HFF
    go_wp2_with fail
    go_ret2
    rw [HE.out, HV.out]
    exact ⟨_, rfl, IntsIn.nil _ _, C2.out.bel⟩
  subst hT
  have HV : Hid (MV = (List.range s.things.length).map (madeT s (l.getD k default) x)) := HMV1.out HME.out
  obtain ⟨hl1, hl2, hl3⟩ := HFT.out rfl
  have HFG := Lib.hid (HFF.out rfl)
  rw [HN3.out] at hl3
  subst hl3
  obtain ⟨e1, HLL⟩ := listsB_spec hl1
  have HLL := Lib.hid HLL
  rw [HM1.out] at e1
  subst e1
  obtain ⟨nb, hnb⟩ : ∃ m, (l.getD k default).back.length = m := ⟨_, rfl⟩
  rw [hnb] at hl2
  obtain ⟨e2, HLB⟩ := listsB_spec hl2
  have HLB := Lib.hid HLB
  rw [HM2.out] at e2
  have e3 := e2.symm
  clear e2
  subst e3
  have HNB := Lib.hid hnb
  obtain ⟨b, o, ab, cb, rfl, hbb, hbk, hbi⟩ := back_at HL.out hk hnb
  have HBK := Lib.hid hbk
  have HBB := Lib.hid hbb
  have HBI := Lib.hid hbi
  clear hbk hbb hbi hl1 hl2 hnb HFT HFF HMV0 HMV1
  have hki : (k : Int) < (l.length : Int) := by omega
  have HGL := Lib.hid (bat_ok0 (batchE_zero (HGD.out.pre k hk)).1)
  have hnb6 : nb ≤ 6 := by have := HGL.out.blen; rw [HNB.out] at this; omega
  go_wp2_with fail
  obtain ⟨B, hBs⟩ : ∃ B, w2.heap.size = B := ⟨_, rfl⟩
  have HBW := Lib.hid hBs
  clear hBs
  have HB0 : Hid (Below B w2 w2) := Below.refl _ _
  go_loopw [11, 12] (fun tx iv wr => ∃ (t : Nat) (tv : Value), tv = tx ∧ iv = .int .i64 t ∧ t ≤ s.things.length ∧ Below B w2 wr ∧ B ≤ wr.heap.size ∧ wr.ownsRow B 3 1 tv t (((List.range t).map (madeT s (l.getD k default) x)).map (Value.int .i64))) (fun _ iv _ => s.things.length - (intOf iv).toNat)
  case atStart => exact ⟨0, _, rfl, rfl, by omega, HB0.out, Nat.le_of_eq HBW.out.symm, World.ownsRow_nil _ _ 3 1⟩
  case round =>
    clear HB0
    obtain ⟨t, tv, rfl, rfl, ht, hb, hle, hT⟩ := hrel
    have HB := Lib.hid hb
    have HT := Lib.hid hT
    have HLE := Lib.hid hle
    clear hb hT hle
    have CR : Hid (Bs w [(w.heap.size, .cells #[.slice ta s.things.length tc, .slice la s.lots.length lc] 25), (w.heap.size + 1, .cells #[.slice xl s.lots.length c1, .slice xb nb c2, .slice xa s.things.length c3] 44)] wr) := C2.out.call (by rw [HBW.out]; exact HB.out)
    have hs0 := CR.out.cell 0 rfl 0
    have hx2 := CR.out.cell 1 rfl 2
    by_cases htl : t < s.things.length
    · have hti : (t : Int) < (s.things.length : Int) := by omega
      obtain ⟨bX, oX, rfl, hbX, hx3⟩ := HX.out.2.2.at' (i := t) (by rw [HN3.out]; exact htl)
      have hx3 := (CR.out.bel.cell (p := ⟨bX, oX + t, none⟩) hbX).trans hx3
      obtain ⟨f1, f2, f3, f4, f5⟩ := HFG.out t htl
      rw [HNB.out] at f3 f5
      have HF2 := Lib.hid f2
      have HF3 := Lib.hid f3
      have HF4 := Lib.hid f4
      have HF5 := Lib.hid f5
      clear f2 f3 f4 f5
      have HAZ := Lib.hid (sA_zero (l.getD k default) x t)
      have HAN := Lib.hid (sA_next (l.getD k default) x t)
      have HBN := Lib.hid (sB_next s (l.getD k default) x t)
      have HBZ := Lib.hid (sB_zero s (l.getD k default) x t)
      have HBE : Hid (sB s (l.getD k default) x t nb = madeT s (l.getD k default) x t) := by have h := sB_end s (l.getD k default) x t; rw [HNB.out] at h; exact h
      have HSN : Hid ((((List.range t).map (madeT s (l.getD k default) x)).map (Value.int .i64)) ++ [.int .i64 (madeT s (l.getD k default) x t)] = ((List.range (t + 1)).map (madeT s (l.getD k default) x)).map (Value.int .i64)) := by unfold Hid; rw [List.range_succ, List.map_append, List.map_append]; rfl
      generalize sA (l.getD k default) x t = AF at *
      generalize sB s (l.getD k default) x t = BF at *
      generalize madeT s (l.getD k default) x t = MT at *
      generalize x.added.getD t 0 = xt at *
      obtain ⟨ta1, tc1, htv⟩ := ownsRow_slice HT.out
      have HTV := Lib.hid htv
      clear htv
      go_wp2_with fail
      rw [← HAZ.out]
      clear hs0 hx2 hx3 hbX
      obtain ⟨W2, hW2⟩ : ∃ x, x = wr := ⟨_, rfl⟩
      subst hW2
      go_loopw [13, 14] (fun nv iv wr => ∃ i : Nat, nv = .int .i64 (AF i) ∧ iv = .int .i64 i ∧ i ≤ s.lots.length ∧ Below W2.heap.size W2 wr) (fun _ iv _ => s.lots.length - (intOf iv).toNat)
      case atStart => exact ⟨0, rfl, rfl, by omega, Below.refl _ _⟩
      case round =>
        obtain ⟨i, rfl, rfl, hi, hb⟩ := hrel
        have HBI2 := Lib.hid hb
        clear hb
        have CQ := Lib.hid (CR.out.call HBI2.out)
        have hs1 := CQ.out.cell 0 rfl 1
        by_cases hil : i < s.lots.length
        · have hii : (i : Int) < (s.lots.length : Int) := by omega
          have HBC := Lib.hid CQ.out.bel
          obtain ⟨b', o', bG, oG, cG, he, -, hbG, hg1, hg2⟩ := gram_at HL.out hk HGL.out.glen hil
          cases he
          obtain ⟨bj, oj, bR, oR, cR, rfl, hbj, hbR, hj1, hj2⟩ := list_at HX.out.1 (i := i) (by rw [HM1.out]; exact hil) (HLL.out i hil) htl
          have HG1 := Lib.hid hg1
          have HG2 := Lib.hid hg2
          have HUG := Lib.hid hbG
          have HJ1 := Lib.hid hj1
          have HJ2 := Lib.hid hj2
          have HUJ := Lib.hid hbj
          have HUR := Lib.hid hbR
          have hg := HGL.out.gram i
          have hm := HF2.out i hil
          have hA0 := HF4.out i hi
          have hA1 := HF4.out (i + 1) (by omega)
          have HNX := Lib.hid (HAN.out i)
          rw [HNX.out] at hA1
          clear hg1 hg2 hbG hj1 hj2 hbj hbR
          generalize (l.getD k default).grams.getD i 0 = g at *
          generalize (x.lots.getD i []).getD t 0 = mt at *
          have hmul := mul_bound hg hm
          have HWP : Hid (wrap64 (g * mt) = g * mt) := by unfold Hid wrap64; omega
          obtain ⟨P, hP⟩ : ∃ P, g * mt = P := ⟨_, rfl⟩
          rw [hP] at HWP HNX hA1 hmul
          have HH := Lib.hid hP
          clear hP
          obtain ⟨A0, hA0e⟩ : ∃ A0, AF i = A0 := ⟨_, rfl⟩
          rw [hA0e] at HNX hA0 hA1 ⊢
          clear hA0e
          go_wp2_with fail
          clear hs1 hg hm
          refine wp_region_inv0 (by kernel_rfl) (by kernel_rfl) (fun D w' => Below wr.heap.size wr w') (Below.refl _ _).drew ?_
          apply obl_det
          case hrun =>
            intro D y wz hW hD R hR
            have HRR := Lib.hid hR
            clear hR
            have HW := Lib.hid hW
            clear hW hD
            go_wp2_with fail
            exact HRR.out _ HW.out
          case hnp => rfl
          case hv => first | exact ⟨_, fun _ => rfl⟩ | exact ⟨undef, fun _ => rfl⟩
          apply obl_det
          case hrun =>
            intro D y wz hW hD R hR
            have HRR := Lib.hid hR
            clear hR
            have HW := Lib.hid hW
            clear hW hD
            go_wp2_with fail
            exact HRR.out _ HW.out
          case hnp => rfl
          case hv => first | exact ⟨_, fun _ => rfl⟩ | exact ⟨undef, fun _ => rfl⟩
          apply obl_det
          case hrun =>
            intro D y wz hW hD R hR
            have HRR := Lib.hid hR
            clear hR
            have HW := Lib.hid hW
            clear hW hD
            go_wp2_with fail
            exact HRR.out _ HW.out
          case hnp => rfl
          case hv => first | exact ⟨_, fun _ => rfl⟩ | exact ⟨undef, fun _ => rfl⟩
          apply obl_det
          case hrun =>
            intro D y wz hW hD R hR
            have HRR := Lib.hid hR
            clear hR
            have HW := Lib.hid hW
            clear hW hD
            go_wp2_with fail
            exact HRR.out _ HW.out
          case hnp => rfl
          case hv => first | exact ⟨_, fun _ => rfl⟩ | exact ⟨undef, fun _ => rfl⟩
          apply obl_det
          case hrun =>
            intro D y wz hW hD R hR
            have HRR := Lib.hid hR
            clear hR
            have HW := Lib.hid hW
            clear hW hD
            go_wp2_with fail
            exact HRR.out _ HW.out
          case hnp => rfl
          case hv => first | exact ⟨_, fun _ => rfl⟩ | exact ⟨undef, fun _ => rfl⟩
          apply obl_det
          case hrun =>
            intro D y wz hW hD R hR
            have HRR := Lib.hid hR
            clear hR
            have HW := Lib.hid hW
            have HZ := Lib.hid (HBC.out.trans (HW.out.mono HBC.out.size))
            have h1 := (HZ.out.cell (p := ⟨b, o + k * 3, none⟩) HBB.out).trans HG1.out
            clear hW hD
            go_wp2_with fail
            exact HRR.out _ HW.out
          case hnp => rfl
          case hv => first | exact ⟨_, fun _ => rfl⟩ | exact ⟨undef, fun _ => rfl⟩
          apply obl_det
          case hrun =>
            intro D y wz hW hD R hR
            have HRR := Lib.hid hR
            clear hR
            have HW := Lib.hid hW
            clear hW hD
            go_wp2_with fail
            exact HRR.out _ HW.out
          case hnp => rfl
          case hv => first | exact ⟨_, fun _ => rfl⟩ | exact ⟨undef, fun _ => rfl⟩
          apply obl_det
          case hrun =>
            intro D y wz hW hD R hR
            have HRR := Lib.hid hR
            clear hR
            have HW := Lib.hid hW
            clear hW hD
            go_wp2_with fail
            exact HRR.out _ HW.out
          case hnp => rfl
          case hv => first | exact ⟨_, fun _ => rfl⟩ | exact ⟨undef, fun _ => rfl⟩
          apply obl_det
          case hrun =>
            intro D y wz hW hD R hR
            have HRR := Lib.hid hR
            clear hR
            have HW := Lib.hid hW
            have HZ := Lib.hid (HBC.out.trans (HW.out.mono HBC.out.size))
            have h1 := (HZ.out.cell (p := ⟨bG, oG + i, none⟩) HUG.out).trans HG2.out
            clear hW hD
            go_wp2_with fail
            exact HRR.out _ HW.out
          case hnp => rfl
          case hv => first | exact ⟨_, fun _ => rfl⟩ | exact ⟨undef, fun _ => rfl⟩
          apply obl_det
          case hrun =>
            intro D y wz hW hD R hR
            have HRR := Lib.hid hR
            clear hR
            have HW := Lib.hid hW
            clear hW hD
            go_wp2_with fail
            exact HRR.out _ HW.out
          case hnp => rfl
          case hv => first | exact ⟨_, fun _ => rfl⟩ | exact ⟨undef, fun _ => rfl⟩
          apply obl_det
          case hrun =>
            intro D y wz hW hD R hR
            have HRR := Lib.hid hR
            clear hR
            have HW := Lib.hid hW
            have h1 := (CQ.out.call HW.out).cell 1 rfl 0
            clear hW hD
            go_wp2_with fail
            exact HRR.out _ HW.out
          case hnp => rfl
          case hv => first | exact ⟨_, fun _ => rfl⟩ | exact ⟨undef, fun _ => rfl⟩
          apply obl_det
          case hrun =>
            intro D y wz hW hD R hR
            have HRR := Lib.hid hR
            clear hR
            have HW := Lib.hid hW
            clear hW hD
            go_wp2_with fail
            exact HRR.out _ HW.out
          case hnp => rfl
          case hv => first | exact ⟨_, fun _ => rfl⟩ | exact ⟨undef, fun _ => rfl⟩
          apply obl_det
          case hrun =>
            intro D y wz hW hD R hR
            have HRR := Lib.hid hR
            clear hR
            have HW := Lib.hid hW
            clear hW hD
            go_wp2_with fail
            exact HRR.out _ HW.out
          case hnp => rfl
          case hv => first | exact ⟨_, fun _ => rfl⟩ | exact ⟨undef, fun _ => rfl⟩
          apply obl_det
          case hrun =>
            intro D y wz hW hD R hR
            have HRR := Lib.hid hR
            clear hR
            have HW := Lib.hid hW
            have HZ := Lib.hid (HBC.out.trans (HW.out.mono HBC.out.size))
            have h1 := (HZ.out.cell (p := ⟨bj, oj + i, none⟩) HUJ.out).trans HJ1.out
            clear hW hD
            go_wp2_with fail
            exact HRR.out _ HW.out
          case hnp => rfl
          case hv => first | exact ⟨_, fun _ => rfl⟩ | exact ⟨undef, fun _ => rfl⟩
          apply obl_det
          case hrun =>
            intro D y wz hW hD R hR
            have HRR := Lib.hid hR
            clear hR
            have HW := Lib.hid hW
            clear hW hD
            go_wp2_with fail
            exact HRR.out _ HW.out
          case hnp => rfl
          case hv => first | exact ⟨_, fun _ => rfl⟩ | exact ⟨undef, fun _ => rfl⟩
          apply obl_det
          case hrun =>
            intro D y wz hW hD R hR
            have HRR := Lib.hid hR
            clear hR
            have HW := Lib.hid hW
            clear hW hD
            go_wp2_with fail
            exact HRR.out _ HW.out
          case hnp => rfl
          case hv => first | exact ⟨_, fun _ => rfl⟩ | exact ⟨undef, fun _ => rfl⟩
          apply obl_det
          case hrun =>
            intro D y wz hW hD R hR
            have HRR := Lib.hid hR
            clear hR
            have HW := Lib.hid hW
            have HZ := Lib.hid (HBC.out.trans (HW.out.mono HBC.out.size))
            have h1 := (HZ.out.cell (p := ⟨bR, oR + t, none⟩) HUR.out).trans HJ2.out
            clear hW hD
            go_wp2_with fail
            exact HRR.out _ HW.out
          case hnp => rfl
          case hv => first | exact ⟨_, fun _ => rfl⟩ | exact ⟨undef, fun _ => rfl⟩
          apply obl_det
          case hrun =>
            intro D y wz hW hD R hR
            have HRR := Lib.hid hR
            clear hR
            have HW := Lib.hid hW
            clear hW hD
            go_wp2_with fail
            rw [HH.out, HWP.out]
            exact HRR.out _ HW.out
          case hnp => rfl
          case hv => first | exact ⟨_, fun _ => rfl⟩ | exact ⟨undef, fun _ => rfl⟩
          apply obl_det
          case hrun =>
            intro D y wz hW hD R hR
            have HRR := Lib.hid hR
            clear hR
            have HW := Lib.hid hW
            clear hW hD
            go_wp2_with fail
            exact HRR.out _ HW.out
          case hnp => rfl
          case hv => first | exact ⟨_, fun _ => rfl⟩ | exact ⟨undef, fun _ => rfl⟩
          apply obl_det
          case hrun =>
            intro D y wz hW hD R hR
            have HRR := Lib.hid hR
            clear hR
            have HW := Lib.hid hW
            clear hW hD
            go_wp2_with fail
            exact HRR.out _ HW.out
          case hnp => rfl
          case hv => first | exact ⟨_, fun _ => rfl⟩ | exact ⟨undef, fun _ => rfl⟩
          apply obl_nil
          intro D y w8 hall hW
          have HB9 := Lib.hid (HBI2.out.trans (hW.mono HBI2.out.size))
          clear hall hW
          go_wp2_with fail
          refine ⟨⟨i + 1, by rw [HNX.out], by push_cast; rfl, by omega, HB9.out⟩, ?_⟩
          simp [intOf]; omega
        · obtain rfl : i = s.lots.length := by omega
          rw [← HBZ.out]
          clear HAN HAZ HBZ
          go_wp2_with fail
          clear hs1 CQ
          go_loopw [13, 15] (fun nv iv wr => ∃ i : Nat, nv = .int .i64 (BF i) ∧ iv = .int .i64 i ∧ i ≤ nb ∧ Below W2.heap.size W2 wr) (fun _ iv _ => nb - (intOf iv).toNat)
          case atStart => exact ⟨0, rfl, rfl, by omega, HBI2.out⟩
          case round =>
            clear HBI2
            obtain ⟨i, rfl, rfl, hi, hb⟩ := hrel
            have HBI2 := Lib.hid hb
            clear hb
            have CQ := Lib.hid (CR.out.call HBI2.out)
            have HBC := Lib.hid CQ.out.bel
            have hs1 := (HBC.out.cell (p := ⟨b, o + k * 3 + 1, none⟩) HBB.out).trans HBK.out
            by_cases hil : i < nb
            · have hii : (i : Int) < (nb : Int) := by omega
              obtain ⟨bG, oG, rfl, hbG, hg2⟩ := HBI.out i hil
              obtain ⟨bj, oj, bR, oR, cR, rfl, hbj, hbR, hj1, hj2⟩ := list_at HX.out.2.1 (i := i) (by rw [HM2.out]; exact hil) (HLB.out i hil) htl
              have HG2 := Lib.hid hg2
              have HUG := Lib.hid hbG
              have HJ1 := Lib.hid hj1
              have HJ2 := Lib.hid hj2
              have HUJ := Lib.hid hbj
              have HUR := Lib.hid hbR
              have hg := HGL.out.back i
              have hm := HF3.out i hil
              have hA0 := HF5.out i hi
              have hA1 := HF5.out (i + 1) (by omega)
              have HNX := Lib.hid (HBN.out i)
              rw [HNX.out] at hA1
              clear hg2 hbG hj1 hj2 hbj hbR
              generalize (l.getD k default).back.getD i 0 = g at *
              generalize (x.back.getD i []).getD t 0 = mt at *
              have hmul := mul_bound hg hm
              have HWP : Hid (wrap64 (g * mt) = g * mt) := by unfold Hid wrap64; omega
              obtain ⟨P, hP⟩ : ∃ P, g * mt = P := ⟨_, rfl⟩
              rw [hP] at HWP HNX hA1 hmul
              have HH := Lib.hid hP
              clear hP
              obtain ⟨A0, hA0e⟩ : ∃ A0, BF i = A0 := ⟨_, rfl⟩
              rw [hA0e] at HNX hA0 hA1 ⊢
              clear hA0e
              go_wp2_with fail
              clear hs1 hg hm
              refine wp_region_inv0 (by kernel_rfl) (by kernel_rfl) (fun D w' => Below wr.heap.size wr w') (Below.refl _ _).drew ?_
              apply obl_det
              case hrun =>
                intro D y wz hW hD R hR
                have HRR := Lib.hid hR
                clear hR
                have HW := Lib.hid hW
                clear hW hD
                go_wp2_with fail
                exact HRR.out _ HW.out
              case hnp => rfl
              case hv => first | exact ⟨_, fun _ => rfl⟩ | exact ⟨undef, fun _ => rfl⟩
              apply obl_det
              case hrun =>
                intro D y wz hW hD R hR
                have HRR := Lib.hid hR
                clear hR
                have HW := Lib.hid hW
                clear hW hD
                go_wp2_with fail
                exact HRR.out _ HW.out
              case hnp => rfl
              case hv => first | exact ⟨_, fun _ => rfl⟩ | exact ⟨undef, fun _ => rfl⟩
              apply obl_det
              case hrun =>
                intro D y wz hW hD R hR
                have HRR := Lib.hid hR
                clear hR
                have HW := Lib.hid hW
                clear hW hD
                go_wp2_with fail
                exact HRR.out _ HW.out
              case hnp => rfl
              case hv => first | exact ⟨_, fun _ => rfl⟩ | exact ⟨undef, fun _ => rfl⟩
              apply obl_det
              case hrun =>
                intro D y wz hW hD R hR
                have HRR := Lib.hid hR
                clear hR
                have HW := Lib.hid hW
                clear hW hD
                go_wp2_with fail
                exact HRR.out _ HW.out
              case hnp => rfl
              case hv => first | exact ⟨_, fun _ => rfl⟩ | exact ⟨undef, fun _ => rfl⟩
              apply obl_det
              case hrun =>
                intro D y wz hW hD R hR
                have HRR := Lib.hid hR
                clear hR
                have HW := Lib.hid hW
                clear hW hD
                go_wp2_with fail
                exact HRR.out _ HW.out
              case hnp => rfl
              case hv => first | exact ⟨_, fun _ => rfl⟩ | exact ⟨undef, fun _ => rfl⟩
              apply obl_det
              case hrun =>
                intro D y wz hW hD R hR
                have HRR := Lib.hid hR
                clear hR
                have HW := Lib.hid hW
                have HZ := Lib.hid (HBC.out.trans (HW.out.mono HBC.out.size))
                have h1 := (HZ.out.cell (p := ⟨b, o + k * 3 + 1, none⟩) HBB.out).trans HBK.out
                clear hW hD
                go_wp2_with fail
                exact HRR.out _ HW.out
              case hnp => rfl
              case hv => first | exact ⟨_, fun _ => rfl⟩ | exact ⟨undef, fun _ => rfl⟩
              apply obl_det
              case hrun =>
                intro D y wz hW hD R hR
                have HRR := Lib.hid hR
                clear hR
                have HW := Lib.hid hW
                clear hW hD
                go_wp2_with fail
                exact HRR.out _ HW.out
              case hnp => rfl
              case hv => first | exact ⟨_, fun _ => rfl⟩ | exact ⟨undef, fun _ => rfl⟩
              apply obl_det
              case hrun =>
                intro D y wz hW hD R hR
                have HRR := Lib.hid hR
                clear hR
                have HW := Lib.hid hW
                clear hW hD
                go_wp2_with fail
                exact HRR.out _ HW.out
              case hnp => rfl
              case hv => first | exact ⟨_, fun _ => rfl⟩ | exact ⟨undef, fun _ => rfl⟩
              apply obl_det
              case hrun =>
                intro D y wz hW hD R hR
                have HRR := Lib.hid hR
                clear hR
                have HW := Lib.hid hW
                have HZ := Lib.hid (HBC.out.trans (HW.out.mono HBC.out.size))
                have h1 := (HZ.out.cell (p := ⟨bG, oG + i, none⟩) HUG.out).trans HG2.out
                clear hW hD
                go_wp2_with fail
                exact HRR.out _ HW.out
              case hnp => rfl
              case hv => first | exact ⟨_, fun _ => rfl⟩ | exact ⟨undef, fun _ => rfl⟩
              apply obl_det
              case hrun =>
                intro D y wz hW hD R hR
                have HRR := Lib.hid hR
                clear hR
                have HW := Lib.hid hW
                clear hW hD
                go_wp2_with fail
                exact HRR.out _ HW.out
              case hnp => rfl
              case hv => first | exact ⟨_, fun _ => rfl⟩ | exact ⟨undef, fun _ => rfl⟩
              apply obl_det
              case hrun =>
                intro D y wz hW hD R hR
                have HRR := Lib.hid hR
                clear hR
                have HW := Lib.hid hW
                have h1 := (CQ.out.call HW.out).cell 1 rfl 1
                clear hW hD
                go_wp2_with fail
                exact HRR.out _ HW.out
              case hnp => rfl
              case hv => first | exact ⟨_, fun _ => rfl⟩ | exact ⟨undef, fun _ => rfl⟩
              apply obl_det
              case hrun =>
                intro D y wz hW hD R hR
                have HRR := Lib.hid hR
                clear hR
                have HW := Lib.hid hW
                clear hW hD
                go_wp2_with fail
                exact HRR.out _ HW.out
              case hnp => rfl
              case hv => first | exact ⟨_, fun _ => rfl⟩ | exact ⟨undef, fun _ => rfl⟩
              apply obl_det
              case hrun =>
                intro D y wz hW hD R hR
                have HRR := Lib.hid hR
                clear hR
                have HW := Lib.hid hW
                clear hW hD
                go_wp2_with fail
                exact HRR.out _ HW.out
              case hnp => rfl
              case hv => first | exact ⟨_, fun _ => rfl⟩ | exact ⟨undef, fun _ => rfl⟩
              apply obl_det
              case hrun =>
                intro D y wz hW hD R hR
                have HRR := Lib.hid hR
                clear hR
                have HW := Lib.hid hW
                have HZ := Lib.hid (HBC.out.trans (HW.out.mono HBC.out.size))
                have h1 := (HZ.out.cell (p := ⟨bj, oj + i, none⟩) HUJ.out).trans HJ1.out
                clear hW hD
                go_wp2_with fail
                exact HRR.out _ HW.out
              case hnp => rfl
              case hv => first | exact ⟨_, fun _ => rfl⟩ | exact ⟨undef, fun _ => rfl⟩
              apply obl_det
              case hrun =>
                intro D y wz hW hD R hR
                have HRR := Lib.hid hR
                clear hR
                have HW := Lib.hid hW
                clear hW hD
                go_wp2_with fail
                exact HRR.out _ HW.out
              case hnp => rfl
              case hv => first | exact ⟨_, fun _ => rfl⟩ | exact ⟨undef, fun _ => rfl⟩
              apply obl_det
              case hrun =>
                intro D y wz hW hD R hR
                have HRR := Lib.hid hR
                clear hR
                have HW := Lib.hid hW
                clear hW hD
                go_wp2_with fail
                exact HRR.out _ HW.out
              case hnp => rfl
              case hv => first | exact ⟨_, fun _ => rfl⟩ | exact ⟨undef, fun _ => rfl⟩
              apply obl_det
              case hrun =>
                intro D y wz hW hD R hR
                have HRR := Lib.hid hR
                clear hR
                have HW := Lib.hid hW
                have HZ := Lib.hid (HBC.out.trans (HW.out.mono HBC.out.size))
                have h1 := (HZ.out.cell (p := ⟨bR, oR + t, none⟩) HUR.out).trans HJ2.out
                clear hW hD
                go_wp2_with fail
                exact HRR.out _ HW.out
              case hnp => rfl
              case hv => first | exact ⟨_, fun _ => rfl⟩ | exact ⟨undef, fun _ => rfl⟩
              apply obl_det
              case hrun =>
                intro D y wz hW hD R hR
                have HRR := Lib.hid hR
                clear hR
                have HW := Lib.hid hW
                clear hW hD
                go_wp2_with fail
                rw [HH.out, HWP.out]
                exact HRR.out _ HW.out
              case hnp => rfl
              case hv => first | exact ⟨_, fun _ => rfl⟩ | exact ⟨undef, fun _ => rfl⟩
              apply obl_det
              case hrun =>
                intro D y wz hW hD R hR
                have HRR := Lib.hid hR
                clear hR
                have HW := Lib.hid hW
                clear hW hD
                go_wp2_with fail
                exact HRR.out _ HW.out
              case hnp => rfl
              case hv => first | exact ⟨_, fun _ => rfl⟩ | exact ⟨undef, fun _ => rfl⟩
              apply obl_det
              case hrun =>
                intro D y wz hW hD R hR
                have HRR := Lib.hid hR
                clear hR
                have HW := Lib.hid hW
                clear hW hD
                go_wp2_with fail
                exact HRR.out _ HW.out
              case hnp => rfl
              case hv => first | exact ⟨_, fun _ => rfl⟩ | exact ⟨undef, fun _ => rfl⟩
              apply obl_nil
              intro D y w8 hall hW
              have HB9 := Lib.hid (HBI2.out.trans (hW.mono HBI2.out.size))
              clear hall hW
              go_wp2_with fail
              refine ⟨⟨i + 1, by rw [HNX.out], by push_cast; rfl, by omega, HB9.out⟩, ?_⟩
              simp [intOf]; omega
            · obtain rfl : i = nb := by omega
              rw [HBE.out]
              have HB2 : Hid (Below B w2 wr) := HB.out.trans (HBI2.out.mono HLE.out)
              have HT2 := Lib.hid (ownsRow.below HT.out HBI2.out)
              have HLE2 : Hid (B ≤ wr.heap.size) := Nat.le_trans HLE.out HBI2.out.size
              clear HBC CQ HBI2
              obtain ⟨i0, hi0, hz0, hz1, hz2⟩ := info3'
              have HI0 := Lib.hid hi0
              have HZ0 := Lib.hid hz0
              have HZ1 := Lib.hid hz1
              have HZ2 := Lib.hid hz2
              clear hi0 hz0 hz1 hz2
              have HT1 := Lib.hid (HT2.out.alloc (.cells #[.int .i64 MT] 3))
              have HNW2 := Lib.hid (heap_alloc_new wr (.cells #[.int .i64 MT] 3))
              have HLE1 : Hid (B ≤ (wr.alloc (.cells #[.int .i64 MT] 3)).heap.size) := Nat.le_trans HLE2.out (ba_allocB wr _).size
              have HBn : Hid (Below B w2 (wr.alloc (.cells #[.int .i64 MT] 3))) := HB2.out.trans ((ba_allocB wr _).mono HLE2.out)
              go_wp2_with (at_builtin; refine wpList_append_own _ rfl _ _ 36 rfl B 3 i0 (.int .i64 0) 1 8 Try.underlying36 HI0.out HZ0.out HZ1.out HZ2.out rfl (by decide) _ _ _ rfl HT1.out ⟨wr.heap.size, 0, none⟩ 1 1 [.int .i64 MT] rfl rfl (cell_news _ _ _ _ HNW2.out) (one_int _) (by unfold maxLen; omega) (by omega) HLE1.out ?_; intro v' w12 hown12 hgrow12 _; have HBZ := Lib.hid (HBn.out.trans (grown_below HT1.out hgrow12 (Nat.le_refl _) HLE1.out)); have HLE3 : Hid (B ≤ w12.heap.size) := Nat.le_trans HLE1.out (grown_below HT1.out hgrow12 (Nat.le_refl _) HLE1.out).size; have HTN := Lib.hid hown12; rw [HSN.out] at HTN; clear hown12 hgrow12 HT1 HNW2)
              refine ⟨⟨t + 1, _, rfl, by push_cast; rfl, by omega, HBZ.out, HLE3.out, HTN.out⟩, ?_⟩
              simp [intOf]; omega
    · obtain rfl : t = s.things.length := by omega
      have HTF : Hid (IntsIn .i64 wr.heap.size wr tv ((List.range s.things.length).map (madeT s (l.getD k default) x))) := OwnInts.ints (base := B) (by unfold OwnInts; simpa using HT.out) (by simp; omega)
      go_wp2_with fail
      go_ret2
      rw [HME.out, HV.out]
      exact ⟨_, rfl, HTF.out, CR.out.bel⟩
end Go.Proofs.Ytaigbhhmmdfdcaa
