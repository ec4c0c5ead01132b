/- stearinref07.Pull. -/
import Derived.Test.YtaigbhhmmdfdcaaY13
import Derived.Test.YtaigbhhmmdfdcaaY14
namespace Go.Proofs.Ytaigbhhmmdfdcaa
open Go.RowKit
theorem weak_snd (s : Shop) (row : List (Int × Int)) (n : Nat) : weakS s (fun t => (row.map Prod.snd).getD t 0) n = weakS s (fun t => (row.getD t (0, 0)).2) n :=
  dot_congr fun t _ => by congr 1; simp only [List.getD_eq_getElem?_getD, List.getElem?_map]; cases row[t]? <;> rfl
theorem weak_fst (s : Shop) (row : List (Int × Int)) (n : Nat) : weakS s (fun t => (row.map Prod.fst).getD t 0) n = weakS s (fun t => (row.getD t (0, 0)).1) n :=
  dot_congr fun t _ => by congr 1; simp only [List.getD_eq_getElem?_getD, List.getElem?_map]; cases row[t]? <;> rfl
theorem weakS_bound {s : Shop} (hs : ShopOk s) (f : Nat → Int) {n : Nat} (hn : n ≤ s.things.length) (hf : ∀ i, i < n → 0 ≤ f i ∧ f i ≤ 2000000000000) : 0 ≤ weakS s f n ∧ weakS s f n ≤ 1000000000000000 := by
  have h5 := hs.nt5
  have h := dot_bound (fun t => (s.things.getD t default).weak * f t) 200000000000000 n (fun i hi => by
    have := mul_bound (hs.weak i (by omega)) (hf i hi)
    omega)
  have e : weakS s f n = dot (fun t => (s.things.getD t default).weak * f t) n := rfl
  rw [e]
  have : (n : Int) * 200000000000000 ≤ 1000000000000000 := by omega
  omega
set_option maxRecDepth 100000 in
set_option maxHeartbeats 16000000 in
/-- Pull -/
theorem pull_ref (s : Shop) (l : List Bat) (vt vl v : Value) (w : World) (hv : ShopAt w.heap.size w vt vl s) (hl' : BatsIn w.heap.size w v l) :
    Calls Try.prog 32 #[.agg #[vt, vl], v] w (RetSpans (pullV s l) (batchesE s l) w) := by
  unfold RetSpans
  have HS := Lib.hid hv
  have HL := Lib.hid hl'
  obtain ⟨ta, tc, rfl, -, -⟩ := sl_shape hv.1
  obtain ⟨la, lc, rfl, -, -⟩ := sl_shape hv.2
  obtain ⟨a, c, rfl, -, -⟩ := sl_shape hl'
  clear hv hl'
  have C0 : Hid (Bs w [(w.heap.size, .cells #[.slice ta s.things.length tc, .slice la s.lots.length lc] 25)] _) := (Bs.nil w).push _ rfl (.cells #[.slice ta s.things.length tc, .slice la s.lots.length lc] 25)
  have hc0 := C0.out.cell 0 rfl 0
  have hc1 := C0.out.cell 0 rfl 1
  have HG : Hid (batchesE s l = 0 → AllGood s l) := all_good
  have HC : Hid (contentV s l = if batchesE s l ≠ 0 then [] else rangesV s l) := rfl
  have HPV : Hid (pullV s l = if batchesE s l ≠ 0 then [] else (List.range l.length).map (fun k => pullOf s (l.getD k default) ((rangesV s l).getD k []))) := rfl
  have H2 := fun w h1 h2 => Lib.hid (content_ref s l (.slice ta s.things.length tc) (.slice la s.lots.length lc) (.slice a l.length c) w h1 h2)
  unfold RetTable at H2
  generalize contentV s l = CV at *
  generalize pullV s l = KV at *
  generalize batchesE s l = E at *
  go_enter Try.func32, Try.ntmps32
  go_wp2_with fail
  refine (H2 _ ((HS.out.below C0.out.bel).mono C0.out.bel.size) ((HL.out.below C0.out.bel).mono C0.out.bel.size)).out.mono ?_
  rintro e w1 ⟨tv, rfl, hi, hb⟩
  have C1 := Lib.hid (C0.out.call hb)
  have HT := Lib.hid hi
  clear hb hi C0 hc0 hc1 H2
  by_cases hE : E = 0
  case neg =>
    have hq : (E != 0) = true := by simpa using hE
    have HZ : Hid (KV = []) := by unfold Hid; rw [HPV.out, if_pos hE]
    clear hE HG HC HPV
    go_wp2_with fail
    go_ret2
    exact ⟨_, rfl, by rw [HZ.out]; exact SlIn.nil _ _, C1.out.bel⟩
  subst hE
  have HGD := Lib.hid (HG.out rfl)
  have hcv : CV = rangesV s l := by rw [HC.out, if_neg (fun h => h rfl)]
  subst hcv
  have HZ : Hid (KV = (List.range l.length).map (fun k => pullOf s (l.getD k default) ((rangesV s l).getD k []))) := by unfold Hid; rw [HPV.out, if_neg (fun h => h rfl)]
  have hn6 := HGD.out.n6
  clear HG HC HPV
  obtain ⟨xa, xc, rfl, -⟩ := sl_shape HT.out
  rw [rangesV_length] at HT ⊢
  obtain ⟨B, hB⟩ : ∃ B, w1.heap.size = B := ⟨_, rfl⟩
  have HB0 : Hid (Below B w1 w1) := Below.refl _ _
  have HBW : Hid (w1.heap.size = B) := hB
  clear hB
  go_wp2_with fail
  go_loopw [8, 9] (fun tx kv wr => ∃ (k : Nat) (tv : Value), tv = tx ∧ kv = .int .i64 k ∧ k ≤ l.length ∧ Below B w1 wr ∧ B ≤ wr.heap.size ∧ wr.ownsRow B 51 2 tv k (spCells ((List.range k).map (fun k => pullOf s (l.getD k default) ((rangesV s l).getD k []))))) (fun _ kv _ => l.length - (intOf kv).toNat)
  case atStart => exact ⟨0, _, rfl, rfl, by omega, HB0.out, Nat.le_of_eq HBW.out.symm, World.ownsRow_nil _ _ 51 2⟩
  case round =>
    clear HB0
    obtain ⟨k, tv, rfl, rfl, hk, hb, hle, hR⟩ := hrel
    have HB := Lib.hid hb
    have HR := Lib.hid hR
    have HLE := Lib.hid hle
    clear hb hR hle
    have HB1 : Hid (Below w1.heap.size w1 wr) := HB.out.mono (Nat.le_of_eq HBW.out)
    have HBA : Hid (Below w.heap.size w wr) := C1.out.bel.trans (HB1.out.mono C1.out.bel.size)
    by_cases hkl : k < l.length
    · have HGO := Lib.hid ((bat_ok0 (batchE_zero (HGD.out.pre k hkl)).1).gramsOk HGD.out.sh.nl6 (show k ≤ 6 by omega))
      have hpos := HGD.out.pre.pos HGD.out.sh hn6 (Nat.le_refl _) hkl
      have HMB := fun t => Lib.hid (mic_ok HGD.out.sh hn6 (k := k) (fun j hj => HGD.out.pre j (by omega)) hkl t)
      have HRL : Hid (((rangesV s l).getD k []).length = s.things.length) := by unfold Hid; rw [row_eq s l hkl]; simp
      have HMI : Hid (∀ t, ((rangesV s l).getD k []).getD t (0, 0) = micV s l k t) := fun t => rfl
      obtain ⟨tb, to, rfl, htb, rv, hrc, hsp⟩ := HT.out.at' (i := k) (by rw [rangesV_length]; exact hkl)
      have hrc : w1.cell? ⟨tb, to + k, none⟩ = some rv := by have h := hrc; simpa [rdSpans] using h
      have HSP : Hid (SpansIn wr.heap.size wr rv ((rangesV s l).getD k [])) := (SlIn.below (show SpansIn w1.heap.size w1 rv ((rangesV s l).getD k []) from hsp) HB1.out).mono HB1.out.size
      have h1 := (HB1.out.cell (p := ⟨tb, to + k, none⟩) htb).trans hrc
      obtain ⟨ra, rc, rfl, -⟩ := sl_shape hsp
      clear hrc hsp htb
      obtain ⟨b, o, he, hbb, vg, vb, va, hd1, hd2, hd3, hat⟩ := HL.out.at' hkl
      cases he
      have HD1 : Hid (w.cell? ⟨b, o + k * 3, none⟩ = some vg) := hd1
      have HD2 : Hid (w.cell? ⟨b, o + k * 3 + 1, none⟩ = some vb) := hd2
      have HD3 : Hid (w.cell? ⟨b, o + k * 3 + 2, none⟩ = some va) := hd3
      have HBB := Lib.hid hbb
      have HAT := Lib.hid hat
      obtain ⟨e1, f1, rfl, -⟩ := hat.1
      obtain ⟨e2, f2, rfl, -⟩ := hat.2.1
      obtain ⟨e3, f3, rfl, -⟩ := sl_shape hat.2.2
      clear hat hbb hd1 hd2 hd3
      have HWT := fun w h => Lib.hid (weight_ref (l.getD k default) (.slice e1 (l.getD k default).grams.length f1) (.slice e2 (l.getD k default).back.length f2) (.slice e3 (l.getD k default).added.length f3) w h HGO.out.1 HGO.out.2)
      have HEN := Lib.hid (ends_ref ((rangesV s l).getD k []) _ wr HSP.out (by rw [HRL.out]; have := HGD.out.sh.nt5; omega))
      unfold RetTwo at HEN
      have HPO : Hid (pullOf s (l.getD k default) ((rangesV s l).getD k []) = ((max 0 (1000 * (1000 * weightV (l.getD k default)) - weakS s (fun t => (((rangesV s l).getD k []).map Prod.snd).getD t 0) (((rangesV s l).getD k []).map Prod.snd).length)) / (1000 * weightV (l.getD k default)),
        (max 0 (1000 * (1000 * weightV (l.getD k default)) - weakS s (fun t => (((rangesV s l).getD k []).map Prod.fst).getD t 0) (((rangesV s l).getD k []).map Prod.fst).length) + 1000 * weightV (l.getD k default) - 1) / (1000 * weightV (l.getD k default)))) := by
        unfold Hid
        rw [weak_snd, weak_fst, List.length_map, List.length_map, HRL.out]
        rfl
      have HSN : Hid ((spCells ((List.range k).map (fun k => pullOf s (l.getD k default) ((rangesV s l).getD k [])))) ++ [.int .i64 (pullOf s (l.getD k default) ((rangesV s l).getD k [])).1, .int .i64 (pullOf s (l.getD k default) ((rangesV s l).getD k [])).2] = spCells ((List.range (k + 1)).map (fun k => pullOf s (l.getD k default) ((rangesV s l).getD k [])))) := by
        unfold Hid
        rw [List.range_succ, List.map_append]
        exact (spCells_snoc _ _).symm
      rw [HPO.out] at HSN
      have HE2 : Hid (∀ i, i < (((rangesV s l).getD k []).map Prod.snd).length → 0 ≤ (((rangesV s l).getD k []).map Prod.snd).getD i 0 ∧ (((rangesV s l).getD k []).map Prod.snd).getD i 0 ≤ 2000000000000) := fun i _ => by
        have h := (HMB i).out
        have e : (((rangesV s l).getD k []).map Prod.snd).getD i 0 = (micV s l k i).2 := by rw [← HMI.out i]; simp only [List.getD_eq_getElem?_getD, List.getElem?_map]; cases ((rangesV s l)[k]?.getD [])[i]? <;> rfl
        rw [e]; omega
      have HE1 : Hid (∀ i, i < (((rangesV s l).getD k []).map Prod.fst).length → 0 ≤ (((rangesV s l).getD k []).map Prod.fst).getD i 0 ∧ (((rangesV s l).getD k []).map Prod.fst).getD i 0 ≤ 2000000000000) := fun i _ => by
        have h := (HMB i).out
        have e : (((rangesV s l).getD k []).map Prod.fst).getD i 0 = (micV s l k i).1 := by rw [← HMI.out i]; simp only [List.getD_eq_getElem?_getD, List.getElem?_map]; cases ((rangesV s l)[k]?.getD [])[i]? <;> rfl
        rw [e]; omega
      have HSB2 := Lib.hid (weakS_bound HGD.out.sh (fun t => (((rangesV s l).getD k []).map Prod.snd).getD t 0) (n := (((rangesV s l).getD k []).map Prod.snd).length) (by rw [List.length_map, HRL.out]; exact Nat.le_refl _) HE2.out)
      have HSB1 := Lib.hid (weakS_bound HGD.out.sh (fun t => (((rangesV s l).getD k []).map Prod.fst).getD t 0) (n := (((rangesV s l).getD k []).map Prod.fst).length) (by rw [List.length_map, HRL.out]; exact Nat.le_refl _) HE1.out)
      have HWK2 := fun v w h1 h2 => Lib.hid (weakness_ref s (((rangesV s l).getD k []).map Prod.snd) (.slice ta s.things.length tc) (.slice la s.lots.length lc) v w h1 h2 HGD.out.sh (by rw [List.length_map, HRL.out]; exact Nat.le_refl _) HE2.out)
      have HWK1 := fun v w h1 h2 => Lib.hid (weakness_ref s (((rangesV s l).getD k []).map Prod.fst) (.slice ta s.things.length tc) (.slice la s.lots.length lc) v w h1 h2 HGD.out.sh (by rw [List.length_map, HRL.out]; exact Nat.le_refl _) HE1.out)
      clear HMB HMI HE1 HE2 HPO HSP
      generalize weakS s (fun t => (((rangesV s l).getD k []).map Prod.snd).getD t 0) (((rangesV s l).getD k []).map Prod.snd).length = S2 at *
      generalize weakS s (fun t => (((rangesV s l).getD k []).map Prod.fst).getD t 0) (((rangesV s l).getD k []).map Prod.fst).length = S1 at *
      generalize ((rangesV s l).getD k []).map Prod.snd = R2 at *
      generalize ((rangesV s l).getD k []).map Prod.fst = R1 at *
      generalize ((rangesV s l).getD k []).length = rl at *
      have HRL2 := HRL.out
      try subst HRL2
      generalize weightV (l.getD k default) = WT at *
      generalize (l.getD k default).grams.length = m1 at *
      generalize (l.getD k default).back.length = m2 at *
      generalize (l.getD k default).added.length = m3 at *
      have hki : (k : Int) < (l.length : Int) := by omega
      have HLT : Hid (w.heap.size < B) := by rw [← HBW.out]; exact C1.out.lt 0 rfl
      go_wp2_with fail
      refine HEN.out.mono ?_
      rintro e w2 ⟨u, v, rfl, hu, hv2, hb⟩
      have HU := Lib.hid hu
      have HV2 := Lib.hid hv2
      have HB2 := Lib.hid (HB.out.trans (hb.mono HLE.out))
      have HBA2 := Lib.hid (HBA.out.trans (hb.mono HBA.out.size))
      have HR2 := Lib.hid (ownsRow.below HR.out hb)
      have HLE2 : Hid (B ≤ w2.heap.size) := Nat.le_trans HLE.out hb.size
      clear hb hu hv2 h1 HEN HR HB HB1 HLE HBA
      have h1 := (HBA2.out.cell (p := ⟨b, o + k * 3, none⟩) HBB.out).trans HD1.out
      have h2 := (HBA2.out.cell (p := ⟨b, o + k * 3 + 1, none⟩) HBB.out).trans HD2.out
      have h3 := (HBA2.out.cell (p := ⟨b, o + k * 3 + 2, none⟩) HBB.out).trans HD3.out
      go_wp2_with fail
      refine (HWT _ ((HAT.out.below HBA2.out).mono HBA2.out.size)).out.mono ?_
      rintro e w3 ⟨rfl, hb⟩
      have HU := Lib.hid (IntsIn.next HU.out hb)
      have HV2 := Lib.hid (IntsIn.next HV2.out hb)
      have HB3 := Lib.hid (HB2.out.trans (hb.mono HLE2.out))
      have HBA3 := Lib.hid (HBA2.out.trans (hb.mono HBA2.out.size))
      have HR3 := Lib.hid (ownsRow.below HR2.out hb)
      have HLE3 : Hid (B ≤ w3.heap.size) := Nat.le_trans HLE2.out hb.size
      clear hb h1 h2 h3 HB2 HBA2 HR2 HLE2 HWT
      have hs2 := HSB2.out
      have hs1 := HSB1.out
      have HSH0 : Hid (w3.cell? ⟨w.heap.size, 0, none⟩ = some (.slice ta s.things.length tc)) := (HB3.out.cell (p := ⟨w.heap.size, 0, none⟩) HLT.out).trans (C1.out.cell 0 rfl 0)
      have HSH1 : Hid (w3.cell? ⟨w.heap.size, 1, none⟩ = some (.slice la s.lots.length lc)) := (HB3.out.cell (p := ⟨w.heap.size, 1, none⟩) HLT.out).trans (C1.out.cell 0 rfl 1)
      obtain ⟨ua, uc, rfl⟩ : ∃ a c, u = .slice a R1.length c := by obtain ⟨a, c, e, -⟩ := HU.out; exact ⟨a, c, e⟩
      obtain ⟨va, vc, rfl⟩ : ∃ a c, v = .slice a R2.length c := by obtain ⟨a, c, e, -⟩ := HV2.out; exact ⟨a, c, e⟩
      obtain ⟨ta1, tc1, htv⟩ := ownsRow_slice HR3.out
      have HTV := Lib.hid htv
      clear htv
      go_wp2_with fail
      refine wp_region_inv1 (by kernel_rfl) (by kernel_rfl) [65, 66, 8] (fun D y w' => AppX w3 (B) 51 2 (tv) (k) ((spCells ((List.range k).map (fun k => pullOf s (l.getD k default) ((rangesV s l).getD k []))))) [.int .i64 (max 0 (1000 * (1000 * WT) - S2) / (1000 * WT)), .int .i64 ((max 0 (1000 * (1000 * WT) - S1) + 1000 * WT - 1) / (1000 * WT))] (D 23) (D 24) (y 65) (y 66) w' ∧ (D 25 = false → y 8 = tv) ∧ (D 25 = true → y 8 = y 66) ∧ (D 14 = false → Below w3.heap.size w3 w')) ?_ ?F1 ?hF1 ?_
      · exact ⟨AppX.start HR3.out HLE3.out, fun _ => rfl, fun h => (by cases h), fun _ => (Below.refl _ _).drew⟩
      case hF1 =>
        intro y
        simp only [fill, List.foldl, Act.put, List.setIfInBounds_toArray, List.set]
        exact rfl
      apply obl_det
      case hrun =>
        intro D y wz hW hD R hR
        have HRR := Lib.hid hR
        clear hR
        have h15 : D 25 = false := hD.post _ 25 rfl (by kernel_rfl)
        refine wpList_mv rfl _ rfl (tv) (hW.2.1 h15) ?_
        have HW := Lib.hid hW
        clear hW hD
        go_wp2_with fail
        exact HRR.out _ HW.out
      case hnp => rfl
      case hv => first | exact ⟨_, fun _ => rfl⟩ | exact ⟨undef, fun _ => rfl⟩
      iterate 2
        (apply obl_det
         case hrun =>
           intro D y wz hW hD R hR
           have HRR := Lib.hid hR
           clear hR
           have HW := Lib.hid hW
           have hc2 := (cellB hW.1.bel).1
           clear hW hD
           go_wp2_with fail
           exact HRR.out _ HW.out
         case hnp => rfl
         case hv => first | exact ⟨_, fun _ => rfl⟩ | exact ⟨undef, fun _ => rfl⟩)
      apply obl_det
      case hrun =>
        intro D y wz hW hD R hR
        have HRR := Lib.hid hR
        clear hR
        have HW := Lib.hid hW
        have hd0 := (HW.out.1.bel.cell (p := ⟨w.heap.size, 0, none⟩) HLT.out).trans HSH0.out
        have hd1 := (HW.out.1.bel.cell (p := ⟨w.heap.size, 1, none⟩) HLT.out).trans HSH1.out
        clear hW hD
        go_wp2_with fail
        exact HRR.out _ HW.out
      case hnp => rfl
      case hv => first | exact ⟨_, fun _ => rfl⟩ | exact ⟨undef, fun _ => rfl⟩
      apply obl_det
      case hrun =>
        intro D y wz hW hD R hR
        have HRR := Lib.hid hR
        clear hR
        have HW := Lib.hid hW
        have hc2 := (cellB hW.1.bel).1
        clear hW hD
        go_wp2_with fail
        exact HRR.out _ HW.out
      case hnp => rfl
      case hv => first | exact ⟨_, fun _ => rfl⟩ | exact ⟨undef, fun _ => rfl⟩
      apply obl_det
      case hrun =>
        intro D y wz hW hD R hR
        have HRR := Lib.hid hR
        clear hR
        have HW := Lib.hid hW
        have hc2 := (cellB hW.1.bel).1
        have HKL : Hid (D 14 = false) := hD.post _ 14 rfl (by kernel_rfl)
        clear hW hD
        have HKE := Lib.hid (HW.out.2.2.2 HKL.out)
        have HZZ := Lib.hid (HBA3.out.trans (HW.out.1.bel.mono (Nat.le_trans (Nat.le_of_lt HLT.out) (Nat.le_refl _))))
        go_wp2_with fail
        refine (HWK2 _ _ ((HS.out.below HZZ.out).mono HZZ.out.size) ((IntsIn.next HV2.out HKE.out))).out.mono ?_
        rintro e w' ⟨rfl, hbw⟩
        have HKEEP : D 14 = false → Below w3.heap.size w3 w' := fun h => HKE.out.trans (hbw.mono HKE.out.size)
        go_wp2_with fail
        exact HRR.out _ ⟨HW.out.1.call hbw, HW.out.2.1, HW.out.2.2.1, HKEEP⟩
      case hnp => rfl
      case hv => first | exact ⟨_, fun _ => rfl⟩ | exact ⟨undef, fun _ => rfl⟩
      iterate 6
        (apply obl_det
         case hrun =>
           intro D y wz hW hD R hR
           have HRR := Lib.hid hR
           clear hR
           have HW := Lib.hid hW
           have hc2 := (cellB hW.1.bel).1
           clear hW hD
           go_wp2_with fail
           exact HRR.out _ HW.out
         case hnp => rfl
         case hv => first | exact ⟨_, fun _ => rfl⟩ | exact ⟨undef, fun _ => rfl⟩)
      apply obl_det
      case hrun =>
        intro D y wz hW hD R hR
        have HRR := Lib.hid hR
        clear hR
        have HW := Lib.hid hW
        have hd0 := (HW.out.1.bel.cell (p := ⟨w.heap.size, 0, none⟩) HLT.out).trans HSH0.out
        have hd1 := (HW.out.1.bel.cell (p := ⟨w.heap.size, 1, none⟩) HLT.out).trans HSH1.out
        clear hW hD
        go_wp2_with fail
        exact HRR.out _ HW.out
      case hnp => rfl
      case hv => first | exact ⟨_, fun _ => rfl⟩ | exact ⟨undef, fun _ => rfl⟩
      apply obl_det
      case hrun =>
        intro D y wz hW hD R hR
        have HRR := Lib.hid hR
        clear hR
        have HW := Lib.hid hW
        have hc2 := (cellB hW.1.bel).1
        clear hW hD
        go_wp2_with fail
        exact HRR.out _ HW.out
      case hnp => rfl
      case hv => first | exact ⟨_, fun _ => rfl⟩ | exact ⟨undef, fun _ => rfl⟩
      apply obl_det
      case hrun =>
        intro D y wz hW hD R hR
        have HRR := Lib.hid hR
        clear hR
        have HW := Lib.hid hW
        have hc2 := (cellB hW.1.bel).1
        have HKL : Hid (D 14 = false) := hD.not
        clear hW hD
        have HKE := Lib.hid (HW.out.2.2.2 HKL.out)
        have HZZ := Lib.hid (HBA3.out.trans (HW.out.1.bel.mono (Nat.le_trans (Nat.le_of_lt HLT.out) (Nat.le_refl _))))
        go_wp2_with fail
        refine (HWK1 _ _ ((HS.out.below HZZ.out).mono HZZ.out.size) ((IntsIn.next HU.out HKE.out))).out.mono ?_
        rintro e w' ⟨rfl, hbw⟩
        have HKEEP : true = false → Below w3.heap.size w3 w' := fun h => (by cases h)
        go_wp2_with fail
        exact HRR.out _ ⟨HW.out.1.call hbw, HW.out.2.1, HW.out.2.2.1, HKEEP⟩
      case hnp => rfl
      case hv => first | exact ⟨_, fun _ => rfl⟩ | exact ⟨undef, fun _ => rfl⟩
      iterate 8
        (apply obl_det
         case hrun =>
           intro D y wz hW hD R hR
           have HRR := Lib.hid hR
           clear hR
           have HW := Lib.hid hW
           have hc2 := (cellB hW.1.bel).1
           clear hW hD
           go_wp2_with fail
           exact HRR.out _ HW.out
         case hnp => rfl
         case hv => first | exact ⟨_, fun _ => rfl⟩ | exact ⟨undef, fun _ => rfl⟩)
      apply obl_priv 65
      case hd => rfl
      case hp => rfl
      case hrun =>
        intro D y wz hW hD R hR
        have HRR := Lib.hid hR
        clear hR
        have h13 : D 23 = false := hD.not
        have h14 : D 24 = false := hD.post _ 24 rfl (by kernel_rfl)
        have hA := hW.1
        rw [h13, h14] at hA
        have HA := Lib.hid hA.laid
        have HV := Lib.hid hW.2
        have H14 := Lib.hid h14
        clear hA hW hD h13 h14
        go_wp2_with fail
        refine HRR.out (.slice (some ⟨wz.heap.size, 0, none⟩) 1 1) _ ?_
        show AppX w3 (B) 51 2 (tv) (k) ((spCells ((List.range k).map (fun k => pullOf s (l.getD k default) ((rangesV s l).getD k []))))) [.int .i64 (max 0 (1000 * (1000 * WT) - S2) / (1000 * WT)), .int .i64 ((max 0 (1000 * (1000 * WT) - S1) + 1000 * WT - 1) / (1000 * WT))] true (D 24) (.slice (some ⟨wz.heap.size, 0, none⟩) 1 1) (y 66) _ ∧ (D 25 = false → y 8 = tv) ∧ (D 25 = true → y 8 = y 66) ∧ (D 14 = false → Below w3.heap.size w3 _)
        rw [H14.out]
        exact ⟨HA.out, HV.out.1, HV.out.2.1, fun h => (HV.out.2.2 h).alloc (HV.out.2.2 h).size _⟩
      apply obl_priv 66
      case hd => rfl
      case hp => rfl
      case hrun =>
        intro D y wz hW hD R hR
        have HRR := Lib.hid hR
        clear hR
        have h14 : D 24 = false := hD.not
        have h13 : D 23 = true := hD.pre _ 23 rfl (by kernel_rfl)
        have HK14 : Hid (D 14 = true) := hD.pre _ 14 rfl (by kernel_rfl)
        have h15 : D 25 = false := hD.post _ 25 rfl (by kernel_rfl)
        have hA := hW.1
        rw [h13, h14] at hA
        have HA := Lib.hid hA
        have HV := Lib.hid (hW.2.1 h15)
        have H13 := Lib.hid h13
        have H15 := Lib.hid h15
        have hbase := hA.le
        have ho := hA.row rfl
        obtain ⟨g, hyb, hgc⟩ := hA.lay rfl rfl
        clear hA hW hD h13 h14 h15
        obtain ⟨i0, hi0, hz0, hz1, hz2⟩ := info51'
        refine wpList_append_own _ rfl _ _ 54 rfl (B) 51 i0 (.agg #[.int .i64 0, .int .i64 0]) 2 16 Try.underlying54 hi0 hz0 hz1 hz2 rfl (by decide) _ _ _ rfl ho ⟨g, 0, none⟩ 1 1 [.int .i64 (max 0 (1000 * (1000 * WT) - S2) / (1000 * WT)), .int .i64 ((max 0 (1000 * (1000 * WT) - S1) + 1000 * WT - 1) / (1000 * WT))] hyb rfl (cell_news _ _ _ _ hgc) (two_ints _ _) (by unfold maxLen; omega) (by omega) (by omega) ?_
        intro v' w12 hown12 hgrow12 _
        have HA2 := Lib.hid (HA.out.got hown12 hgrow12)
        clear ho hgc hown12 hgrow12 hi0 hz0 hz1 hz2 hyb
        go_wp2_with fail
        refine HRR.out v' _ ?_
        show AppX w3 (B) 51 2 (tv) (k) ((spCells ((List.range k).map (fun k => pullOf s (l.getD k default) ((rangesV s l).getD k []))))) [.int .i64 (max 0 (1000 * (1000 * WT) - S2) / (1000 * WT)), .int .i64 ((max 0 (1000 * (1000 * WT) - S1) + 1000 * WT - 1) / (1000 * WT))] (D 23) true (y 65) v' _ ∧ (D 25 = false → y 8 = tv) ∧ (D 25 = true → y 8 = v') ∧ (D 14 = false → Below w3.heap.size w3 _)
        rw [H13.out]
        exact ⟨HA2.out, fun _ => HV.out, fun h => (by rw [H15.out] at h; cases h), fun h => (by rw [HK14.out] at h; cases h)⟩
      apply obl_priv 8
      case hd => rfl
      case hp => rfl
      case hrun =>
        intro D y wz hW hD R hR
        have HRR := Lib.hid hR
        clear hR
        have HA := Lib.hid hW.1
        have HKK := Lib.hid hW.2.2.2
        clear hW hD
        go_wp2_with fail
        refine HRR.out (y 66) _ ?_
        show AppX w3 (B) 51 2 (tv) (k) ((spCells ((List.range k).map (fun k => pullOf s (l.getD k default) ((rangesV s l).getD k []))))) [.int .i64 (max 0 (1000 * (1000 * WT) - S2) / (1000 * WT)), .int .i64 ((max 0 (1000 * (1000 * WT) - S1) + 1000 * WT - 1) / (1000 * WT))] (D 23) (D 24) (y 65) (y 66) _ ∧ (true = false → y 66 = tv) ∧ (true = true → y 66 = y 66) ∧ (D 14 = false → Below w3.heap.size w3 _)
        exact ⟨HA.out, fun h => (by cases h), fun _ => rfl, HKK.out⟩
      apply obl_nil
      intro D y w8 hall hW
      have h14 := hall 24 (by decide)
      have hy := hW.2.2.1 (hall 25 (by decide))
      have hA := hW.1
      rw [h14] at hA
      have HO8 := Lib.hid (hA.new rfl)
      have C8 := Lib.hid hA.bel
      clear hA hW hall h14
      rw [hy]
      clear hy
      generalize y 66 = yv at HO8 ⊢
      generalize y 65 = yb at ⊢
      rw [HSN.out] at HO8
      go_wp2_with fail
      refine ⟨⟨k + 1, _, rfl, by push_cast; rfl, by omega, HB3.out.trans C8.out, Nat.le_trans HLE3.out C8.out.size, HO8.out⟩, ?_⟩
      simp [intOf]; omega
    · obtain rfl : k = l.length := by omega
      have HTF : Hid (SpansIn wr.heap.size wr tv ((List.range l.length).map (fun k => pullOf s (l.getD k default) ((rangesV s l).getD k [])))) := OwnSpans.spans (base := B) (by unfold OwnSpans; simpa using HR.out) (by simp; omega)
      go_wp2_with fail
      go_ret2
      exact ⟨_, rfl, by rw [HZ.out]; exact HTF.out, HBA.out⟩
end Go.Proofs.Ytaigbhhmmdfdcaa
