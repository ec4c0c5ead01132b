/- stearinref07.Pale. -/
import Derived.Test.YtaigbhhmmdfdcaaY9
import Derived.Test.YtaigbhhmmdfdcaaY11
namespace Go.Proofs.Ytaigbhhmmdfdcaa
open Go.RowKit
/-- A cell of two is laid among calls, and stored. -/
structure PlW (W1 : World) (new : Array Value) (d1 d2 : Bool) (y : Value) (w : World) : Prop where
  bel : Below W1.heap.size W1 w
  al : d1 = true → ∃ g, y = .pointer (some ⟨g, 0, none⟩) ∧ W1.heap.size ≤ g ∧ w.heap[g]? = some (.cells (if d2 then new else #[.int .i64 0, .int .i64 0]) 51)
theorem PlW.next {W1 w w' : World} {new : Array Value} {d1 d2 : Bool} {y : Value} (h : PlW W1 new d1 d2 y w) (hb : Below w.heap.size w w') : PlW W1 new d1 d2 y w' :=
  ⟨h.bel.trans (hb.mono h.bel.size), fun e => by
    obtain ⟨g, e1, e2, e3⟩ := h.al e
    exact ⟨g, e1, e2, block_keep e3 hb⟩⟩
theorem paleVV_bad {s : Shop} {l : List Bat} {dye shows : Int} (h : paleE s l dye shows ≠ 0) : paleVV s l dye shows = (0, 0, paleE s l dye shows) := by unfold paleVV; rw [if_pos h]
theorem paleVV_good {s : Shop} {l : List Bat} {dye shows : Int} (h : paleE s l dye shows = 0) : paleVV s l dye shows = (paleV (s.things.getD dye.toNat default).fade (micV s l (l.length - 1) dye.toNat).1 (weightV (l.getD (l.length - 1) default)) shows,
    paleV (s.things.getD dye.toNat default).fade (micV s l (l.length - 1) dye.toNat).2 (weightV (l.getD (l.length - 1) default)) shows, 0) := by
  unfold paleVV; rw [if_neg (by simp [h])]; rfl
set_option maxRecDepth 100000 in
set_option maxHeartbeats 8000000 in
/-- Pale -/
theorem pale_ref (s : Shop) (l : List Bat) (dye shows : Int) (vt vl v : Value) (w : World) (hv : ShopAt w.heap.size w vt vl s) (hl' : BatsIn w.heap.size w v l) :
    Calls Try.prog 35 #[.agg #[vt, vl], v, .int .i64 dye, .int .i64 shows] w (Ret3 (paleVV s l dye shows) w) := by
  unfold Ret3
  have HS := Lib.hid hv
  have HL := Lib.hid hl'
  obtain ⟨ta, tc, rfl, -, -⟩ := sl_shape hv.1
  obtain ⟨la, lc, rfl, -, -⟩ := sl_shape hv.2
  obtain ⟨a, c, rfl, -, -⟩ := sl_shape hl'
  clear hv hl'
  have C0 : Hid (Bs w [(w.heap.size, .cells #[.slice ta s.things.length tc, .slice la s.lots.length lc] 25)] _) := (Bs.nil w).push _ rfl (.cells #[.slice ta s.things.length tc, .slice la s.lots.length lc] 25)
  have hc0 := C0.out.cell 0 rfl 0
  have hc1 := C0.out.cell 0 rfl 1
  have HG : Hid (batchesE s l = 0 → AllGood s l) := all_good
  have HC : Hid (contentV s l = if batchesE s l ≠ 0 then [] else rangesV s l) := rfl
  have HPE : Hid (paleE s l dye shows = if batchesE s l ≠ 0 then batchesE s l else if inB dye 0 (s.things.length - 1) = false then 4 else if (s.things.getD dye.toNat default).kind ≠ 1 then 2 else if inB shows 0 1000000 = false then 7 else 0) := by
    unfold Hid paleE
    rw [inB_out, inB_out]
    cases outOne 0 ((s.things.length : Int) - 1) dye <;> cases outOne 0 1000000 shows <;> simp
  have HBAD := Lib.hid (@paleVV_bad s l dye shows)
  have HGOOD := Lib.hid (@paleVV_good s l dye shows)
  have H2 := fun w h1 h2 => Lib.hid (content_ref s l (.slice ta s.things.length tc) (.slice la s.lots.length lc) (.slice a l.length c) w h1 h2)
  unfold RetTable at H2
  generalize contentV s l = CV at *
  generalize paleVV s l dye shows = KV at *
  generalize paleE s l dye shows = PE at *
  generalize batchesE s l = E at *
  go_enter Try.func35, Try.ntmps35
  go_wp2_with fail
  refine (H2 _ ((HS.out.below C0.out.bel).mono C0.out.bel.size) ((HL.out.below C0.out.bel).mono C0.out.bel.size)).out.mono ?_
  rintro e w1 ⟨tv, rfl, hi, hb⟩
  have C1 := Lib.hid (C0.out.call hb)
  have HT := Lib.hid hi
  clear hb hi C0 hc0 hc1 H2
  have hc0 := C1.out.cell 0 rfl 0
  have hc1 := C1.out.cell 0 rfl 1
  by_cases hE : E = 0
  case neg =>
    have hq : (E != 0) = true := by simpa using hE
    have hq2 : (E == 0) = false := by simpa using hE
    have HZ : Hid (KV = (0, 0, E)) := by
      have h : PE = E := by rw [HPE.out, if_pos hE]
      rw [h] at HBAD
      exact HBAD.out hE
    clear hE HG HC HPE HBAD HGOOD
    go_wp2_with fail
    go_ret3
    rw [HZ.out]
    exact ⟨rfl, C1.out.bel⟩
  subst hE
  have HGD := Lib.hid (HG.out rfl)
  have hcv : CV = rangesV s l := by rw [HC.out, if_neg (fun h => h rfl)]
  subst hcv
  rw [if_neg (by simp)] at HPE
  have hn6 := HGD.out.n6
  have hn1 := HGD.out.n1
  have hnt1 := HGD.out.sh.nt1
  have hnt5 := HGD.out.sh.nt5
  clear HG HC
  obtain ⟨xa, xc, rfl, -⟩ := sl_shape HT.out
  rw [rangesV_length] at HT ⊢
  obtain ⟨r1, hr1⟩ : ∃ r, inB dye 0 ((s.things.length : Int) - 1) = r := ⟨_, rfl⟩
  obtain ⟨r2, hr2⟩ : ∃ r, inB shows 0 1000000 = r := ⟨_, rfl⟩
  rw [hr1, hr2] at HPE
  have HR1 := Lib.hid hr1
  have HR2 := Lib.hid hr2
  clear hr1 hr2
  go_wp2_with fail
  refine (in_r r1 _ _ _ _ HR1.out).mono ?_
  rintro e w' ⟨rfl, rfl⟩
  cases r1
  · have HZ : Hid (KV = (0, 0, 4)) := by
      have h : PE = 4 := by rw [HPE.out, if_pos (by simp)]
      rw [h] at HBAD
      exact HBAD.out (by decide)
    clear HPE HBAD HGOOD
    go_wp2_with fail
    go_ret3
    rw [HZ.out]
    exact ⟨rfl, C1.out.bel⟩
  rw [if_neg (by simp)] at HPE
  obtain ⟨d, rfl⟩ : ∃ d : Nat, dye = d := ⟨dye.toNat, by have h := HR1.out; unfold inB at h; simp at h; omega⟩
  have hdl : d < s.things.length := by have h := HR1.out; unfold inB at h; simp at h; omega
  have hdi : (d : Int) < (s.things.length : Int) := by omega
  rw [Int.toNat_natCast] at HPE HGOOD
  clear HR1
  obtain ⟨b3, o3, he, hb3, hx0, hx1, hx2, hx3, hx4, -⟩ := HS.out.1.at' hdl
  cases he
  have HX0 : Hid (w.cell? ⟨b3, o3 + d * 5, none⟩ = some (.string (s.things.getD d default).name)) := hx0
  have HX1 : Hid (w.cell? ⟨b3, o3 + d * 5 + 1, none⟩ = some (.int .i64 (s.things.getD d default).kind)) := hx1
  have HX2 : Hid (w.cell? ⟨b3, o3 + d * 5 + 2, none⟩ = some (.int .i64 (s.things.getD d default).limit)) := hx2
  have HX3 : Hid (w.cell? ⟨b3, o3 + d * 5 + 3, none⟩ = some (.int .i64 (s.things.getD d default).weak)) := hx3
  have HX4 : Hid (w.cell? ⟨b3, o3 + d * 5 + 4, none⟩ = some (.int .i64 (s.things.getD d default).fade)) := hx4
  have HB3 := Lib.hid hb3
  clear hx0 hx1 hx2 hx3 hx4 hb3
  have hk := (C1.out.bel.cell (p := ⟨b3, o3 + d * 5 + 1, none⟩) HB3.out).trans HX1.out
  have HFB := Lib.hid (HGD.out.sh.fade d hdl)
  have HFI := fun mi wt ho w => Lib.hid (first_ref (s.things.getD d default) mi wt shows ho w)
  generalize (s.things.getD d default) = x at *
  obtain ⟨nm, kd, li, we, fa⟩ := x
  simp only at HX0 HX1 HX2 HX3 HX4 HFB HFI HPE hk HGOOD
  by_cases hkd : kd = 1
  case neg =>
    have hq : (kd != 1) = true := by simpa using hkd
    have HZ : Hid (KV = (0, 0, 2)) := by
      have h : PE = 2 := by rw [HPE.out, if_pos hkd]
      rw [h] at HBAD
      exact HBAD.out (by decide)
    clear HPE HBAD HGOOD hkd
    go_wp2_with fail
    go_ret3
    rw [HZ.out]
    exact ⟨rfl, C1.out.bel⟩
  subst hkd
  rw [if_neg (by simp)] at HPE
  go_wp2_with fail
  refine (in_r r2 _ _ _ _ HR2.out).mono ?_
  rintro e w' ⟨rfl, rfl⟩
  cases r2
  · have HZ : Hid (KV = (0, 0, 7)) := by
      have h : PE = 7 := by rw [HPE.out, if_pos (by simp)]
      rw [h] at HBAD
      exact HBAD.out (by decide)
    clear HPE HBAD HGOOD
    go_wp2_with fail
    go_ret3
    rw [HZ.out]
    exact ⟨rfl, C1.out.bel⟩
  rw [if_neg (by simp)] at HPE
  have HZ := Lib.hid (HGOOD.out HPE.out)
  have hsh : 0 ≤ shows ∧ shows ≤ 1000000 := by have h := HR2.out; unfold inB at h; simp at h; omega
  clear HPE HBAD HGOOD HR2
  obtain ⟨L, hL⟩ : ∃ L, l.length - 1 = L := ⟨_, rfl⟩
  rw [hL] at HZ
  have hLl : L < l.length := by omega
  have hLi : (L : Int) < (l.length : Int) := by omega
  have hLE : (l.length : Int) - 1 = (L : Int) := by omega
  clear hL
  have HGO := Lib.hid ((bat_ok0 (batchE_zero (HGD.out.pre L hLl)).1).gramsOk HGD.out.sh.nl6 (show L ≤ 6 by omega))
  have hpos := HGD.out.pre.pos HGD.out.sh hn6 (Nat.le_refl _) hLl
  have hmb := mic_ok HGD.out.sh hn6 (k := L) (fun j hj => HGD.out.pre j (by omega)) hLl d
  obtain ⟨tb, to, rfl, htb, rv, hrc, hsp⟩ := HT.out.at' (i := L) (by rw [rangesV_length]; exact hLl)
  have hrc : w1.cell? ⟨tb, to + L, none⟩ = some rv := by have h := hrc; simpa [rdSpans] using h
  have HRW : Hid ((rangesV s l).getD L default = (List.range s.things.length).map (micV s l L)) := row_eq s l hLl
  rw [HRW.out] at hsp
  obtain ⟨ra, rc, rfl, -⟩ := sl_shape hsp
  obtain ⟨br, or, rfl, hbr, hq1, hq2⟩ := hsp.at' (i := d) (by simpa using hdl)
  have hmr : ((List.range s.things.length).map (micV s l L)).getD d default = micV s l L d := mapr_get _ _ _ hdl _
  rw [hmr] at hq1 hq2
  have HQ1 : Hid (w1.cell? ⟨br, or + d * 2, none⟩ = some (.int .i64 (micV s l L d).1)) := hq1
  have HQ2 : Hid (w1.cell? ⟨br, or + d * 2 + 1, none⟩ = some (.int .i64 (micV s l L d).2)) := hq2
  have hln : ((List.range s.things.length).map (micV s l L)).length = s.things.length := by simp
  rw [hln] at hrc
  have HRC := Lib.hid hrc
  have HTB := Lib.hid htb
  have HBR := Lib.hid hbr
  clear hrc hsp htb hbr hq1 hq2 hmr hln HRW
  obtain ⟨b, o, he, hbb, vg, vb, va, hd1, hd2, hd3, hat⟩ := HL.out.at' hLl
  cases he
  have HD1 : Hid (w.cell? ⟨b, o + L * 3, none⟩ = some vg) := hd1
  have HD2 : Hid (w.cell? ⟨b, o + L * 3 + 1, none⟩ = some vb) := hd2
  have HD3 : Hid (w.cell? ⟨b, o + L * 3 + 2, none⟩ = some va) := hd3
  have HBB := Lib.hid hbb
  have HAT := Lib.hid hat
  obtain ⟨e1, f1, rfl, -⟩ := hat.1
  obtain ⟨e2, f2, rfl, -⟩ := hat.2.1
  obtain ⟨e3, f3, rfl, -⟩ := sl_shape hat.2.2
  clear hat hbb hd1 hd2 hd3
  have HWT := fun w h => Lib.hid (weight_ref (l.getD L default) (.slice e1 (l.getD L default).grams.length f1) (.slice e2 (l.getD L default).back.length f2) (.slice e3 (l.getD L default).added.length f3) w h HGO.out.1 HGO.out.2)
  generalize weightV (l.getD L default) = WT at *
  generalize micV s l L d = MC at *
  obtain ⟨mc1, mc2⟩ := MC
  simp only at HQ1 HQ2 hmb HZ
  generalize (l.getD L default).grams.length = m1 at *
  generalize (l.getD L default).back.length = m2 at *
  generalize (l.getD L default).added.length = m3 at *
  have HPO1 : Hid (PaleOk fa mc1 WT shows) := ⟨HFB.out.1, HFB.out.2, by omega, by omega, by omega, by omega, hsh.1, hsh.2⟩
  have HPO2 : Hid (PaleOk fa mc2 WT shows) := ⟨HFB.out.1, HFB.out.2, by omega, by omega, by omega, by omega, hsh.1, hsh.2⟩
  have HF1 := fun w => Lib.hid (HFI mc1 WT HPO1.out w).out
  have HF2 := fun w => Lib.hid (HFI mc2 WT HPO2.out w).out
  clear HFI HPO1 HPO2
  go_wp2_with fail
  clear hc0 hc1 hk
  refine wp_region_inv1 (by kernel_rfl) (by kernel_rfl) [14] (fun D y w' => PlW w1 #[.int .i64 mc1, .int .i64 mc2] (D 12) (D 13) (y 14) w') ⟨(Below.refl _ _).drew, fun h => (by cases h)⟩ ?FP ?hFP ?_
  case hFP =>
    intro y
    simp only [fill, List.foldl, Act.put, List.setIfInBounds_toArray, List.set]
    exact rfl
  apply obl_det
  case hrun =>
    intro D y wz hW hD R hR
    have HRR := Lib.hid hR
    clear hR
    have HW := Lib.hid hW
    clear hW hD
    go_wp2_with fail
    exact HRR.out _ ⟨HW.out.bel, HW.out.al⟩
  case hnp => rfl
  case hv => first | exact ⟨_, fun _ => rfl⟩ | exact ⟨undef, fun _ => rfl⟩
  apply obl_det
  case hrun =>
    intro D y wz hW hD R hR
    have HRR := Lib.hid hR
    clear hR
    have HW := Lib.hid hW
    clear hW hD
    go_wp2_with fail
    exact HRR.out _ ⟨HW.out.bel, HW.out.al⟩
  case hnp => rfl
  case hv => first | exact ⟨_, fun _ => rfl⟩ | exact ⟨undef, fun _ => rfl⟩
  apply obl_det
  case hrun =>
    intro D y wz hW hD R hR
    have HRR := Lib.hid hR
    clear hR
    have HW := Lib.hid hW
    clear hW hD
    go_wp2_with fail
    exact HRR.out _ ⟨HW.out.bel, HW.out.al⟩
  case hnp => rfl
  case hv => first | exact ⟨_, fun _ => rfl⟩ | exact ⟨undef, fun _ => rfl⟩
  apply obl_det
  case hrun =>
    intro D y wz hW hD R hR
    have HRR := Lib.hid hR
    clear hR
    have HW := Lib.hid hW
    have h1 := (HW.out.bel.cell (p := ⟨tb, to + L, none⟩) HTB.out).trans HRC.out
    clear hW hD
    go_wp2_with fail
    exact HRR.out _ ⟨HW.out.bel, HW.out.al⟩
  case hnp => rfl
  case hv => first | exact ⟨_, fun _ => rfl⟩ | exact ⟨undef, fun _ => rfl⟩
  apply obl_det
  case hrun =>
    intro D y wz hW hD R hR
    have HRR := Lib.hid hR
    clear hR
    have HW := Lib.hid hW
    clear hW hD
    go_wp2_with fail
    exact HRR.out _ ⟨HW.out.bel, HW.out.al⟩
  case hnp => rfl
  case hv => first | exact ⟨_, fun _ => rfl⟩ | exact ⟨undef, fun _ => rfl⟩
  apply obl_det
  case hrun =>
    intro D y wz hW hD R hR
    have HRR := Lib.hid hR
    clear hR
    have HW := Lib.hid hW
    clear hW hD
    go_wp2_with fail
    exact HRR.out _ ⟨HW.out.bel, HW.out.al⟩
  case hnp => rfl
  case hv => first | exact ⟨_, fun _ => rfl⟩ | exact ⟨undef, fun _ => rfl⟩
  apply obl_det
  case hrun =>
    intro D y wz hW hD R hR
    have HRR := Lib.hid hR
    clear hR
    have HW := Lib.hid hW
    have h1 := (HW.out.bel.cell (p := ⟨br, or + d * 2, none⟩) HBR.out).trans HQ1.out
    have h2 := (HW.out.bel.cell (p := ⟨br, or + d * 2 + 1, none⟩) HBR.out).trans HQ2.out
    clear hW hD
    go_wp2_with fail
    exact HRR.out _ ⟨HW.out.bel, HW.out.al⟩
  case hnp => rfl
  case hv => first | exact ⟨_, fun _ => rfl⟩ | exact ⟨undef, fun _ => rfl⟩
  apply obl_det
  case hrun =>
    intro D y wz hW hD R hR
    have HRR := Lib.hid hR
    clear hR
    have HW := Lib.hid hW
    clear hW hD
    go_wp2_with fail
    exact HRR.out _ ⟨HW.out.bel, HW.out.al⟩
  case hnp => rfl
  case hv => first | exact ⟨_, fun _ => rfl⟩ | exact ⟨undef, fun _ => rfl⟩
  apply obl_det
  case hrun =>
    intro D y wz hW hD R hR
    have HRR := Lib.hid hR
    clear hR
    have HW := Lib.hid hW
    clear hW hD
    go_wp2_with fail
    exact HRR.out _ ⟨HW.out.bel, HW.out.al⟩
  case hnp => rfl
  case hv => first | exact ⟨_, fun _ => rfl⟩ | exact ⟨undef, fun _ => rfl⟩
  apply obl_det
  case hrun =>
    intro D y wz hW hD R hR
    have HRR := Lib.hid hR
    clear hR
    have HW := Lib.hid hW
    clear hW hD
    go_wp2_with fail
    exact HRR.out _ ⟨HW.out.bel, HW.out.al⟩
  case hnp => rfl
  case hv => first | exact ⟨_, fun _ => rfl⟩ | exact ⟨undef, fun _ => rfl⟩
  apply obl_det
  case hrun =>
    intro D y wz hW hD R hR
    have HRR := Lib.hid hR
    clear hR
    have HW := Lib.hid hW
    have HZZ := Lib.hid (C1.out.bel.trans (HW.out.bel.mono C1.out.bel.size))
    have h1 := (HZZ.out.cell (p := ⟨b, o + L * 3, none⟩) HBB.out).trans HD1.out
    have h2 := (HZZ.out.cell (p := ⟨b, o + L * 3 + 1, none⟩) HBB.out).trans HD2.out
    have h3 := (HZZ.out.cell (p := ⟨b, o + L * 3 + 2, none⟩) HBB.out).trans HD3.out
    clear hW hD
    go_wp2_with fail
    exact HRR.out _ ⟨HW.out.bel, HW.out.al⟩
  case hnp => rfl
  case hv => first | exact ⟨_, fun _ => rfl⟩ | exact ⟨undef, fun _ => rfl⟩
  apply obl_det
  case hrun =>
    intro D y wz hW hD R hR
    have HRR := Lib.hid hR
    clear hR
    have HW := Lib.hid hW
    have HZZ := Lib.hid (C1.out.bel.trans (HW.out.bel.mono C1.out.bel.size))
    clear hW hD
    go_wp2_with fail
    refine (HWT _ ((HAT.out.below HZZ.out).mono HZZ.out.size)).out.mono ?_
    rintro e w' ⟨rfl, hb⟩
    have HW2 := Lib.hid (PlW.next HW.out hb)
    clear hb
    go_wp2_with fail
    exact HRR.out _ ⟨HW2.out.bel, HW2.out.al⟩
  case hnp => rfl
  case hv => first | exact ⟨_, fun _ => rfl⟩ | exact ⟨undef, fun _ => rfl⟩
  apply obl_priv 14
  case hd => rfl
  case hp => rfl
  case hrun =>
    intro D y wz hW hD R hR
    have HRR := Lib.hid hR
    clear hR
    have h14 : D 13 = false := hD.post _ 13 rfl (by kernel_rfl)
    have HBS := Lib.hid hW.bel
    have H14 := Lib.hid h14
    clear hW hD h14
    go_wp2_with fail
    refine HRR.out (.pointer (some ⟨wz.heap.size, 0, none⟩)) _ ⟨HBS.out.alloc HBS.out.size _, fun _ => ⟨_, rfl, HBS.out.size, ?_⟩⟩
    show _ = some (Obj.cells (if D 13 = true then _ else _) 51)
    rw [H14.out]
    exact heap_alloc_new _ _
  apply obl_det
  case hrun =>
    intro D y wz hW hD R hR
    have HRR := Lib.hid hR
    clear hR
    have h14 : D 13 = false := hD.not
    obtain ⟨gp, e, hgt, hcell⟩ := hW.al (hD.pre _ 12 rfl (by kernel_rfl))
    rw [h14] at hcell
    have CC := Lib.hid (Bs.snoc (l := []) (w := w1) ⟨by simp, by simp, by simp, hW.bel⟩ (by simp) hcell hgt)
    have E := Lib.hid e
    have HGT := Lib.hid hgt
    clear hW hD h14 hcell e hgt
    refine wpList_store_bs rfl 51 _ _ rfl CC.out 0 gp #[.int .i64 mc1, .int .i64 mc2] _ _ rfl E.out rfl info51 rfl (by simp [Value.oneCell']) ?_
    intro w4 hC4
    simp only [Act.put]
    go_simp
    exact HRR.out _ ⟨hC4.bel, fun _ => ⟨gp, E.out, HGT.out, hC4.get 0 rfl⟩⟩
  case hnp => rfl
  case hv => first | exact ⟨_, fun _ => rfl⟩ | exact ⟨undef, fun _ => rfl⟩
  apply obl_det
  case hrun =>
    intro D y wz hW hD R hR
    have HRR := Lib.hid hR
    clear hR
    have HW := Lib.hid hW
    clear hW hD
    go_wp2_with fail
    exact HRR.out _ ⟨HW.out.bel, HW.out.al⟩
  case hnp => rfl
  case hv => first | exact ⟨_, fun _ => rfl⟩ | exact ⟨undef, fun _ => rfl⟩
  apply obl_nil
  intro D y w8 hall hW
  obtain ⟨gp, e, hgt, hcell⟩ := hW.al (hall 12 (by decide))
  rw [hall 13 (by decide)] at hcell
  have HCE := Lib.hid hcell
  have HB8 := Lib.hid hW.bel
  have C2 := Lib.hid (C1.out.call hW.bel)
  clear hW hall hcell hgt
  rw [e]
  clear e
  simp only [if_true] at HCE
  go_wp2_with fail
  refine wp_region_inv0 (by kernel_rfl) (by kernel_rfl) (fun D w' => Below w8.heap.size w8 w') (Below.refl _ _).drew ?_
  apply obl_det
  case hrun =>
    intro D y wz hW hD R hR
    have HRR := Lib.hid hR
    clear hR
    have HW := Lib.hid hW
    clear hW hD
    go_wp2_with fail
    exact HRR.out _ HW.out
  case hnp => rfl
  case hv => first | exact ⟨_, fun _ => rfl⟩ | exact ⟨undef, fun _ => rfl⟩
  apply obl_det
  case hrun =>
    intro D y wz hW hD R hR
    have HRR := Lib.hid hR
    clear hR
    have HW := Lib.hid hW
    have h1 := (C2.out.call HW.out).cell 0 rfl 0
    clear hW hD
    go_wp2_with fail
    exact HRR.out _ HW.out
  case hnp => rfl
  case hv => first | exact ⟨_, fun _ => rfl⟩ | exact ⟨undef, fun _ => rfl⟩
  apply obl_det
  case hrun =>
    intro D y wz hW hD R hR
    have HRR := Lib.hid hR
    clear hR
    have HW := Lib.hid hW
    clear hW hD
    go_wp2_with fail
    exact HRR.out _ HW.out
  case hnp => rfl
  case hv => first | exact ⟨_, fun _ => rfl⟩ | exact ⟨undef, fun _ => rfl⟩
  apply obl_det
  case hrun =>
    intro D y wz hW hD R hR
    have HRR := Lib.hid hR
    clear hR
    have HW := Lib.hid hW
    clear hW hD
    go_wp2_with fail
    exact HRR.out _ HW.out
  case hnp => rfl
  case hv => first | exact ⟨_, fun _ => rfl⟩ | exact ⟨undef, fun _ => rfl⟩
  apply obl_det
  case hrun =>
    intro D y wz hW hD R hR
    have HRR := Lib.hid hR
    clear hR
    have HW := Lib.hid hW
    have HZZ := Lib.hid (C2.out.bel.trans (HW.out.mono C2.out.bel.size))
    have h0 := (HZZ.out.cell (p := ⟨b3, o3 + d * 5, none⟩) HB3.out).trans HX0.out
    have h1 := (HZZ.out.cell (p := ⟨b3, o3 + d * 5 + 1, none⟩) HB3.out).trans HX1.out
    have h2 := (HZZ.out.cell (p := ⟨b3, o3 + d * 5 + 2, none⟩) HB3.out).trans HX2.out
    have h3 := (HZZ.out.cell (p := ⟨b3, o3 + d * 5 + 3, none⟩) HB3.out).trans HX3.out
    have h4 := (HZZ.out.cell (p := ⟨b3, o3 + d * 5 + 4, none⟩) HB3.out).trans HX4.out
    clear hW hD
    go_wp2_with fail
    exact HRR.out _ HW.out
  case hnp => rfl
  case hv => first | exact ⟨_, fun _ => rfl⟩ | exact ⟨undef, fun _ => rfl⟩
  apply obl_det
  case hrun =>
    intro D y wz hW hD R hR
    have HRR := Lib.hid hR
    clear hR
    have HW := Lib.hid hW
    clear hW hD
    go_wp2_with fail
    exact HRR.out _ HW.out
  case hnp => rfl
  case hv => first | exact ⟨_, fun _ => rfl⟩ | exact ⟨undef, fun _ => rfl⟩
  apply obl_det
  case hrun =>
    intro D y wz hW hD R hR
    have HRR := Lib.hid hR
    clear hR
    have HW := Lib.hid hW
    have h1 := cell_of_row _ _ 0 _ _ _ (block_keep HCE.out HW.out)
    clear hW hD
    go_wp2_with fail
    exact HRR.out _ HW.out
  case hnp => rfl
  case hv => first | exact ⟨_, fun _ => rfl⟩ | exact ⟨undef, fun _ => rfl⟩
  apply obl_det
  case hrun =>
    intro D y wz hW hD R hR
    have HRR := Lib.hid hR
    clear hR
    have HW := Lib.hid hW
    clear hW hD
    go_wp2_with fail
    exact HRR.out _ HW.out
  case hnp => rfl
  case hv => first | exact ⟨_, fun _ => rfl⟩ | exact ⟨undef, fun _ => rfl⟩
  apply obl_det
  case hrun =>
    intro D y wz hW hD R hR
    have HRR := Lib.hid hR
    clear hR
    have HW := Lib.hid hW
    clear hW hD
    go_wp2_with fail
    exact HRR.out _ HW.out
  case hnp => rfl
  case hv => first | exact ⟨_, fun _ => rfl⟩ | exact ⟨undef, fun _ => rfl⟩
  apply obl_det
  case hrun =>
    intro D y wz hW hD R hR
    have HRR := Lib.hid hR
    clear hR
    have HW := Lib.hid hW
    clear hW hD
    go_wp2_with fail
    refine (HF1 _).out.mono ?_
    rintro e w' ⟨rfl, hb⟩
    have HW2 := Lib.hid (HW.out.trans (hb.mono HW.out.size))
    clear hb
    go_wp2_with fail
    exact HRR.out _ HW2.out
  case hnp => rfl
  case hv => first | exact ⟨_, fun _ => rfl⟩ | exact ⟨undef, fun _ => rfl⟩
  apply obl_det
  case hrun =>
    intro D y wz hW hD R hR
    have HRR := Lib.hid hR
    clear hR
    have HW := Lib.hid hW
    clear hW hD
    go_wp2_with fail
    exact HRR.out _ HW.out
  case hnp => rfl
  case hv => first | exact ⟨_, fun _ => rfl⟩ | exact ⟨undef, fun _ => rfl⟩
  apply obl_det
  case hrun =>
    intro D y wz hW hD R hR
    have HRR := Lib.hid hR
    clear hR
    have HW := Lib.hid hW
    have h1 := (C2.out.call HW.out).cell 0 rfl 0
    clear hW hD
    go_wp2_with fail
    exact HRR.out _ HW.out
  case hnp => rfl
  case hv => first | exact ⟨_, fun _ => rfl⟩ | exact ⟨undef, fun _ => rfl⟩
  apply obl_det
  case hrun =>
    intro D y wz hW hD R hR
    have HRR := Lib.hid hR
    clear hR
    have HW := Lib.hid hW
    clear hW hD
    go_wp2_with fail
    exact HRR.out _ HW.out
  case hnp => rfl
  case hv => first | exact ⟨_, fun _ => rfl⟩ | exact ⟨undef, fun _ => rfl⟩
  apply obl_det
  case hrun =>
    intro D y wz hW hD R hR
    have HRR := Lib.hid hR
    clear hR
    have HW := Lib.hid hW
    clear hW hD
    go_wp2_with fail
    exact HRR.out _ HW.out
  case hnp => rfl
  case hv => first | exact ⟨_, fun _ => rfl⟩ | exact ⟨undef, fun _ => rfl⟩
  apply obl_det
  case hrun =>
    intro D y wz hW hD R hR
    have HRR := Lib.hid hR
    clear hR
    have HW := Lib.hid hW
    have HZZ := Lib.hid (C2.out.bel.trans (HW.out.mono C2.out.bel.size))
    have h0 := (HZZ.out.cell (p := ⟨b3, o3 + d * 5, none⟩) HB3.out).trans HX0.out
    have h1 := (HZZ.out.cell (p := ⟨b3, o3 + d * 5 + 1, none⟩) HB3.out).trans HX1.out
    have h2 := (HZZ.out.cell (p := ⟨b3, o3 + d * 5 + 2, none⟩) HB3.out).trans HX2.out
    have h3 := (HZZ.out.cell (p := ⟨b3, o3 + d * 5 + 3, none⟩) HB3.out).trans HX3.out
    have h4 := (HZZ.out.cell (p := ⟨b3, o3 + d * 5 + 4, none⟩) HB3.out).trans HX4.out
    clear hW hD
    go_wp2_with fail
    exact HRR.out _ HW.out
  case hnp => rfl
  case hv => first | exact ⟨_, fun _ => rfl⟩ | exact ⟨undef, fun _ => rfl⟩
  apply obl_det
  case hrun =>
    intro D y wz hW hD R hR
    have HRR := Lib.hid hR
    clear hR
    have HW := Lib.hid hW
    clear hW hD
    go_wp2_with fail
    exact HRR.out _ HW.out
  case hnp => rfl
  case hv => first | exact ⟨_, fun _ => rfl⟩ | exact ⟨undef, fun _ => rfl⟩
  apply obl_det
  case hrun =>
    intro D y wz hW hD R hR
    have HRR := Lib.hid hR
    clear hR
    have HW := Lib.hid hW
    have h1 := cell_of_row _ _ 1 _ _ _ (block_keep HCE.out HW.out)
    clear hW hD
    go_wp2_with fail
    exact HRR.out _ HW.out
  case hnp => rfl
  case hv => first | exact ⟨_, fun _ => rfl⟩ | exact ⟨undef, fun _ => rfl⟩
  apply obl_det
  case hrun =>
    intro D y wz hW hD R hR
    have HRR := Lib.hid hR
    clear hR
    have HW := Lib.hid hW
    clear hW hD
    go_wp2_with fail
    exact HRR.out _ HW.out
  case hnp => rfl
  case hv => first | exact ⟨_, fun _ => rfl⟩ | exact ⟨undef, fun _ => rfl⟩
  apply obl_det
  case hrun =>
    intro D y wz hW hD R hR
    have HRR := Lib.hid hR
    clear hR
    have HW := Lib.hid hW
    clear hW hD
    go_wp2_with fail
    exact HRR.out _ HW.out
  case hnp => rfl
  case hv => first | exact ⟨_, fun _ => rfl⟩ | exact ⟨undef, fun _ => rfl⟩
  apply obl_det
  case hrun =>
    intro D y wz hW hD R hR
    have HRR := Lib.hid hR
    clear hR
    have HW := Lib.hid hW
    clear hW hD
    go_wp2_with fail
    refine (HF2 _).out.mono ?_
    rintro e w' ⟨rfl, hb⟩
    have HW2 := Lib.hid (HW.out.trans (hb.mono HW.out.size))
    clear hb
    go_wp2_with fail
    exact HRR.out _ HW2.out
  case hnp => rfl
  case hv => first | exact ⟨_, fun _ => rfl⟩ | exact ⟨undef, fun _ => rfl⟩
  apply obl_det
  case hrun =>
    intro D y wz hW hD R hR
    have HRR := Lib.hid hR
    clear hR
    have HW := Lib.hid hW
    clear hW hD
    go_wp2_with fail
    exact HRR.out _ HW.out
  case hnp => rfl
  case hv => first | exact ⟨_, fun _ => rfl⟩ | exact ⟨undef, fun _ => rfl⟩
  apply obl_det
  case hrun =>
    intro D y wz hW hD R hR
    have HRR := Lib.hid hR
    clear hR
    have HW := Lib.hid hW
    clear hW hD
    go_wp2_with fail
    exact HRR.out _ HW.out
  case hnp => rfl
  case hv => first | exact ⟨_, fun _ => rfl⟩ | exact ⟨undef, fun _ => rfl⟩
  apply obl_det
  case hrun =>
    intro D y wz hW hD R hR
    have HRR := Lib.hid hR
    clear hR
    have HW := Lib.hid hW
    clear hW hD
    go_wp2_with fail
    exact HRR.out _ HW.out
  case hnp => rfl
  case hv => first | exact ⟨_, fun _ => rfl⟩ | exact ⟨undef, fun _ => rfl⟩
  apply obl_nil
  intro D y w9 hall hW
  have HB9 := Lib.hid (C2.out.bel.trans (hW.mono C2.out.bel.size))
  clear hall hW
  go_wp2_with fail
  go_ret3
  rw [HZ.out]
  exact ⟨rfl, HB9.out⟩
end Go.Proofs.Ytaigbhhmmdfdcaa
