/- stearinref07.Take. -/
import Derived.Test.YtaigbhhmmdfdcaaY12
namespace Go.Proofs.Ytaigbhhmmdfdcaa
open Go.RowKit
theorem takeStep_lo {lm wt : Int} {m p g : Int × Int} (h : 0 ≤ g.1) : 0 ≤ (takeStep lm wt m p g).1 := by
  unfold takeStep
  split
  · exact h
  · split
    · simp only; omega
    · split
      · exact h
      · exact h
theorem takeStep_bad {lm wt : Int} {m p g : Int × Int} (h : g.2 ≤ -1) : (takeStep lm wt m p g).2 ≤ -1 := by
  unfold takeStep
  split
  · simp only; omega
  · split
    · exact h
    · split
      · simp
      · exact h
theorem takeTo_lo (s : Shop) {b : Bat} (row : List (Int × Int)) (lot : Nat) : ∀ t, 0 ≤ (takeTo s b row lot t).1
  | 0 => by simp [takeTo]
  | t + 1 => takeStep_lo (takeTo_lo s row lot t)
theorem takeTo_bad (s : Shop) {b : Bat} (row : List (Int × Int)) (lot : Nat) {t : Nat} (h : (takeTo s b row lot t).2 ≤ -1) : ∀ n, (takeTo s b row lot (t + n)).2 ≤ -1
  | 0 => h
  | n + 1 => takeStep_bad (takeTo_bad s row lot h n)
set_option maxRecDepth 100000 in
set_option maxHeartbeats 16000000 in
/-- Take -/
theorem take_ref (s : Shop) (l : List Bat) (lot : Int) (vt vl v : Value) (w : World) (hv : ShopAt w.heap.size w vt vl s) (hl' : BatsIn w.heap.size w v l) :
    Calls Try.prog 30 #[.agg #[vt, vl], v, .int .i64 lot] w (RetSpan (takeV s l lot) w) := by
  unfold RetSpan
  have HS := Lib.hid hv
  have HL := Lib.hid hl'
  obtain ⟨ta, tc, rfl, -, -⟩ := sl_shape hv.1
  obtain ⟨la, lc, rfl, -, -⟩ := sl_shape hv.2
  obtain ⟨a, c, rfl, -, -⟩ := sl_shape hl'
  clear hv hl'
  have C0 : Hid (Bs w [(w.heap.size, .cells #[.slice ta s.things.length tc, .slice la s.lots.length lc] 25), (w.heap.size + 1, .cells #[.int .i64 0, .int .i64 0] 51)] _) := ((Bs.nil w).push _ rfl (.cells #[.slice ta s.things.length tc, .slice la s.lots.length lc] 25)).push (w.heap.size + 1) (by simp) (.cells #[.int .i64 0, .int .i64 0] 51)
  have hc0 := C0.out.cell 0 rfl 0
  have hc1 := C0.out.cell 0 rfl 1
  have HG : Hid (batchesE s l = 0 → AllGood s l) := all_good
  have HC : Hid (contentV s l = if batchesE s l ≠ 0 then [] else rangesV s l) := rfl
  have HTV : Hid (takeV s l lot = if batchesE s l ≠ 0 then ((0, 0), batchesE s l) else if inB lot 0 (s.lots.length - 1) = false then ((0, 0), 4)
    else if (takeTo s (l.getD (l.length - 1) default) ((rangesV s l).getD (l.length - 1) []) lot.toNat s.things.length).2 < (takeTo s (l.getD (l.length - 1) default) ((rangesV s l).getD (l.length - 1) []) lot.toNat s.things.length).1 then ((0, 0), 9)
    else (takeTo s (l.getD (l.length - 1) default) ((rangesV s l).getD (l.length - 1) []) lot.toNat s.things.length, 0)) := by
    unfold Hid takeV
    rw [inB_out]
    cases outOne 0 ((s.lots.length : Int) - 1) lot <;> simp
  have H2 := fun w h1 h2 => Lib.hid (content_ref s l (.slice ta s.things.length tc) (.slice la s.lots.length lc) (.slice a l.length c) w h1 h2)
  unfold RetTable at H2
  generalize contentV s l = CV at *
  generalize takeV s l lot = KV at *
  generalize batchesE s l = E at *
  go_enter Try.func30, Try.ntmps30
  go_wp2_with fail
  refine (H2 _ ((HS.out.below C0.out.bel).mono C0.out.bel.size) ((HL.out.below C0.out.bel).mono C0.out.bel.size)).out.mono ?_
  rintro e w1 ⟨tv, rfl, hi, hb⟩
  have C1 := Lib.hid (C0.out.call hb)
  have HT := Lib.hid hi
  clear hb hi C0 hc0 hc1 H2
  have hc1 := C1.out.cell 0 rfl 1
  by_cases hE : E = 0
  case neg =>
    have hq : (E != 0) = true := by simpa using hE
    have hq2 : (E == 0) = false := by simpa using hE
    have HZ : Hid (KV = ((0, 0), E)) := by unfold Hid; rw [HTV.out, if_pos hE]
    clear hE HG HC HTV
    go_wp2_with (refine wpList_store_bs rfl 51 _ _ rfl C1.out 1 (w.heap.size + 1) #[.int .i64 0, .int .i64 0] #[.int .i64 0, .int .i64 0] 51 rfl rfl rfl info51 rfl (by simp [Value.oneCell']) ?_; intro w4 hC4)
    refine bodyPost_ret (v := .tuple #[.agg #[.int .i64 0, .int .i64 0], .int .i64 E]) ?_ rfl ?_
    · rw [results_span_tmp rfl _ _ (w.heap.size + 1) #[.int .i64 0, .int .i64 0] rfl (hC4.get 1 rfl) rfl]
      rfl
    · rw [HZ.out]
      exact ⟨rfl, hC4.bel⟩
  subst hE
  have HGD := Lib.hid (HG.out rfl)
  have hcv : CV = rangesV s l := by rw [HC.out, if_neg (fun h => h rfl)]
  subst hcv
  rw [if_neg (by simp)] at HTV
  have hn6 := HGD.out.n6
  have hn1 := HGD.out.n1
  have hnt5 := HGD.out.sh.nt5
  have hnl1 := HGD.out.sh.nl1
  have hnl6 := HGD.out.sh.nl6
  clear HG HC
  obtain ⟨xa, xc, rfl, -⟩ := sl_shape HT.out
  rw [rangesV_length] at HT ⊢
  obtain ⟨r1, hr1⟩ : ∃ r, inB lot 0 ((s.lots.length : Int) - 1) = r := ⟨_, rfl⟩
  rw [hr1] at HTV
  have HR1 := Lib.hid hr1
  clear hr1
  go_wp2_with fail
  refine (in_r r1 _ _ _ _ HR1.out).mono ?_
  rintro e w' ⟨rfl, rfl⟩
  cases r1
  case false =>
    have HZ : Hid (KV = ((0, 0), 4)) := by unfold Hid; rw [HTV.out, if_pos (by simp)]
    clear HTV
    go_wp2_with (refine wpList_store_bs rfl 51 _ _ rfl C1.out 1 (w.heap.size + 1) #[.int .i64 0, .int .i64 0] #[.int .i64 0, .int .i64 0] 51 rfl rfl rfl info51 rfl (by simp [Value.oneCell']) ?_; intro w4 hC4)
    refine bodyPost_ret (v := .tuple #[.agg #[.int .i64 0, .int .i64 0], .int .i64 4]) ?_ rfl ?_
    · rw [results_span_tmp rfl _ _ (w.heap.size + 1) #[.int .i64 0, .int .i64 0] rfl (hC4.get 1 rfl) rfl]
      rfl
    · rw [HZ.out]
      exact ⟨rfl, hC4.bel⟩
  rw [if_neg (by simp)] at HTV
  obtain ⟨lt, rfl⟩ : ∃ d : Nat, lot = d := ⟨lot.toNat, by have h := HR1.out; unfold inB at h; simp at h; omega⟩
  have hll : lt < s.lots.length := by have h := HR1.out; unfold inB at h; simp at h; omega
  have hlli : (lt : Int) < (s.lots.length : Int) := by omega
  rw [Int.toNat_natCast] at HTV
  clear HR1
  obtain ⟨L, hL⟩ : ∃ L, l.length - 1 = L := ⟨_, rfl⟩
  rw [hL] at HTV
  have hLl : L < l.length := by omega
  have hLi : (L : Int) < (l.length : Int) := by omega
  have hLE : (l.length : Int) - 1 = (L : Int) := by omega
  clear hL
  have HBO := Lib.hid (bat_ok0 (batchE_zero (HGD.out.pre L hLl)).1)
  have HGO := Lib.hid (HBO.out.gramsOk hnl6 (show L ≤ 6 by omega))
  have hpos := HGD.out.pre.pos HGD.out.sh hn6 (Nat.le_refl _) hLl
  have HMB := fun t => Lib.hid (mic_ok HGD.out.sh hn6 (k := L) (fun j hj => HGD.out.pre j (by omega)) hLl t)
  have HPB := fun t => Lib.hid (HGD.out.sh.part lt hll t)
  have HLB := fun t h => Lib.hid (HGD.out.sh.limit t h)
  have HPL := Lib.hid (HGD.out.sh.plen lt hll)
  obtain ⟨tb, to, rfl, htb, rv, hrc, hsp⟩ := HT.out.at' (i := L) (by rw [rangesV_length]; exact hLl)
  have hrc : w1.cell? ⟨tb, to + L, none⟩ = some rv := by have h := hrc; simpa [rdSpans] using h
  have HRW : Hid ((rangesV s l).getD L default = (List.range s.things.length).map (micV s l L)) := row_eq s l hLl
  rw [HRW.out] at hsp
  obtain ⟨ra, rc, rfl, -⟩ := sl_shape hsp
  have hln : ((List.range s.things.length).map (micV s l L)).length = s.things.length := by simp
  rw [hln] at hrc hsp
  have HRC := Lib.hid hrc
  have HTB := Lib.hid htb
  have HROW := Lib.hid hsp
  clear hrc hsp htb hln HRW
  obtain ⟨b, o, he, hbb, vg, vb, va, hd1, hd2, hd3, hat⟩ := HL.out.at' hLl
  cases he
  have HD1 : Hid (w.cell? ⟨b, o + L * 3, none⟩ = some vg) := hd1
  have HD2 : Hid (w.cell? ⟨b, o + L * 3 + 1, none⟩ = some vb) := hd2
  have HD3 : Hid (w.cell? ⟨b, o + L * 3 + 2, none⟩ = some va) := hd3
  have HBB := Lib.hid hbb
  have HAT := Lib.hid hat
  obtain ⟨e1, f1, rfl, -, hgc⟩ := hat.1
  obtain ⟨e2, f2, rfl, -⟩ := hat.2.1
  obtain ⟨e3, f3, rfl, -⟩ := sl_shape hat.2.2
  obtain ⟨gb, go, rfl, hgb, hgcc⟩ := hgc.resolve_left (by intro h; have := HBO.out.glen; rw [h] at this; simp at this; omega)
  have hgr : w.cell? ⟨gb, go + lt, none⟩ = some (.int .i64 ((l.getD L default).grams.getD lt 0)) := hgcc lt (by rw [HBO.out.glen]; exact hll)
  have hgl := HBO.out.glen
  have hgrb := HBO.out.gram lt
  have h1 := (C1.out.bel.cell (p := ⟨b, o + L * 3, none⟩) hbb).trans HD1.out
  have h2 := (C1.out.bel.cell (p := ⟨gb, go + lt, none⟩) hgb).trans hgr
  have HWT := fun w h => Lib.hid (weight_ref (l.getD L default) (.slice (some ⟨gb, go, none⟩) (l.getD L default).grams.length f1) (.slice e2 (l.getD L default).back.length f2) (.slice e3 (l.getD L default).added.length f3) w h HGO.out.1 HGO.out.2)
  clear hat hgc hgcc hbb hgb hd1 hd2 hd3 hgr
  have HTZ : Hid (takeTo s (l.getD L default) ((rangesV s l).getD L []) lt 0 = (0, 100000 - (l.getD L default).grams.getD lt 0)) := rfl
  have HTL := fun t => Lib.hid (takeTo_lo s (b := l.getD L default) ((rangesV s l).getD L []) lt t)
  have HTN := fun t h n => Lib.hid (takeTo_bad s (b := l.getD L default) ((rangesV s l).getD L []) lt (t := t) h n)
  have HTS := fun t => Lib.hid (show takeTo s (l.getD L default) ((rangesV s l).getD L []) lt (t + 1) = takeStep (s.things.getD t default).limit (weightV (l.getD L default)) (micV s l L t) ((s.lots.getD lt default).parts.getD t (0, 0)) (takeTo s (l.getD L default) ((rangesV s l).getD L []) lt t) from rfl)
  generalize takeTo s (l.getD L default) ((rangesV s l).getD L []) lt = TK at *
  generalize weightV (l.getD L default) = WT at *
  generalize (l.getD L default).grams.getD lt 0 = gr at *
  generalize (l.getD L default).grams.length = m1 at *
  generalize (l.getD L default).back.length = m2 at *
  generalize (l.getD L default).added.length = m3 at *
  subst hgl
  clear HBO HGO
  have C2 : Hid (Bs w1 [(w1.heap.size, .cells #[.int .i64 0, .int .i64 (100000 - gr)] 51)] _) := (Bs.nil w1).push _ rfl (.cells #[.int .i64 0, .int .i64 (100000 - gr)] 51)
  go_wp2_with fail
  obtain ⟨G, hG⟩ : ∃ G, w1.heap.size = G := ⟨_, rfl⟩
  rw [hG] at C2
  try rw [hG]
  have HG := Lib.hid hG
  clear hG h1 h2 hc1
  go_loopw [12] (fun iv wr => ∃ t : Nat, iv = .int .i64 t ∧ t ≤ s.things.length ∧ Bs w1 [(G, .cells #[.int .i64 (TK t).1, .int .i64 (TK t).2] 51)] wr) (fun iv _ => s.things.length - (intOf iv).toNat)
  case atStart => exact ⟨0, rfl, by omega, by rw [HTZ.out]; exact C2.out⟩
  case round =>
    clear C2
    obtain ⟨t, rfl, ht, hbs⟩ := hrel
    have CI := Lib.hid hbs
    clear hbs
    have CR := Lib.hid (C1.out.call CI.out.bel)
    have hcb0 := CR.out.cell 0 rfl 0
    by_cases htl : t < s.things.length
    · have hti : (t : Int) < (s.things.length : Int) := by omega
      obtain ⟨b3, o3, he, hb3, -, -, hx2, -⟩ := HS.out.1.at' htl
      cases he
      have hx2 : w.cell? ⟨b3, o3 + t * 5 + 2, none⟩ = some (.int .i64 (s.things.getD t default).limit) := hx2
      have hx := (CR.out.bel.cell (p := ⟨b3, o3 + t * 5 + 2, none⟩) hb3).trans hx2
      obtain ⟨bl, ol, he, hbl, -, -, pv, hp1, hsp⟩ := HS.out.2.at' hll
      cases he
      have HP1 : Hid (w.cell? ⟨bl, ol + lt * 2 + 1, none⟩ = some pv) := hp1
      obtain ⟨pa, pc, rfl, -⟩ := sl_shape hsp
      rw [HPL.out] at HP1 hsp
      obtain ⟨bp, op, rfl, hbp, -, hq2⟩ := hsp.at' (i := t) (by rw [HPL.out]; exact htl)
      have HP2 : Hid (w.cell? ⟨bp, op + t * 2 + 1, none⟩ = some (.int .i64 ((s.lots.getD lt default).parts.getD t (0, 0)).2)) := hq2
      have HBL := Lib.hid hbl
      have HBP := Lib.hid hbp
      obtain ⟨br, or, rfl, hbr, -, hq3⟩ := HROW.out.at' (i := t) (by simpa using htl)
      have hmr : ((List.range s.things.length).map (micV s l L)).getD t default = micV s l L t := mapr_get _ _ _ htl _
      rw [hmr] at hq3
      have HQ2 : Hid (w1.cell? ⟨br, or + t * 2 + 1, none⟩ = some (.int .i64 (micV s l L t).2)) := hq3
      have HBR := Lib.hid hbr
      clear hx2 hb3 hp1 hsp hq2 hq3 hmr hbl hbp hbr
      have hlm := (HLB t htl).out
      have hmb := (HMB t).out
      have hpb := (HPB t).out
      have HTS := Lib.hid (HTS t).out
      have HTLL := HTL
      have HTL := Lib.hid (HTL t).out
      generalize (s.things.getD t default).limit = lm at *
      generalize micV s l L t = M at *
      generalize (s.lots.getD lt default).parts.getD t (0, 0) = pp at *
      obtain ⟨mm1, mm2⟩ := M
      obtain ⟨p1, p2⟩ := pp
      simp only at HQ2 HP2 hmb hpb
      have hm := mul_bound hlm (show 0 ≤ WT ∧ WT ≤ 1200000 by omega)
      have HWP : Hid (wrap64 (lm * WT) = lm * WT) := by unfold Hid wrap64; omega
      unfold takeStep at HTS
      simp only at HTS
      obtain ⟨P, hP⟩ : ∃ P, lm * WT = P := ⟨_, rfl⟩
      rw [hP] at HWP HTS hm
      have HH := Lib.hid hP
      clear hP
      generalize hTT : TK t = T at *
      have HTT := Lib.hid hTT
      clear hTT
      obtain ⟨x1, x2⟩ := T
      simp only at CI HTS HTL
      go_wp2_with fail
      clear hx hcb0
      refine wp_region_inv0 (by kernel_rfl) (by kernel_rfl) (fun D w' => Bs w1 [(G, .cells #[.int .i64 x1, .int .i64 x2] 51)] w') CI.out.drew ?_
      apply obl_det
      case hrun =>
        intro D y wz hW hD R hR
        have HRR := Lib.hid hR
        clear hR
        have HW := Lib.hid hW
        clear hW hD
        go_wp2_with fail
        exact HRR.out _ HW.out
      case hnp => rfl
      case hv => first | exact ⟨_, fun _ => rfl⟩ | exact ⟨undef, fun _ => rfl⟩
      apply obl_det
      case hrun =>
        intro D y wz hW hD R hR
        have HRR := Lib.hid hR
        clear hR
        have HW := Lib.hid hW
        have CRR := Lib.hid (C1.out.call HW.out.bel)
        have h1 := CRR.out.cell 0 rfl 1
        clear hW hD
        go_wp2_with fail
        exact HRR.out _ HW.out
      case hnp => rfl
      case hv => first | exact ⟨_, fun _ => rfl⟩ | exact ⟨undef, fun _ => rfl⟩
      apply obl_det
      case hrun =>
        intro D y wz hW hD R hR
        have HRR := Lib.hid hR
        clear hR
        have HW := Lib.hid hW
        clear hW hD
        go_wp2_with fail
        exact HRR.out _ HW.out
      case hnp => rfl
      case hv => first | exact ⟨_, fun _ => rfl⟩ | exact ⟨undef, fun _ => rfl⟩
      apply obl_det
      case hrun =>
        intro D y wz hW hD R hR
        have HRR := Lib.hid hR
        clear hR
        have HW := Lib.hid hW
        clear hW hD
        go_wp2_with fail
        exact HRR.out _ HW.out
      case hnp => rfl
      case hv => first | exact ⟨_, fun _ => rfl⟩ | exact ⟨undef, fun _ => rfl⟩
      apply obl_det
      case hrun =>
        intro D y wz hW hD R hR
        have HRR := Lib.hid hR
        clear hR
        have HW := Lib.hid hW
        clear hW hD
        go_wp2_with fail
        exact HRR.out _ HW.out
      case hnp => rfl
      case hv => first | exact ⟨_, fun _ => rfl⟩ | exact ⟨undef, fun _ => rfl⟩
      apply obl_det
      case hrun =>
        intro D y wz hW hD R hR
        have HRR := Lib.hid hR
        clear hR
        have HW := Lib.hid hW
        have CRR := Lib.hid (C1.out.call HW.out.bel)
        have h1 := (CRR.out.bel.cell (p := ⟨bl, ol + lt * 2 + 1, none⟩) HBL.out).trans HP1.out
        clear hW hD
        go_wp2_with fail
        exact HRR.out _ HW.out
      case hnp => rfl
      case hv => first | exact ⟨_, fun _ => rfl⟩ | exact ⟨undef, fun _ => rfl⟩
      apply obl_det
      case hrun =>
        intro D y wz hW hD R hR
        have HRR := Lib.hid hR
        clear hR
        have HW := Lib.hid hW
        clear hW hD
        go_wp2_with fail
        exact HRR.out _ HW.out
      case hnp => rfl
      case hv => first | exact ⟨_, fun _ => rfl⟩ | exact ⟨undef, fun _ => rfl⟩
      apply obl_det
      case hrun =>
        intro D y wz hW hD R hR
        have HRR := Lib.hid hR
        clear hR
        have HW := Lib.hid hW
        clear hW hD
        go_wp2_with fail
        exact HRR.out _ HW.out
      case hnp => rfl
      case hv => first | exact ⟨_, fun _ => rfl⟩ | exact ⟨undef, fun _ => rfl⟩
      apply obl_det
      case hrun =>
        intro D y wz hW hD R hR
        have HRR := Lib.hid hR
        clear hR
        have HW := Lib.hid hW
        clear hW hD
        go_wp2_with fail
        exact HRR.out _ HW.out
      case hnp => rfl
      case hv => first | exact ⟨_, fun _ => rfl⟩ | exact ⟨undef, fun _ => rfl⟩
      apply obl_det
      case hrun =>
        intro D y wz hW hD R hR
        have HRR := Lib.hid hR
        clear hR
        have HW := Lib.hid hW
        have CRR := Lib.hid (C1.out.call HW.out.bel)
        have h1 := (CRR.out.bel.cell (p := ⟨bp, op + t * 2 + 1, none⟩) HBP.out).trans HP2.out
        clear hW hD
        go_wp2_with fail
        exact HRR.out _ HW.out
      case hnp => rfl
      case hv => first | exact ⟨_, fun _ => rfl⟩ | exact ⟨undef, fun _ => rfl⟩
      apply obl_det
      case hrun =>
        intro D y wz hW hD R hR
        have HRR := Lib.hid hR
        clear hR
        have HW := Lib.hid hW
        clear hW hD
        go_wp2_with fail
        exact HRR.out _ HW.out
      case hnp => rfl
      case hv => first | exact ⟨_, fun _ => rfl⟩ | exact ⟨undef, fun _ => rfl⟩
      apply obl_det
      case hrun =>
        intro D y wz hW hD R hR
        have HRR := Lib.hid hR
        clear hR
        have HW := Lib.hid hW
        clear hW hD
        go_wp2_with fail
        exact HRR.out _ HW.out
      case hnp => rfl
      case hv => first | exact ⟨_, fun _ => rfl⟩ | exact ⟨undef, fun _ => rfl⟩
      apply obl_det
      case hrun =>
        intro D y wz hW hD R hR
        have HRR := Lib.hid hR
        clear hR
        have HW := Lib.hid hW
        clear hW hD
        go_wp2_with fail
        exact HRR.out _ HW.out
      case hnp => rfl
      case hv => first | exact ⟨_, fun _ => rfl⟩ | exact ⟨undef, fun _ => rfl⟩
      apply obl_det
      case hrun =>
        intro D y wz hW hD R hR
        have HRR := Lib.hid hR
        clear hR
        have HW := Lib.hid hW
        clear hW hD
        go_wp2_with fail
        exact HRR.out _ HW.out
      case hnp => rfl
      case hv => first | exact ⟨_, fun _ => rfl⟩ | exact ⟨undef, fun _ => rfl⟩
      apply obl_det
      case hrun =>
        intro D y wz hW hD R hR
        have HRR := Lib.hid hR
        clear hR
        have HW := Lib.hid hW
        clear hW hD
        go_wp2_with fail
        exact HRR.out _ HW.out
      case hnp => rfl
      case hv => first | exact ⟨_, fun _ => rfl⟩ | exact ⟨undef, fun _ => rfl⟩
      apply obl_det
      case hrun =>
        intro D y wz hW hD R hR
        have HRR := Lib.hid hR
        clear hR
        have HW := Lib.hid hW
        have h1 := (HW.out.bel.cell (p := ⟨tb, to + L, none⟩) HTB.out).trans HRC.out
        clear hW hD
        go_wp2_with fail
        exact HRR.out _ HW.out
      case hnp => rfl
      case hv => first | exact ⟨_, fun _ => rfl⟩ | exact ⟨undef, fun _ => rfl⟩
      apply obl_det
      case hrun =>
        intro D y wz hW hD R hR
        have HRR := Lib.hid hR
        clear hR
        have HW := Lib.hid hW
        clear hW hD
        go_wp2_with fail
        exact HRR.out _ HW.out
      case hnp => rfl
      case hv => first | exact ⟨_, fun _ => rfl⟩ | exact ⟨undef, fun _ => rfl⟩
      apply obl_det
      case hrun =>
        intro D y wz hW hD R hR
        have HRR := Lib.hid hR
        clear hR
        have HW := Lib.hid hW
        clear hW hD
        go_wp2_with fail
        exact HRR.out _ HW.out
      case hnp => rfl
      case hv => first | exact ⟨_, fun _ => rfl⟩ | exact ⟨undef, fun _ => rfl⟩
      apply obl_det
      case hrun =>
        intro D y wz hW hD R hR
        have HRR := Lib.hid hR
        clear hR
        have HW := Lib.hid hW
        clear hW hD
        go_wp2_with fail
        exact HRR.out _ HW.out
      case hnp => rfl
      case hv => first | exact ⟨_, fun _ => rfl⟩ | exact ⟨undef, fun _ => rfl⟩
      apply obl_det
      case hrun =>
        intro D y wz hW hD R hR
        have HRR := Lib.hid hR
        clear hR
        have HW := Lib.hid hW
        have h1 := (HW.out.bel.cell (p := ⟨br, or + t * 2 + 1, none⟩) HBR.out).trans HQ2.out
        clear hW hD
        go_wp2_with fail
        exact HRR.out _ HW.out
      case hnp => rfl
      case hv => first | exact ⟨_, fun _ => rfl⟩ | exact ⟨undef, fun _ => rfl⟩
      apply obl_det
      case hrun =>
        intro D y wz hW hD R hR
        have HRR := Lib.hid hR
        clear hR
        have HW := Lib.hid hW
        clear hW hD
        go_wp2_with fail
        exact HRR.out _ HW.out
      case hnp => rfl
      case hv => first | exact ⟨_, fun _ => rfl⟩ | exact ⟨undef, fun _ => rfl⟩
      apply obl_det
      case hrun =>
        intro D y wz hW hD R hR
        have HRR := Lib.hid hR
        clear hR
        have HW := Lib.hid hW
        clear hW hD
        go_wp2_with fail
        exact HRR.out _ HW.out
      case hnp => rfl
      case hv => first | exact ⟨_, fun _ => rfl⟩ | exact ⟨undef, fun _ => rfl⟩
      apply obl_det
      case hrun =>
        intro D y wz hW hD R hR
        have HRR := Lib.hid hR
        clear hR
        have HW := Lib.hid hW
        clear hW hD
        go_wp2_with fail
        exact HRR.out _ HW.out
      case hnp => rfl
      case hv => first | exact ⟨_, fun _ => rfl⟩ | exact ⟨undef, fun _ => rfl⟩
      apply obl_det
      case hrun =>
        intro D y wz hW hD R hR
        have HRR := Lib.hid hR
        clear hR
        have HW := Lib.hid hW
        clear hW hD
        go_wp2_with fail
        exact HRR.out _ HW.out
      case hnp => rfl
      case hv => first | exact ⟨_, fun _ => rfl⟩ | exact ⟨undef, fun _ => rfl⟩
      apply obl_det
      case hrun =>
        intro D y wz hW hD R hR
        have HRR := Lib.hid hR
        clear hR
        have HW := Lib.hid hW
        have CRR := Lib.hid (C1.out.call HW.out.bel)
        have h1 := (CRR.out.bel.cell (p := ⟨b, o + L * 3, none⟩) HBB.out).trans HD1.out
        have h2 := (CRR.out.bel.cell (p := ⟨b, o + L * 3 + 1, none⟩) HBB.out).trans HD2.out
        have h3 := (CRR.out.bel.cell (p := ⟨b, o + L * 3 + 2, none⟩) HBB.out).trans HD3.out
        clear hW hD
        go_wp2_with fail
        exact HRR.out _ HW.out
      case hnp => rfl
      case hv => first | exact ⟨_, fun _ => rfl⟩ | exact ⟨undef, fun _ => rfl⟩
      apply obl_det
      case hrun =>
        intro D y wz hW hD R hR
        have HRR := Lib.hid hR
        clear hR
        have HW := Lib.hid hW
        have CRR := Lib.hid (C1.out.call HW.out.bel)
        clear hW hD
        go_wp2_with fail
        refine (HWT _ ((HAT.out.below CRR.out.bel).mono CRR.out.bel.size)).out.mono ?_
        rintro e w' ⟨rfl, hb⟩
        have HW2 := Lib.hid (HW.out.call hb)
        clear hb
        go_wp2_with fail
        exact HRR.out _ HW2.out
      case hnp => rfl
      case hv => first | exact ⟨_, fun _ => rfl⟩ | exact ⟨undef, fun _ => rfl⟩
      apply obl_det
      case hrun =>
        intro D y wz hW hD R hR
        have HRR := Lib.hid hR
        clear hR
        have HW := Lib.hid hW
        clear hW hD
        go_wp2_with fail
        rw [HH.out, HWP.out]
        exact HRR.out _ HW.out
      case hnp => rfl
      case hv => first | exact ⟨_, fun _ => rfl⟩ | exact ⟨undef, fun _ => rfl⟩
      apply obl_det
      case hrun =>
        intro D y wz hW hD R hR
        have HRR := Lib.hid hR
        clear hR
        have HW := Lib.hid hW
        clear hW hD
        go_wp2_with fail
        exact HRR.out _ HW.out
      case hnp => rfl
      case hv => first | exact ⟨_, fun _ => rfl⟩ | exact ⟨undef, fun _ => rfl⟩
      apply obl_det
      case hrun =>
        intro D y wz hW hD R hR
        have HRR := Lib.hid hR
        clear hR
        have HW := Lib.hid hW
        clear hW hD
        go_wp2_with fail
        exact HRR.out _ HW.out
      case hnp => rfl
      case hv => first | exact ⟨_, fun _ => rfl⟩ | exact ⟨undef, fun _ => rfl⟩
      apply obl_det
      case hrun =>
        intro D y wz hW hD R hR
        have HRR := Lib.hid hR
        clear hR
        have HW := Lib.hid hW
        clear hW hD
        go_wp2_with fail
        exact HRR.out _ HW.out
      case hnp => rfl
      case hv => first | exact ⟨_, fun _ => rfl⟩ | exact ⟨undef, fun _ => rfl⟩
      apply obl_nil
      intro D y w8 hall hW
      have CN := Lib.hid hW
      clear hall hW CI CR
      by_cases hby : 0 < p2 - lm
      · have hq : ((p2 - lm) == 0) = false := by simp; omega
        have HDB := Lib.hid (down_bound (-(mm2 - P)) (p2 - lm) hby (by omega) (by omega))
        rw [if_pos hby] at HTS
        have hq3 : decide (lm < p2) = true := by simp; omega
        obtain ⟨DV, hDV⟩ : ∃ DV, -(mm2 - P) / (p2 - lm) = DV := ⟨_, rfl⟩
        have HDN : ∀ w, Hid (Calls Try.prog 74 #[.int .i64 (-(mm2 - P)), .int .i64 ((p2 - lm))] w fun e w' => e = .returned (.int .i64 DV) ∧ w' = w) := fun w => by
          have h := down_ref (-(mm2 - P)) ((p2 - lm)) (by omega) (by omega) (by omega) (by omega) w
          rw [hDV] at h
          exact h
        rw [hDV] at HDB
        have HDV := Lib.hid hDV
        clear hDV
        go_wp2_with fail
        refine wp_region_inv0 (by kernel_rfl) (by kernel_rfl) (fun D w' => Bs w1 [(G, .cells (if D 8 then #[.int .i64 x1, .int .i64 (min x2 DV)] else #[.int .i64 x1, .int .i64 x2]) 51)] w') CN.out.drew ?_
        apply obl_det
        case hrun =>
          intro D y wz hW hD R hR
          have HRR := Lib.hid hR
          clear hR
          have h29 : D 8 = false := hD.post _ 8 rfl (by kernel_rfl)
          rw [h29] at hW
          have H29 := Lib.hid h29
          clear h29
          have HW := Lib.hid hW
          clear hW hD
          go_wp2_with fail
          refine HRR.out _ ?_
          show Bs w1 [(G, .cells (if D 8 then #[.int .i64 x1, .int .i64 (min x2 DV)] else #[.int .i64 x1, .int .i64 x2]) 51)] _
          rw [H29.out]
          exact HW.out
        case hnp => rfl
        case hv => first | exact ⟨_, fun _ => rfl⟩ | exact ⟨undef, fun _ => rfl⟩
        apply obl_det
        case hrun =>
          intro D y wz hW hD R hR
          have HRR := Lib.hid hR
          clear hR
          have h29 : D 8 = false := hD.post _ 8 rfl (by kernel_rfl)
          rw [h29] at hW
          have H29 := Lib.hid h29
          clear h29
          have HW := Lib.hid hW
          have h1 := HW.out.cell 0 rfl 1
          clear hW hD
          go_wp2_with fail
          refine HRR.out _ ?_
          show Bs w1 [(G, .cells (if D 8 then #[.int .i64 x1, .int .i64 (min x2 DV)] else #[.int .i64 x1, .int .i64 x2]) 51)] _
          rw [H29.out]
          exact HW.out
        case hnp => rfl
        case hv => first | exact ⟨_, fun _ => rfl⟩ | exact ⟨undef, fun _ => rfl⟩
        apply obl_det
        case hrun =>
          intro D y wz hW hD R hR
          have HRR := Lib.hid hR
          clear hR
          have h29 : D 8 = false := hD.post _ 8 rfl (by kernel_rfl)
          rw [h29] at hW
          have H29 := Lib.hid h29
          clear h29
          have HW := Lib.hid hW
          clear hW hD
          go_wp2_with fail
          refine HRR.out _ ?_
          show Bs w1 [(G, .cells (if D 8 then #[.int .i64 x1, .int .i64 (min x2 DV)] else #[.int .i64 x1, .int .i64 x2]) 51)] _
          rw [H29.out]
          exact HW.out
        case hnp => rfl
        case hv => first | exact ⟨_, fun _ => rfl⟩ | exact ⟨undef, fun _ => rfl⟩
        apply obl_det
        case hrun =>
          intro D y wz hW hD R hR
          have HRR := Lib.hid hR
          clear hR
          have h29 : D 8 = false := hD.post _ 8 rfl (by kernel_rfl)
          rw [h29] at hW
          have H29 := Lib.hid h29
          clear h29
          have HW := Lib.hid hW
          clear hW hD
          go_wp2_with fail
          refine HRR.out _ ?_
          show Bs w1 [(G, .cells (if D 8 then #[.int .i64 x1, .int .i64 (min x2 DV)] else #[.int .i64 x1, .int .i64 x2]) 51)] _
          rw [H29.out]
          exact HW.out
        case hnp => rfl
        case hv => first | exact ⟨_, fun _ => rfl⟩ | exact ⟨undef, fun _ => rfl⟩
        apply obl_det
        case hrun =>
          intro D y wz hW hD R hR
          have HRR := Lib.hid hR
          clear hR
          have h29 : D 8 = false := hD.post _ 8 rfl (by kernel_rfl)
          rw [h29] at hW
          have H29 := Lib.hid h29
          clear h29
          have HW := Lib.hid hW
          clear hW hD
          go_wp2_with fail
          refine HRR.out _ ?_
          show Bs w1 [(G, .cells (if D 8 then #[.int .i64 x1, .int .i64 (min x2 DV)] else #[.int .i64 x1, .int .i64 x2]) 51)] _
          rw [H29.out]
          exact HW.out
        case hnp => rfl
        case hv => first | exact ⟨_, fun _ => rfl⟩ | exact ⟨undef, fun _ => rfl⟩
        apply obl_det
        case hrun =>
          intro D y wz hW hD R hR
          have HRR := Lib.hid hR
          clear hR
          have h29 : D 8 = false := hD.post _ 8 rfl (by kernel_rfl)
          rw [h29] at hW
          have H29 := Lib.hid h29
          clear h29
          have HW := Lib.hid hW
          clear hW hD
          go_wp2_with fail
          refine (HDN _).out.mono ?_
          rintro e w' ⟨rfl, rfl⟩
          go_wp2_with fail
          refine HRR.out _ ?_
          show Bs w1 [(G, .cells (if D 8 then #[.int .i64 x1, .int .i64 (min x2 DV)] else #[.int .i64 x1, .int .i64 x2]) 51)] _
          rw [H29.out]
          exact HW.out
        case hnp => rfl
        case hv => first | exact ⟨_, fun _ => rfl⟩ | exact ⟨undef, fun _ => rfl⟩
        apply obl_det
        case hrun =>
          intro D y wz hW hD R hR
          have HRR := Lib.hid hR
          clear hR
          have h29 : D 8 = false := hD.post _ 8 rfl (by kernel_rfl)
          rw [h29] at hW
          have H29 := Lib.hid h29
          clear h29
          have HW := Lib.hid hW
          have hdb := HDB.out
          clear hW hD
          go_wp2_with fail
          refine HRR.out _ ?_
          show Bs w1 [(G, .cells (if D 8 then #[.int .i64 x1, .int .i64 (min x2 DV)] else #[.int .i64 x1, .int .i64 x2]) 51)] _
          rw [H29.out]
          exact HW.out
        case hnp => rfl
        case hv => first | exact ⟨_, fun _ => rfl⟩ | exact ⟨undef, fun _ => rfl⟩
        apply obl_det
        case hrun =>
          intro D y wz hW hD R hR
          have HRR := Lib.hid hR
          clear hR
          have h29 : D 8 = false := hD.post _ 8 rfl (by kernel_rfl)
          rw [h29] at hW
          have H29 := Lib.hid h29
          clear h29
          have HW := Lib.hid hW
          have hdb := HDB.out
          clear hW hD
          go_wp2_with fail
          refine HRR.out _ ?_
          show Bs w1 [(G, .cells (if D 8 then #[.int .i64 x1, .int .i64 (min x2 DV)] else #[.int .i64 x1, .int .i64 x2]) 51)] _
          rw [H29.out]
          exact HW.out
        case hnp => rfl
        case hv => first | exact ⟨_, fun _ => rfl⟩ | exact ⟨undef, fun _ => rfl⟩
        apply obl_det
        case hrun =>
          intro D y wz hW hD R hR
          have HRR := Lib.hid hR
          clear hR
          have h29 : D 8 = false := hD.not
          rw [h29] at hW
          have HW := Lib.hid hW
          clear hW hD h29
          refine wpList_cell_bs rfl 3 _ _ rfl HW.out 0 G 1 #[.int .i64 x1, .int .i64 x2] 51 rfl rfl _ rfl (by simp) rfl info3 ?_
          intro w4 hC4
          simp only [Act.put]
          go_simp
          exact HRR.out _ hC4
        case hnp => rfl
        case hv => first | exact ⟨_, fun _ => rfl⟩ | exact ⟨undef, fun _ => rfl⟩
        apply obl_nil
        intro D y w9 hall hW
        rw [hall 8 (by decide)] at hW
        have CM := Lib.hid hW
        clear hall hW CN
        simp only [if_true] at CM
        have e1 : (TK (t + 1)).1 = x1 := by rw [HTS.out]
        have e2 : (TK (t + 1)).2 = min x2 DV := by rw [HTS.out]; simp only; rw [show P - mm2 = -(mm2 - P) by omega, HDV.out]
        rw [← e1, ← e2] at CM
        clear e1 e2
        go_wp2_with fail
        refine ⟨⟨t + 1, by push_cast; rfl, by omega, CM.out⟩, ?_⟩
        simp [intOf]; omega
      · by_cases hbn : p2 - lm < 0
        · have hq : ((p2 - lm) == 0) = false := by simp; omega
          have HDB := Lib.hid (down_bound (-(mm2 - P)) (-(p2 - lm)) (by omega) (by omega) (by omega))
          rw [if_neg hby, if_pos hbn] at HTS
          have hq3 : decide (lm < p2) = false := by simp; omega
          have hq4 : decide (p2 < lm) = true := by simp; omega
          obtain ⟨DV, hDV⟩ : ∃ DV, -(mm2 - P) / -(p2 - lm) = DV := ⟨_, rfl⟩
          have HDN : ∀ w, Hid (Calls Try.prog 74 #[.int .i64 (-(mm2 - P)), .int .i64 (-(p2 - lm))] w fun e w' => e = .returned (.int .i64 DV) ∧ w' = w) := fun w => by
            have h := down_ref (-(mm2 - P)) (-(p2 - lm)) (by omega) (by omega) (by omega) (by omega) w
            rw [hDV] at h
            exact h
          rw [hDV] at HDB
          have HDV := Lib.hid hDV
          clear hDV
          go_wp2_with fail
          refine wp_region_inv0 (by kernel_rfl) (by kernel_rfl) (fun D w' => Bs w1 [(G, .cells (if D 10 then #[.int .i64 (max x1 (-DV)), .int .i64 x2] else #[.int .i64 x1, .int .i64 x2]) 51)] w') CN.out.drew ?_
          apply obl_det
          case hrun =>
            intro D y wz hW hD R hR
            have HRR := Lib.hid hR
            clear hR
            have h29 : D 10 = false := hD.post _ 10 rfl (by kernel_rfl)
            rw [h29] at hW
            have H29 := Lib.hid h29
            clear h29
            have HW := Lib.hid hW
            clear hW hD
            go_wp2_with fail
            refine HRR.out _ ?_
            show Bs w1 [(G, .cells (if D 10 then #[.int .i64 (max x1 (-DV)), .int .i64 x2] else #[.int .i64 x1, .int .i64 x2]) 51)] _
            rw [H29.out]
            exact HW.out
          case hnp => rfl
          case hv => first | exact ⟨_, fun _ => rfl⟩ | exact ⟨undef, fun _ => rfl⟩
          apply obl_det
          case hrun =>
            intro D y wz hW hD R hR
            have HRR := Lib.hid hR
            clear hR
            have h29 : D 10 = false := hD.post _ 10 rfl (by kernel_rfl)
            rw [h29] at hW
            have H29 := Lib.hid h29
            clear h29
            have HW := Lib.hid hW
            have h1 := HW.out.cell 0 rfl 0
            clear hW hD
            go_wp2_with fail
            refine HRR.out _ ?_
            show Bs w1 [(G, .cells (if D 10 then #[.int .i64 (max x1 (-DV)), .int .i64 x2] else #[.int .i64 x1, .int .i64 x2]) 51)] _
            rw [H29.out]
            exact HW.out
          case hnp => rfl
          case hv => first | exact ⟨_, fun _ => rfl⟩ | exact ⟨undef, fun _ => rfl⟩
          apply obl_det
          case hrun =>
            intro D y wz hW hD R hR
            have HRR := Lib.hid hR
            clear hR
            have h29 : D 10 = false := hD.post _ 10 rfl (by kernel_rfl)
            rw [h29] at hW
            have H29 := Lib.hid h29
            clear h29
            have HW := Lib.hid hW
            clear hW hD
            go_wp2_with fail
            refine HRR.out _ ?_
            show Bs w1 [(G, .cells (if D 10 then #[.int .i64 (max x1 (-DV)), .int .i64 x2] else #[.int .i64 x1, .int .i64 x2]) 51)] _
            rw [H29.out]
            exact HW.out
          case hnp => rfl
          case hv => first | exact ⟨_, fun _ => rfl⟩ | exact ⟨undef, fun _ => rfl⟩
          apply obl_det
          case hrun =>
            intro D y wz hW hD R hR
            have HRR := Lib.hid hR
            clear hR
            have h29 : D 10 = false := hD.post _ 10 rfl (by kernel_rfl)
            rw [h29] at hW
            have H29 := Lib.hid h29
            clear h29
            have HW := Lib.hid hW
            clear hW hD
            go_wp2_with fail
            refine HRR.out _ ?_
            show Bs w1 [(G, .cells (if D 10 then #[.int .i64 (max x1 (-DV)), .int .i64 x2] else #[.int .i64 x1, .int .i64 x2]) 51)] _
            rw [H29.out]
            exact HW.out
          case hnp => rfl
          case hv => first | exact ⟨_, fun _ => rfl⟩ | exact ⟨undef, fun _ => rfl⟩
          apply obl_det
          case hrun =>
            intro D y wz hW hD R hR
            have HRR := Lib.hid hR
            clear hR
            have h29 : D 10 = false := hD.post _ 10 rfl (by kernel_rfl)
            rw [h29] at hW
            have H29 := Lib.hid h29
            clear h29
            have HW := Lib.hid hW
            clear hW hD
            go_wp2_with fail
            refine HRR.out _ ?_
            show Bs w1 [(G, .cells (if D 10 then #[.int .i64 (max x1 (-DV)), .int .i64 x2] else #[.int .i64 x1, .int .i64 x2]) 51)] _
            rw [H29.out]
            exact HW.out
          case hnp => rfl
          case hv => first | exact ⟨_, fun _ => rfl⟩ | exact ⟨undef, fun _ => rfl⟩
          apply obl_det
          case hrun =>
            intro D y wz hW hD R hR
            have HRR := Lib.hid hR
            clear hR
            have h29 : D 10 = false := hD.post _ 10 rfl (by kernel_rfl)
            rw [h29] at hW
            have H29 := Lib.hid h29
            clear h29
            have HW := Lib.hid hW
            clear hW hD
            go_wp2_with fail
            refine HRR.out _ ?_
            show Bs w1 [(G, .cells (if D 10 then #[.int .i64 (max x1 (-DV)), .int .i64 x2] else #[.int .i64 x1, .int .i64 x2]) 51)] _
            rw [H29.out]
            exact HW.out
          case hnp => rfl
          case hv => first | exact ⟨_, fun _ => rfl⟩ | exact ⟨undef, fun _ => rfl⟩
          apply obl_det
          case hrun =>
            intro D y wz hW hD R hR
            have HRR := Lib.hid hR
            clear hR
            have h29 : D 10 = false := hD.post _ 10 rfl (by kernel_rfl)
            rw [h29] at hW
            have H29 := Lib.hid h29
            clear h29
            have HW := Lib.hid hW
            clear hW hD
            go_wp2_with fail
            refine (HDN _).out.mono ?_
            rintro e w' ⟨rfl, rfl⟩
            go_wp2_with fail
            refine HRR.out _ ?_
            show Bs w1 [(G, .cells (if D 10 then #[.int .i64 (max x1 (-DV)), .int .i64 x2] else #[.int .i64 x1, .int .i64 x2]) 51)] _
            rw [H29.out]
            exact HW.out
          case hnp => rfl
          case hv => first | exact ⟨_, fun _ => rfl⟩ | exact ⟨undef, fun _ => rfl⟩
          apply obl_det
          case hrun =>
            intro D y wz hW hD R hR
            have HRR := Lib.hid hR
            clear hR
            have h29 : D 10 = false := hD.post _ 10 rfl (by kernel_rfl)
            rw [h29] at hW
            have H29 := Lib.hid h29
            clear h29
            have HW := Lib.hid hW
            have hdb := HDB.out
            clear hW hD
            go_wp2_with fail
            refine HRR.out _ ?_
            show Bs w1 [(G, .cells (if D 10 then #[.int .i64 (max x1 (-DV)), .int .i64 x2] else #[.int .i64 x1, .int .i64 x2]) 51)] _
            rw [H29.out]
            exact HW.out
          case hnp => rfl
          case hv => first | exact ⟨_, fun _ => rfl⟩ | exact ⟨undef, fun _ => rfl⟩
          apply obl_det
          case hrun =>
            intro D y wz hW hD R hR
            have HRR := Lib.hid hR
            clear hR
            have h29 : D 10 = false := hD.post _ 10 rfl (by kernel_rfl)
            rw [h29] at hW
            have H29 := Lib.hid h29
            clear h29
            have HW := Lib.hid hW
            have hdb := HDB.out
            clear hW hD
            go_wp2_with fail
            refine HRR.out _ ?_
            show Bs w1 [(G, .cells (if D 10 then #[.int .i64 (max x1 (-DV)), .int .i64 x2] else #[.int .i64 x1, .int .i64 x2]) 51)] _
            rw [H29.out]
            exact HW.out
          case hnp => rfl
          case hv => first | exact ⟨_, fun _ => rfl⟩ | exact ⟨undef, fun _ => rfl⟩
          apply obl_det
          case hrun =>
            intro D y wz hW hD R hR
            have HRR := Lib.hid hR
            clear hR
            have h29 : D 10 = false := hD.post _ 10 rfl (by kernel_rfl)
            rw [h29] at hW
            have H29 := Lib.hid h29
            clear h29
            have HW := Lib.hid hW
            have hdb := HDB.out
            clear hW hD
            go_wp2_with fail
            refine HRR.out _ ?_
            show Bs w1 [(G, .cells (if D 10 then #[.int .i64 (max x1 (-DV)), .int .i64 x2] else #[.int .i64 x1, .int .i64 x2]) 51)] _
            rw [H29.out]
            exact HW.out
          case hnp => rfl
          case hv => first | exact ⟨_, fun _ => rfl⟩ | exact ⟨undef, fun _ => rfl⟩
          apply obl_det
          case hrun =>
            intro D y wz hW hD R hR
            have HRR := Lib.hid hR
            clear hR
            have h29 : D 10 = false := hD.not
            rw [h29] at hW
            have HW := Lib.hid hW
            clear hW hD h29
            refine wpList_cell_bs rfl 3 _ _ rfl HW.out 0 G 0 #[.int .i64 x1, .int .i64 x2] 51 rfl rfl _ rfl (by simp) rfl info3 ?_
            intro w4 hC4
            simp only [Act.put]
            go_simp
            exact HRR.out _ hC4
          case hnp => rfl
          case hv => first | exact ⟨_, fun _ => rfl⟩ | exact ⟨undef, fun _ => rfl⟩
          apply obl_nil
          intro D y w9 hall hW
          rw [hall 10 (by decide)] at hW
          have CM := Lib.hid hW
          clear hall hW CN
          simp only [if_true] at CM
          have e2 : (TK (t + 1)).2 = x2 := by rw [HTS.out]
          have e1 : (TK (t + 1)).1 = max x1 (-DV) := by
            rw [HTS.out]
            simp only
            rw [show P - mm2 = -(mm2 - P) by omega, show lm - p2 = -(p2 - lm) by omega, HDV.out]
          rw [← e1, ← e2] at CM
          clear e1 e2
          go_wp2_with fail
          refine ⟨⟨t + 1, by push_cast; rfl, by omega, CM.out⟩, ?_⟩
          simp [intOf]; omega
        · have hz : p2 - lm = 0 := by omega
          rw [if_neg hby, if_neg hbn] at HTS
          have hq : ((p2 - lm) == 0) = true := by simp; omega
          by_cases hov : 0 < mm2 - P
          · rw [if_pos (by omega)] at HTS
            have HZ : Hid (KV = ((0, 0), 9)) := by
              have h1 := (HTN (t + 1) (by rw [HTS.out]; simp) (s.things.length - (t + 1))).out
              rw [show t + 1 + (s.things.length - (t + 1)) = s.things.length by omega] at h1
              have h2 := (HTLL s.things.length).out
              unfold Hid
              rw [HTV.out, if_pos (by omega)]
            have CRR := Lib.hid (C1.out.call CN.out.bel)
            clear HTV
            go_wp2_with (refine wpList_store_bs rfl 51 _ _ rfl CRR.out 1 (w.heap.size + 1) #[.int .i64 0, .int .i64 0] #[.int .i64 0, .int .i64 0] 51 rfl rfl rfl info51 rfl (by simp [Value.oneCell']) ?_; intro w4 hC4)
            refine bodyPost_ret (v := .tuple #[.agg #[.int .i64 0, .int .i64 0], .int .i64 9]) ?_ rfl ?_
            · rw [results_span_tmp rfl _ _ (w.heap.size + 1) #[.int .i64 0, .int .i64 0] rfl (hC4.get 1 rfl) rfl]
              rfl
            · rw [HZ.out]
              exact ⟨rfl, hC4.bel⟩
          · rw [if_neg (by omega)] at HTS
            have e1 : (TK (t + 1)).1 = x1 := by rw [HTS.out]
            have e2 : (TK (t + 1)).2 = x2 := by rw [HTS.out]
            rw [← e1, ← e2] at CN
            clear e1 e2
            go_wp2_with fail
            refine ⟨⟨t + 1, by push_cast; rfl, by omega, CN.out⟩, ?_⟩
            simp [intOf]; omega
    · obtain rfl : t = s.things.length := by omega
      have hc0 := CI.out.cell 0 rfl 0
      have hc1 := CI.out.cell 0 rfl 1
      generalize TK s.things.length = T at *
      obtain ⟨x1, x2⟩ := T
      simp only at CI HTV hc0 hc1
      by_cases hlt : x2 < x1
      · have HZ : Hid (KV = ((0, 0), 9)) := by unfold Hid; rw [HTV.out, if_pos hlt]
        clear HTV
        go_wp2_with (refine wpList_store_bs rfl 51 _ _ rfl CR.out 1 (w.heap.size + 1) #[.int .i64 0, .int .i64 0] #[.int .i64 0, .int .i64 0] 51 rfl rfl rfl info51 rfl (by simp [Value.oneCell']) ?_; intro w4 hC4)
        refine bodyPost_ret (v := .tuple #[.agg #[.int .i64 0, .int .i64 0], .int .i64 9]) ?_ rfl ?_
        · rw [results_span_tmp rfl _ _ (w.heap.size + 1) #[.int .i64 0, .int .i64 0] rfl (hC4.get 1 rfl) rfl]
          rfl
        · rw [HZ.out]
          exact ⟨rfl, hC4.bel⟩
      · have HZ : Hid (KV = ((x1, x2), 0)) := by unfold Hid; rw [HTV.out, if_neg hlt]
        have hle : x1 ≤ x2 := by omega
        clear HTV hlt
        go_wp2_with (refine wpList_store_bs rfl 51 _ _ rfl CR.out 1 (w.heap.size + 1) #[.int .i64 x1, .int .i64 x2] #[.int .i64 0, .int .i64 0] 51 rfl rfl rfl info51 rfl (by simp [Value.oneCell']) ?_; intro w4 hC4)
        refine bodyPost_ret (v := .tuple #[.agg #[.int .i64 x1, .int .i64 x2], .int .i64 0]) ?_ rfl ?_
        · rw [results_span_tmp rfl _ _ (w.heap.size + 1) #[.int .i64 x1, .int .i64 x2] rfl (hC4.get 1 rfl) rfl]
          rfl
        · rw [HZ.out]
          exact ⟨rfl, hC4.bel⟩
end Go.Proofs.Ytaigbhhmmdfdcaa
