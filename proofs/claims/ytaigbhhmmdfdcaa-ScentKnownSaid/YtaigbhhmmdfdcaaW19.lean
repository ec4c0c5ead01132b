/- scent.Take. -/
import Derived.Test.YtaigbhhmmdfdcaaW18
namespace Go.Proofs.Ytaigbhhmmdfdcaa
open Go.RowKit
theorem results_span_tmp {fn : Func} {p u : Tmp} (h : fn.results = #[.cell p 51, .tmp u]) (tmps : Array Value) (w : World) (g : Nat) (cs : Array Value) (hp : tmps.getD p undef = .pointer (some ⟨g, 0, none⟩)) (hg : w.heap[g]? = some (.cells cs 51)) (hs : cs.size = 2) :
    (results fn tmps).run Try.prog w = .ok (.tuple #[.agg cs, tmps.getD u undef]) w := by
  rw [results_cell_tmp h, hp]
  simp [asAddr, run_loadVar_row w g 51 51 cs (0, 0) _ hg Try.underlying51 rfl (by rw [info51, hs])]
theorem down_bound (a b : Int) (hb : 0 < b) (h1 : -10000000000000 ≤ a) (h2 : a ≤ 10000000000000) : -10000000000000 ≤ a / b ∧ a / b ≤ 10000000000000 := by
  constructor
  · rw [Int.le_ediv_iff_mul_le hb]
    have : (10000000000000 : Int) * 1 ≤ 10000000000000 * b := Int.mul_le_mul_of_nonneg_left (by omega) (by omega)
    omega
  · rw [← Int.lt_add_one_iff, Int.ediv_lt_iff_lt_mul hb]
    have : (10000000000001 : Int) * 1 ≤ 10000000000001 * b := Int.mul_le_mul_of_nonneg_left (by omega) (by omega)
    omega
section
variable {P : Program} {ops : Array Oper} {rest : List Oper} {o : Oper} {a : Act} {w0 w : World} {Q : Exit → Act → World → Prop} {l : List (Nat × Obj)}
/-- One cell is stored: the blocks, and all others. -/
theorem wpList_cell_bb (hgd : o.guard = none) (ty : TypeId) (x y : Operand) (ho : o.op = .store ty x y) (H : Bs w0 l w) (i g j : Nat) (old : Array Value) (t : TypeId) (hi : l[i]? = some (g, .cells old t))
    (hx : a.eval x = .pointer (some ⟨g, j, none⟩)) (v : Value) (hy : a.eval y = v) (hj : j < old.size) (h1 : v.oneCell' = true) (hn : (P.info? ty).map (·.size) = some 1)
    (h : ∀ w', Bs w0 (l.set i (g, .cells (old.setIfInBounds j v) t)) w' → But g w w' → wpList P ops Q rest (a.put o.dst undef) w') : wpList P ops Q (o :: rest) a w :=
  wpList_cell_but hgd ty x y ho g j old t (H.get i hi) hx v hy hj h1 hn fun w' hg hb => h w' (H.but i hi hb hg) hb
end
/-- A range is handed back, with an error. -/
def RetSpan (t : (Int × Int) × Int) (w : World) : Ending → World → Prop := fun e w' => e = .returned (.tuple #[.agg #[.int .i64 t.1.1, .int .i64 t.1.2], .int .i64 t.2]) ∧ Below w.heap.size w w'
set_option maxRecDepth 100000 in
set_option maxHeartbeats 16000000 in
theorem take_any (s : Shop) (l : List Bat) (lot : Int) (vt vl v : Value) (w : World) (hv : ShopAt w.heap.size w vt vl s) (hl' : BatsIn w.heap.size w v l) :
    Calls Try.prog 29 #[.agg #[vt, vl], v, .int .i64 lot] w (RetSpan (takeV s l lot) w) := by
  unfold RetSpan
  have HV := Lib.hid hv
  have HL := Lib.hid hl'
  obtain ⟨ta, tc, rfl, -, htl⟩ := sl_shape hv.1
  obtain ⟨la, lc, rfl, -, hll⟩ := sl_shape hv.2
  obtain ⟨va, vc, rfl, -, hvl⟩ := sl_shape hl'
  clear hv hl'
  have C0 := Lib.hid (((Bs.nil w).push _ rfl (.cells #[.slice ta s.things.length tc, .slice la s.lots.length lc] 25)).push (w.heap.size + 1) (by simp) (.cells #[.int .i64 0, .int .i64 0] 51))
  have HMELT := Lib.hid (melt_any s l _ _ _ _ (HV.out.next C0.out.bel) (HL.out.next C0.out.bel))
  unfold MeltPost at HMELT
  have HCV : Hid (takeV s l lot = if batchesE s l ≠ 0 then ((0, 0), batchesE s l) else if outOne 0 (s.lots.length - 1) lot then ((0, 0), 4)
    else if (takeTo s (l.getD (l.length - 1) default) ((rangesV s l).getD (l.length - 1) []) lot.toNat s.things.length).2 < (takeTo s (l.getD (l.length - 1) default) ((rangesV s l).getD (l.length - 1) []) lot.toNat s.things.length).1 then ((0, 0), 9)
    else (takeTo s (l.getD (l.length - 1) default) ((rangesV s l).getD (l.length - 1) []) lot.toNat s.things.length, 0)) := rfl
  have HOKB := Lib.hid (all_ok (s := s) (l := l))
  obtain ⟨E, hE⟩ : ∃ x, batchesE s l = x := ⟨_, rfl⟩
  rw [hE] at HMELT HCV
  simp only [hE] at HOKB
  clear hE
  obtain ⟨r1, hr1⟩ : ∃ r, outOne 0 ((s.lots.length : Int) - 1) lot = r := ⟨_, rfl⟩
  rw [hr1] at HCV
  have HR1 := Lib.hid hr1
  clear hr1
  go_enter Try.func29, Try.ntmps29
  go_wp2_with fail
  refine HMELT.out.mono ?_
  rintro e w1 ⟨hbad, hgood⟩
  by_cases hz : E = 0
  case neg =>
    have hz2 : (E != 0) = true := by simpa using hz
    have HZ := Lib.hid hz
    obtain ⟨rfl, hb1⟩ := hbad hz
    clear hz hbad hgood
    have C1 := Lib.hid (C0.out.call hb1)
    clear hb1 C0
    go_wp2_with (first | refine wpList_load_bs rfl 51 _ rfl C1.out 1 (w.heap.size + 1) #[.int .i64 0, .int .i64 0] 51 rfl rfl _ Try.underlying51 rfl info51 ?_ | (refine wpList_store_bs rfl 51 _ _ rfl C1.out 1 (w.heap.size + 1) #[.int .i64 0, .int .i64 0] #[.int .i64 0, .int .i64 0] 51 rfl rfl rfl info51 rfl (by simp [Value.oneCell']) ?_; intro w2 C2))
    refine bodyPost_ret (v := .tuple #[.agg #[.int .i64 0, .int .i64 0], .int .i64 E]) ?_ rfl ?_
    · rw [results_span_tmp rfl _ _ (w.heap.size + 1) #[.int .i64 0, .int .i64 0] rfl (C2.get 1 rfl) rfl]
      rfl
    · rw [HCV.out, if_pos HZ.out]
      exact ⟨rfl, C2.bel⟩
  subst hz
  obtain ⟨g, bo, vr, rfl, hA⟩ := hgood rfl
  have HA := Lib.hid hA
  have HOK := Lib.hid (HOKB.out rfl)
  have C1 := Lib.hid (C0.out.call hA.bel)
  clear hbad hgood hA HOKB HMELT
  obtain ⟨ra, rc, hvr⟩ := HA.out.shape
  subst hvr
  have hn6 := HOK.out.l6
  have hn1 := HOK.out.l1
  have hnt5 := HOK.out.sh.nt5
  have hnl6 := HOK.out.sh.nl6
  rw [if_neg (fun h => h rfl)] at HCV
  have C1A := Lib.hid (C1.out.push _ rfl (.cells #[.int .i64 lot] 3))
  have hc1 := C1.out.cell 0 rfl 1
  go_wp2_with fail
  refine (out_one r1 0 _ _ HR1.out _ _ (C1A.out.get 2 rfl)).mono ?_
  rintro e w2 ⟨rfl, hb1⟩
  have C2 := Lib.hid ((C1A.out.call hb1).sub [(w.heap.size, .cells #[.slice ta s.things.length tc, .slice la s.lots.length lc] 25), (w.heap.size + 1, .cells #[.int .i64 0, .int .i64 0] 51)] (by simp))
  have HA2 := Lib.hid ((HA.out.alloc (.cells #[.int .i64 lot] 3)).call hb1)
  clear hb1 C1 C1A hc1 HA C0
  cases r1
  case true =>
    go_wp2_with (first | refine wpList_load_bs rfl 51 _ rfl C2.out 1 (w.heap.size + 1) #[.int .i64 0, .int .i64 0] 51 rfl rfl _ Try.underlying51 rfl info51 ?_ | (refine wpList_store_bs rfl 51 _ _ rfl C2.out 1 (w.heap.size + 1) #[.int .i64 0, .int .i64 0] #[.int .i64 0, .int .i64 0] 51 rfl rfl rfl info51 rfl (by simp [Value.oneCell']) ?_; intro w3 C3))
    refine bodyPost_ret (v := .tuple #[.agg #[.int .i64 0, .int .i64 0], .int .i64 4]) ?_ rfl ?_
    · rw [results_span_tmp rfl _ _ (w.heap.size + 1) #[.int .i64 0, .int .i64 0] rfl (C3.get 1 rfl) rfl]
      rfl
    · rw [HCV.out]
      exact ⟨rfl, C3.bel⟩
  simp only [Bool.false_eq_true, if_false] at HCV
  obtain ⟨lt, rfl⟩ : ∃ n : Nat, lot = n := ⟨lot.toNat, by have := (outOne_false.1 HR1.out).1; omega⟩
  have hlt : lt < s.lots.length := by have := (outOne_false.1 HR1.out).2; omega
  simp only [Int.toNat_natCast] at HCV
  obtain ⟨kl, HKL⟩ : ∃ k, Hid (l.length - 1 = k) := ⟨_, rfl⟩
  have hkl : kl < l.length := by have := HKL.out; omega
  have hkl2 : (l.length : Int) - 1 = kl := by have := HKL.out; omega
  rw [HKL.out] at HCV
  obtain ⟨pb, pc, he, hpc, hpb, hcell⟩ := HA2.out.ptr hkl
  cases he
  have HOBJ := Lib.hid (HA2.out.obj kl hkl)
  obtain ⟨hgB, hbB, haB⟩ := (HA2.out.ok kl hkl).2.2.2.2
  have hgl := (bat_ok0 (batchE_zero (HOK.out.pre kl hkl)).1)
  have hgr := hgl.gram lt
  obtain ⟨ga1, gc1, hvg, -⟩ := ints_shape hgB
  rw [hvg] at hgB
  obtain ⟨gb, go, hga, hgbB, hgc⟩ := ints_at hgB (show lt < (l.getD kl default).grams.length by rw [hgl.glen]; exact hlt)
  have hgc := (HA2.out.bel.cell (p := ⟨gb, _, none⟩) hgbB).trans hgc
  have q0 : w2.cell? ⟨g kl, 0, none⟩ = some (bo kl).vg := by rw [cell_of_row _ _ 0 _ _ _ HOBJ.out]; rfl
  rw [hvg, hga] at q0
  rw [hgl.glen] at q0
  clear hgB hbB haB hvg
  have HG := Lib.hid hgl
  clear hgl
  have hlt2 : (lt : Int) < (s.lots.length : Int) := by omega
  generalize hgrr : (l.getD kl default).grams.getD lt 0 = gr at *
  have HGR := Lib.hid hgrr
  clear hgrr
  go_wp2_with (refine wpList_cell_bb rfl 3 _ _ rfl C2.out 1 (w.heap.size + 1) 1 _ 51 rfl rfl (.int .i64 (100000 - gr)) rfl (by simp) rfl info3 ?_; intro w3 C3 hb3; have hc0 := C3.cell 0 rfl 0)
  have CC3 := Lib.hid C3
  have HBT := Lib.hid hb3
  have hrow := row_eq s l hkl
  have HROW := Lib.hid hrow
  have HTS : Hid (∀ t, t < s.things.length → takeTo s (l.getD kl default) ((rangesV s l).getD kl []) lt (t + 1) = takeStep (s.things.getD t default).limit (weightV (l.getD kl default)) (micV s l kl t) ((s.lots.getD lt default).parts.getD t (0, 0)) (takeTo s (l.getD kl default) ((rangesV s l).getD kl []) lt t)) := fun t ht => rfl
  have HT0 : Hid (takeTo s (l.getD kl default) ((rangesV s l).getD kl []) lt 0 = (0, 100000 - gr)) := by unfold Hid takeTo; rw [HGR.out]
  have hpos := HOK.out.pre.pos HOK.out.sh hn6 (Nat.le_refl _) hkl
  have HMI := Lib.hid (mic_ok HOK.out.sh hn6 (fun j hj => HOK.out.pre j (by omega)) hkl)
  clear hrow hgc q0 C3 hb3 hcell
  generalize takeTo s (l.getD kl default) ((rangesV s l).getD kl []) lt = TK at *
  go_loopw [53] (fun iv wr => ∃ (t : Nat) (lo hi : Int), iv = .int .i64 t ∧ t ≤ s.things.length ∧ TK t = (lo, hi) ∧ 0 ≤ lo ∧ lo ≤ 10000000000000 ∧ -10000000000000 ≤ hi ∧ hi ≤ 100000 ∧ Bs w [(w.heap.size, .cells #[.slice ta s.things.length tc, .slice la s.lots.length lc] 25), (w.heap.size + 1, .cells #[.int .i64 lo, .int .i64 hi] 51)] wr ∧ But (w.heap.size + 1) w2 wr) (fun iv _ => s.things.length - (intOf iv).toNat)
  case atStart => exact ⟨0, _, _, rfl, by omega, HT0.out, by omega, by omega, by omega, by omega, CC3.out, HBT.out⟩
  case round =>
    obtain ⟨t, lo, hi, rfl, ht, hTK, hlo, hlo2, hhi, hhi2, hC, hB⟩ := hrel
    have CR := Lib.hid hC
    have HBR := Lib.hid hB
    have HTK := Lib.hid hTK
    clear hC hB hTK CC3 HBT
    by_cases htn : t < s.things.length
    · have hsz2 : w.heap.size + 1 < w2.heap.size := C2.out.lt 1 rfl
      have BC : ∀ {b j : Nat}, b < w2.heap.size → b ≠ w.heap.size + 1 → wr.cell? ⟨b, j, none⟩ = w2.cell? ⟨b, j, none⟩ := fun h1 h2 => HBR.out.cell h1 h2
      obtain ⟨tb, tof, hta, htb, x1, x2, x3, x4, x5, -⟩ := HV.out.1.at' htn
      obtain ⟨lb, lof, hla, hlb, -, -, u, y2, hu⟩ := HV.out.2.at' hlt
      have hplen := HOK.out.sh.plen lt hlt
      obtain ⟨ua, uc, hue, -, -⟩ := sl_shape hu
      rw [hue] at hu y2
      obtain ⟨ub, uof, hua, hub, -, z2⟩ := hu.at' (show t < (s.lots.getD lt default).parts.length by rw [hplen]; exact htn)
      rw [hplen, hua] at y2
      subst hta hla
      have up : ∀ {b j : Nat}, b < w.heap.size → wr.cell? ⟨b, j, none⟩ = w.cell? ⟨b, j, none⟩ := fun hb => (CR.out.bel.cell (p := ⟨_, _, none⟩) hb)
      have x1 := (up htb).trans x1
      have x2 := (up htb).trans x2
      have x3 := (up htb).trans x3
      have x4 := (up htb).trans x4
      have x5 := (up htb).trans x5
      have y2 := (up hlb).trans y2
      have z2 := (up hub).trans z2
      simp only [rdThing] at x1 x2 x3 x4 x5
      simp only [rdLot] at y2
      simp only [rdSpan] at z2
      have hlim := HOK.out.sh.limit t htn
      have hprt := HOK.out.sh.part lt hlt t
      have hmi := HMI.out t
      have HSTEP := Lib.hid (HTS.out t htn)
      rw [HTK.out] at HSTEP
      have hgkB := HA2.out.ge kl hkl
      have hgk := HA2.out.obj kl hkl
      have hne : g kl ≠ w.heap.size + 1 := by simp at hgkB; omega
      have q3 := (BC (block_lt hgk) hne).trans (HA2.out.wt hkl)
      have q4 := (BC (block_lt hgk) hne).trans (HA2.out.hi hkl (show t < 5 by omega))
      have hgs0 := CR.out.cell 0 rfl 1
      have hgkl := Nat.lt_of_lt_of_le (block_lt hgk) HBR.out.size
      have hmul := mul_bound (show 0 ≤ (s.things.getD t default).limit ∧ (s.things.getD t default).limit ≤ 1000000 from hlim) (show 0 ≤ weightV (l.getD kl default) ∧ weightV (l.getD kl default) ≤ 1200000 by omega)
      clear hgk up BC hne hue
      generalize s.things.getD t default = x at *
      generalize weightV (l.getD kl default) = wt at *
      generalize micV s l kl t = mm at *
      generalize ((s.lots.getD lt default).parts.getD t (0, 0)) = pp at *
      obtain ⟨nm, kd, lm, wk, fd⟩ := x
      obtain ⟨m1, m2⟩ := mm
      obtain ⟨p1, p2⟩ := pp
      simp only at x1 x2 x3 x4 x5 hmul hlim hprt hmi q4 z2 HSTEP
      have htn2 : (t : Int) < (s.things.length : Int) := by omega
      have ht5 : (t : Int) < 5 := by omega
      go_wp2_with fail
      obtain ⟨wv, hwv⟩ : ∃ x, wr.alloc (.cells #[.string nm, .int .i64 kd, .int .i64 lm, .int .i64 wk, .int .i64 fd] 62) = x := ⟨_, rfl⟩
      rw [hwv]
      have hBv : Below wr.heap.size wr wv := by rw [← hwv]; exact (Below.refl _ _).alloc (Nat.le_refl _) _
      have hnew : wv.heap[wr.heap.size]? = some (.cells #[.string nm, .int .i64 kd, .int .i64 lm, .int .i64 wk, .int .i64 fd] 62) := by rw [← hwv]; exact heap_alloc_new _ _
      have e2 : wv.cell? ⟨wr.heap.size, 2, none⟩ = some (.int .i64 lm) := cell_of_row _ _ _ _ _ _ hnew
      have hwle := CR.out.bel.size
      have q3 := (hBv.cell (p := ⟨g kl, _, none⟩) hgkl).trans q3
      have q4 := (hBv.cell (p := ⟨g kl, _, none⟩) hgkl).trans q4
      have hgs0 := (hBv.cell (p := ⟨w.heap.size, _, none⟩) (CR.out.lt 0 rfl)).trans hgs0
      have y2 := (hBv.cell (p := ⟨lb, _, none⟩) (Nat.lt_of_lt_of_le hlb hwle)).trans y2
      have z2 := (hBv.cell (p := ⟨ub, _, none⟩) (Nat.lt_of_lt_of_le hub hwle)).trans z2
      have CV := Lib.hid (CR.out.call hBv)
      have HBV := Lib.hid (HBR.out.trans (But.of hBv))
      clear hBv hnew hwv x1 x2 x3 x4 x5
      generalize wr.heap.size = gx at *
      have hm1 : -9223372036854775808 ≤ lm * wt := by omega
      have hm2 : lm * wt ≤ 9223372036854775807 := by omega
      go_quiet (fail)
      revert nq
      intro nq1
      simp only [Exit.then]
      have CD := Lib.hid (CV.out.drewN nq1)
      have HBD := Lib.hid (HBV.out.trans (But.drewN _ wv nq1))
      clear e2 q3 q4 hgs0 y2 z2 CV HBV
      generalize wv.drewN nq1 = wq at *
      unfold takeStep at HSTEP
      simp only at HSTEP
      by_cases hp1 : 0 < p2 - lm
      · rw [if_pos hp1] at HSTEP
        have hp2 : p2 - lm ≤ 1000000 := by omega
        have hfr1 : -10000000000000 ≤ lm * wt - m2 := by omega
        have hfr2 : lm * wt - m2 ≤ 10000000000000 := by omega
        have hdn := down_bound (lm * wt - m2) (p2 - lm) hp1 (by omega) (by omega)
        generalize lm * wt - m2 = free at *
        generalize p2 - lm = each at *
        have hd1 : decide (0 < each) = true := decide_eq_true hp1
        have HDN := fun w => down_any free each hp1 (by omega) (by omega) (by omega) w
        go_wp2_with fail
        have gl1 := CD.out.cell 1 rfl 1
        refine wp_region_still_tail 7 (by kernel_rfl) (by kernel_rfl) ?_
        simp only [List.take_succ_cons, List.take_zero, List.drop_succ_cons, List.drop_zero]
        repeat still_step
        still_call (HDN _)
        repeat still_step
        try refine wpStill_nil ?_
        change wpList _ _ _ _ _ (wq.drewN 1)
        have CQ := Lib.hid (CD.out.drewN 1)
        have HBQ := Lib.hid (HBD.out.trans (But.drewN _ wq 1))
        clear gl1
        refine wpList_cell_bb rfl 3 _ _ rfl CQ.out 1 (w.heap.size + 1) 1 _ 51 rfl rfl _ rfl (by simp) rfl info3 ?_
        intro w4 C4 hb4
        have emin : (if free / each < hi then free / each else hi) = min hi (free / each) := by rw [Int.min_def]; split <;> split <;> omega
        change Bs w [(w.heap.size, .cells #[.slice (some ⟨tb, tof, none⟩) s.things.length tc, .slice (some ⟨lb, lof, none⟩) s.lots.length lc] 25), (w.heap.size + 1, .cells #[.int .i64 lo, .int .i64 (if free / each < hi then free / each else hi)] 51)] w4 at C4
        rw [emin] at C4
        have C5 := Lib.hid C4
        have HB5 := Lib.hid (HBQ.out.trans hb4)
        clear C4 hb4 emin CQ HBQ
        have hmn1 : -10000000000000 ≤ min hi (free / each) := by omega
        have hmn2 : min hi (free / each) ≤ 100000 := by omega
        go_wp2_with fail
        refine ⟨⟨t + 1, _, _, by push_cast; rfl, by omega, HSTEP.out, hlo, hlo2, hmn1, hmn2, C5.out, HB5.out⟩, ?_⟩
        simp [intOf]
        omega
      · rw [if_neg hp1] at HSTEP
        by_cases hp3 : p2 - lm < 0
        · rw [if_pos hp3, show lm - p2 = -(p2 - lm) by omega] at HSTEP
          have hfr1 : -10000000000000 ≤ lm * wt - m2 := by omega
          have hfr2 : lm * wt - m2 ≤ 10000000000000 := by omega
          have hdn := down_bound (lm * wt - m2) (-(p2 - lm)) (by omega) (by omega) (by omega)
          have hea : -1000000 ≤ p2 - lm := by omega
          generalize lm * wt - m2 = free at *
          generalize p2 - lm = each at *
          have hd1 : decide (0 < each) = false := decide_eq_false hp1
          have hd2 : decide (each < 0) = true := decide_eq_true hp3
          have hnw : IntKind.i64.wrap (-each) = -each := wrap_in (by omega) (by omega)
          have HDN := fun w => down_any free (-each) (by omega) (by omega) (by omega) (by omega) w
          generalize free / -each = q at *
          have hnw2 : IntKind.i64.wrap (-q) = -q := wrap_in (by omega) (by omega)
          go_wp2_with fail
          have gl1 := CD.out.cell 1 rfl 0
          refine wp_region_still_tail 9 (by kernel_rfl) (by kernel_rfl) ?_
          simp only [List.take_succ_cons, List.take_zero, List.drop_succ_cons, List.drop_zero]
          repeat still_step
          still_call (HDN _)
          repeat still_step
          try refine wpStill_nil ?_
          change wpList _ _ _ _ _ (wq.drewN 1)
          have CQ := Lib.hid (CD.out.drewN 1)
          have HBQ := Lib.hid (HBD.out.trans (But.drewN _ wq 1))
          clear gl1
          refine wpList_cell_bb rfl 3 _ _ rfl CQ.out 1 (w.heap.size + 1) 0 _ 51 rfl rfl _ rfl (by simp) rfl info3 ?_
          intro w4 C4 hb4
          have emin : (if lo < -q then -q else lo) = max lo (-q) := by rw [Int.max_def]; split <;> split <;> omega
          change Bs w [(w.heap.size, .cells #[.slice (some ⟨tb, tof, none⟩) s.things.length tc, .slice (some ⟨lb, lof, none⟩) s.lots.length lc] 25), (w.heap.size + 1, .cells #[.int .i64 (if lo < -q then -q else lo), .int .i64 hi] 51)] w4 at C4
          rw [emin] at C4
          have C5 := Lib.hid C4
          have HB5 := Lib.hid (HBQ.out.trans hb4)
          clear C4 hb4 emin CQ HBQ
          have hmn1 : 0 ≤ max lo (-q) := by omega
          have hmn2 : max lo (-q) ≤ 10000000000000 := by omega
          go_wp2_with fail
          refine ⟨⟨t + 1, _, _, by push_cast; rfl, by omega, HSTEP.out, hmn1, hmn2, hhi, hhi2, C5.out, HB5.out⟩, ?_⟩
          simp [intOf]
          omega
        · rw [if_neg hp3] at HSTEP
          have hd1 : decide (0 < p2 - lm) = false := decide_eq_false hp1
          have hd2 : decide (p2 - lm < 0) = false := decide_eq_false hp3
          have hfr1 : -10000000000000 ≤ lm * wt - m2 := by omega
          have hfr2 : lm * wt - m2 ≤ 10000000000000 := by omega
          generalize lm * wt - m2 = free at *
          generalize p2 - lm = each at *
          by_cases hp4 : free < 0
          · rw [if_pos hp4] at HSTEP
            have hd3 : decide (free < 0) = true := decide_eq_true hp4
            go_wp2_with (refine wpList_cell_bb rfl 3 _ _ rfl CD.out 1 (w.heap.size + 1) 1 _ 51 rfl rfl (.int .i64 (-1)) rfl (by simp) rfl info3 ?_; intro w4 C4 hb4)
            refine ⟨⟨t + 1, _, _, by push_cast; rfl, by omega, HSTEP.out, hlo, hlo2, by omega, by omega, C4, HBD.out.trans hb4⟩, ?_⟩
            simp [intOf]
            omega
          · rw [if_neg hp4] at HSTEP
            have hd3 : decide (free < 0) = false := decide_eq_false hp4
            go_wp2_with fail
            refine ⟨⟨t + 1, _, _, by push_cast; rfl, by omega, HSTEP.out, hlo, hlo2, hhi, hhi2, CD.out, HBD.out⟩, ?_⟩
            simp [intOf]
            omega
    · obtain rfl : t = s.things.length := by omega
      rw [HTK.out] at HCV
      simp only at HCV
      have gl0 := CR.out.cell 1 rfl 0
      have gl1 := CR.out.cell 1 rfl 1
      by_cases hlh : hi < lo
      · rw [if_pos hlh] at HCV
        have hd : decide (hi < lo) = true := decide_eq_true hlh
        go_wp2_with (refine wpList_store_bs rfl 51 _ _ rfl CR.out 1 (w.heap.size + 1) #[.int .i64 0, .int .i64 0] #[.int .i64 lo, .int .i64 hi] 51 rfl rfl rfl info51 rfl (by simp [Value.oneCell']) ?_; intro w4 C4)
        refine bodyPost_ret (v := .tuple #[.agg #[.int .i64 0, .int .i64 0], .int .i64 9]) ?_ rfl ?_
        · rw [results_span_tmp rfl _ _ (w.heap.size + 1) #[.int .i64 0, .int .i64 0] rfl (C4.get 1 rfl) rfl]
          rfl
        · rw [HCV.out]
          exact ⟨rfl, C4.bel⟩
      · rw [if_neg hlh] at HCV
        have hd : decide (hi < lo) = false := decide_eq_false hlh
        go_wp2_with (first | refine wpList_load_bs rfl 51 _ rfl CR.out 1 (w.heap.size + 1) #[.int .i64 lo, .int .i64 hi] 51 rfl rfl _ Try.underlying51 rfl info51 ?_ | (refine wpList_store_bs rfl 51 _ _ rfl CR.out 1 (w.heap.size + 1) #[.int .i64 lo, .int .i64 hi] #[.int .i64 lo, .int .i64 hi] 51 rfl rfl rfl info51 rfl (by simp [Value.oneCell']) ?_; intro w4 C4))
        refine bodyPost_ret (v := .tuple #[.agg #[.int .i64 lo, .int .i64 hi], .int .i64 0]) ?_ rfl ?_
        · rw [results_span_tmp rfl _ _ (w.heap.size + 1) #[.int .i64 lo, .int .i64 hi] rfl (C4.get 1 rfl) rfl]
          rfl
        · rw [HCV.out]
          exact ⟨rfl, C4.bel⟩
end Go.Proofs.Ytaigbhhmmdfdcaa
