/- TopScented: the walk. -/
import Derived.Test.YteebihcdgpfldaaGreatU22
namespace Go.Proofs.YteebihcdgpfldaaGreat
open Go.RowKit
abbrev topC (vw vx : Value) (q : WShop) (c : Candle) (b : Int) (X N : Nat → Int) (vu : Value) : Array Value := #[vw, vx, .int .i64 q.flame.1, .int .i64 q.flame.2, .int .i64 q.pool.1, .int .i64 q.pool.2, .int .i64 c.wax, .int .i64 c.dia, .int .i64 c.draught, .int .i64 c.cold.1, .int .i64 c.cold.2, .int .u8 b, .int .u16 (X 0), .int .u16 (X 1), .int .u16 (X 2), .int .u16 (X 3), .int .u16 (X 4), .int .u16 (X 5), .int .u16 (N 0), .int .u16 (N 1), .int .u16 (N 2), .int .u16 (N 3), vu]
set_option maxRecDepth 100000 in
set_option maxHeartbeats 64000000 in
theorem scented_law (s : Shop) (l : List Bat) (q : WShop) (c : Candle) (b : Int) (X N : Nat → Int) (u : List Int) (hb : 0 ≤ b ∧ b ≤ 255) (hX : ∀ i, 0 ≤ X i ∧ X i ≤ 65535) (hu : Turns u) (vt vl v vw vx vu : Value) (w : World)
 (hs : ShopAt w.heap.size w vt vl s) (hl : BatsIn w.heap.size w v l) (hq : WShopAt w.heap.size w vw vx q) (hvu : IntsIn .u32 w.heap.size w vu u) :
 Calls Tryz.prog 3 #[.agg #[vt, vl], v, .agg (topC vw vx q c b X N vu)] w (fun e w' => e = .returned (.bool true) ∧ Below w.heap.size w w') := by
 have HS := Lib.hid hs
 have HL := Lib.hid hl
 have HQ := Lib.hid hq
 have HU := Lib.hid hvu
 have HXB := Lib.hid hX
 have HBB := Lib.hid hb
 obtain ⟨ta, tc, rfl, -, -⟩ := sl_shape hs.1
 obtain ⟨la, lc, rfl, -, -⟩ := sl_shape hs.2
 obtain ⟨a, cc, rfl, hlc, hlen⟩ := sl_shape hl
 obtain ⟨wa, wc, rfl, hwc, -⟩ := sl_shape hq.1
 obtain ⟨xa, xc, rfl, -, -⟩ := sl_shape hq.2
 obtain ⟨ua, uc, rfl, -⟩ := hvu
 clear hs hl hq hX hb
 have C0 : Hid (Bs w [(w.heap.size, .cells #[(.slice ta s.things.length tc), (.slice la s.lots.length lc)] 25), (w.heap.size + 1, .cells #[(.slice wa q.wicks.length wc), (.slice xa q.waxes.length xc), .int .i64 q.flame.1, .int .i64 q.flame.2, .int .i64 q.pool.1, .int .i64 q.pool.2, .int .i64 c.wax, .int .i64 c.dia, .int .i64 c.draught, .int .i64 c.cold.1, .int .i64 c.cold.2, .int .u8 b, .int .u16 (X 0), .int .u16 (X 1), .int .u16 (X 2), .int .u16 (X 3), .int .u16 (X 4), .int .u16 (X 5), .int .u16 (N 0), .int .u16 (N 1), .int .u16 (N 2), .int .u16 (N 3), (.slice ua u.length uc)] 44)] _) := Lib.hid (((Bs.nil w).push _ rfl (.cells #[(.slice ta s.things.length tc), (.slice la s.lots.length lc)] 25)).push (w.heap.size + 1) (by simp) (.cells #[(.slice wa q.wicks.length wc), (.slice xa q.waxes.length xc), .int .i64 q.flame.1, .int .i64 q.flame.2, .int .i64 q.pool.1, .int .i64 q.pool.2, .int .i64 c.wax, .int .i64 c.dia, .int .i64 c.draught, .int .i64 c.cold.1, .int .i64 c.cold.2, .int .u8 b, .int .u16 (X 0), .int .u16 (X 1), .int .u16 (X 2), .int .u16 (X 3), .int .u16 (X 4), .int .u16 (X 5), .int .u16 (N 0), .int .u16 (N 1), .int .u16 (N 2), .int .u16 (N 3), (.slice ua u.length uc)] 44))
 have hc0 := C0.out.cell 0 rfl 0
 have hc1 := C0.out.cell 0 rfl 1
 have HG : Hid (batchesE s l = 0 → AllGood s l) := all_good
 have HTP := Lib.hid (fun hz k hk w hs hl hvx => @truth_pair s l k hz hk u hu (.slice ta s.things.length tc) (.slice la s.lots.length lc) (.slice a l.length cc) (.slice ua u.length uc) w hs hl hvx)
 have HPL : Hid (batchesE s l = 0 → (pullV s l).length = l.length) := pull_lenU
 have HLL := Lib.hid (fun (hz : batchesE s l = 0) k hk M => @light_left s l hz k hk M)
 have H1 := fun w h1 h2 => Lib.hid (pull_any s l (.slice ta s.things.length tc) (.slice la s.lots.length lc) (.slice a l.length cc) w h1 h2)
 have H2 := fun w h1 h2 => Lib.hid (batches_ref s l (.slice ta s.things.length tc) (.slice la s.lots.length lc) (.slice a l.length cc) w h1 h2)
 unfold RetSpans at H1
 have HC := fun w h => Lib.hid (candle3_ref q c (.slice wa q.wicks.length wc) (.slice xa q.waxes.length xc) w h)
 have HOK : Hid (candleE q c = 0 → WOk q c) := candle_ok
 generalize batchesE s l = E at *
 generalize pullV s l = PV at *
 clear hu
 go_enter Tryz.func3, Tryz.ntmps3
 go_wp2_with fail
 refine (H2 _ ((HS.out.below C0.out.bel).mono C0.out.bel.size) ((HL.out.below C0.out.bel).mono C0.out.bel.size)).out.mono ?_
 rintro e w1 ⟨rfl, hb⟩
 have C1 := Lib.hid (C0.out.call hb)
 clear hb C0 hc0 hc1 H2
 by_cases hE : E = 0
 case neg =>
  have hq1 : (E != 0) = true := by simpa using hE
  clear hE HG HTP HPL HLL H1 HC HOK
  go_wp2_with fail
  refine (awake3_any _).mono ?_
  rintro e wa1 ⟨rfl, hb⟩
  have CA := Lib.hid (C1.out.call hb)
  clear hb
  go_wp2_with fail
  refine (awake_any _).mono ?_
  rintro e wa2 ⟨rfl, hb⟩
  have CB := Lib.hid (CA.out.call hb)
  clear hb
  go_wp2_with fail
  go_ret
  exact ⟨rfl, CB.out.bel⟩
 subst hE
 have ht0 := C1.out.cell 1 rfl 0
 have ht1 := C1.out.cell 1 rfl 1
 have ht2 := C1.out.cell 1 rfl 2
 have ht3 := C1.out.cell 1 rfl 3
 have ht4 := C1.out.cell 1 rfl 4
 have ht5 := C1.out.cell 1 rfl 5
 have ht6 := C1.out.cell 1 rfl 6
 have ht7 := C1.out.cell 1 rfl 7
 have ht8 := C1.out.cell 1 rfl 8
 have ht9 := C1.out.cell 1 rfl 9
 have ht10 := C1.out.cell 1 rfl 10
 go_wp2_with fail
 refine (HC _ ((HQ.out.below C1.out.bel).mono C1.out.bel.size)).out.mono ?_
 rintro e w2 ⟨E2, rfl, hE2, hb⟩
 have C2 := Lib.hid (C1.out.call hb)
 have HE2 := Lib.hid hE2
 clear hb hE2 C1 HC ht0 ht1 ht2 ht3 ht4 ht5 ht6 ht7 ht8 ht9 ht10
 by_cases h2 : E2 = 0
 case neg =>
  have hq1 : (E2 != 0) = true := by simpa using h2
  clear h2 HG HTP HPL HLL H1 HOK HE2
  go_wp2_with fail
  refine (awake3_any _).mono ?_
  rintro e wa1 ⟨rfl, hb⟩
  have CA := Lib.hid (C2.out.call hb)
  clear hb
  go_wp2_with fail
  refine (awake_any _).mono ?_
  rintro e wa2 ⟨rfl, hb⟩
  have CB := Lib.hid (CA.out.call hb)
  clear hb
  go_wp2_with fail
  go_ret
  exact ⟨rfl, CB.out.bel⟩
 subst h2
 have HWO := Lib.hid (HOK.out (HE2.out (by simp)))
 clear HE2 HOK
 have hc0 := C2.out.cell 0 rfl 0
 have hc1 := C2.out.cell 0 rfl 1
 go_wp2_with fail
 refine (H1 _ ((HS.out.below C2.out.bel).mono C2.out.bel.size) ((HL.out.below C2.out.bel).mono C2.out.bel.size)).out.mono ?_
 rintro e w3 ⟨tv, rfl, hi, hb⟩
 have C3 := Lib.hid (C2.out.call hb)
 have HT := Lib.hid hi
 clear hb hi C2 hc0 hc1 H1
 have hpl := HPL.out (by simp)
 have HTQ := Lib.hid (HTP.out (by simp))
 have HLQ := Lib.hid (HLL.out (by simp))
 have HGD := Lib.hid (HG.out (by simp))
 obtain ⟨hsh, hn1, hn6, -⟩ := HG.out (by simp)
 have hnt5 := hsh.nt5
 have hnt1 := hsh.nt1
 obtain ⟨pa, pc, rfl, hpc, -⟩ := sl_shape HT.out
 rw [hpl] at HT hpc ⊢
 clear HPL HG hsh HTP HLL
 obtain ⟨L, hL⟩ : ∃ L, l.length - 1 = L := ⟨_, rfl⟩
 have hLl : L < l.length := by omega
 have hLi : (L : Int) < (l.length : Int) := by omega
 have hLE : (l.length : Int) - 1 = (L : Int) := by omega
 clear hL
 have hq2 : ((l.length : Int) != (l.length : Int)) = false := by simp
 obtain ⟨X1, M1, htr, hmd1, hm1, hmb⟩ := HTQ.out L hLl w3 ((HS.out.below C3.out.bel).mono C3.out.bel.size) ((HL.out.below C3.out.bel).mono C3.out.bel.size) ((HU.out.below C3.out.bel).mono C3.out.bel.size)
 have HT1 := Lib.hid htr
 have HM1 := Lib.hid hmd1
 have HLF := Lib.hid (HLQ.out L hLl M1 hm1 hmb)
 obtain ⟨pb, po, rfl, hpb, hr1, hr2⟩ := HT.out.at' (i := L) (by omega)
 have HR1 : Hid (w3.cell? ⟨pb, po + L * 2, none⟩ = some (.int .i64 (PV.getD L (0, 0)).1)) := hr1
 have HR2 : Hid (w3.cell? ⟨pb, po + L * 2 + 1, none⟩ = some (.int .i64 (PV.getD L (0, 0)).2)) := hr2
 have HPB := Lib.hid hpb
 clear htr hmd1 hmb HTQ HLQ hr1 hr2 hpb
 have HHM : Hid (M1.length = s.things.length) := hm1
 obtain ⟨WT, HWT⟩ : ∃ z, Hid (weightV (l.getD L default) = z) := ⟨_, rfl⟩
 obtain ⟨WK, HWK⟩ : ∃ z, Hid (weakS s (fun t => M1.getD t 0) M1.length = z) := ⟨_, rfl⟩
 rw [HWT.out, HWK.out] at HLF
 generalize PV.getD L (0, 0) = PP at *
 obtain ⟨P1, P2⟩ := PP
 simp only at HR1 HR2 HLF
 obtain ⟨hmm, hwb, hkb, hp1, hp2, hl1, hl2⟩ := HLF.out
 have hp12 : P1 ≤ P2 := Int.le_of_mul_le_mul_left (Int.le_trans hl1 hl2) (by omega)
 have HMM := Lib.hid hmm
 have HL1 := Lib.hid hl1
 have HL2 := Lib.hid hl2
 clear hmm hl1 hl2 HLF hm1
 go_wp2_with fail
 try rw [hLE]
 clear hLE hq2 HT hpl hpc
 refine wp_region_inv1 (by kernel_rfl) (by kernel_rfl) [10, 11] (fun D y w' => Tb2 w3 #[.int .i64 0, .int .i64 0] #[.int .i64 P1, .int .i64 P2] 30 #[.int .i64 0, .int .i64 0, .int .i64 0, .int .i64 0, .int .i64 0] #[.int .i64 c.wax, .int .i64 c.dia, .int .i64 c.draught, .int .i64 c.cold.1, .int .i64 c.cold.2] 34 (D 7) (D 8) (D 9) (D 10) (y 10) (y 11) w') (Tb2.start _) ?F1 ?hF1 ?_
 case hF1 =>
  intro y
  simp only [fill, List.foldl, Act.put, List.setIfInBounds_toArray, List.set]
  exact rfl
 iterate 2
  (apply obl_det
   case hrun =>
    intro D y wz hW hD R hR
    have HRR := Lib.hid hR
    clear hR
    have HW := Lib.hid hW
    clear hW hD
    go_wp2_with fail
    exact HRR.out _ ⟨HW.out.bel, HW.out.p, HW.out.q, HW.out.pq⟩
   case hnp => rfl
   case hv => first | exact ⟨_, fun _ => rfl⟩ | exact ⟨undef, fun _ => rfl⟩)
 apply obl_det
 case hrun =>
  intro D y wz hW hD R hR
  have HRR := Lib.hid hR
  clear hR
  have HW := Lib.hid hW
  have h1 := hLi
  clear hW hD
  go_wp2_with fail
  exact HRR.out _ ⟨HW.out.bel, HW.out.p, HW.out.q, HW.out.pq⟩
 case hnp => rfl
 case hv => first | exact ⟨_, fun _ => rfl⟩ | exact ⟨undef, fun _ => rfl⟩
 apply obl_det
 case hrun =>
  intro D y wz hW hD R hR
  have HRR := Lib.hid hR
  clear hR
  have HW := Lib.hid hW
  have h1 := (HW.out.bel.cell (p := ⟨pb, po + L * 2, none⟩) HPB.out).trans HR1.out
  have h2 := (HW.out.bel.cell (p := ⟨pb, po + L * 2 + 1, none⟩) HPB.out).trans HR2.out
  clear hW hD
  go_wp2_with fail
  exact HRR.out _ ⟨HW.out.bel, HW.out.p, HW.out.q, HW.out.pq⟩
 case hnp => rfl
 case hv => first | exact ⟨_, fun _ => rfl⟩ | exact ⟨undef, fun _ => rfl⟩
 iterate 2
  (apply obl_det
   case hrun =>
    intro D y wz hW hD R hR
    have HRR := Lib.hid hR
    clear hR
    have HW := Lib.hid hW
    clear hW hD
    go_wp2_with fail
    exact HRR.out _ ⟨HW.out.bel, HW.out.p, HW.out.q, HW.out.pq⟩
   case hnp => rfl
   case hv => first | exact ⟨_, fun _ => rfl⟩ | exact ⟨undef, fun _ => rfl⟩)
 apply obl_det
 case hrun =>
  intro D y wz hW hD R hR
  have HRR := Lib.hid hR
  clear hR
  have HW := Lib.hid hW
  have HZ := Lib.hid (C3.out.call HW.out.bel)
  have h0 := HZ.out.cell 1 rfl 6
  have h1 := HZ.out.cell 1 rfl 7
  have h2 := HZ.out.cell 1 rfl 8
  have h3 := HZ.out.cell 1 rfl 9
  have h4 := HZ.out.cell 1 rfl 10
  clear hW hD
  go_wp2_with fail
  exact HRR.out _ ⟨HW.out.bel, HW.out.p, HW.out.q, HW.out.pq⟩
 case hnp => rfl
 case hv => first | exact ⟨_, fun _ => rfl⟩ | exact ⟨undef, fun _ => rfl⟩
 apply obl_priv 10
 case hd => rfl
 case hp => rfl
 case hrun =>
  intro D y wz hW hD R hR
  have HRR := Lib.hid hR
  clear hR
  have h0 : D 9 = false := hD.post _ 9 rfl (by kernel_rfl)
  rw [h0] at hW
  have HN := Lib.hid hW.put1
  have H0 := Lib.hid h0
  clear hW hD h0
  go_wp2_with fail
  refine HRR.out (.pointer (some ⟨wz.heap.size, 0, none⟩)) _ ?_
  show Tb2 _ _ _ _ _ _ _ true (D 8) (D 9) (D 10) (.pointer _) (y 11) _
  rw [H0.out]
  exact HN.out
 apply obl_priv 11
 case hd => rfl
 case hp => rfl
 case hrun =>
  intro D y wz hW hD R hR
  have HRR := Lib.hid hR
  clear hR
  have h0 : D 10 = false := hD.post _ 10 rfl (by kernel_rfl)
  rw [h0] at hW
  have HN := Lib.hid hW.put2
  have H0 := Lib.hid h0
  clear hW hD h0
  go_wp2_with fail
  refine HRR.out (.pointer (some ⟨wz.heap.size, 0, none⟩)) _ ?_
  show Tb2 _ _ _ _ _ _ _ (D 7) true (D 9) (D 10) (y 10) (.pointer _) _
  rw [H0.out]
  exact HN.out
 apply obl_det
 case hrun =>
  intro D y wz hW hD R hR
  have HRR := Lib.hid hR
  clear hR
  have h0 : D 9 = false := hD.not
  have h18 : D 7 = true := hD.pre _ 7 rfl (by kernel_rfl)
  have h19 : D 8 = true := hD.pre _ 8 rfl (by kernel_rfl)
  rw [h0, h18, h19] at hW
  obtain ⟨gp, e, hgt, hcell⟩ := hW.p rfl
  have CC := Lib.hid (Bs.snocU (l := []) (w := w3) ⟨by simp, by simp, by simp, hW.bel⟩ (by simp) hcell hgt)
  have EE := Lib.hid e
  have HW := Lib.hid hW
  have H18 := Lib.hid h18
  have H19 := Lib.hid h19
  clear hW hD h0 h18 h19 hcell e hgt
  refine wpList_store_bu rfl 30 _ _ rfl CC.out 0 gp #[.int .i64 P1, .int .i64 P2] _ _ rfl EE.out rfl infoSpan rfl (by simp [Value.oneCell']) ?_
  intro w4 hC4 hB4
  have HN := Lib.hid (HW.out.store1 EE.out hC4 hB4)
  clear hC4 hB4
  simp only [Act.put]
  go_simp
  refine HRR.out _ ?_
  show Tb2 _ _ _ _ _ _ _ (D 7) (D 8) true (D 10) (y 10) (y 11) _
  rw [H18.out, H19.out]
  exact HN.out
 case hnp => rfl
 case hv => first | exact ⟨_, fun _ => rfl⟩ | exact ⟨undef, fun _ => rfl⟩
 apply obl_det
 case hrun =>
  intro D y wz hW hD R hR
  have HRR := Lib.hid hR
  clear hR
  have h0 : D 10 = false := hD.not
  have h18 : D 7 = true := hD.pre _ 7 rfl (by kernel_rfl)
  have h19 : D 8 = true := hD.pre _ 8 rfl (by kernel_rfl)
  rw [h0, h18, h19] at hW
  obtain ⟨gp, e, hgt, hcell⟩ := hW.q rfl
  have CC := Lib.hid (Bs.snocU (l := []) (w := w3) ⟨by simp, by simp, by simp, hW.bel⟩ (by simp) hcell hgt)
  have EE := Lib.hid e
  have HW := Lib.hid hW
  have H18 := Lib.hid h18
  have H19 := Lib.hid h19
  clear hW hD h0 h18 h19 hcell e hgt
  refine wpList_store_bu rfl 34 _ _ rfl CC.out 0 gp #[.int .i64 c.wax, .int .i64 c.dia, .int .i64 c.draught, .int .i64 c.cold.1, .int .i64 c.cold.2] _ _ rfl EE.out rfl infoWC rfl (by simp [Value.oneCell']) ?_
  intro w4 hC4 hB4
  have HN := Lib.hid (HW.out.store2 EE.out hC4 hB4)
  clear hC4 hB4
  simp only [Act.put]
  go_simp
  refine HRR.out _ ?_
  show Tb2 _ _ _ _ _ _ _ (D 7) (D 8) (D 9) true (y 10) (y 11) _
  rw [H18.out, H19.out]
  exact HN.out
 case hnp => rfl
 case hv => first | exact ⟨_, fun _ => rfl⟩ | exact ⟨undef, fun _ => rfl⟩
 apply obl_nil
 intro D y w8 hall hW
 obtain ⟨g10, e10, -, hk10⟩ := hW.p (hall 7 (by decide))
 obtain ⟨g11, e11, -, hk11⟩ := hW.q (hall 8 (by decide))
 rw [hall 9 (by decide)] at hk10
 rw [hall 10 (by decide)] at hk11
 have HB8 := Lib.hid hW.bel
 have C8 : Hid (Bs w [(w.heap.size, .cells #[(.slice ta s.things.length tc), (.slice la s.lots.length lc)] 25), (w.heap.size + 1, .cells #[(.slice wa q.wicks.length wc), (.slice xa q.waxes.length xc), .int .i64 q.flame.1, .int .i64 q.flame.2, .int .i64 q.pool.1, .int .i64 q.pool.2, .int .i64 c.wax, .int .i64 c.dia, .int .i64 c.draught, .int .i64 c.cold.1, .int .i64 c.cold.2, .int .u8 b, .int .u16 (X 0), .int .u16 (X 1), .int .u16 (X 2), .int .u16 (X 3), .int .u16 (X 4), .int .u16 (X 5), .int .u16 (N 0), .int .u16 (N 1), .int .u16 (N 2), .int .u16 (N 3), (.slice ua u.length uc)] 44)] w8) := C3.out.call hW.bel
 have HK10 : Hid (w8.heap[g10]? = some (.cells #[.int .i64 P1, .int .i64 P2] 30)) := hk10
 have HK11 : Hid (w8.heap[g11]? = some (.cells #[.int .i64 c.wax, .int .i64 c.dia, .int .i64 c.draught, .int .i64 c.cold.1, .int .i64 c.cold.2] 34)) := hk11
 rw [e10, e11]
 clear hW hall e10 e11 hk10 hk11 C3 HR1 HR2 HPB
 have hx0 := cell_of_row _ _ 0 _ _ _ HK10.out
 have hx1 := cell_of_row _ _ 1 _ _ _ HK10.out
 have hd1 : decide (P1 < 0) = false := by simp; omega
 have hd2 : decide (1000 < P2) = false := by simp; omega
 have hd3 : decide (P2 < P1) = false := by simp; omega
 have hy11 := C8.out.cell 1 rfl 11
 have hy0 := C8.out.cell 1 rfl 0
 have hy1 := C8.out.cell 1 rfl 1
 have hy2 := C8.out.cell 1 rfl 2
 have hy3 := C8.out.cell 1 rfl 3
 have hy4 := C8.out.cell 1 rfl 4
 have hy5 := C8.out.cell 1 rfl 5
 have hbb := HBB.out
 obtain ⟨n, hn⟩ : ∃ n, q.wicks.length = n := ⟨_, rfl⟩
 have hn1' := HWO.out.nw1
 have hn12 := HWO.out.nw12
 rw [hn] at hn1' hn12
 have HN := Lib.hid hn
 obtain ⟨k, hk⟩ : ∃ k : Nat, b % (n : Int) = k := ⟨(b % (n : Int)).toNat, by have := Int.emod_nonneg b (show (n : Int) ≠ 0 by omega); omega⟩
 have hkn : k < n := by have := Int.emod_lt_of_pos b (show 0 < (n : Int) by omega); omega
 have hki : (k : Int) < (n : Int) := by omega
 have HKM := Lib.hid hk
 clear hn hk
 rw [HN.out] at hy0
 go_upto_region 11 with fail
 rw [HKM.out]
 clear hx0 hx1 hd1 hd2 hd3 hy11 hbb HKM HBB hLi
 obtain ⟨i0, hi0, hz0, hz1, hz2⟩ := infoWickI
 have HI0 := Lib.hid hi0
 have HZ0 := Lib.hid hz0
 have HZ1 := Lib.hid hz1
 have HZ2 := Lib.hid hz2
 clear hi0 hz0 hz1 hz2
 have hqw : WicksIn w.heap.size w (.slice wa n wc) q.wicks := by have h := HQ.out.1; rw [HN.out] at h; exact h
 obtain ⟨wb, wo, rfl, hwb2, hws⟩ := wicks_words hqw HN.out hn1'
 have HWB := Lib.hid hwb2
 have HWS := Lib.hid hws
 clear hwb2 hws hqw
 have CP := Lib.hid ((Bs.nil w8).push _ rfl (.cells #[.slice none 0 0, .slice none 0 0, .int .i64 0, .int .i64 0, .int .i64 0, .int .i64 0] 32))
 go_upto_region 13 with (first | (refine wpList_store_bs rfl 32 _ _ rfl CP.out 0 _ _ _ _ rfl rfl rfl infoWS rfl (by simp [Value.oneCell']) ?_; intro w9 hC; have D1 : Hid (Bs w8 [(w8.heap.size, .cells #[(.slice (some ⟨wb, wo, none⟩) n wc), (.slice xa q.waxes.length xc), .int .i64 q.flame.1, .int .i64 q.flame.2, .int .i64 q.pool.1, .int .i64 q.pool.2] 32)] w9) := hC; clear hC CP hy0 hy1 hy2 hy3 hy4 hy5; have HO0 : Hid ((w9.alloc (.cells #[] 53)).ownsRow (w8.heap.size + 1) 53 4 (.slice (some ⟨w9.heap.size, 0, none⟩) 0 0) 0 []) := own_empty 53 4 (D1.out.lt 0 rfl); have D2 := Lib.hid (D1.out.alloc (.cells #[] 53)); have hz0 : (w9.alloc (.cells #[] 53)).cell? ⟨w.heap.size + 1, 0, none⟩ = some (.slice (some ⟨wb, wo, none⟩) n wc) := (by have h := (C8.out.call D2.out.bel).cell 1 rfl 0; rw [HN.out] at h; exact h); have HLE : Hid (w8.heap.size + 1 ≤ (w9.alloc (.cells #[] 53)).heap.size) := D2.out.lt 0 rfl; have HNW : Hid (∀ j u, (wickCells q.wicks n)[j]? = some u → (w9.alloc (.cells #[] 53)).cell? ((⟨wb, wo, none⟩ : Addr).add j) = some u) := fun j u hu => (by rw [addr_addU]; exact ((C8.out.call D2.out.bel).bel.cell (p := ⟨wb, wo + j, none⟩) HWB.out).trans (HWS.out j u hu))) | (at_builtin; refine wpList_append_own _ rfl _ _ 27 rfl (w8.heap.size + 1) 53 i0 (.agg #[.string ByteArray.empty, .int .i64 0, .int .i64 0, .int .i64 0]) 4 40 Tryz.underlying27 HI0.out HZ0.out HZ1.out HZ2.out rfl (by decide) _ _ _ rfl HO0.out ⟨wb, wo, none⟩ n wc (wickCells q.wicks n) rfl (by simp [wickCells]) HNW.out wickCells_mem (by unfold maxLen; omega) (by omega) HLE.out ?_; intro v' w12 hown hgrow _; rw [Nat.zero_add, List.nil_append] at hown; have D3 := Lib.hid (D2.out.grownU HO0.out hgrow (Nat.le_succ _) (by intro p hp; simp only [List.mem_singleton] at hp; subst hp; exact ⟨_, _, rfl, by decide⟩)); obtain ⟨gW, cap, cur, rfl, hgb, hgh, hcap, hcs, hcur⟩ := own_some hown (by omega); have D4 : Hid (Bs w8 [(w8.heap.size, .cells #[(.slice (some ⟨wb, wo, none⟩) n wc), (.slice xa q.waxes.length xc), .int .i64 q.flame.1, .int .i64 q.flame.2, .int .i64 q.pool.1, .int .i64 q.pool.2] 32), (gW, .cells cur 53)] w12) := Lib.hid (D3.out.snocU (by intro p hp; simp only [List.mem_singleton] at hp; subst hp; exact hgb) hgh (by omega)); have HCS := Lib.hid hcs; have HCAP := Lib.hid hcap; have HCUR := Lib.hid hcur; clear hown hgrow D1 D2 D3 HO0 HNW HLE hgb hgh hcap hcs hcur hz0) | (refine wpList_cell_bs rfl 27 _ _ rfl D4.out 0 _ 0 _ _ rfl rfl (.slice (some ⟨gW, 0, none⟩) n cap) rfl (by simp) rfl infoWickS ?_; intro w13 hC; have D5 : Hid (Bs w8 [(w8.heap.size, .cells #[.slice (some ⟨gW, 0, none⟩) n cap, (.slice xa q.waxes.length xc), .int .i64 q.flame.1, .int .i64 q.flame.2, .int .i64 q.pool.1, .int .i64 q.pool.2] 32), (gW, .cells cur 53)] w13) := hC; clear hC D4))
 simp only [Act.put]
 obtain ⟨b', o', he, -, -, -, hu1, hu2, -⟩ := HQ.out.1.at' (i := k) (by rw [HN.out]; exact hkn)
 cases he
 have hpull := HWO.out.pull k (by rw [HN.out]; exact hkn)
 obtain ⟨U1, HU1⟩ : ∃ z, Hid ((q.wicks.getD k default).pull.1 = z) := ⟨_, rfl⟩
 obtain ⟨U2, HU2⟩ : ∃ z, Hid ((q.wicks.getD k default).pull.2 = z) := ⟨_, rfl⟩
 rw [HU1.out, HU2.out] at hpull
 have hu1 := hu1.trans (congrArg (fun z => some (Value.int .i64 z)) HU1.out)
 have hu2 := hu2.trans (congrArg (fun z => some (Value.int .i64 z)) HU2.out)
 have hv1 := ((C8.out.call D5.out.bel).bel.cell (p := ⟨wb, wo + k * 4 + 2, none⟩) HWB.out).trans hu1
 have hv2 := ((C8.out.call D5.out.bel).bel.cell (p := ⟨wb, wo + k * 4 + 3, none⟩) HWB.out).trans hu2
 have hz0 : w13.cell? ⟨w.heap.size + 1, 0, none⟩ = some (.slice (some ⟨wb, wo, none⟩) n wc) := by have h := (C8.out.call D5.out.bel).cell 1 rfl 0; rw [HN.out] at h; exact h
 have CP := Lib.hid (D5.out.push _ rfl (.cells #[.int .i64 0, .int .i64 0] 30))
 clear hu1 hu2
 go_upto_region 14 with (refine wpList_store_bs rfl 30 _ _ rfl CP.out 2 _ #[.int .i64 U1, .int .i64 U2] _ _ rfl rfl rfl infoSpan rfl (by simp [Value.oneCell']) ?_; intro w14 hC; have D6 : Hid (Bs w8 [(w8.heap.size, .cells #[.slice (some ⟨gW, 0, none⟩) n cap, (.slice xa q.waxes.length xc), .int .i64 q.flame.1, .int .i64 q.flame.2, .int .i64 q.pool.1, .int .i64 q.pool.2] 32), (gW, .cells cur 53), (w13.heap.size, .cells #[.int .i64 U1, .int .i64 U2] 30)] w14) := hC; clear hC CP D5 hv1 hv2 hz0)
 simp only [Act.put]
 have hd0 := D6.out.cell 0 rfl 0
 have ha0 := D6.out.cell 2 rfl 0
 have ha1 := D6.out.cell 2 rfl 1
 have hp := block_keep HK10.out D6.out.bel
 have hb0 := cell_of_row _ _ 0 _ _ _ hp
 have hb1 := cell_of_row _ _ 1 _ _ _ hp
 have HPU := Lib.hid hpull
 obtain ⟨A1, HA1⟩ : ∃ z, Hid (U1 * P1 = z) := ⟨_, rfl⟩
 obtain ⟨A2, HA2⟩ : ∃ z, Hid (U2 * P2 = z) := ⟨_, rfl⟩
 have hA1 : 0 ≤ A1 ∧ A1 ≤ 1000000 := by rw [← HA1.out]; have := mulb (a := U1) (b := P1) (A := 1000) (B := 1000) (by omega) (by omega); omega
 have hA2 : 0 ≤ A2 ∧ A2 ≤ 1000000 := by rw [← HA2.out]; have := mulb (a := U2) (b := P2) (A := 1000) (B := 1000) (by omega) (by omega); omega
 have hm1 : wrap64 (U1 * P1) = A1 := by rw [HA1.out]; exact wrapU (by omega)
 have hm2 : wrap64 (U2 * P2) = A2 := by rw [HA2.out]; exact wrapU (by omega)
 have HE1 : Hid (max 1 (A1 / 1000) = (weakP (q.wicks.getD k default).pull (P1, P2)).1) := by unfold Hid; simp only [weakP]; rw [HU1.out, HA1.out]
 have HE2 : Hid (max 1 ((A2 + 999) / 1000) = (weakP (q.wicks.getD k default).pull (P1, P2)).2) := by unfold Hid; simp only [weakP]; rw [HU2.out, HA2.out]
 clear hpull hp
 go_upto_region 15 with (first | (refine wpList_bdU rfl 30 _ rfl _ (by simp only [List.map_toArray, List.map]; rfl) _ (run_buildSp ..) ?_) | (refine wpList_mid_bs rfl 30 _ _ rfl D6.out 1 gW (k * 4 + 2) (.int .i64 (weakP (q.wicks.getD k default).pull (P1, P2)).1) (.int .i64 (weakP (q.wicks.getD k default).pull (P1, P2)).2) cur 53 rfl ?_ ?_ infoSpan (by rw [HCS.out]; have := HCAP.out; omega) rfl rfl ?_; (exact rfl); (rw [← HE1.out, ← HE2.out]; exact rfl); intro w15 hC; have D7 : Hid (Bs w8 [(w8.heap.size, .cells #[.slice (some ⟨gW, 0, none⟩) n cap, (.slice xa q.waxes.length xc), .int .i64 q.flame.1, .int .i64 q.flame.2, .int .i64 q.pool.1, .int .i64 q.pool.2] 32), (gW, .cells ((cur.setIfInBounds (k * 4 + 2) (.int .i64 (weakP (q.wicks.getD k default).pull (P1, P2)).1)).setIfInBounds (k * 4 + 2 + 1) (.int .i64 (weakP (q.wicks.getD k default).pull (P1, P2)).2)) 53), (w13.heap.size, .cells #[.int .i64 U1, .int .i64 U2] 30)] w15) := hC; clear hC D6 hd0 ha0 ha1 hb0 hb1))
 simp only [Act.put]
 clear hA1 hA2 hm1 hm2 HE1 HE2 hu1 hu2 HA1 HA2 HPU
 have hkq : k < q.wicks.length := by rw [HN.out]; exact hkn
 have HKQ : Hid (k < (weakW q k (P1, P2)).wicks.length) := by unfold Hid; simpa [weakW] using hkq
 have HP2 : Hid (0 ≤ P1 ∧ P1 ≤ P2 ∧ P2 ≤ 1000) := ⟨hp1, hp12, hp2⟩
 have HWW : Hid (WOk (weakW q k (P1, P2)) c) := weak_ok HWO.out hkq HP2.out
 have HNS : Hid (∀ i, i < n → (q.wicks.getD i default).name.size ≤ 1000000000000000) := fun i hi => by
  obtain ⟨_, _, _, _, _, _, _, _, h⟩ := HQ.out.1.at' (i := i) (by rw [HN.out]; exact hi)
  exact h
 have HWV : Hid (WShopAt w15.heap.size w15 (.slice (some ⟨gW, 0, none⟩) n cap) (.slice xa q.waxes.length xc) (weakW q k (P1, P2))) := ⟨wicks_of_block (D7.out.get 1 rfl) (by simp [weakW, HN.out]) HCAP.out (by omega) (weak_cells HN.out hkn (P1, P2) (fun j hj => by rw [HCUR.out j hj, wickCells_get _ hj]) (by rw [HCS.out]; have := HCAP.out; omega)) (fun i hi => by
  rw [weak_get q hkq]
  split
  ·rename_i h; subst h; exact HNS.out _ hi
  ·exact HNS.out _ hi), (HQ.out.2.below (C8.out.call D7.out.bel).bel).mono (C8.out.call D7.out.bel).bel.size⟩
 have HFA := Lib.hid (Faults_ok HWW.out k HKQ.out (.slice (some ⟨gW, 0, none⟩) n cap) (.slice xa q.waxes.length xc) w15 HWV.out)
 have hs0 := D7.out.cell 0 rfl 0
 have hs1 := D7.out.cell 0 rfl 1
 have hs2 := D7.out.cell 0 rfl 2
 have hs3 := D7.out.cell 0 rfl 3
 have hs4 := D7.out.cell 0 rfl 4
 have hs5 := D7.out.cell 0 rfl 5
 have hk11 := block_keep HK11.out D7.out.bel
 have hk0 := cell_of_row _ _ 0 _ _ _ hk11
 have hk1 := cell_of_row _ _ 1 _ _ _ hk11
 have hk2 := cell_of_row _ _ 2 _ _ _ hk11
 have hk3 := cell_of_row _ _ 3 _ _ _ hk11
 have hk4 := cell_of_row _ _ 4 _ _ _ hk11
 clear hk11 hkq
 go_wp2_with fail
 refine HFA.out.mono ?_
 rintro e w16 ⟨fv, rfl, hi, hb⟩
 have D8 := Lib.hid (D7.out.call hb)
 have C16 := Lib.hid (C8.out.call D8.out.bel)
 have HK11 := Lib.hid (block_keep HK11.out D8.out.bel)
 have HK13 := Lib.hid (D8.out.get 0 rfl)
 have HWV := Lib.hid (HWV.out.next hb)
 have HF := Lib.hid hi
 have HB3 := Lib.hid (HB8.out.trans (D8.out.bel.mono HB8.out.size))
 clear hb hi D7 D8 C8 HK10 HB8 HCS HCAP HCUR HFA HNS hs0 hs1 hs2 hs3 hs4 hs5 hk0 hk1 hk2 hk3 hk4
 have E0 : Hid (Bs w16 [] w16) := Bs.nil w16
 obtain ⟨fa, fc, rfl, -⟩ := id HF.out
 obtain ⟨bb, bo, rfl, hbb, g1, g2, g3, hd1, hd2, hd3, hwt⟩ := weighU HGD.out hLl HL.out
 have HD1 := Lib.hid hd1
 have HD2 := Lib.hid hd2
 have HD3 := Lib.hid hd3
 have HWC := Lib.hid hwt
 have HBBL := Lib.hid hbb
 clear hd1 hd2 hd3 hwt hbb
 go_wp2_with fail
 refine wp_region_inv1 (by kernel_rfl) (by kernel_rfl) [146, 147, 136, 148, 16] (fun D y w' => CalW w16 (IsTru X1) (IsInts M1) (.int .i64 0) (D 9) (D 10) (D 11) (D 12) (D 14) (y 146) (y 147) (y 136) (y 148) (y 16) w') (CalW.start _) ?L1 ?hL1 ?_
 case hL1 =>
  intro y
  simp only [fill, List.foldl, Act.put, List.setIfInBounds_toArray, List.set]
  exact rfl
 apply obl_det
 case hrun =>
  intro D y wz hW hD R hR
  have HRR := Lib.hid hR
  clear hR
  have HW := Lib.hid hW
  clear hW hD
  refine wpList_load_want rfl 25 _ rfl _ rfl _ _ _ _ ((C16.out.call HW.out.bel).get 0 rfl) Tryz.underlying25 rfl info25 ?_
  go_simp
  exact HRR.out _ HW.out
 case hnp => rfl
 case hv => first | exact ⟨_, fun _ => rfl⟩ | exact ⟨undef, fun _ => rfl⟩
 iterate 2
  (apply obl_det
   case hrun =>
    intro D y wz hW hD R hR
    have HRR := Lib.hid hR
    clear hR
    have HW := Lib.hid hW
    clear hW hD
    go_wp2_with fail
    exact HRR.out _ HW.out
   case hnp => rfl
   case hv => first | exact ⟨_, fun _ => rfl⟩ | exact ⟨undef, fun _ => rfl⟩)
 apply obl_det
 case hrun =>
  intro D y wz hW hD R hR
  have HRR := Lib.hid hR
  clear hR
  have HW := Lib.hid hW
  clear hW hD
  refine wpList_load_want rfl 25 _ rfl _ rfl _ _ _ _ ((C16.out.call HW.out.bel).get 0 rfl) Tryz.underlying25 rfl info25 ?_
  go_simp
  exact HRR.out _ HW.out
 case hnp => rfl
 case hv => first | exact ⟨_, fun _ => rfl⟩ | exact ⟨undef, fun _ => rfl⟩
 iterate 4
  (apply obl_det
   case hrun =>
    intro D y wz hW hD R hR
    have HRR := Lib.hid hR
    clear hR
    have HW := Lib.hid hW
    clear hW hD
    go_wp2_with fail
    exact HRR.out _ HW.out
   case hnp => rfl
   case hv => first | exact ⟨_, fun _ => rfl⟩ | exact ⟨undef, fun _ => rfl⟩)
 apply obl_det
 case hrun =>
  intro D y wz hW hD R hR
  have HRR := Lib.hid hR
  clear hR
  have HW := Lib.hid hW
  have h1 := (C16.out.call HW.out.bel).cell 1 rfl 22
  clear hW hD
  go_wp2_with fail
  exact HRR.out _ HW.out
 case hnp => rfl
 case hv => first | exact ⟨_, fun _ => rfl⟩ | exact ⟨undef, fun _ => rfl⟩
 apply obl_priv 146
 case hd => rfl
 case hp => rfl
 case hrun =>
  intro D y wz hW hD R hR
  have HRR := Lib.hid hR
  clear hR
  have HW := Lib.hid hW
  clear hW hD
  have HC := Lib.hid (HT1.out wz (HB3.out.trans (HW.out.bel.mono HB3.out.size)))
  go_wp2_with fail
  refine HC.out.mono ?_
  rintro e w' ⟨t, rfl, hi, hb⟩
  have HN := Lib.hid ((CalW.next (stab_tru _) (stab_ints _) HW.out hb).putA hi)
  clear hb
  go_wp2_with fail
  refine HRR.out _ _ ?_
  show CalW w16 (IsTru X1) (IsInts M1) (.int .i64 0) true (D 10) (D 11) (D 12) (D 14) _ (y 147) (y 136) (y 148) (y 16) _
  exact HN.out
 apply obl_priv 147
 case hd => rfl
 case hp => rfl
 case hrun =>
  intro D y wz hW hD R hR
  have HRR := Lib.hid hR
  clear hR
  have HW := Lib.hid hW
  have HA := Lib.hid (hW.a (hD.pre _ 9 rfl (by kernel_rfl)))
  clear hW hD
  have HC := Lib.hid (HM1.out wz _ (HB3.out.trans (HW.out.bel.mono HB3.out.size)) HA.out)
  go_wp2_with fail
  refine HC.out.mono ?_
  rintro e w' ⟨v, rfl, hi, hb⟩
  have HN := Lib.hid ((CalW.next (stab_tru _) (stab_ints _) HW.out hb).putB hi)
  clear hb
  go_wp2_with fail
  refine HRR.out _ _ ?_
  show CalW w16 (IsTru X1) (IsInts M1) (.int .i64 0) (D 9) true (D 11) (D 12) (D 14) (y 146) _ (y 136) (y 148) (y 16) _
  exact HN.out
 apply obl_priv 136
 case hd => rfl
 case hp => rfl
 case hrun =>
  intro D y wz hW hD R hR
  have HRR := Lib.hid hR
  clear hR
  refine wpList_mv rfl _ rfl (y 147) rfl ?_
  refine HRR.out (y 147) _ ?_
  exact hW.putM (hD.pre _ 10 rfl (by kernel_rfl))
 apply obl_priv 148
 case hd => rfl
 case hp => rfl
 case hrun =>
  intro D y wz hW hD R hR
  have HRR := Lib.hid hR
  clear hR
  obtain ⟨v, e, hv⟩ := hW.m (hD.pre _ 11 rfl (by kernel_rfl))
  refine wpList_ex rfl _ 0 rfl _ e v rfl ?_
  refine HRR.out v _ ?_
  exact hW.putX hv
 apply obl_det
 case hrun =>
  intro D y wz hW hD R hR
  have HRR := Lib.hid hR
  clear hR
  have HW := Lib.hid hW
  obtain ⟨v, e, -⟩ := hW.m (hD.pre _ 11 rfl (by kernel_rfl))
  have HE := Lib.hid e
  clear e
  clear hW hD
  refine wpList_ex rfl _ 1 rfl _ HE.out (.int .i64 0) rfl ?_
  exact HRR.out _ HW.out
 case hnp => rfl
 case hv => first | exact ⟨_, fun _ => rfl⟩ | exact ⟨undef, fun _ => rfl⟩
 apply obl_priv 16
 case hd => rfl
 case hp => rfl
 case hrun =>
  intro D y wz hW hD R hR
  have HRR := Lib.hid hR
  clear hR
  refine wpList_as rfl _ rfl (y 148) rfl ?_
  refine HRR.out (y 148) _ ?_
  exact hW.putS (hD.pre _ 12 rfl (by kernel_rfl))
 apply obl_det
 case hrun =>
  intro D y wz hW hD R hR
  have HRR := Lib.hid hR
  clear hR
  have HW := Lib.hid hW
  clear hW hD
  go_wp2_with fail
  exact HRR.out _ HW.out
 case hnp => rfl
 case hv => first | exact ⟨_, fun _ => rfl⟩ | exact ⟨undef, fun _ => rfl⟩
 apply obl_nil
 intro D y w17 hall hW
 have HPB := Lib.hid (hW.s (hall 14 (by decide)))
 have HBW := Lib.hid hW.bel
 clear hW hall
 generalize y 146 = y146 at *
 generalize y 147 = y147 at *
 generalize y 136 = y136 at *
 generalize y 148 = y148 at *
 generalize y 16 = y16 at *
 have HP1 := Lib.hid HPB.out
 have C17 := Lib.hid (C16.out.call HBW.out)
 have E1 := Lib.hid (E0.out.call HBW.out)
 clear HBW C16 E0 HPB HT1 HM1 HB3
 obtain ⟨z1, q1, rfl⟩ := HP1.out.shape HHM.out
 have hq2 : ((s.things.length : Int) != (s.things.length : Int)) = false := by simp
 have hc0 := C17.out.cell 0 rfl 0
 by_cases hf : faultsV (weakW q k (P1, P2)) c k = []
 case neg =>
  have hfl : 0 < (faultsV (weakW q k (P1, P2)) c k).length := List.length_pos_iff.2 hf
  generalize (faultsV (weakW q k (P1, P2)) c k).length = FL at *
  have hfl2 : (0 : Int) < (FL : Int) := by omega
  clear hf hfl
  go_wp2_with fail
  refine (awake3_any _).mono ?_
  rintro e wa1 ⟨rfl, hb⟩
  have CA := Lib.hid (C17.out.call hb)
  clear hb
  go_wp2_with fail
  refine (awake_any _).mono ?_
  rintro e wa2 ⟨rfl, hb⟩
  have CB := Lib.hid (CA.out.call hb)
  clear hb
  go_wp2_with fail
  go_ret
  exact ⟨rfl, CB.out.bel⟩
 have HFN := Lib.hid hf
 rw [hf]
 simp only [List.length_nil]
 clear hf
 have HTR := Lib.hid (truth12w HWO.out k (by rw [HN.out]; exact hkn) X HXB.out (.slice (some ⟨wb, wo, none⟩) q.wicks.length wc) (.slice xa q.waxes.length xc) w17 ((HQ.out.below C17.out.bel).mono C17.out.bel.size))
 obtain ⟨TR, HTRU⟩ : ∃ z, Hid (wtruthV q k c X = z) := ⟨_, rfl⟩
 rw [HTRU.out] at HTR
 have hk11 := block_keep HK11.out E1.out.bel
 have hk0 := cell_of_row _ _ 0 _ _ _ hk11
 have hk1 := cell_of_row _ _ 1 _ _ _ hk11
 have hk2 := cell_of_row _ _ 2 _ _ _ hk11
 have hk3 := cell_of_row _ _ 3 _ _ _ hk11
 have hk4 := cell_of_row _ _ 4 _ _ _ hk11
 have ht0 := C17.out.cell 1 rfl 0
 have ht1 := C17.out.cell 1 rfl 1
 have ht2 := C17.out.cell 1 rfl 2
 have ht3 := C17.out.cell 1 rfl 3
 have ht4 := C17.out.cell 1 rfl 4
 have ht5 := C17.out.cell 1 rfl 5
 have ht12 := C17.out.cell 1 rfl 12
 have ht13 := C17.out.cell 1 rfl 13
 have ht14 := C17.out.cell 1 rfl 14
 have ht15 := C17.out.cell 1 rfl 15
 have ht16 := C17.out.cell 1 rfl 16
 have ht17 := C17.out.cell 1 rfl 17
 clear hk11
 go_wp2_with fail
 refine HTR.out.mono ?_
 rintro e w18 ⟨rfl, hb⟩
 have C18 := Lib.hid (C17.out.call hb)
 have E2 := Lib.hid (E1.out.call hb)
 have HP1 := Lib.hid (IntsIn.next HP1.out hb)
 have HK11 := Lib.hid (block_keep HK11.out E2.out.bel)
 have HK13 := Lib.hid (block_keep HK13.out E2.out.bel)
 have HWV := Lib.hid (HWV.out.next E2.out.bel)
 clear hb C17 E1 E2 HTR hc0 hq2 HF hk0 hk1 hk2 hk3 hk4 ht0 ht1 ht2 ht3 ht4 ht5 ht12 ht13 ht14 ht15 ht16 ht17
 have CP := Lib.hid ((Bs.nil w18).push _ rfl (.cells #[.int .i64 0, .int .i64 0, .int .i64 0, .int .i64 0, .int .i64 0, .int .i64 0] 63))
 go_upto_region 22 with (refine wpList_store_bs rfl 63 _ _ rfl CP.out 0 _ #[.int .i64 TR.pull, .int .i64 TR.flow, .int .i64 TR.rise, .int .i64 TR.spread, .int .i64 TR.draught, .int .i64 TR.cold] _ _ rfl rfl rfl infoTru rfl (by simp [Value.oneCell']) ?_; intro w19 hC; have G1 : Hid (Bs w18 [(w18.heap.size, .cells #[.int .i64 TR.pull, .int .i64 TR.flow, .int .i64 TR.rise, .int .i64 TR.spread, .int .i64 TR.draught, .int .i64 TR.cold] 63)] w19) := hC; clear hC CP)
 simp only [Act.put]
 have hd1 := ((C18.out.call G1.out.bel).bel.cell (p := ⟨bb, bo + L * 3, none⟩) HBBL.out).trans HD1.out
 have hd2 := ((C18.out.call G1.out.bel).bel.cell (p := ⟨bb, bo + L * 3 + 1, none⟩) HBBL.out).trans HD2.out
 have hd3 := ((C18.out.call G1.out.bel).bel.cell (p := ⟨bb, bo + L * 3 + 2, none⟩) HBBL.out).trans HD3.out
 go_wp2_with fail
 refine (HWC.out _ (C18.out.call G1.out.bel).bel).mono ?_
 rintro e w20 ⟨rfl, hb⟩
 have G2 := Lib.hid (G1.out.call hb)
 clear hb G1 hd1 hd2 hd3 HD1 HD2 HD3 HWC HBBL
 rw [HWT.out]
 go_wp2_with fail
 obtain ⟨W1, HW1⟩ : ∃ z, Hid (1000 * WT = z) := ⟨_, rfl⟩
 have hw1 : 1000 ≤ W1 ∧ W1 ≤ 1200000000 := by rw [← HW1.out]; omega
 rw [HW1.out]
 obtain ⟨W2, HW2⟩ : ∃ z, Hid (1000 * W1 = z) := ⟨_, rfl⟩
 have hw2 : 1000000 ≤ W2 ∧ W2 ≤ 1200000000000 := by rw [← HW2.out]; omega
 obtain ⟨MX, HMX⟩ : ∃ z, Hid (max 0 (W2 - WK) = z) := ⟨_, rfl⟩
 have hmx : 0 ≤ MX ∧ MX ≤ 1200000000000 := by rw [← HMX.out]; omega
 have htu := among_in (p := wpull q k) (by have := HWO.out.pull k (by rw [HN.out]; exact hkn); show (q.wicks.getD k default).pull.1 ≤ (q.wicks.getD k default).pull.2; omega) (X 0)
 have htp : TR.pull = amongW (wpull q k) (X 0) := by rw [← HTRU.out]; rfl
 have HTB : Hid (U1 ≤ TR.pull ∧ TR.pull ≤ U2) := by unfold Hid; rw [htp, ← HU1.out, ← HU2.out]; exact htu
 have HUB : Hid (1 ≤ U1 ∧ U2 ≤ 1000) := by have := HWO.out.pull k (by rw [HN.out]; exact hkn); unfold Hid; rw [← HU1.out, ← HU2.out]; omega
 obtain ⟨DR, HDR⟩ : ∃ z, Hid (TR.pull * MX = z) := ⟨_, rfl⟩
 have hdr : 0 ≤ DR ∧ DR ≤ 1200000000000000 := by rw [← HDR.out]; have h1 := HTB.out; have h2 := HUB.out; have := mulb (a := TR.pull) (b := MX) (A := 1000) (B := 1200000000000) (by omega) (by omega); omega
 have HWD : Hid (wrap64 (TR.pull * MX) = DR) := by unfold Hid; rw [HDR.out]; exact wrapU (by omega)
 clear htu htp
 have HBW1 := Lib.hid hw1
 have HBW2 := Lib.hid hw2
 have HBDR := Lib.hid hdr
 have HBK := Lib.hid hkb
 clear hw1 hw2 hdr hkb hmx hwb hp1 hp2 hp12
 have HWC := fun wz h1 h2 => Lib.hid (weakness_ref s M1 (.slice ta s.things.length tc) (.slice la s.lots.length lc) (.slice z1 s.things.length q1) wz h1 h2 HGD.out.sh (by rw [HHM.out]; exact Nat.le_refl _) HMM.out)
 refine wp_region_inv0 (by kernel_rfl) (by kernel_rfl) (fun D w' => Bs w18 [(w18.heap.size, .cells #[.int .i64 TR.pull, .int .i64 TR.flow, .int .i64 TR.rise, .int .i64 TR.spread, .int .i64 TR.draught, .int .i64 TR.cold] 63)] w') G2.out.drew ?_
 apply obl_det
 case hrun =>
  intro D y wz hW hD R hR
  have HRR := Lib.hid hR
  clear hR
  have HW := Lib.hid hW
  clear hW hD
  go_wp2_with fail
  exact HRR.out _ HW.out
 case hnp => rfl
 case hv => first | exact ⟨_, fun _ => rfl⟩ | exact ⟨undef, fun _ => rfl⟩
 apply obl_det
 case hrun =>
  intro D y wz hW hD R hR
  have HRR := Lib.hid hR
  clear hR
  have HW := Lib.hid hW
  have h1 := HW.out.cell 0 rfl 0
  clear hW hD
  go_wp2_with fail
  exact HRR.out _ HW.out
 case hnp => rfl
 case hv => first | exact ⟨_, fun _ => rfl⟩ | exact ⟨undef, fun _ => rfl⟩
 apply obl_det
 case hrun =>
  intro D y wz hW hD R hR
  have HRR := Lib.hid hR
  clear hR
  have HW := Lib.hid hW
  clear hW hD
  go_wp2_with fail
  exact HRR.out _ HW.out
 case hnp => rfl
 case hv => first | exact ⟨_, fun _ => rfl⟩ | exact ⟨undef, fun _ => rfl⟩
 apply obl_det
 case hrun =>
  intro D y wz hW hD R hR
  have HRR := Lib.hid hR
  clear hR
  have HW := Lib.hid hW
  have h1 := HBW1.out
  clear hW hD
  go_wp2_with fail
  rw [HW2.out]
  exact HRR.out _ HW.out
 case hnp => rfl
 case hv => first | exact ⟨_, fun _ => rfl⟩ | exact ⟨undef, fun _ => rfl⟩
 apply obl_det
 case hrun =>
  intro D y wz hW hD R hR
  have HRR := Lib.hid hR
  clear hR
  have HW := Lib.hid hW
  have hZ := Lib.hid (C18.out.call HW.out.bel)
  have h1 := hZ.out.cell 0 rfl 0
  have h2 := hZ.out.cell 0 rfl 1
  clear hW hD
  go_wp2_with fail
  exact HRR.out _ HW.out
 case hnp => rfl
 case hv => first | exact ⟨_, fun _ => rfl⟩ | exact ⟨undef, fun _ => rfl⟩
 apply obl_det
 case hrun =>
  intro D y wz hW hD R hR
  have HRR := Lib.hid hR
  clear hR
  have HW := Lib.hid hW
  clear hW hD
  go_wp2_with fail
  exact HRR.out _ HW.out
 case hnp => rfl
 case hv => first | exact ⟨_, fun _ => rfl⟩ | exact ⟨undef, fun _ => rfl⟩
 apply obl_det
 case hrun =>
  intro D y wz hW hD R hR
  have HRR := Lib.hid hR
  clear hR
  have HW := Lib.hid hW
  clear hW hD
  go_wp2_with fail
  refine (HWC _ ((HS.out.below (C18.out.call HW.out.bel).bel).mono (C18.out.call HW.out.bel).bel.size) ((HP1.out.below HW.out.bel).mono HW.out.bel.size)).out.mono ?_
  rintro e w' ⟨rfl, hb⟩
  have HW2' := Lib.hid (HW.out.call hb)
  clear hb
  rw [HWK.out]
  go_wp2_with fail
  exact HRR.out _ HW2'.out
 case hnp => rfl
 case hv => first | exact ⟨_, fun _ => rfl⟩ | exact ⟨undef, fun _ => rfl⟩
 apply obl_det
 case hrun =>
  intro D y wz hW hD R hR
  have HRR := Lib.hid hR
  clear hR
  have HW := Lib.hid hW
  have h1 := HBW2.out
  have h2 := HBK.out
  clear hW hD
  go_wp2_with fail
  exact HRR.out _ HW.out
 case hnp => rfl
 case hv => first | exact ⟨_, fun _ => rfl⟩ | exact ⟨undef, fun _ => rfl⟩
 apply obl_det
 case hrun =>
  intro D y wz hW hD R hR
  have HRR := Lib.hid hR
  clear hR
  have HW := Lib.hid hW
  clear hW hD
  go_wp2_with fail
  rw [HMX.out]
  exact HRR.out _ HW.out
 case hnp => rfl
 case hv => first | exact ⟨_, fun _ => rfl⟩ | exact ⟨undef, fun _ => rfl⟩
 apply obl_det
 case hrun =>
  intro D y wz hW hD R hR
  have HRR := Lib.hid hR
  clear hR
  have HW := Lib.hid hW
  clear hW hD
  go_wp2_with fail
  first | rw [HWD.out] | rw [HDR.out]
  exact HRR.out _ HW.out
 case hnp => rfl
 case hv => first | exact ⟨_, fun _ => rfl⟩ | exact ⟨undef, fun _ => rfl⟩
 apply obl_det
 case hrun =>
  intro D y wz hW hD R hR
  have HRR := Lib.hid hR
  clear hR
  have HW := Lib.hid hW
  clear hW hD
  go_wp2_with fail
  exact HRR.out _ HW.out
 case hnp => rfl
 case hv => first | exact ⟨_, fun _ => rfl⟩ | exact ⟨undef, fun _ => rfl⟩
 apply obl_det
 case hrun =>
  intro D y wz hW hD R hR
  have HRR := Lib.hid hR
  clear hR
  have HW := Lib.hid hW
  have h1 := HBW1.out
  clear hW hD
  go_wp2_with fail
  rw [HW2.out]
  exact HRR.out _ HW.out
 case hnp => rfl
 case hv => first | exact ⟨_, fun _ => rfl⟩ | exact ⟨undef, fun _ => rfl⟩
 iterate 2
  (apply obl_det
   case hrun =>
    intro D y wz hW hD R hR
    have HRR := Lib.hid hR
    clear hR
    have HW := Lib.hid hW
    clear hW hD
    go_wp2_with fail
    exact HRR.out _ HW.out
   case hnp => rfl
   case hv => first | exact ⟨_, fun _ => rfl⟩ | exact ⟨undef, fun _ => rfl⟩)
 apply obl_nil
 intro D y w21 hall hW
 have G3 : Hid (Bs w18 [(w18.heap.size, .cells #[.int .i64 TR.pull, .int .i64 TR.flow, .int .i64 TR.rise, .int .i64 TR.spread, .int .i64 TR.draught, .int .i64 TR.cold] 63)] w21) := hW
 clear hall hW G2 HWC
 go_wp2_with fail
 obtain ⟨SZ, HSZ⟩ : ∃ z, Hid (w21.heap.size = z) := ⟨_, rfl⟩
 obtain ⟨Q1, HQ1⟩ : ∃ z, Hid (DR / W2 = z) := ⟨_, rfl⟩
 obtain ⟨EA, HEA⟩ : ∃ z, Hid (max 1 Q1 = z) := ⟨_, rfl⟩
 obtain ⟨SM, HSM⟩ : ∃ z, Hid (DR + W2 - 1 = z) := ⟨_, rfl⟩
 obtain ⟨Q2, HQ2⟩ : ∃ z, Hid (SM / W2 = z) := ⟨_, rfl⟩
 obtain ⟨EB, HEB⟩ : ∃ z, Hid (max 1 Q2 = z) := ⟨_, rfl⟩
 have HBS : Hid (0 ≤ SM ∧ SM ≤ 2000000000000000) := by have h1 := HBDR.out; have h2 := HBW2.out; unfold Hid; rw [← HSM.out]; omega
 have HQ1t : Hid (DR.tdiv W2 = Q1) := by unfold Hid; rw [Int.tdiv_eq_ediv_of_nonneg HBDR.out.1, HQ1.out]
 have HQ2t : Hid (SM.tdiv W2 = Q2) := by unfold Hid; rw [Int.tdiv_eq_ediv_of_nonneg HBS.out.1, HQ2.out]
 have HEAB : Hid (((weakP (q.wicks.getD k default).pull (P1, P2)).1 ≤ EA ∧ EA ≤ (weakP (q.wicks.getD k default).pull (P1, P2)).2) ∧ ((weakP (q.wicks.getD k default).pull (P1, P2)).1 ≤ EB ∧ EB ≤ (weakP (q.wicks.getD k default).pull (P1, P2)).2)) := by
  have e1 : W1 * P1 ≤ MX := by rw [← HMX.out, ← HW2.out, ← HW1.out]; have := HL1.out; omega
  have e2 : MX ≤ W1 * P2 := by rw [← HMX.out, ← HW2.out, ← HW1.out]; have := HL2.out; omega
  have h := scented_pull (T := TR.pull) (w := W1) (M := MX) (pull := (q.wicks.getD k default).pull) (left := (P1, P2)) (by rw [HU1.out]; exact HUB.out.1) (by rw [HU1.out]; exact HTB.out.1) (by rw [HU2.out]; exact HTB.out.2) (by have := HBW1.out; omega) HP2.out.1 e1 e2
  rw [HDR.out, HW2.out] at h
  unfold Hid
  rw [← HEA.out, ← HEB.out, ← HQ1.out, ← HQ2.out, ← HSM.out]
  exact h
 refine wp_region_inv0 (by kernel_rfl) (by kernel_rfl) (fun D w' => Bs w18 (cond (D 11) [(w18.heap.size, .cells #[.int .i64 TR.pull, .int .i64 TR.flow, .int .i64 TR.rise, .int .i64 TR.spread, .int .i64 TR.draught, .int .i64 TR.cold] 63), (SZ, .cells #[.int .i64 EA, .int .i64 EB] 3)] [(w18.heap.size, .cells #[.int .i64 TR.pull, .int .i64 TR.flow, .int .i64 TR.rise, .int .i64 TR.spread, .int .i64 TR.draught, .int .i64 TR.cold] 63)]) w' ∧ (D 11 = false → w'.heap.size = SZ)) ⟨G3.out.drew, fun _ => HSZ.out⟩ ?_
 iterate 2
  (apply obl_det
   case hrun =>
    intro D y wz hW hD R hR
    have HRR := Lib.hid hR
    clear hR
    have HW := Lib.hid hW
    clear hW hD
    go_wp2_with fail
    exact HRR.out _ HW.out
   case hnp => rfl
   case hv => first | exact ⟨_, fun _ => rfl⟩ | exact ⟨undef, fun _ => rfl⟩)
 apply obl_det
 case hrun =>
  intro D y wz hW hD R hR
  have HRR := Lib.hid hR
  clear hR
  have HW := Lib.hid hW
  have h1 := HBW2.out
  have h2 := HBDR.out
  clear hW hD
  go_wp2_with fail
  first | rw [HQ1.out] | rw [HQ1t.out]
  exact HRR.out _ HW.out
 case hnp => rfl
 case hv => first | exact ⟨_, fun _ => rfl⟩ | exact ⟨undef, fun _ => rfl⟩
 apply obl_det
 case hrun =>
  intro D y wz hW hD R hR
  have HRR := Lib.hid hR
  clear hR
  have HW := Lib.hid hW
  clear hW hD
  go_wp2_with fail
  rw [HEA.out]
  exact HRR.out _ HW.out
 case hnp => rfl
 case hv => first | exact ⟨_, fun _ => rfl⟩ | exact ⟨undef, fun _ => rfl⟩
 iterate 2
  (apply obl_det
   case hrun =>
    intro D y wz hW hD R hR
    have HRR := Lib.hid hR
    clear hR
    have HW := Lib.hid hW
    clear hW hD
    go_wp2_with fail
    exact HRR.out _ HW.out
   case hnp => rfl
   case hv => first | exact ⟨_, fun _ => rfl⟩ | exact ⟨undef, fun _ => rfl⟩)
 apply obl_det
 case hrun =>
  intro D y wz hW hD R hR
  have HRR := Lib.hid hR
  clear hR
  have HW := Lib.hid hW
  have h1 := HBW2.out
  have h2 := HBDR.out
  clear hW hD
  go_wp2_with fail
  exact HRR.out _ HW.out
 case hnp => rfl
 case hv => first | exact ⟨_, fun _ => rfl⟩ | exact ⟨undef, fun _ => rfl⟩
 apply obl_det
 case hrun =>
  intro D y wz hW hD R hR
  have HRR := Lib.hid hR
  clear hR
  have HW := Lib.hid hW
  have h1 := HBW2.out
  have h2 := HBDR.out
  clear hW hD
  go_wp2_with fail
  rw [HSM.out]
  exact HRR.out _ HW.out
 case hnp => rfl
 case hv => first | exact ⟨_, fun _ => rfl⟩ | exact ⟨undef, fun _ => rfl⟩
 apply obl_det
 case hrun =>
  intro D y wz hW hD R hR
  have HRR := Lib.hid hR
  clear hR
  have HW := Lib.hid hW
  clear hW hD
  go_wp2_with fail
  exact HRR.out _ HW.out
 case hnp => rfl
 case hv => first | exact ⟨_, fun _ => rfl⟩ | exact ⟨undef, fun _ => rfl⟩
 apply obl_det
 case hrun =>
  intro D y wz hW hD R hR
  have HRR := Lib.hid hR
  clear hR
  have HW := Lib.hid hW
  have h1 := HBW2.out
  have h2 := HBS.out
  clear hW hD
  go_wp2_with fail
  first | rw [HQ2.out] | rw [HQ2t.out]
  exact HRR.out _ HW.out
 case hnp => rfl
 case hv => first | exact ⟨_, fun _ => rfl⟩ | exact ⟨undef, fun _ => rfl⟩
 apply obl_det
 case hrun =>
  intro D y wz hW hD R hR
  have HRR := Lib.hid hR
  clear hR
  have HW := Lib.hid hW
  clear hW hD
  go_wp2_with fail
  rw [HEB.out]
  exact HRR.out _ HW.out
 case hnp => rfl
 case hv => first | exact ⟨_, fun _ => rfl⟩ | exact ⟨undef, fun _ => rfl⟩
 apply obl_det
 case hrun =>
  intro D y wz hW hD R hR
  have HRR := Lib.hid hR
  clear hR
  have h0 : D 11 = false := hD.not
  have hsz := hW.2 h0
  have hW1 := hW.1
  rw [h0] at hW1
  have HSI := Lib.hid hsz
  have HW1 := Lib.hid hW1
  clear h0 hsz hW1
  have HW := Lib.hid hW
  clear hW hD
  have HP := Lib.hid (HW1.out.push _ rfl (.cells #[.int .i64 EA, .int .i64 EB] 3))
  rw [HSI.out] at HP
  go_wp2_with fail
  rw [HSI.out]
  exact HRR.out _ ⟨HP.out, fun h => Bool.noConfusion (show true = false from h)⟩
 case hnp => rfl
 case hv => first | exact ⟨_, fun _ => rfl⟩ | exact ⟨undef, fun _ => rfl⟩
 apply obl_det
 case hrun =>
  intro D y wz hW hD R hR
  have HRR := Lib.hid hR
  clear hR
  have HW := Lib.hid hW
  clear hW hD
  go_wp2_with fail
  exact HRR.out _ HW.out
 case hnp => rfl
 case hv => first | exact ⟨_, fun _ => rfl⟩ | exact ⟨undef, fun _ => rfl⟩
 apply obl_nil
 intro D y w22 hall hW
 have h1 := hW.1
 rw [hall 11 (by decide)] at h1
 have G4 : Hid (Bs w18 [(w18.heap.size, .cells #[.int .i64 TR.pull, .int .i64 TR.flow, .int .i64 TR.rise, .int .i64 TR.spread, .int .i64 TR.draught, .int .i64 TR.cold] 63), (SZ, .cells #[.int .i64 EA, .int .i64 EB] 3)] w22) := h1
 have HST : Hid (∀ e, (weakP (q.wicks.getD k default).pull (P1, P2)).1 ≤ e ∧ e ≤ (weakP (q.wicks.getD k default).pull (P1, P2)).2 → trueW (waxOf (weakW q k (P1, P2)) c) c (wpull (weakW q k (P1, P2)) k) { TR with pull := e } = true ∧ wrongV (weakW q k (P1, P2)) c (burnV (waxOf (weakW q k (P1, P2)) c) { TR with pull := e }) (burnV (waxOf (weakW q k (P1, P2)) c) { TR with pull := e }) = []) := fun e he => by
  have h := scented_true HWO.out (k := k) (by rw [HN.out]; exact hkn) (left := (P1, P2)) X (e := e) he
  have h2 := scented_wrong HWO.out (k := k) (by rw [HN.out]; exact hkn) HP2.out X (e := e) he HFN.out
  rw [HTRU.out] at h h2
  exact ⟨h, h2⟩
 clear hall hW h1 G3 HSZ HQ1 HQ1t HQ2 HQ2t HEA HEB HSM HBS HBDR HBW1 HBW2 HBK HW1 HW2 HMX HDR HWD HTB HUB HL1 HL2 HMM HHM HP1 HWT HWK HU1 HU2
 go_wp2_with fail
 go_loopw [23] (fun iv wr => ∃ (i : Nat) (E : Int), iv = .int .i64 i ∧ i ≤ 2 ∧ Bs w18 [(w18.heap.size, .cells #[.int .i64 E, .int .i64 TR.flow, .int .i64 TR.rise, .int .i64 TR.spread, .int .i64 TR.draught, .int .i64 TR.cold] 63), (SZ, .cells #[.int .i64 EA, .int .i64 EB] 3)] wr) (fun iv _ => 2 - (intOf iv).toNat)
 case atStart => exact ⟨0, _, rfl, by omega, G4.out⟩
 case round =>
  clear G4
  obtain ⟨i, E, rfl, hi, hbs⟩ := hrel
  have CI := Lib.hid hbs
  clear hbs
  by_cases hi2 : i < 2
  ·have hii : (i : Int) < 2 := by omega
   obtain ⟨EE, hee, HEE⟩ : ∃ EE : Int, wr.cell? ⟨SZ, i, none⟩ = some (.int .i64 EE) ∧ Hid ((weakP (q.wicks.getD k default).pull (P1, P2)).1 ≤ EE ∧ EE ≤ (weakP (q.wicks.getD k default).pull (P1, P2)).2) := by
    have h01 : i = 0 ∨ i = 1 := by omega
    rcases h01 with rfl | rfl
    ·exact ⟨EA, CI.out.cell 1 rfl 0, HEAB.out.1⟩
    ·exact ⟨EB, CI.out.cell 1 rfl 1, HEAB.out.2⟩
   obtain ⟨hst, hsw⟩ := HST.out EE HEE.out
   have HPB := Lib.hid (pool_b (HWW.out.bok HKQ.out) hst).1
   have HAT := fun w h => Lib.hid (at_ok HWW.out k HKQ.out { TR with pull := EE } hst (.slice (some ⟨gW, 0, none⟩) n cap) (.slice xa q.waxes.length xc) w h)
   have HSW := Lib.hid hsw
   clear hst hsw
   generalize burnV (waxOf (weakW q k (P1, P2)) c) { TR with pull := EE } = BV at *
   obtain ⟨hf1, hf2, hf3, hf4⟩ := wrong_nil HSW.out
   have HWR := fun w h => Lib.hid (wrong16w HWW.out BV (by have := HPB.out; omega) hf1 hf2 hf3 hf4 (.slice (some ⟨gW, 0, none⟩) n cap) (.slice xa q.waxes.length xc) w h)
   clear hf1 hf2 hf3 hf4 HSW HPB HEE
   go_upto_region 29 with (refine wpList_cell_bs rfl 3 _ _ rfl CI.out 0 _ 0 _ _ rfl rfl (.int .i64 EE) rfl (by simp) rfl info3 ?_; intro w23 hC; have G5 : Hid (Bs w18 [(w18.heap.size, .cells #[.int .i64 EE, .int .i64 TR.flow, .int .i64 TR.rise, .int .i64 TR.spread, .int .i64 TR.draught, .int .i64 TR.cold] 63), (SZ, .cells #[.int .i64 EA, .int .i64 EB] 3)] w23) := hC; clear hC CI hee)
   try simp only [Act.put]
   have hk13 := block_keep HK13.out G5.out.bel
   have hk11 := block_keep HK11.out G5.out.bel
   have hs0 := cell_of_row _ _ 0 _ _ _ hk13
   have hs1 := cell_of_row _ _ 1 _ _ _ hk13
   have hs2 := cell_of_row _ _ 2 _ _ _ hk13
   have hs3 := cell_of_row _ _ 3 _ _ _ hk13
   have hs4 := cell_of_row _ _ 4 _ _ _ hk13
   have hs5 := cell_of_row _ _ 5 _ _ _ hk13
   have hk0 := cell_of_row _ _ 0 _ _ _ hk11
   have hk1 := cell_of_row _ _ 1 _ _ _ hk11
   have hk2 := cell_of_row _ _ 2 _ _ _ hk11
   have hk3 := cell_of_row _ _ 3 _ _ _ hk11
   have hk4 := cell_of_row _ _ 4 _ _ _ hk11
   have ht0 := G5.out.cell 0 rfl 0
   have ht1 := G5.out.cell 0 rfl 1
   have ht2 := G5.out.cell 0 rfl 2
   have ht3 := G5.out.cell 0 rfl 3
   have ht4 := G5.out.cell 0 rfl 4
   have ht5 := G5.out.cell 0 rfl 5
   go_wp2_with fail
   refine (HAT _ ((HWV.out.below G5.out.bel).mono G5.out.bel.size)).out.mono ?_
   rintro e w24 ⟨rfl, hb⟩
   have G6 := Lib.hid (G5.out.call hb)
   clear hb G5 HAT hk13 hk11 hs0 hs1 hs2 hs3 hs4 hs5 hk0 hk1 hk2 hk3 hk4 ht0 ht1 ht2 ht3 ht4 ht5
   have CP := Lib.hid (G6.out.push _ rfl (.cells #[.int .i64 0, .int .i64 0, .int .i64 0] 70))
   go_upto_region 30 with (refine wpList_store_bs rfl 70 _ _ rfl CP.out 2 _ #[.int .i64 BV.rate, .int .i64 BV.flame, .int .i64 BV.pool] _ _ rfl rfl rfl infoBurn rfl (by simp [Value.oneCell']) ?_; intro w25 hC; have G7 : Hid (Bs w18 [(w18.heap.size, .cells #[.int .i64 EE, .int .i64 TR.flow, .int .i64 TR.rise, .int .i64 TR.spread, .int .i64 TR.draught, .int .i64 TR.cold] 63), (SZ, .cells #[.int .i64 EA, .int .i64 EB] 3), (w24.heap.size, .cells #[.int .i64 BV.rate, .int .i64 BV.flame, .int .i64 BV.pool] 70)] w25) := hC; clear hC CP G6)
   try simp only [Act.put]
   have hk13 := block_keep HK13.out G7.out.bel
   have hk11 := block_keep HK11.out G7.out.bel
   have hs0 := cell_of_row _ _ 0 _ _ _ hk13
   have hs1 := cell_of_row _ _ 1 _ _ _ hk13
   have hs2 := cell_of_row _ _ 2 _ _ _ hk13
   have hs3 := cell_of_row _ _ 3 _ _ _ hk13
   have hs4 := cell_of_row _ _ 4 _ _ _ hk13
   have hs5 := cell_of_row _ _ 5 _ _ _ hk13
   have hk0 := cell_of_row _ _ 0 _ _ _ hk11
   have hk1 := cell_of_row _ _ 1 _ _ _ hk11
   have hk2 := cell_of_row _ _ 2 _ _ _ hk11
   have hk3 := cell_of_row _ _ 3 _ _ _ hk11
   have hk4 := cell_of_row _ _ 4 _ _ _ hk11
   have ht0 := G7.out.cell 2 rfl 0
   have ht1 := G7.out.cell 2 rfl 1
   have ht2 := G7.out.cell 2 rfl 2
   go_wp2_with fail
   refine (HWR _ ((HWV.out.below G7.out.bel).mono G7.out.bel.size)).out.mono ?_
   rintro e w26 ⟨rfl, hb⟩
   have G8 := Lib.hid (G7.out.call hb)
   clear hb G7 HWR hk13 hk11 hs0 hs1 hs2 hs3 hs4 hs5 hk0 hk1 hk2 hk3 hk4 ht0 ht1 ht2
   go_wp2_with fail
   refine ⟨⟨i + 1, EE, by push_cast; rfl, by omega, G8.out.sub [(w18.heap.size, .cells #[.int .i64 EE, .int .i64 TR.flow, .int .i64 TR.rise, .int .i64 TR.spread, .int .i64 TR.draught, .int .i64 TR.cold] 63), (SZ, .cells #[.int .i64 EA, .int .i64 EB] 3)] (by simp)⟩, ?_⟩
   simp [intOf]; omega
  ·obtain rfl : i = 2 := by omega
   have C27 := Lib.hid (C18.out.call CI.out.bel)
   clear CI
   go_wp2_with fail
   refine (awake3_any _).mono ?_
   rintro e wa1 ⟨rfl, hb⟩
   have CA := Lib.hid (C27.out.call hb)
   clear hb
   go_wp2_with fail
   refine (awake_any _).mono ?_
   rintro e wa2 ⟨rfl, hb⟩
   have CB := Lib.hid (CA.out.call hb)
   clear hb
   go_wp2_with fail
   go_ret
   exact ⟨rfl, CB.out.bel⟩
end Go.Proofs.YteebihcdgpfldaaGreat
