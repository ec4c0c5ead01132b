/- ScentLight: the walk. -/
import Derived.Test.YtaigbhhmmdfdcaaY25
import Derived.Test.YtaigbhhmmdfdcaaP13
import Derived.Test.YtaigbhhmmdfdcaaYa
namespace Go.Proofs.Ytaigbhhmmdfdcaa
open Go.RowKit
set_option maxRecDepth 100000 in
set_option maxHeartbeats 16000000 in
theorem light_law (s : Shop) (l : List Bat) (x : List Int) (hx : Turns x) (vt vl v vx : Value) (w : World) (hs : ShopAt w.heap.size w vt vl s) (hl : BatsIn w.heap.size w v l) (hvx : IntsIn .u32 w.heap.size w vx x) :
    Calls Try.prog 13 #[.agg #[vt, vl], v, vx] w (fun e w' => e = .returned (.bool true) ∧ Below w.heap.size w w') := by
  have HS := Lib.hid hs
  have HL := Lib.hid hl
  have HX := Lib.hid hx
  have HVX := Lib.hid hvx
  obtain ⟨ta, tc, rfl, -, -⟩ := sl_shape hs.1
  obtain ⟨la, lc, rfl, -, -⟩ := sl_shape hs.2
  obtain ⟨a, c, rfl, hlc, hlen⟩ := sl_shape hl
  obtain ⟨ax, cx, rfl, -⟩ := hvx
  clear hs hl hx
  have C0 : Hid (Bs w [(w.heap.size, .cells #[.slice ta s.things.length tc, .slice la s.lots.length lc] 25)] _) := (Bs.nil w).push _ rfl (.cells #[.slice ta s.things.length tc, .slice la s.lots.length lc] 25)
  have hc0 := C0.out.cell 0 rfl 0
  have hc1 := C0.out.cell 0 rfl 1
  have HG : Hid (batchesE s l = 0 → AllGood s l) := all_good
  have HTP := Lib.hid (fun hz k hk w hs hl hvx => @truth_pair s l k hz hk x HX.out (.slice ta s.things.length tc) (.slice la s.lots.length lc) (.slice a l.length c) (.slice ax x.length cx) w hs hl hvx)
  have HEP := Lib.hid (fun hz k hk e w hs hl => @end_pair s l k hz hk e (.slice ta s.things.length tc) (.slice la s.lots.length lc) (.slice a l.length c) w hs hl)
  clear HEP
  have HPB : Hid (batchesE s l ≠ 0 → (pullV s l).length = 0) := fun h => by rw [pull_bad h]; rfl
  have HPL : Hid (batchesE s l = 0 → (pullV s l).length = l.length) := pull_len
  have HLL := Lib.hid (fun (hz : batchesE s l = 0) k hk M => @light_left s l hz k hk M)
  have HPV := Lib.hid (fun (hz : batchesE s l = 0) d hd sh => @pale_val s l hz d hd sh)
  have H1 := fun w h1 h2 => Lib.hid (pull_any s l (.slice ta s.things.length tc) (.slice la s.lots.length lc) (.slice a l.length c) w h1 h2)
  have H2 := fun w h1 h2 => Lib.hid (batches_ref s l (.slice ta s.things.length tc) (.slice la s.lots.length lc) (.slice a l.length c) w h1 h2)
  unfold RetSpans at H1
  generalize batchesE s l = E at *
  generalize pullV s l = PV at *
  go_enter Try.func13, Try.ntmps13
  go_wp2_with fail
  refine (H1 _ ((HS.out.below C0.out.bel).mono C0.out.bel.size) ((HL.out.below C0.out.bel).mono C0.out.bel.size)).out.mono ?_
  rintro e w1 ⟨tv, rfl, hi, hb⟩
  have C1 := Lib.hid (C0.out.call hb)
  have HT := Lib.hid hi
  clear hb hi C0 hc0 hc1 H1
  obtain ⟨xa, xc, rfl, hxc, -⟩ := sl_shape HT.out
  have hc0 := C1.out.cell 0 rfl 0
  have hc1 := C1.out.cell 0 rfl 1
  go_wp2_with fail
  refine (H2 _ ((HS.out.below C1.out.bel).mono C1.out.bel.size) ((HL.out.below C1.out.bel).mono C1.out.bel.size)).out.mono ?_
  rintro e w2 ⟨rfl, hb⟩
  have C2 := Lib.hid (C1.out.call hb)
  have HT := Lib.hid (SlIn.next HT.out hb)
  clear hb C1 hc0 hc1 H2
  by_cases hE : E = 0
  case neg =>
    have hq : (E != 0) = true := by simpa using hE
    have hq2 : (E == E) = true := by simp
    have hz := HPB.out hE
    rw [hz]
    clear hE HG HPB HPL HLL HPV HTP hz hxc HT
    go_wp2_with fail
    refine (awake_any _).mono ?_
    rintro e w3 ⟨rfl, hb⟩
    have C3 := Lib.hid (C2.out.call hb)
    clear hb C2
    go_wp2_with fail
    go_ret
    exact ⟨rfl, C3.out.bel⟩
  subst hE
  have hpl := HPL.out rfl
  have HTQ := Lib.hid (HTP.out rfl)
  have HLQ := Lib.hid (HLL.out rfl)
  have HPQ := Lib.hid (HPV.out rfl)
  have HGD := Lib.hid (HG.out rfl)
  obtain ⟨hsh, hn1, hn6, -⟩ := HG.out rfl
  have hnt5 := hsh.nt5
  have hnt1 := hsh.nt1
  rw [hpl] at HT hxc ⊢
  clear HPB HPL HG hsh HTP HLL HPV
  obtain ⟨L, hL⟩ : ∃ L, l.length - 1 = L := ⟨_, rfl⟩
  rw [hL] at HPQ
  have hLl : L < l.length := by omega
  have hLi : (L : Int) < (l.length : Int) := by omega
  have hLE : (l.length : Int) - 1 = (L : Int) := by omega
  clear hL
  go_wp2_with fail
  try rw [hLE]
  clear hLE
  obtain ⟨X1, M1, htr, hmd1, hm1, hmb⟩ := HTQ.out L hLl w2 ((HS.out.below C2.out.bel).mono C2.out.bel.size) ((HL.out.below C2.out.bel).mono C2.out.bel.size) ((HVX.out.below C2.out.bel).mono C2.out.bel.size)
  have HT1 := Lib.hid htr
  have HM1 := Lib.hid hmd1
  have HBT := Lib.hid hmb
  have HLF := Lib.hid (HLQ.out L hLl M1 hm1 hmb)
  clear htr hmd1 hmb HTQ HLQ
  refine wp_region_inv1 (by kernel_rfl) (by kernel_rfl) [55, 56, 47, 57, 11] (fun D y w' => CalW w2 (IsTru X1) (IsInts M1) (.int .i64 0) (D 7) (D 8) (D 9) (D 10) (D 12) (y 55) (y 56) (y 47) (y 57) (y 11) w') (CalW.start _) ?L1 ?hL1 ?_
  case hL1 =>
    intro y
    simp only [fill, List.foldl, Act.put, List.setIfInBounds_toArray, List.set]
    exact rfl
  apply obl_det
  case hrun =>
    intro D y wz hW hD R hR
    have HRR := Lib.hid hR
    clear hR
    have HW := Lib.hid hW
    clear hW hD
    refine wpList_load_want rfl 25 _ rfl _ rfl _ _ _ _ ((C2.out.call HW.out.bel).get 0 rfl) Try.underlying25 rfl info25 ?_
    go_simp
    exact HRR.out _ HW.out
  case hnp => rfl
  case hv => first | exact ⟨_, fun _ => rfl⟩ | exact ⟨undef, fun _ => rfl⟩
  apply obl_det
  case hrun =>
    intro D y wz hW hD R hR
    have HRR := Lib.hid hR
    clear hR
    have HW := Lib.hid hW
    clear hW hD
    go_wp2_with fail
    exact HRR.out _ HW.out
  case hnp => rfl
  case hv => first | exact ⟨_, fun _ => rfl⟩ | exact ⟨undef, fun _ => rfl⟩
  apply obl_det
  case hrun =>
    intro D y wz hW hD R hR
    have HRR := Lib.hid hR
    clear hR
    have HW := Lib.hid hW
    clear hW hD
    go_wp2_with fail
    exact HRR.out _ HW.out
  case hnp => rfl
  case hv => first | exact ⟨_, fun _ => rfl⟩ | exact ⟨undef, fun _ => rfl⟩
  apply obl_det
  case hrun =>
    intro D y wz hW hD R hR
    have HRR := Lib.hid hR
    clear hR
    have HW := Lib.hid hW
    clear hW hD
    refine wpList_load_want rfl 25 _ rfl _ rfl _ _ _ _ ((C2.out.call HW.out.bel).get 0 rfl) Try.underlying25 rfl info25 ?_
    go_simp
    exact HRR.out _ HW.out
  case hnp => rfl
  case hv => first | exact ⟨_, fun _ => rfl⟩ | exact ⟨undef, fun _ => rfl⟩
  apply obl_det
  case hrun =>
    intro D y wz hW hD R hR
    have HRR := Lib.hid hR
    clear hR
    have HW := Lib.hid hW
    clear hW hD
    go_wp2_with fail
    exact HRR.out _ HW.out
  case hnp => rfl
  case hv => first | exact ⟨_, fun _ => rfl⟩ | exact ⟨undef, fun _ => rfl⟩
  apply obl_det
  case hrun =>
    intro D y wz hW hD R hR
    have HRR := Lib.hid hR
    clear hR
    have HW := Lib.hid hW
    clear hW hD
    go_wp2_with fail
    exact HRR.out _ HW.out
  case hnp => rfl
  case hv => first | exact ⟨_, fun _ => rfl⟩ | exact ⟨undef, fun _ => rfl⟩
  apply obl_det
  case hrun =>
    intro D y wz hW hD R hR
    have HRR := Lib.hid hR
    clear hR
    have HW := Lib.hid hW
    clear hW hD
    go_wp2_with fail
    exact HRR.out _ HW.out
  case hnp => rfl
  case hv => first | exact ⟨_, fun _ => rfl⟩ | exact ⟨undef, fun _ => rfl⟩
  apply obl_priv 55
  case hd => rfl
  case hp => rfl
  case hrun =>
    intro D y wz hW hD R hR
    have HRR := Lib.hid hR
    clear hR
    have HW := Lib.hid hW
    clear hW hD
    have HC := Lib.hid (HT1.out wz HW.out.bel)
    go_wp2_with fail
    refine HC.out.mono ?_
    rintro e w' ⟨t, rfl, hi, hb⟩
    have HN := Lib.hid ((CalW.next (stab_tru _) (stab_ints _) HW.out hb).putA hi)
    clear hb
    go_wp2_with fail
    refine HRR.out _ _ ?_
    show CalW w2 (IsTru X1) (IsInts M1) (.int .i64 0) true (D 8) (D 9) (D 10) (D 12) _ (y 56) (y 47) (y 57) (y 11) _
    exact HN.out
  apply obl_priv 56
  case hd => rfl
  case hp => rfl
  case hrun =>
    intro D y wz hW hD R hR
    have HRR := Lib.hid hR
    clear hR
    have HW := Lib.hid hW
    have HA := Lib.hid (hW.a (hD.pre _ 7 rfl (by kernel_rfl)))
    clear hW hD
    have HC := Lib.hid (HM1.out wz _ HW.out.bel HA.out)
    go_wp2_with fail
    refine HC.out.mono ?_
    rintro e w' ⟨v, rfl, hi, hb⟩
    have HN := Lib.hid ((CalW.next (stab_tru _) (stab_ints _) HW.out hb).putB hi)
    clear hb
    go_wp2_with fail
    refine HRR.out _ _ ?_
    show CalW w2 (IsTru X1) (IsInts M1) (.int .i64 0) (D 7) true (D 9) (D 10) (D 12) (y 55) _ (y 47) (y 57) (y 11) _
    exact HN.out
  apply obl_priv 47
  case hd => rfl
  case hp => rfl
  case hrun =>
    intro D y wz hW hD R hR
    have HRR := Lib.hid hR
    clear hR
    refine wpList_mv rfl _ rfl (y 56) rfl ?_
    refine HRR.out (y 56) _ ?_
    exact hW.putM (hD.pre _ 8 rfl (by kernel_rfl))
  apply obl_priv 57
  case hd => rfl
  case hp => rfl
  case hrun =>
    intro D y wz hW hD R hR
    have HRR := Lib.hid hR
    clear hR
    obtain ⟨v, e, hv⟩ := hW.m (hD.pre _ 9 rfl (by kernel_rfl))
    refine wpList_ex rfl _ 0 rfl _ e v rfl ?_
    refine HRR.out v _ ?_
    exact hW.putX hv
  apply obl_det
  case hrun =>
    intro D y wz hW hD R hR
    have HRR := Lib.hid hR
    clear hR
    have HW := Lib.hid hW
    obtain ⟨v, e, -⟩ := hW.m (hD.pre _ 9 rfl (by kernel_rfl))
    have HE := Lib.hid e
    clear e
    clear hW hD
    refine wpList_ex rfl _ 1 rfl _ HE.out (.int .i64 0) rfl ?_
    exact HRR.out _ HW.out
  case hnp => rfl
  case hv => first | exact ⟨_, fun _ => rfl⟩ | exact ⟨undef, fun _ => rfl⟩
  apply obl_priv 11
  case hd => rfl
  case hp => rfl
  case hrun =>
    intro D y wz hW hD R hR
    have HRR := Lib.hid hR
    clear hR
    refine wpList_as rfl _ rfl (y 57) rfl ?_
    refine HRR.out (y 57) _ ?_
    exact hW.putS (hD.pre _ 10 rfl (by kernel_rfl))
  apply obl_det
  case hrun =>
    intro D y wz hW hD R hR
    have HRR := Lib.hid hR
    clear hR
    have HW := Lib.hid hW
    clear hW hD
    go_wp2_with fail
    exact HRR.out _ HW.out
  case hnp => rfl
  case hv => first | exact ⟨_, fun _ => rfl⟩ | exact ⟨undef, fun _ => rfl⟩
  apply obl_nil
  intro D y w8 hall hW
  have HPB := Lib.hid (hW.s (hall 12 (by decide)))
  have HBW := Lib.hid hW.bel
  clear hW hall
  generalize y 55 = y55 at *
  generalize y 56 = y56 at *
  generalize y 47 = y47 at *
  generalize y 57 = y57 at *
  generalize y 11 = y11 at *
  have HP1 := Lib.hid HPB.out
  have C3 := Lib.hid (C2.out.call HBW.out)
  have HT := Lib.hid (SlIn.next HT.out HBW.out)
  clear HBW C2 HPB HT1 HM1
  obtain ⟨z1, q1, rfl⟩ := HP1.out.shape hm1
  have hq : ((s.things.length : Int) != (s.things.length : Int)) = false := by simp
  have hq2 : ((l.length : Int) != (l.length : Int)) = false := by simp
  have hc0 := C3.out.cell 0 rfl 0
  obtain ⟨b, o, rfl, hbb, g1, g2, g3, hd1, hd2, hd3, hwt⟩ := weigh HGD.out hLl HL.out
  have hd1 := (C3.out.bel.cell (p := ⟨b, o + L * 3, none⟩) hbb).trans hd1
  have hd2 := (C3.out.bel.cell (p := ⟨b, o + L * 3 + 1, none⟩) hbb).trans hd2
  have hd3 := (C3.out.bel.cell (p := ⟨b, o + L * 3 + 2, none⟩) hbb).trans hd3
  have HWT := Lib.hid hwt
  clear hwt
  go_wp2_with fail
  refine (HWT.out _ C3.out.bel).mono ?_
  rintro e w9 ⟨rfl, hb⟩
  have C4 := Lib.hid (C3.out.call hb)
  have HT := Lib.hid (SlIn.next HT.out hb)
  have HP1 := Lib.hid (IntsIn.next HP1.out hb)
  clear hb C3 HWT hd1 hd2 hd3 hbb hc0 hq hq2
  have hc0 := C4.out.cell 0 rfl 0
  have hc1 := C4.out.cell 0 rfl 1
  obtain ⟨hmm, hwb, hkb, hp1, hp2, hl1, hl2⟩ := HLF.out
  have HWK := Lib.hid (weakness_ref s M1 (.slice ta s.things.length tc) (.slice la s.lots.length lc) (.slice z1 s.things.length q1) w9 ((HS.out.below C4.out.bel).mono C4.out.bel.size) HP1.out HGD.out.sh (by omega) hmm)
  obtain ⟨tb, to, rfl, htb, hr1, hr2⟩ := HT.out.at' (i := L) (by omega)
  have HR1 : Hid (w9.cell? ⟨tb, to + L * 2, none⟩ = some (.int .i64 (PV.getD L (0, 0)).1)) := hr1
  have HR2 : Hid (w9.cell? ⟨tb, to + L * 2 + 1, none⟩ = some (.int .i64 (PV.getD L (0, 0)).2)) := hr2
  have HTB := Lib.hid htb
  clear hr1 hr2 htb HLF hmm
  generalize weightV (l.getD L default) = WT at *
  generalize weakS s (fun t => M1.getD t 0) M1.length = WK at *
  generalize PV.getD L (0, 0) = PP at *
  obtain ⟨P1, P2⟩ := PP
  simp only at HR1 HR2 hp1 hp2 hl1 hl2
  have g1 : decide (max 0 (1000000 * WT - WK) < wrap64 (1000 * WT * P1)) = false := by
    have h1 : 0 ≤ 1000 * WT * P1 := Int.mul_nonneg (by omega) hp1
    have e : wrap64 (1000 * WT * P1) = 1000 * WT * P1 := by unfold wrap64; omega
    rw [e]
    exact decide_eq_false (by omega)
  have g2 : decide (wrap64 (1000 * WT * P2) < max 0 (1000000 * WT - WK)) = false := by
    have h1 : 1000 * WT * P2 ≤ 1000 * WT * 1000 := Int.mul_le_mul_of_nonneg_left hp2 (by omega)
    have e : wrap64 (1000 * WT * P2) = 1000 * WT * P2 := by unfold wrap64; omega
    rw [e]
    exact decide_eq_false (by omega)
  have g3 : decide (P1 < 0) = false := decide_eq_false (by omega)
  have g4 : decide (1000 < P2) = false := decide_eq_false (by omega)
  clear hl1 hl2
  go_wp2_with fail
  refine HWK.out.mono ?_
  rintro e w10 ⟨rfl, hb⟩
  have C5 := Lib.hid (C4.out.call hb)
  have hr1 := (hb.cell (p := ⟨tb, to + L * 2, none⟩) HTB.out).trans HR1.out
  have hr2 := (hb.cell (p := ⟨tb, to + L * 2 + 1, none⟩) HTB.out).trans HR2.out
  have HP1 := Lib.hid (IntsIn.next HP1.out hb)
  clear hb C4 HWK hc0 hc1 HR1 HR2 HTB HT
  have HT1 := fun w h => Lib.hid (turn40 x HX.out 1 (by omega) (.slice ax x.length cx) w h)
  have HT2 := fun w h => Lib.hid (turn40 x HX.out 2 (by omega) (.slice ax x.length cx) w h)
  have HT3 := fun w h => Lib.hid (turn40 x HX.out 3 (by omega) (.slice ax x.length cx) w h)
  have ht1 := turnV_bound HX.out 1
  have ht2 := turnV_bound HX.out 2
  have ht3 := turnV_bound HX.out 3
  go_wp2_with fail
  clear g1 g2 g3 g4 hr1 hr2 hp1 hp2 hkb
  generalize turnV x 1 = T1 at *
  generalize turnV x 2 = T2 at *
  generalize turnV x 3 = T3 at *
  have ha0 : 0 ≤ T1 % (s.things.length : Int) := Int.emod_nonneg _ (by omega)
  have ha1 : T1 % (s.things.length : Int) < s.things.length := Int.emod_lt_of_pos _ (by omega)
  obtain ⟨d, hd⟩ : ∃ d : Nat, T1 % (s.things.length : Int) = (d : Int) := ⟨(T1 % (s.things.length : Int)).toNat, by omega⟩
  obtain ⟨sh, hsh⟩ : ∃ sh : Int, T2 % 1000001 = sh := ⟨_, rfl⟩
  obtain ⟨dd, hdd⟩ : ∃ dd : Nat, T3 % 40001 = (dd : Int) := ⟨(T3 % 40001).toNat, by omega⟩
  have hdl : d < s.things.length := by omega
  have hs0 : 0 ≤ sh ∧ sh ≤ 1000000 := by omega
  have hd4 : dd ≤ 40000 := by omega
  have HD := Lib.hid hd
  have HSH := Lib.hid hsh
  have HDD := Lib.hid hdd
  clear ha0 ha1 hd hsh hdd
  have HBA := Lib.hid C5.out.bel
  have HT1' := Lib.hid ht1
  have HT2' := Lib.hid ht2
  have HT3' := Lib.hid ht3
  clear ht1 ht2 ht3
  refine wp_region_inv0 (by kernel_rfl) (by kernel_rfl) (fun D w' => Below w10.heap.size w10 w') (Below.refl _ _).drew ?_
  apply obl_det
  case hrun =>
    intro D y wz hW hD R hR
    have HRR := Lib.hid hR
    clear hR
    have HW := Lib.hid hW
    clear hW hD
    go_wp2_with fail
    exact HRR.out _ HW.out
  case hnp => rfl
  case hv => first | exact ⟨_, fun _ => rfl⟩ | exact ⟨undef, fun _ => rfl⟩
  apply obl_det
  case hrun =>
    intro D y wz hW hD R hR
    have HRR := Lib.hid hR
    clear hR
    have HW := Lib.hid hW
    have HZ := Lib.hid (HBA.out.trans (HW.out.mono HBA.out.size))
    clear hW hD
    go_wp2_with fail
    refine (HT1 _ ((HVX.out.below HZ.out).mono HZ.out.size)).out.mono ?_
    rintro e w' ⟨rfl, rfl⟩
    go_wp2_with fail
    exact HRR.out _ HW.out
  case hnp => rfl
  case hv => first | exact ⟨_, fun _ => rfl⟩ | exact ⟨undef, fun _ => rfl⟩
  apply obl_det
  case hrun =>
    intro D y wz hW hD R hR
    have HRR := Lib.hid hR
    clear hR
    have HW := Lib.hid hW
    clear hW hD
    go_wp2_with fail
    exact HRR.out _ HW.out
  case hnp => rfl
  case hv => first | exact ⟨_, fun _ => rfl⟩ | exact ⟨undef, fun _ => rfl⟩
  apply obl_det
  case hrun =>
    intro D y wz hW hD R hR
    have HRR := Lib.hid hR
    clear hR
    have HW := Lib.hid hW
    have h1 := (C5.out.call HW.out).cell 0 rfl 0
    clear hW hD
    go_wp2_with fail
    exact HRR.out _ HW.out
  case hnp => rfl
  case hv => first | exact ⟨_, fun _ => rfl⟩ | exact ⟨undef, fun _ => rfl⟩
  apply obl_det
  case hrun =>
    intro D y wz hW hD R hR
    have HRR := Lib.hid hR
    clear hR
    have HW := Lib.hid hW
    clear hW hD
    go_wp2_with fail
    exact HRR.out _ HW.out
  case hnp => rfl
  case hv => first | exact ⟨_, fun _ => rfl⟩ | exact ⟨undef, fun _ => rfl⟩
  apply obl_det
  case hrun =>
    intro D y wz hW hD R hR
    have HRR := Lib.hid hR
    clear hR
    have HW := Lib.hid hW
    have hb1 := HT1'.out
    clear hW hD
    go_wp2_with fail
    rw [HD.out]
    exact HRR.out _ HW.out
  case hnp => rfl
  case hv => first | exact ⟨_, fun _ => rfl⟩ | exact ⟨undef, fun _ => rfl⟩
  apply obl_det
  case hrun =>
    intro D y wz hW hD R hR
    have HRR := Lib.hid hR
    clear hR
    have HW := Lib.hid hW
    clear hW hD
    go_wp2_with fail
    exact HRR.out _ HW.out
  case hnp => rfl
  case hv => first | exact ⟨_, fun _ => rfl⟩ | exact ⟨undef, fun _ => rfl⟩
  apply obl_det
  case hrun =>
    intro D y wz hW hD R hR
    have HRR := Lib.hid hR
    clear hR
    have HW := Lib.hid hW
    have HZ := Lib.hid (HBA.out.trans (HW.out.mono HBA.out.size))
    clear hW hD
    go_wp2_with fail
    refine (HT2 _ ((HVX.out.below HZ.out).mono HZ.out.size)).out.mono ?_
    rintro e w' ⟨rfl, rfl⟩
    go_wp2_with fail
    exact HRR.out _ HW.out
  case hnp => rfl
  case hv => first | exact ⟨_, fun _ => rfl⟩ | exact ⟨undef, fun _ => rfl⟩
  apply obl_det
  case hrun =>
    intro D y wz hW hD R hR
    have HRR := Lib.hid hR
    clear hR
    have HW := Lib.hid hW
    have hb1 := HT2'.out
    clear hW hD
    go_wp2_with fail
    rw [HSH.out]
    exact HRR.out _ HW.out
  case hnp => rfl
  case hv => first | exact ⟨_, fun _ => rfl⟩ | exact ⟨undef, fun _ => rfl⟩
  apply obl_det
  case hrun =>
    intro D y wz hW hD R hR
    have HRR := Lib.hid hR
    clear hR
    have HW := Lib.hid hW
    clear hW hD
    go_wp2_with fail
    exact HRR.out _ HW.out
  case hnp => rfl
  case hv => first | exact ⟨_, fun _ => rfl⟩ | exact ⟨undef, fun _ => rfl⟩
  apply obl_det
  case hrun =>
    intro D y wz hW hD R hR
    have HRR := Lib.hid hR
    clear hR
    have HW := Lib.hid hW
    have HZ := Lib.hid (HBA.out.trans (HW.out.mono HBA.out.size))
    clear hW hD
    go_wp2_with fail
    refine (HT3 _ ((HVX.out.below HZ.out).mono HZ.out.size)).out.mono ?_
    rintro e w' ⟨rfl, rfl⟩
    go_wp2_with fail
    exact HRR.out _ HW.out
  case hnp => rfl
  case hv => first | exact ⟨_, fun _ => rfl⟩ | exact ⟨undef, fun _ => rfl⟩
  apply obl_det
  case hrun =>
    intro D y wz hW hD R hR
    have HRR := Lib.hid hR
    clear hR
    have HW := Lib.hid hW
    have hb1 := HT3'.out
    clear hW hD
    go_wp2_with fail
    rw [HDD.out]
    exact HRR.out _ HW.out
  case hnp => rfl
  case hv => first | exact ⟨_, fun _ => rfl⟩ | exact ⟨undef, fun _ => rfl⟩
  apply obl_det
  case hrun =>
    intro D y wz hW hD R hR
    have HRR := Lib.hid hR
    clear hR
    have HW := Lib.hid hW
    clear hW hD
    go_wp2_with fail
    exact HRR.out _ HW.out
  case hnp => rfl
  case hv => first | exact ⟨_, fun _ => rfl⟩ | exact ⟨undef, fun _ => rfl⟩
  apply obl_det
  case hrun =>
    intro D y wz hW hD R hR
    have HRR := Lib.hid hR
    clear hR
    have HW := Lib.hid hW
    clear hW hD
    go_wp2_with fail
    exact HRR.out _ HW.out
  case hnp => rfl
  case hv => first | exact ⟨_, fun _ => rfl⟩ | exact ⟨undef, fun _ => rfl⟩
  apply obl_det
  case hrun =>
    intro D y wz hW hD R hR
    have HRR := Lib.hid hR
    clear hR
    have HW := Lib.hid hW
    clear hW hD
    go_wp2_with fail
    exact HRR.out _ HW.out
  case hnp => rfl
  case hv => first | exact ⟨_, fun _ => rfl⟩ | exact ⟨undef, fun _ => rfl⟩
  apply obl_nil
  intro D y w8 hall hW
  have C6 := Lib.hid (C5.out.call hW)
  have HP1 := Lib.hid (IntsIn.next HP1.out hW)
  clear hall hW C5 HT1 HT2 HT3 HT1' HT2' HT3' HD HSH HDD HBA
  have hc0 := C6.out.cell 0 rfl 0
  have hc1 := C6.out.cell 0 rfl 1
  have hdi : (d : Int) < (s.things.length : Int) := by omega
  obtain ⟨b3, o3, rfl, hb3, hx0, hx1, hx2, hx3, hx4⟩ := thing_at HS.out.1 hdl
  have HX0 := Lib.hid hx0
  have HX1 := Lib.hid hx1
  have HX2 := Lib.hid hx2
  have HX3 := Lib.hid hx3
  have HX4 := Lib.hid hx4
  have HB3 := Lib.hid hb3
  clear hx0 hx1 hx2 hx3 hx4 hb3
  have HPA := Lib.hid (pale_any s l (d : Int) sh (.slice (some ⟨b3, o3, none⟩) s.things.length tc) (.slice la s.lots.length lc) (.slice (some ⟨b, o, none⟩) l.length c) w8 ((HS.out.below C6.out.bel).mono C6.out.bel.size) ((HL.out.below C6.out.bel).mono C6.out.bel.size))
  unfold Ret3 at HPA
  have HV2 := Lib.hid (HPQ.out d hdl sh hs0)
  have hfd := HGD.out.sh.fade d hdl
  have hmb := mic_ok HGD.out.sh hn6 (k := L) (fun j hj => HGD.out.pre j (by omega)) hLl d
  have hmd := HBT.out d hdl
  have HIP := fun (xx : Thing) mi ho w => Lib.hid (isPale_ref xx mi WT sh dd ho hd4 w)
  have HDY := fun f m1 m m2 h1 h2 ha hb => Lib.hid (@pale_days f m1 m m2 WT sh h1 h2 ha hb dd hd4)
  generalize (s.things.getD d default) = xx at *
  obtain ⟨nm, kd, li, we, fa⟩ := xx
  simp only at HX0 HX1 HX2 HX3 HX4 HV2 hfd
  generalize (micV s l L d) = MC at *
  obtain ⟨mc1, mc2⟩ := MC
  simp only at hmb hmd HV2
  generalize paleVV s l (d : Int) sh = PV2 at *
  obtain ⟨Q1, Q2, Q3⟩ := PV2
  simp only at HPA
  go_wp2_with fail
  refine HPA.out.mono ?_
  rintro e w9' ⟨rfl, hb⟩
  have C7 := Lib.hid (C6.out.call hb)
  have HP1 := Lib.hid (IntsIn.next HP1.out hb)
  clear hb C6 hc0 hc1 HPA HPQ
  have hc0 := C7.out.cell 0 rfl 0
  have hk := (C7.out.bel.cell (p := ⟨b3, o3 + d * 5 + 1, none⟩) HB3.out).trans HX1.out
  by_cases hkd : kd = 1
  case neg =>
    have hq : (kd != 1) = true := by simpa using hkd
    obtain ⟨rfl, rfl, rfl⟩ : Q1 = 0 ∧ Q2 = 0 ∧ Q3 = 2 := by simpa using HV2.out.1 hkd
    clear HV2 hkd
    go_wp2_with fail
    refine (awake_any _).mono ?_
    rintro e w3 ⟨rfl, hb⟩
    have CX := Lib.hid (C7.out.call hb)
    clear hb C7
    go_wp2_with fail
    go_ret
    exact ⟨rfl, CX.out.bel⟩
  subst hkd
  obtain ⟨rfl, rfl, rfl⟩ : Q1 = paleV fa mc1 WT sh ∧ Q2 = paleV fa mc2 WT sh ∧ Q3 = 0 := by simpa using HV2.out.2 rfl
  clear HV2
  obtain ⟨bM, oM, rfl, hbM, hM⟩ := HP1.out.at' (i := d) (by omega)
  have HM := Lib.hid hM
  have HUM := Lib.hid hbM
  clear hM hbM
  generalize M1.getD d 0 = mt at *
  obtain ⟨g1, g2, g3, g4, g5⟩ := (HDY fa mc1 mt mc2 ⟨hfd.1, hfd.2, by omega, by omega, by omega, by omega, hs0.1, hs0.2⟩ ⟨hfd.1, hfd.2, by omega, by omega, by omega, by omega, hs0.1, hs0.2⟩ hmd.1 hmd.2).out
  have HIQ := fun w => Lib.hid (HIP ⟨nm, 1, li, we, fa⟩ mt ⟨hfd.1, hfd.2, by omega, by omega, by omega, by omega, hs0.1, hs0.2⟩ w).out
  simp only at HIQ
  generalize paleV fa mc1 WT sh = can at *
  generalize paleV fa mc2 WT sh = must at *
  obtain ⟨is, his⟩ : ∃ r, paleB fa mt WT sh dd = r := ⟨_, rfl⟩
  rw [his] at g4 g5
  simp only [his] at HIQ
  have HG1 := Lib.hid g1
  have HG2 := Lib.hid g2
  have HG3 := Lib.hid g3
  have HG4 := Lib.hid g4
  have HG5 := Lib.hid g5
  clear HDY HIP g1 g2 g3 g4 g5 his hmb hmd hfd
  have HBA := Lib.hid C7.out.bel
  go_wp2_with fail
  clear hk hc0
  refine wp_region_inv0 (by kernel_rfl) (by kernel_rfl) (fun D w' => Below w9'.heap.size w9' w') (Below.refl _ _).drew ?_
  apply obl_det
  case hrun =>
    intro D y wz hW hD R hR
    have HRR := Lib.hid hR
    clear hR
    have HW := Lib.hid hW
    clear hW hD
    go_wp2_with fail
    exact HRR.out _ HW.out
  case hnp => rfl
  case hv => first | exact ⟨_, fun _ => rfl⟩ | exact ⟨undef, fun _ => rfl⟩
  apply obl_det
  case hrun =>
    intro D y wz hW hD R hR
    have HRR := Lib.hid hR
    clear hR
    have HW := Lib.hid hW
    have h1 := (C7.out.call HW.out).cell 0 rfl 0
    clear hW hD
    go_wp2_with fail
    exact HRR.out _ HW.out
  case hnp => rfl
  case hv => first | exact ⟨_, fun _ => rfl⟩ | exact ⟨undef, fun _ => rfl⟩
  apply obl_det
  case hrun =>
    intro D y wz hW hD R hR
    have HRR := Lib.hid hR
    clear hR
    have HW := Lib.hid hW
    clear hW hD
    go_wp2_with fail
    exact HRR.out _ HW.out
  case hnp => rfl
  case hv => first | exact ⟨_, fun _ => rfl⟩ | exact ⟨undef, fun _ => rfl⟩
  apply obl_det
  case hrun =>
    intro D y wz hW hD R hR
    have HRR := Lib.hid hR
    clear hR
    have HW := Lib.hid hW
    clear hW hD
    go_wp2_with fail
    exact HRR.out _ HW.out
  case hnp => rfl
  case hv => first | exact ⟨_, fun _ => rfl⟩ | exact ⟨undef, fun _ => rfl⟩
  apply obl_det
  case hrun =>
    intro D y wz hW hD R hR
    have HRR := Lib.hid hR
    clear hR
    have HW := Lib.hid hW
    have HZ := Lib.hid (HBA.out.trans (HW.out.mono HBA.out.size))
    have h0 := (HZ.out.cell (p := ⟨b3, o3 + d * 5, none⟩) HB3.out).trans HX0.out
    have h1 := (HZ.out.cell (p := ⟨b3, o3 + d * 5 + 1, none⟩) HB3.out).trans HX1.out
    have h2 := (HZ.out.cell (p := ⟨b3, o3 + d * 5 + 2, none⟩) HB3.out).trans HX2.out
    have h3 := (HZ.out.cell (p := ⟨b3, o3 + d * 5 + 3, none⟩) HB3.out).trans HX3.out
    have h4 := (HZ.out.cell (p := ⟨b3, o3 + d * 5 + 4, none⟩) HB3.out).trans HX4.out
    clear hW hD
    go_wp2_with fail
    exact HRR.out _ HW.out
  case hnp => rfl
  case hv => first | exact ⟨_, fun _ => rfl⟩ | exact ⟨undef, fun _ => rfl⟩
  apply obl_det
  case hrun =>
    intro D y wz hW hD R hR
    have HRR := Lib.hid hR
    clear hR
    have HW := Lib.hid hW
    clear hW hD
    go_wp2_with fail
    exact HRR.out _ HW.out
  case hnp => rfl
  case hv => first | exact ⟨_, fun _ => rfl⟩ | exact ⟨undef, fun _ => rfl⟩
  apply obl_det
  case hrun =>
    intro D y wz hW hD R hR
    have HRR := Lib.hid hR
    clear hR
    have HW := Lib.hid hW
    clear hW hD
    go_wp2_with fail
    exact HRR.out _ HW.out
  case hnp => rfl
  case hv => first | exact ⟨_, fun _ => rfl⟩ | exact ⟨undef, fun _ => rfl⟩
  apply obl_det
  case hrun =>
    intro D y wz hW hD R hR
    have HRR := Lib.hid hR
    clear hR
    have HW := Lib.hid hW
    clear hW hD
    go_wp2_with fail
    exact HRR.out _ HW.out
  case hnp => rfl
  case hv => first | exact ⟨_, fun _ => rfl⟩ | exact ⟨undef, fun _ => rfl⟩
  apply obl_det
  case hrun =>
    intro D y wz hW hD R hR
    have HRR := Lib.hid hR
    clear hR
    have HW := Lib.hid hW
    have h1 := (HW.out.cell (p := ⟨bM, oM + d, none⟩) HUM.out).trans HM.out
    clear hW hD
    go_wp2_with fail
    exact HRR.out _ HW.out
  case hnp => rfl
  case hv => first | exact ⟨_, fun _ => rfl⟩ | exact ⟨undef, fun _ => rfl⟩
  apply obl_det
  case hrun =>
    intro D y wz hW hD R hR
    have HRR := Lib.hid hR
    clear hR
    have HW := Lib.hid hW
    clear hW hD
    go_wp2_with fail
    exact HRR.out _ HW.out
  case hnp => rfl
  case hv => first | exact ⟨_, fun _ => rfl⟩ | exact ⟨undef, fun _ => rfl⟩
  apply obl_det
  case hrun =>
    intro D y wz hW hD R hR
    have HRR := Lib.hid hR
    clear hR
    have HW := Lib.hid hW
    clear hW hD
    go_wp2_with fail
    exact HRR.out _ HW.out
  case hnp => rfl
  case hv => first | exact ⟨_, fun _ => rfl⟩ | exact ⟨undef, fun _ => rfl⟩
  apply obl_det
  case hrun =>
    intro D y wz hW hD R hR
    have HRR := Lib.hid hR
    clear hR
    have HW := Lib.hid hW
    clear hW hD
    go_wp2_with fail
    exact HRR.out _ HW.out
  case hnp => rfl
  case hv => first | exact ⟨_, fun _ => rfl⟩ | exact ⟨undef, fun _ => rfl⟩
  apply obl_det
  case hrun =>
    intro D y wz hW hD R hR
    have HRR := Lib.hid hR
    clear hR
    have HW := Lib.hid hW
    clear hW hD
    go_wp2_with fail
    refine (HIQ _).out.mono ?_
    rintro e w' ⟨rfl, hb⟩
    have HW2 := Lib.hid (HW.out.trans (hb.mono HW.out.size))
    clear hb
    go_wp2_with fail
    exact HRR.out _ HW2.out
  case hnp => rfl
  case hv => first | exact ⟨_, fun _ => rfl⟩ | exact ⟨undef, fun _ => rfl⟩
  apply obl_det
  case hrun =>
    intro D y wz hW hD R hR
    have HRR := Lib.hid hR
    clear hR
    have HW := Lib.hid hW
    clear hW hD
    go_wp2_with fail
    exact HRR.out _ HW.out
  case hnp => rfl
  case hv => first | exact ⟨_, fun _ => rfl⟩ | exact ⟨undef, fun _ => rfl⟩
  apply obl_nil
  intro D y w8 hall hW
  have C8 := Lib.hid (C7.out.call hW)
  clear hall hW C7 HIQ HX0 HX1 HX2 HX3 HX4 HM HUM
  have q1 : decide (0 ≤ can) = true := decide_eq_true HG1.out
  have q2 : decide (can ≤ must) = true := decide_eq_true HG2.out
  have q3 : decide (must ≤ 40001) = true := decide_eq_true HG3.out
  cases is
  · have q4 : decide ((dd : Int) < must) = true := decide_eq_true (HG5.out rfl)
    go_wp2_with fail
    refine (awake_any _).mono ?_
    rintro e w3 ⟨rfl, hb⟩
    have CX := Lib.hid (C8.out.call hb)
    clear hb C8
    go_wp2_with fail
    go_ret
    exact ⟨rfl, CX.out.bel⟩
  · have q4 : decide (can ≤ (dd : Int)) = true := decide_eq_true (HG4.out rfl)
    go_wp2_with fail
    refine (awake_any _).mono ?_
    rintro e w3 ⟨rfl, hb⟩
    have CX := Lib.hid (C8.out.call hb)
    clear hb C8
    go_wp2_with fail
    go_ret
    exact ⟨rfl, CX.out.bel⟩
end Go.Proofs.Ytaigbhhmmdfdcaa
