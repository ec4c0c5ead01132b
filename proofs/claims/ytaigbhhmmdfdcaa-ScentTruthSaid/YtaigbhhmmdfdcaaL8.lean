/- ScentTruth: the walk. -/
import Derived.Test.YtaigbhhmmdfdcaaY25
namespace Go.Proofs.Ytaigbhhmmdfdcaa
open Go.RowKit
set_option maxRecDepth 100000 in
set_option maxHeartbeats 16000000 in
theorem truth_law (s : Shop) (l : List Bat) (x : List Int) (hx : Turns x) (vt vl v vx : Value) (w : World) (hs : ShopAt w.heap.size w vt vl s) (hl : BatsIn w.heap.size w v l) (hvx : IntsIn .u32 w.heap.size w vx x) :
    Calls Try.prog 8 #[.agg #[vt, vl], v, vx] w (fun e w' => e = .returned (.bool true) ∧ Below w.heap.size w w') := by
  have HS := Lib.hid hs
  have HL := Lib.hid hl
  have HX := Lib.hid hx
  have HVX := Lib.hid hvx
  obtain ⟨ta, tc, rfl, -, -⟩ := sl_shape hs.1
  obtain ⟨la, lc, rfl, -, -⟩ := sl_shape hs.2
  obtain ⟨a, c, rfl, hlc, hlen⟩ := sl_shape hl
  obtain ⟨ax, cx, rfl, -⟩ := hvx
  clear hs hl hx
  have C0 : Hid (Bs w [(w.heap.size, .cells #[.slice ta s.things.length tc, .slice la s.lots.length lc] 25)] _) := (Bs.nil w).push _ rfl (.cells #[.slice ta s.things.length tc, .slice la s.lots.length lc] 25)
  have hc0 := C0.out.cell 0 rfl 0
  have hc1 := C0.out.cell 0 rfl 1
  have HG : Hid (batchesE s l = 0 → AllGood s l) := all_good
  have HCB : Hid (batchesE s l ≠ 0 → (contentV s l).length = 0) := fun h => by rw [content_bad h]; rfl
  have HCV : Hid (batchesE s l = 0 → contentV s l = rangesV s l) := fun h => by unfold contentV; rw [if_neg (by simp [h])]
  have HTP := Lib.hid (fun hz k hk w hs hl hvx => @truth_pair s l k hz hk x HX.out (.slice ta s.things.length tc) (.slice la s.lots.length lc) (.slice a l.length c) (.slice ax x.length cx) w hs hl hvx)
  have HEP := Lib.hid (fun hz k hk e w hs hl => @end_pair s l k hz hk e (.slice ta s.things.length tc) (.slice la s.lots.length lc) (.slice a l.length c) w hs hl)
  have H1 := fun w h1 h2 => Lib.hid (content_any s l (.slice ta s.things.length tc) (.slice la s.lots.length lc) (.slice a l.length c) w h1 h2)
  have H2 := fun w h1 h2 => Lib.hid (batches_ref s l (.slice ta s.things.length tc) (.slice la s.lots.length lc) (.slice a l.length c) w h1 h2)
  unfold RetTable at H1
  generalize batchesE s l = E at *
  generalize contentV s l = CV at *
  go_enter Try.func8, Try.ntmps8
  go_wp2_with fail
  refine (H1 _ ((HS.out.below C0.out.bel).mono C0.out.bel.size) ((HL.out.below C0.out.bel).mono C0.out.bel.size)).out.mono ?_
  rintro e w1 ⟨tv, rfl, hi, hb⟩
  have C1 := Lib.hid (C0.out.call hb)
  have HT := Lib.hid hi
  clear hb hi C0 hc0 hc1 H1
  obtain ⟨xa, xc, rfl, hxc, -⟩ := sl_shape HT.out
  have hc0 := C1.out.cell 0 rfl 0
  have hc1 := C1.out.cell 0 rfl 1
  go_wp2_with fail
  refine (H2 _ ((HS.out.below C1.out.bel).mono C1.out.bel.size) ((HL.out.below C1.out.bel).mono C1.out.bel.size)).out.mono ?_
  rintro e w2 ⟨rfl, hb⟩
  have C2 := Lib.hid (C1.out.call hb)
  have HT := Lib.hid (SlIn.next HT.out hb)
  clear hb C1 hc0 hc1 H2
  by_cases hE : E = 0
  case neg =>
    have hq : (E != 0) = true := by simpa using hE
    have hq2 : (E == E) = true := by simp
    have hz := HCB.out hE
    rw [hz]
    clear hE HG HCB HCV HTP HEP hz hxc HT
    go_wp2_with fail
    refine (awake_any _).mono ?_
    rintro e w3 ⟨rfl, hb⟩
    have C3 := Lib.hid (C2.out.call hb)
    clear hb C2
    go_wp2_with fail
    go_ret
    exact ⟨rfl, C3.out.bel⟩
  subst hE
  have hcv := HCV.out rfl
  subst hcv
  have HTQ := Lib.hid (HTP.out rfl)
  have HEQ := Lib.hid (HEP.out rfl)
  have HGD := Lib.hid (HG.out rfl)
  obtain ⟨hsh, hn1, hn6, -⟩ := HG.out rfl
  have hnt5 := hsh.nt5
  rw [rangesV_length] at HT hxc ⊢
  clear HCB HCV HG hsh HTP HEP
  have HTU := Lib.hid (turn40 x HX.out 0 (by omega) (.slice ax x.length cx) w2 ((HVX.out.below C2.out.bel).mono C2.out.bel.size))
  have htb := turnV_bound HX.out 0
  generalize turnV x 0 = T at *
  have hr0 : 0 ≤ T % (l.length : Int) := Int.emod_nonneg _ (by omega)
  have hr1 : T % (l.length : Int) < l.length := Int.emod_lt_of_pos _ (by omega)
  obtain ⟨k, hmd⟩ : ∃ k : Nat, T % (l.length : Int) = (k : Int) := ⟨(T % (l.length : Int)).toNat, by omega⟩
  rw [hmd] at hr0 hr1
  have hkl : k < l.length := by omega
  clear hr0 hr1
  go_wp2_with fail
  refine HTU.out.mono ?_
  rintro e w' ⟨rfl, rfl⟩
  go_wp2_with fail
  rw [hmd]
  clear hmd HTU htb
  obtain ⟨X1, M1, htr, hmd1, hm1, hmb⟩ := HTQ.out k hkl w2 ((HS.out.below C2.out.bel).mono C2.out.bel.size) ((HL.out.below C2.out.bel).mono C2.out.bel.size) ((HVX.out.below C2.out.bel).mono C2.out.bel.size)
  obtain ⟨X2, he2, hmd2⟩ := HEQ.out k hkl false w2 ((HS.out.below C2.out.bel).mono C2.out.bel.size) ((HL.out.below C2.out.bel).mono C2.out.bel.size)
  obtain ⟨X3, he3, hmd3⟩ := HEQ.out k hkl true w2 ((HS.out.below C2.out.bel).mono C2.out.bel.size) ((HL.out.below C2.out.bel).mono C2.out.bel.size)
  have HT1 := Lib.hid htr
  have HM1 := Lib.hid hmd1
  have HBT := Lib.hid hmb
  have HT2 := Lib.hid he2
  have HM2 := Lib.hid hmd2
  have HT3 := Lib.hid he3
  have HM3 := Lib.hid hmd3
  rw [sd_false_map] at HM2
  rw [sd_true_map] at HM3
  have HRF := Lib.hid (row_fst s l hkl)
  obtain ⟨A, hAE⟩ : ∃ A, ((rangesV s l).getD k []).map Prod.fst = A := ⟨_, rfl⟩
  obtain ⟨B, hBE⟩ : ∃ B, ((rangesV s l).getD k []).map Prod.snd = B := ⟨_, rfl⟩
  rw [hAE] at HM2 HRF
  rw [hBE] at HM3 HRF
  have HAE : Hid (((rangesV s l).getD k default).map Prod.fst = A) := hAE
  have HBE : Hid (((rangesV s l).getD k default).map Prod.snd = B) := hBE
  obtain ⟨hA, hB, -⟩ := HRF.out
  have HBT : Hid (∀ t, t < s.things.length → A.getD t 0 ≤ M1.getD t 0 ∧ M1.getD t 0 ≤ B.getD t 0) := fun t ht => by
    have h1 := HRF.out.2.2 t ht
    rw [h1.1, h1.2]
    exact HBT.out t ht
  clear hAE hBE HRF
  clear htr hmd1 hmb he2 hmd2 he3 hmd3 HTQ HEQ
  refine wp_region_inv1 (by kernel_rfl) (by kernel_rfl) [55, 56, 47, 57, 11] (fun D y w' => CalW w2 (IsTru X1) (IsInts M1) (.int .i64 0) (D 7) (D 8) (D 9) (D 10) (D 12) (y 55) (y 56) (y 47) (y 57) (y 11) w') (CalW.start _) ?L1 ?hL1 ?_
  case hL1 =>
    intro y
    simp only [fill, List.foldl, Act.put, List.setIfInBounds_toArray, List.set]
    exact rfl
  apply obl_det
  case hrun =>
    intro D y wz hW hD R hR
    have HRR := Lib.hid hR
    clear hR
    have HW := Lib.hid hW
    clear hW hD
    refine wpList_load_want rfl 25 _ rfl _ rfl _ _ _ _ ((C2.out.call HW.out.bel).get 0 rfl) Try.underlying25 rfl info25 ?_
    go_simp
    exact HRR.out _ HW.out
  case hnp => rfl
  case hv => first | exact ⟨_, fun _ => rfl⟩ | exact ⟨undef, fun _ => rfl⟩
  apply obl_det
  case hrun =>
    intro D y wz hW hD R hR
    have HRR := Lib.hid hR
    clear hR
    have HW := Lib.hid hW
    clear hW hD
    go_wp2_with fail
    exact HRR.out _ HW.out
  case hnp => rfl
  case hv => first | exact ⟨_, fun _ => rfl⟩ | exact ⟨undef, fun _ => rfl⟩
  apply obl_det
  case hrun =>
    intro D y wz hW hD R hR
    have HRR := Lib.hid hR
    clear hR
    have HW := Lib.hid hW
    clear hW hD
    go_wp2_with fail
    exact HRR.out _ HW.out
  case hnp => rfl
  case hv => first | exact ⟨_, fun _ => rfl⟩ | exact ⟨undef, fun _ => rfl⟩
  apply obl_det
  case hrun =>
    intro D y wz hW hD R hR
    have HRR := Lib.hid hR
    clear hR
    have HW := Lib.hid hW
    clear hW hD
    refine wpList_load_want rfl 25 _ rfl _ rfl _ _ _ _ ((C2.out.call HW.out.bel).get 0 rfl) Try.underlying25 rfl info25 ?_
    go_simp
    exact HRR.out _ HW.out
  case hnp => rfl
  case hv => first | exact ⟨_, fun _ => rfl⟩ | exact ⟨undef, fun _ => rfl⟩
  apply obl_det
  case hrun =>
    intro D y wz hW hD R hR
    have HRR := Lib.hid hR
    clear hR
    have HW := Lib.hid hW
    clear hW hD
    go_wp2_with fail
    exact HRR.out _ HW.out
  case hnp => rfl
  case hv => first | exact ⟨_, fun _ => rfl⟩ | exact ⟨undef, fun _ => rfl⟩
  apply obl_det
  case hrun =>
    intro D y wz hW hD R hR
    have HRR := Lib.hid hR
    clear hR
    have HW := Lib.hid hW
    clear hW hD
    go_wp2_with fail
    exact HRR.out _ HW.out
  case hnp => rfl
  case hv => first | exact ⟨_, fun _ => rfl⟩ | exact ⟨undef, fun _ => rfl⟩
  apply obl_det
  case hrun =>
    intro D y wz hW hD R hR
    have HRR := Lib.hid hR
    clear hR
    have HW := Lib.hid hW
    clear hW hD
    go_wp2_with fail
    exact HRR.out _ HW.out
  case hnp => rfl
  case hv => first | exact ⟨_, fun _ => rfl⟩ | exact ⟨undef, fun _ => rfl⟩
  apply obl_priv 55
  case hd => rfl
  case hp => rfl
  case hrun =>
    intro D y wz hW hD R hR
    have HRR := Lib.hid hR
    clear hR
    have HW := Lib.hid hW
    clear hW hD
    have HC := Lib.hid (HT1.out wz HW.out.bel)
    go_wp2_with fail
    refine HC.out.mono ?_
    rintro e w' ⟨t, rfl, hi, hb⟩
    have HN := Lib.hid ((CalW.next (stab_tru _) (stab_ints _) HW.out hb).putA hi)
    clear hb
    go_wp2_with fail
    refine HRR.out _ _ ?_
    show CalW w2 (IsTru X1) (IsInts M1) (.int .i64 0) true (D 8) (D 9) (D 10) (D 12) _ (y 56) (y 47) (y 57) (y 11) _
    exact HN.out
  apply obl_priv 56
  case hd => rfl
  case hp => rfl
  case hrun =>
    intro D y wz hW hD R hR
    have HRR := Lib.hid hR
    clear hR
    have HW := Lib.hid hW
    have HA := Lib.hid (hW.a (hD.pre _ 7 rfl (by kernel_rfl)))
    clear hW hD
    have HC := Lib.hid (HM1.out wz _ HW.out.bel HA.out)
    go_wp2_with fail
    refine HC.out.mono ?_
    rintro e w' ⟨v, rfl, hi, hb⟩
    have HN := Lib.hid ((CalW.next (stab_tru _) (stab_ints _) HW.out hb).putB hi)
    clear hb
    go_wp2_with fail
    refine HRR.out _ _ ?_
    show CalW w2 (IsTru X1) (IsInts M1) (.int .i64 0) (D 7) true (D 9) (D 10) (D 12) (y 55) _ (y 47) (y 57) (y 11) _
    exact HN.out
  apply obl_priv 47
  case hd => rfl
  case hp => rfl
  case hrun =>
    intro D y wz hW hD R hR
    have HRR := Lib.hid hR
    clear hR
    refine wpList_mv rfl _ rfl (y 56) rfl ?_
    refine HRR.out (y 56) _ ?_
    exact hW.putM (hD.pre _ 8 rfl (by kernel_rfl))
  apply obl_priv 57
  case hd => rfl
  case hp => rfl
  case hrun =>
    intro D y wz hW hD R hR
    have HRR := Lib.hid hR
    clear hR
    obtain ⟨v, e, hv⟩ := hW.m (hD.pre _ 9 rfl (by kernel_rfl))
    refine wpList_ex rfl _ 0 rfl _ e v rfl ?_
    refine HRR.out v _ ?_
    exact hW.putX hv
  apply obl_det
  case hrun =>
    intro D y wz hW hD R hR
    have HRR := Lib.hid hR
    clear hR
    have HW := Lib.hid hW
    obtain ⟨v, e, -⟩ := hW.m (hD.pre _ 9 rfl (by kernel_rfl))
    have HE := Lib.hid e
    clear e
    clear hW hD
    refine wpList_ex rfl _ 1 rfl _ HE.out (.int .i64 0) rfl ?_
    exact HRR.out _ HW.out
  case hnp => rfl
  case hv => first | exact ⟨_, fun _ => rfl⟩ | exact ⟨undef, fun _ => rfl⟩
  apply obl_priv 11
  case hd => rfl
  case hp => rfl
  case hrun =>
    intro D y wz hW hD R hR
    have HRR := Lib.hid hR
    clear hR
    refine wpList_as rfl _ rfl (y 57) rfl ?_
    refine HRR.out (y 57) _ ?_
    exact hW.putS (hD.pre _ 10 rfl (by kernel_rfl))
  apply obl_det
  case hrun =>
    intro D y wz hW hD R hR
    have HRR := Lib.hid hR
    clear hR
    have HW := Lib.hid hW
    clear hW hD
    go_wp2_with fail
    exact HRR.out _ HW.out
  case hnp => rfl
  case hv => first | exact ⟨_, fun _ => rfl⟩ | exact ⟨undef, fun _ => rfl⟩
  apply obl_nil
  intro D y w8 hall hW
  have HPB := Lib.hid (hW.s (hall 12 (by decide)))
  have HBW := Lib.hid hW.bel
  clear hW hall
  generalize y 55 = y55 at *
  generalize y 56 = y56 at *
  generalize y 47 = y47 at *
  generalize y 57 = y57 at *
  generalize y 11 = y11 at *
  have HP1 := Lib.hid HPB.out
  have C3 := Lib.hid (C2.out.call HBW.out)
  have HT := Lib.hid (SlIn.next HT.out HBW.out)
  have HB3 := Lib.hid HBW.out
  clear HBW C2 HPB HT1 HM1
  obtain ⟨z1, q1, rfl⟩ := HP1.out.shape hm1
  go_wp2_with fail
  refine wp_region_inv1 (by kernel_rfl) (by kernel_rfl) [66, 67, 59, 68, 13] (fun D y w' => CalW w8 (IsTru X2) (IsInts A) (.int .i64 0) (D 6) (D 7) (D 8) (D 9) (D 11) (y 66) (y 67) (y 59) (y 68) (y 13) w') (CalW.start _) ?L2 ?hL2 ?_
  case hL2 =>
    intro y
    simp only [fill, List.foldl, Act.put, List.setIfInBounds_toArray, List.set]
    exact rfl
  apply obl_det
  case hrun =>
    intro D y wz hW hD R hR
    have HRR := Lib.hid hR
    clear hR
    have HW := Lib.hid hW
    clear hW hD
    refine wpList_load_want rfl 25 _ rfl _ rfl _ _ _ _ ((C3.out.call HW.out.bel).get 0 rfl) Try.underlying25 rfl info25 ?_
    go_simp
    exact HRR.out _ HW.out
  case hnp => rfl
  case hv => first | exact ⟨_, fun _ => rfl⟩ | exact ⟨undef, fun _ => rfl⟩
  apply obl_det
  case hrun =>
    intro D y wz hW hD R hR
    have HRR := Lib.hid hR
    clear hR
    have HW := Lib.hid hW
    clear hW hD
    go_wp2_with fail
    exact HRR.out _ HW.out
  case hnp => rfl
  case hv => first | exact ⟨_, fun _ => rfl⟩ | exact ⟨undef, fun _ => rfl⟩
  apply obl_det
  case hrun =>
    intro D y wz hW hD R hR
    have HRR := Lib.hid hR
    clear hR
    have HW := Lib.hid hW
    clear hW hD
    go_wp2_with fail
    exact HRR.out _ HW.out
  case hnp => rfl
  case hv => first | exact ⟨_, fun _ => rfl⟩ | exact ⟨undef, fun _ => rfl⟩
  apply obl_det
  case hrun =>
    intro D y wz hW hD R hR
    have HRR := Lib.hid hR
    clear hR
    have HW := Lib.hid hW
    clear hW hD
    refine wpList_load_want rfl 25 _ rfl _ rfl _ _ _ _ ((C3.out.call HW.out.bel).get 0 rfl) Try.underlying25 rfl info25 ?_
    go_simp
    exact HRR.out _ HW.out
  case hnp => rfl
  case hv => first | exact ⟨_, fun _ => rfl⟩ | exact ⟨undef, fun _ => rfl⟩
  apply obl_det
  case hrun =>
    intro D y wz hW hD R hR
    have HRR := Lib.hid hR
    clear hR
    have HW := Lib.hid hW
    clear hW hD
    go_wp2_with fail
    exact HRR.out _ HW.out
  case hnp => rfl
  case hv => first | exact ⟨_, fun _ => rfl⟩ | exact ⟨undef, fun _ => rfl⟩
  apply obl_det
  case hrun =>
    intro D y wz hW hD R hR
    have HRR := Lib.hid hR
    clear hR
    have HW := Lib.hid hW
    clear hW hD
    go_wp2_with fail
    exact HRR.out _ HW.out
  case hnp => rfl
  case hv => first | exact ⟨_, fun _ => rfl⟩ | exact ⟨undef, fun _ => rfl⟩
  apply obl_priv 66
  case hd => rfl
  case hp => rfl
  case hrun =>
    intro D y wz hW hD R hR
    have HRR := Lib.hid hR
    clear hR
    have HW := Lib.hid hW
    clear hW hD
    have HC := Lib.hid (HT2.out wz (HB3.out.trans (HW.out.bel.mono HB3.out.size)))
    go_wp2_with fail
    refine HC.out.mono ?_
    rintro e w' ⟨t, rfl, hi, hb⟩
    have HN := Lib.hid ((CalW.next (stab_tru _) (stab_ints _) HW.out hb).putA hi)
    clear hb
    go_wp2_with fail
    refine HRR.out _ _ ?_
    show CalW w8 (IsTru X2) (IsInts A) (.int .i64 0) true (D 7) (D 8) (D 9) (D 11) _ (y 67) (y 59) (y 68) (y 13) _
    exact HN.out
  apply obl_priv 67
  case hd => rfl
  case hp => rfl
  case hrun =>
    intro D y wz hW hD R hR
    have HRR := Lib.hid hR
    clear hR
    have HW := Lib.hid hW
    have HA := Lib.hid (hW.a (hD.pre _ 6 rfl (by kernel_rfl)))
    clear hW hD
    have HC := Lib.hid (HM2.out wz _ (HB3.out.trans (HW.out.bel.mono HB3.out.size)) HA.out)
    go_wp2_with fail
    refine HC.out.mono ?_
    rintro e w' ⟨v, rfl, hi, hb⟩
    have HN := Lib.hid ((CalW.next (stab_tru _) (stab_ints _) HW.out hb).putB hi)
    clear hb
    go_wp2_with fail
    refine HRR.out _ _ ?_
    show CalW w8 (IsTru X2) (IsInts A) (.int .i64 0) (D 6) true (D 8) (D 9) (D 11) (y 66) _ (y 59) (y 68) (y 13) _
    exact HN.out
  apply obl_priv 59
  case hd => rfl
  case hp => rfl
  case hrun =>
    intro D y wz hW hD R hR
    have HRR := Lib.hid hR
    clear hR
    refine wpList_mv rfl _ rfl (y 67) rfl ?_
    refine HRR.out (y 67) _ ?_
    exact hW.putM (hD.pre _ 7 rfl (by kernel_rfl))
  apply obl_priv 68
  case hd => rfl
  case hp => rfl
  case hrun =>
    intro D y wz hW hD R hR
    have HRR := Lib.hid hR
    clear hR
    obtain ⟨v, e, hv⟩ := hW.m (hD.pre _ 8 rfl (by kernel_rfl))
    refine wpList_ex rfl _ 0 rfl _ e v rfl ?_
    refine HRR.out v _ ?_
    exact hW.putX hv
  apply obl_det
  case hrun =>
    intro D y wz hW hD R hR
    have HRR := Lib.hid hR
    clear hR
    have HW := Lib.hid hW
    obtain ⟨v, e, -⟩ := hW.m (hD.pre _ 8 rfl (by kernel_rfl))
    have HE := Lib.hid e
    clear e
    clear hW hD
    refine wpList_ex rfl _ 1 rfl _ HE.out (.int .i64 0) rfl ?_
    exact HRR.out _ HW.out
  case hnp => rfl
  case hv => first | exact ⟨_, fun _ => rfl⟩ | exact ⟨undef, fun _ => rfl⟩
  apply obl_priv 13
  case hd => rfl
  case hp => rfl
  case hrun =>
    intro D y wz hW hD R hR
    have HRR := Lib.hid hR
    clear hR
    refine wpList_as rfl _ rfl (y 68) rfl ?_
    refine HRR.out (y 68) _ ?_
    exact hW.putS (hD.pre _ 9 rfl (by kernel_rfl))
  apply obl_det
  case hrun =>
    intro D y wz hW hD R hR
    have HRR := Lib.hid hR
    clear hR
    have HW := Lib.hid hW
    clear hW hD
    go_wp2_with fail
    exact HRR.out _ HW.out
  case hnp => rfl
  case hv => first | exact ⟨_, fun _ => rfl⟩ | exact ⟨undef, fun _ => rfl⟩
  apply obl_nil
  intro D y w9 hall hW
  have HPB := Lib.hid (hW.s (hall 11 (by decide)))
  have HBW := Lib.hid hW.bel
  clear hW hall
  generalize y 66 = y66 at *
  generalize y 67 = y67 at *
  generalize y 59 = y59 at *
  generalize y 68 = y68 at *
  generalize y 13 = y13 at *
  have HP2 := Lib.hid HPB.out
  have C4 := Lib.hid (C3.out.call HBW.out)
  have HT := Lib.hid (SlIn.next HT.out HBW.out)
  have HP1 := Lib.hid (IntsIn.next HP1.out HBW.out)
  have HB4 := Lib.hid (HB3.out.trans (HBW.out.mono HB3.out.size))
  clear HBW C3 HPB HT2 HM2 HB3
  go_wp2_with fail
  refine wp_region_inv1 (by kernel_rfl) (by kernel_rfl) [77, 78, 70, 79, 15] (fun D y w' => CalW w9 (IsTru X3) (IsInts B) (.int .i64 0) (D 6) (D 7) (D 8) (D 9) (D 11) (y 77) (y 78) (y 70) (y 79) (y 15) w') (CalW.start _) ?L3 ?hL3 ?_
  case hL3 =>
    intro y
    simp only [fill, List.foldl, Act.put, List.setIfInBounds_toArray, List.set]
    exact rfl
  apply obl_det
  case hrun =>
    intro D y wz hW hD R hR
    have HRR := Lib.hid hR
    clear hR
    have HW := Lib.hid hW
    clear hW hD
    refine wpList_load_want rfl 25 _ rfl _ rfl _ _ _ _ ((C4.out.call HW.out.bel).get 0 rfl) Try.underlying25 rfl info25 ?_
    go_simp
    exact HRR.out _ HW.out
  case hnp => rfl
  case hv => first | exact ⟨_, fun _ => rfl⟩ | exact ⟨undef, fun _ => rfl⟩
  apply obl_det
  case hrun =>
    intro D y wz hW hD R hR
    have HRR := Lib.hid hR
    clear hR
    have HW := Lib.hid hW
    clear hW hD
    go_wp2_with fail
    exact HRR.out _ HW.out
  case hnp => rfl
  case hv => first | exact ⟨_, fun _ => rfl⟩ | exact ⟨undef, fun _ => rfl⟩
  apply obl_det
  case hrun =>
    intro D y wz hW hD R hR
    have HRR := Lib.hid hR
    clear hR
    have HW := Lib.hid hW
    clear hW hD
    go_wp2_with fail
    exact HRR.out _ HW.out
  case hnp => rfl
  case hv => first | exact ⟨_, fun _ => rfl⟩ | exact ⟨undef, fun _ => rfl⟩
  apply obl_det
  case hrun =>
    intro D y wz hW hD R hR
    have HRR := Lib.hid hR
    clear hR
    have HW := Lib.hid hW
    clear hW hD
    refine wpList_load_want rfl 25 _ rfl _ rfl _ _ _ _ ((C4.out.call HW.out.bel).get 0 rfl) Try.underlying25 rfl info25 ?_
    go_simp
    exact HRR.out _ HW.out
  case hnp => rfl
  case hv => first | exact ⟨_, fun _ => rfl⟩ | exact ⟨undef, fun _ => rfl⟩
  apply obl_det
  case hrun =>
    intro D y wz hW hD R hR
    have HRR := Lib.hid hR
    clear hR
    have HW := Lib.hid hW
    clear hW hD
    go_wp2_with fail
    exact HRR.out _ HW.out
  case hnp => rfl
  case hv => first | exact ⟨_, fun _ => rfl⟩ | exact ⟨undef, fun _ => rfl⟩
  apply obl_det
  case hrun =>
    intro D y wz hW hD R hR
    have HRR := Lib.hid hR
    clear hR
    have HW := Lib.hid hW
    clear hW hD
    go_wp2_with fail
    exact HRR.out _ HW.out
  case hnp => rfl
  case hv => first | exact ⟨_, fun _ => rfl⟩ | exact ⟨undef, fun _ => rfl⟩
  apply obl_priv 77
  case hd => rfl
  case hp => rfl
  case hrun =>
    intro D y wz hW hD R hR
    have HRR := Lib.hid hR
    clear hR
    have HW := Lib.hid hW
    clear hW hD
    have HC := Lib.hid (HT3.out wz (HB4.out.trans (HW.out.bel.mono HB4.out.size)))
    go_wp2_with fail
    refine HC.out.mono ?_
    rintro e w' ⟨t, rfl, hi, hb⟩
    have HN := Lib.hid ((CalW.next (stab_tru _) (stab_ints _) HW.out hb).putA hi)
    clear hb
    go_wp2_with fail
    refine HRR.out _ _ ?_
    show CalW w9 (IsTru X3) (IsInts B) (.int .i64 0) true (D 7) (D 8) (D 9) (D 11) _ (y 78) (y 70) (y 79) (y 15) _
    exact HN.out
  apply obl_priv 78
  case hd => rfl
  case hp => rfl
  case hrun =>
    intro D y wz hW hD R hR
    have HRR := Lib.hid hR
    clear hR
    have HW := Lib.hid hW
    have HA := Lib.hid (hW.a (hD.pre _ 6 rfl (by kernel_rfl)))
    clear hW hD
    have HC := Lib.hid (HM3.out wz _ (HB4.out.trans (HW.out.bel.mono HB4.out.size)) HA.out)
    go_wp2_with fail
    refine HC.out.mono ?_
    rintro e w' ⟨v, rfl, hi, hb⟩
    have HN := Lib.hid ((CalW.next (stab_tru _) (stab_ints _) HW.out hb).putB hi)
    clear hb
    go_wp2_with fail
    refine HRR.out _ _ ?_
    show CalW w9 (IsTru X3) (IsInts B) (.int .i64 0) (D 6) true (D 8) (D 9) (D 11) (y 77) _ (y 70) (y 79) (y 15) _
    exact HN.out
  apply obl_priv 70
  case hd => rfl
  case hp => rfl
  case hrun =>
    intro D y wz hW hD R hR
    have HRR := Lib.hid hR
    clear hR
    refine wpList_mv rfl _ rfl (y 78) rfl ?_
    refine HRR.out (y 78) _ ?_
    exact hW.putM (hD.pre _ 7 rfl (by kernel_rfl))
  apply obl_priv 79
  case hd => rfl
  case hp => rfl
  case hrun =>
    intro D y wz hW hD R hR
    have HRR := Lib.hid hR
    clear hR
    obtain ⟨v, e, hv⟩ := hW.m (hD.pre _ 8 rfl (by kernel_rfl))
    refine wpList_ex rfl _ 0 rfl _ e v rfl ?_
    refine HRR.out v _ ?_
    exact hW.putX hv
  apply obl_det
  case hrun =>
    intro D y wz hW hD R hR
    have HRR := Lib.hid hR
    clear hR
    have HW := Lib.hid hW
    obtain ⟨v, e, -⟩ := hW.m (hD.pre _ 8 rfl (by kernel_rfl))
    have HE := Lib.hid e
    clear e
    clear hW hD
    refine wpList_ex rfl _ 1 rfl _ HE.out (.int .i64 0) rfl ?_
    exact HRR.out _ HW.out
  case hnp => rfl
  case hv => first | exact ⟨_, fun _ => rfl⟩ | exact ⟨undef, fun _ => rfl⟩
  apply obl_priv 15
  case hd => rfl
  case hp => rfl
  case hrun =>
    intro D y wz hW hD R hR
    have HRR := Lib.hid hR
    clear hR
    refine wpList_as rfl _ rfl (y 79) rfl ?_
    refine HRR.out (y 79) _ ?_
    exact hW.putS (hD.pre _ 9 rfl (by kernel_rfl))
  apply obl_det
  case hrun =>
    intro D y wz hW hD R hR
    have HRR := Lib.hid hR
    clear hR
    have HW := Lib.hid hW
    clear hW hD
    go_wp2_with fail
    exact HRR.out _ HW.out
  case hnp => rfl
  case hv => first | exact ⟨_, fun _ => rfl⟩ | exact ⟨undef, fun _ => rfl⟩
  apply obl_nil
  intro D y w10 hall hW
  have HPB := Lib.hid (hW.s (hall 11 (by decide)))
  have HBW := Lib.hid hW.bel
  clear hW hall
  generalize y 77 = y77 at *
  generalize y 78 = y78 at *
  generalize y 70 = y70 at *
  generalize y 79 = y79 at *
  generalize y 15 = y15 at *
  have HP3 := Lib.hid HPB.out
  have C5 := Lib.hid (C4.out.call HBW.out)
  have HT := Lib.hid (SlIn.next HT.out HBW.out)
  have HP1 := Lib.hid (IntsIn.next HP1.out HBW.out)
  have HP2 := Lib.hid (IntsIn.next HP2.out HBW.out)
  clear HBW C4 HPB HT3 HM3 HB4
  have hq : ((l.length : Int) != (l.length : Int)) = false := by simp
  obtain ⟨tb, to, rfl, htb, rv, hrc, hsp⟩ := HT.out.at' (i := k) (by rw [rangesV_length]; exact hkl)
  have hrc : w10.cell? ⟨tb, to + k, none⟩ = some rv := by have h := hrc; simpa [rdSpans] using h
  have HEN := fun h => Lib.hid (ends_ref ((rangesV s l).getD k default) rv w10 hsp h)
  unfold RetTwo at HEN
  rw [HAE.out, HBE.out] at HEN
  have HEN := HEN (by rw [show (rangesV s l).getD k default = (rangesV s l).getD k [] from rfl, row_eq s l hkl]; simp; omega)
  clear hsp
  go_wp2_with fail
  refine HEN.out.mono ?_
  rintro e w11 ⟨u1, u2, rfl, h1, h2, hb⟩
  have HA := Lib.hid h1
  have HB := Lib.hid h2
  have C6 := Lib.hid (C5.out.call hb)
  have HP1 := Lib.hid (IntsIn.next HP1.out hb)
  have HP2 := Lib.hid (IntsIn.next HP2.out hb)
  have HP3 := Lib.hid (IntsIn.next HP3.out hb)
  clear h1 h2 hb HEN HT hrc htb C5 hq HL HVX HX
  obtain ⟨a1, d1, rfl⟩ := HA.out.shape hA
  obtain ⟨a2, d2, rfl⟩ := HB.out.shape hB
  have hc0 := C6.out.cell 0 rfl 0
  have hq : ((s.things.length : Int) != (s.things.length : Int)) = false := by simp
  go_wp2_with fail
  refine (ints_same A _ _ _ HP2.out HA.out).mono ?_
  rintro e w12 ⟨rfl, hb⟩
  have HA := Lib.hid (IntsIn.next HA.out hb)
  have HB := Lib.hid (IntsIn.next HB.out hb)
  have C7 := Lib.hid (C6.out.call hb)
  have HP1 := Lib.hid (IntsIn.next HP1.out hb)
  have HP3 := Lib.hid (IntsIn.next HP3.out hb)
  clear hb C6 HP2 hc0
  go_wp2_with fail
  refine (ints_same B _ _ _ HP3.out HB.out).mono ?_
  rintro e w13 ⟨rfl, hb⟩
  have HA := Lib.hid (IntsIn.next HA.out hb)
  have HB := Lib.hid (IntsIn.next HB.out hb)
  have C8 := Lib.hid (C7.out.call hb)
  have HP1 := Lib.hid (IntsIn.next HP1.out hb)
  clear hb C7 HP3 hq
  go_wp2_with fail
  go_loopw [19] (fun iv wr => ∃ t : Nat, iv = .int .i64 t ∧ t ≤ s.things.length ∧ Below w13.heap.size w13 wr) (fun iv _ => s.things.length - (intOf iv).toNat)
  case atStart => exact ⟨0, rfl, by omega, Below.refl _ _⟩
  case round =>
    obtain ⟨t, rfl, ht, hb⟩ := hrel
    have HBR := Lib.hid hb
    clear hb
    by_cases htl : t < s.things.length
    · have hti : (t : Int) < (s.things.length : Int) := by omega
      obtain ⟨b1, o1, rfl, hb1, hk1⟩ := HP1.out.at' (i := t) (by omega)
      obtain ⟨b2, o2, rfl, hb2, hk2⟩ := HA.out.at' (i := t) (by omega)
      obtain ⟨b3, o3, rfl, hb3, hk3⟩ := HB.out.at' (i := t) (by omega)
      have HK1 := Lib.hid hk1
      have HK2 := Lib.hid hk2
      have HK3 := Lib.hid hk3
      have HU1 := Lib.hid hb1
      have HU2 := Lib.hid hb2
      have HU3 := Lib.hid hb3
      have hmb := HBT.out t htl
      clear hk1 hk2 hk3 hb1 hb2 hb3 hA hB hm1
      generalize M1.getD t 0 = mt at *
      generalize A.getD t 0 = at' at *
      generalize B.getD t 0 = bt at *
      go_wp2_with fail
      refine wp_region_inv0 (by kernel_rfl) (by kernel_rfl) (fun D w' => Below wr.heap.size wr w') (Below.refl _ _).drew ?_
      iterate 3
        (apply obl_det
         case hrun =>
           intro D y wz hW hD R hR
           have HRR := Lib.hid hR
           clear hR
           have HW := Lib.hid hW
           clear hW hD
           go_wp2_with fail
           exact HRR.out _ HW.out
         case hnp => rfl
         case hv => first | exact ⟨_, fun _ => rfl⟩ | exact ⟨undef, fun _ => rfl⟩)
      apply obl_det
      case hrun =>
        intro D y wz hW hD R hR
        have HRR := Lib.hid hR
        clear hR
        have HW := Lib.hid hW
        have HY := Lib.hid (HBR.out.trans (HW.out.mono HBR.out.size))
        have h1 := (HY.out.cell (p := ⟨b1, o1 + t, none⟩) HU1.out).trans HK1.out
        clear hW hD
        go_wp2_with fail
        exact HRR.out _ HW.out
      case hnp => rfl
      case hv => first | exact ⟨_, fun _ => rfl⟩ | exact ⟨undef, fun _ => rfl⟩
      iterate 3
        (apply obl_det
         case hrun =>
           intro D y wz hW hD R hR
           have HRR := Lib.hid hR
           clear hR
           have HW := Lib.hid hW
           clear hW hD
           go_wp2_with fail
           exact HRR.out _ HW.out
         case hnp => rfl
         case hv => first | exact ⟨_, fun _ => rfl⟩ | exact ⟨undef, fun _ => rfl⟩)
      apply obl_det
      case hrun =>
        intro D y wz hW hD R hR
        have HRR := Lib.hid hR
        clear hR
        have HW := Lib.hid hW
        have HY := Lib.hid (HBR.out.trans (HW.out.mono HBR.out.size))
        have h1 := (HY.out.cell (p := ⟨b2, o2 + t, none⟩) HU2.out).trans HK2.out
        clear hW hD
        go_wp2_with fail
        exact HRR.out _ HW.out
      case hnp => rfl
      case hv => first | exact ⟨_, fun _ => rfl⟩ | exact ⟨undef, fun _ => rfl⟩
      iterate 5
        (apply obl_det
         case hrun =>
           intro D y wz hW hD R hR
           have HRR := Lib.hid hR
           clear hR
           have HW := Lib.hid hW
           clear hW hD
           go_wp2_with fail
           exact HRR.out _ HW.out
         case hnp => rfl
         case hv => first | exact ⟨_, fun _ => rfl⟩ | exact ⟨undef, fun _ => rfl⟩)
      apply obl_det
      case hrun =>
        intro D y wz hW hD R hR
        have HRR := Lib.hid hR
        clear hR
        have HW := Lib.hid hW
        have HY := Lib.hid (HBR.out.trans (HW.out.mono HBR.out.size))
        have h1 := (HY.out.cell (p := ⟨b1, o1 + t, none⟩) HU1.out).trans HK1.out
        clear hW hD
        go_wp2_with fail
        exact HRR.out _ HW.out
      case hnp => rfl
      case hv => first | exact ⟨_, fun _ => rfl⟩ | exact ⟨undef, fun _ => rfl⟩
      iterate 3
        (apply obl_det
         case hrun =>
           intro D y wz hW hD R hR
           have HRR := Lib.hid hR
           clear hR
           have HW := Lib.hid hW
           clear hW hD
           go_wp2_with fail
           exact HRR.out _ HW.out
         case hnp => rfl
         case hv => first | exact ⟨_, fun _ => rfl⟩ | exact ⟨undef, fun _ => rfl⟩)
      apply obl_det
      case hrun =>
        intro D y wz hW hD R hR
        have HRR := Lib.hid hR
        clear hR
        have HW := Lib.hid hW
        have HY := Lib.hid (HBR.out.trans (HW.out.mono HBR.out.size))
        have h1 := (HY.out.cell (p := ⟨b3, o3 + t, none⟩) HU3.out).trans HK3.out
        clear hW hD
        go_wp2_with fail
        exact HRR.out _ HW.out
      case hnp => rfl
      case hv => first | exact ⟨_, fun _ => rfl⟩ | exact ⟨undef, fun _ => rfl⟩
      iterate 2
        (apply obl_det
         case hrun =>
           intro D y wz hW hD R hR
           have HRR := Lib.hid hR
           clear hR
           have HW := Lib.hid hW
           clear hW hD
           go_wp2_with fail
           exact HRR.out _ HW.out
         case hnp => rfl
         case hv => first | exact ⟨_, fun _ => rfl⟩ | exact ⟨undef, fun _ => rfl⟩)
      apply obl_nil
      intro D y w8 hall hW
      have HB8 := Lib.hid (HBR.out.trans (hW.mono HBR.out.size))
      clear hall hW
      go_wp2_with fail
      refine ⟨⟨t + 1, by push_cast; rfl, by omega, HB8.out⟩, ?_⟩
      simp [intOf]; omega
    · obtain rfl : t = s.things.length := by omega
      go_wp2_with fail
      refine (awake_any _).mono ?_
      rintro e w14 ⟨rfl, hb⟩
      have CX := Lib.hid ((C8.out.call HBR.out).call hb)
      clear hb C8 HBR
      go_wp2_with fail
      go_ret
      exact ⟨rfl, CX.out.bel⟩
end Go.Proofs.Ytaigbhhmmdfdcaa
