/- ScentAgain: the walk. -/
import Derived.Test.YtaigbhhmmdfdcaaY25
import Derived.Test.YtaigbhhmmdfdcaaYd
import Derived.Test.YtaigbhhmmdfdcaaYa
import Derived.Test.YtaigbhhmmdfdcaaP16
namespace Go.Proofs.Ytaigbhhmmdfdcaa
open Go.RowKit
set_option maxRecDepth 100000 in
set_option maxHeartbeats 16000000 in
theorem again_law (s : Shop) (l : List Bat) (x : List Int) (hx : Turns x) (vt vl v vx : Value) (w : World) (hs : ShopAt w.heap.size w vt vl s) (hl : BatsIn w.heap.size w v l) (hvx : IntsIn .u32 w.heap.size w vx x) :
    Calls Try.prog 12 #[.agg #[vt, vl], v, vx] w (fun e w' => e = .returned (.bool true) ∧ Below w.heap.size w w') := by
  have HS := Lib.hid hs
  have HL := Lib.hid hl
  have HX := Lib.hid hx
  have HVX := Lib.hid hvx
  obtain ⟨ta, tc, rfl, -, -⟩ := sl_shape hs.1
  obtain ⟨la, lc, rfl, -, -⟩ := sl_shape hs.2
  obtain ⟨a, c, rfl, hlc, hlen⟩ := sl_shape hl
  obtain ⟨ax, cx, rfl, -⟩ := hvx
  clear hs hl hx
  have C0 : Hid (Bs w [(w.heap.size, .cells #[.slice ta s.things.length tc, .slice la s.lots.length lc] 25)] _) := (Bs.nil w).push _ rfl (.cells #[.slice ta s.things.length tc, .slice la s.lots.length lc] 25)
  have hc0 := C0.out.cell 0 rfl 0
  have hc1 := C0.out.cell 0 rfl 1
  have HG : Hid (batchesE s l = 0 → AllGood s l) := all_good
  have HTP := Lib.hid (fun hz k hk w hs hl hvx => @truth_pair s l k hz hk x HX.out (.slice ta s.things.length tc) (.slice la s.lots.length lc) (.slice a l.length c) (.slice ax x.length cx) w hs hl hvx)
  have HEP := Lib.hid (fun hz k hk e w hs hl => @end_pair s l k hz hk e (.slice ta s.things.length tc) (.slice la s.lots.length lc) (.slice a l.length c) w hs hl)
  clear HEP
  have HAC := Lib.hid (fun (hz : batchesE s l = 0) h6 g h0 hg hw => (⟨@again_ok s l hz h6 g h0 hg hw, @again_content s l hz h6 g h0 hg hw⟩ : _ ∧ _))
  have H2 := fun w h1 h2 => Lib.hid (batches_ref s l (.slice ta s.things.length tc) (.slice la s.lots.length lc) (.slice a l.length c) w h1 h2)
  generalize batchesE s l = E at *
  go_enter Try.func12, Try.ntmps12
  go_wp2_with fail
  refine (H2 _ ((HS.out.below C0.out.bel).mono C0.out.bel.size) ((HL.out.below C0.out.bel).mono C0.out.bel.size)).out.mono ?_
  rintro e w1 ⟨rfl, hb⟩
  have C1 := Lib.hid (C0.out.call hb)
  clear hb C0 hc0 hc1 H2
  by_cases hE : E = 0
  case neg =>
    have hq : (E != 0) = true := by simpa using hE
    clear hE HG HTP HAC
    go_wp2_with fail
    refine (awake_any _).mono ?_
    rintro e w3 ⟨rfl, hb⟩
    have C3 := Lib.hid (C1.out.call hb)
    clear hb C1
    go_wp2_with fail
    go_ret
    exact ⟨rfl, C3.out.bel⟩
  subst hE
  have HGD := Lib.hid (HG.out rfl)
  have HTQ := Lib.hid (HTP.out rfl)
  have HAQ := Lib.hid (HAC.out rfl)
  clear HG HTP HAC
  by_cases h6 : l.length = 6
  case pos =>
    have hq : ((l.length : Int) == 6) = true := by rw [h6]; rfl
    clear HGD HTQ HAQ h6
    go_wp2_with fail
    refine (awake_any _).mono ?_
    rintro e w3 ⟨rfl, hb⟩
    have C3 := Lib.hid (C1.out.call hb)
    clear hb C1
    go_wp2_with fail
    go_ret
    exact ⟨rfl, C3.out.bel⟩
  have hq : ((l.length : Int) == 6) = false := by rw [beq_eq_false_iff_ne]; omega
  obtain ⟨hsh, hn1, hn6, -⟩ := HGD.out
  have hnt5 := hsh.nt5
  have hnt1 := hsh.nt1
  have hnl6 := hsh.nl6
  clear hsh
  obtain ⟨L, hL⟩ : ∃ L, l.length - 1 = L := ⟨_, rfl⟩
  have HLE := Lib.hid hL
  have hLl : L < l.length := by omega
  have hLi : (L : Int) < (l.length : Int) := by omega
  have hLE : (l.length : Int) - 1 = (L : Int) := by omega
  clear hL
  obtain ⟨b, o, rfl, hbb, g1, g2, g3, hd1, hd2, hd3, hwt⟩ := weigh HGD.out hLl HL.out
  have hd1 := (C1.out.bel.cell (p := ⟨b, o + L * 3, none⟩) hbb).trans hd1
  have hd2 := (C1.out.bel.cell (p := ⟨b, o + L * 3 + 1, none⟩) hbb).trans hd2
  have hd3 := (C1.out.bel.cell (p := ⟨b, o + L * 3 + 2, none⟩) hbb).trans hd3
  have HWT := Lib.hid hwt
  have hwb := HGD.out.pre.pos HGD.out.sh hn6 (Nat.le_refl _) hLl
  have HFA := Lib.hid (fun g t m hm => @again_facts s l HGD.out L HLE.out g t m hm)
  have HAQ := Lib.hid (fun g h0 h1 => HAQ.out h6 (g := g) h0 h1)
  have HAQ : Hid (∀ g : Int, 0 < g → g ≤ 1000 → g ≤ weightV (l.getD L default) → batchesE s (l ++ [nextB s l g]) = 0 ∧ contentV s (l ++ [nextB s l g]) = rangesV s l ++ [(List.range s.things.length).map (againV s l g)]) := fun g h0 h1 h2 => HAQ.out g h0 h1 (by rw [HLE.out]; exact h2)
  have HUB := Lib.hid hbb
  clear hwt
  go_wp2_with fail
  refine (HWT.out _ C1.out.bel).mono ?_
  rintro e w2 ⟨rfl, hb⟩
  have C2 := Lib.hid (C1.out.call hb)
  clear hb C1 hd1 hd2 hd3 hbb HWT hq
  generalize weightV (l.getD L default) = WT at *
  go_wp2_with fail
  try rw [hLE]
  clear hLE
  obtain ⟨g, hg⟩ : ∃ g, min WT 1000 = g := ⟨_, rfl⟩
  rw [hg]
  have hgb : 0 < g ∧ g ≤ 1000 ∧ g ≤ WT := by omega
  clear hg
  have HAG := Lib.hid (HAQ.out g hgb.1 hgb.2.1 hgb.2.2)
  clear HAQ
  refine wp_region_inv1 (by kernel_rfl) (by kernel_rfl) [40, 43, 47, 48, 10] (fun D y w' => MkW w2 s.lots.length l.length s.things.length (D 3) (D 6) (D 10) (D 11) (D 12) (D 13) (y 40) (y 43) (y 47) (y 48) (y 10) w') (MkW.start _) ?M1 ?hM1 ?_
  case hM1 =>
    intro y
    simp only [fill, List.foldl, Act.put, List.setIfInBounds_toArray, List.set]
    exact rfl
  apply obl_det
  case hrun =>
    intro D y wz hW hD R hR
    have HRR := Lib.hid hR
    clear hR
    have HW := Lib.hid hW
    clear hW hD
    go_wp2_with fail
    exact HRR.out _ HW.out
  case hnp => rfl
  case hv => first | exact ⟨_, fun _ => rfl⟩ | exact ⟨undef, fun _ => rfl⟩
  apply obl_det
  case hrun =>
    intro D y wz hW hD R hR
    have HRR := Lib.hid hR
    clear hR
    have HW := Lib.hid hW
    have h1 := (C2.out.call HW.out.bel).cell 0 rfl 1
    clear hW hD
    go_wp2_with fail
    exact HRR.out _ HW.out
  case hnp => rfl
  case hv => first | exact ⟨_, fun _ => rfl⟩ | exact ⟨undef, fun _ => rfl⟩
  apply obl_det
  case hrun =>
    intro D y wz hW hD R hR
    have HRR := Lib.hid hR
    clear hR
    have HW := Lib.hid hW
    clear hW hD
    go_wp2_with fail
    exact HRR.out _ HW.out
  case hnp => rfl
  case hv => first | exact ⟨_, fun _ => rfl⟩ | exact ⟨undef, fun _ => rfl⟩
  apply obl_priv 40
  case hd => rfl
  case hp => rfl
  case hrun =>
    intro D y wz hW hD R hR
    have HRR := Lib.hid hR
    clear hR
    have h11 : D 11 = false := hD.post _ 11 rfl (by kernel_rfl)
    have h13 : D 13 = false := hD.post _ 13 rfl (by kernel_rfl)
    rw [h11, h13] at hW
    have HW := Lib.hid hW.putA
    have H11 := Lib.hid h11
    have H13 := Lib.hid h13
    clear hW hD h11 h13
    have hmk := run_made wz s.lots.length (by omega)
    go_wp2_with fail
    refine HRR.out _ _ ?_
    show MkW w2 s.lots.length l.length s.things.length true (D 6) (D 10) (D 11) (D 12) (D 13) _ (y 43) (y 47) (y 48) (y 10) _
    rw [H11.out, H13.out]
    exact HW.out
  apply obl_det
  case hrun =>
    intro D y wz hW hD R hR
    have HRR := Lib.hid hR
    clear hR
    have HW := Lib.hid hW
    clear hW hD
    go_wp2_with fail
    exact HRR.out _ HW.out
  case hnp => rfl
  case hv => first | exact ⟨_, fun _ => rfl⟩ | exact ⟨undef, fun _ => rfl⟩
  apply obl_det
  case hrun =>
    intro D y wz hW hD R hR
    have HRR := Lib.hid hR
    clear hR
    have HW := Lib.hid hW
    clear hW hD
    go_wp2_with fail
    exact HRR.out _ HW.out
  case hnp => rfl
  case hv => first | exact ⟨_, fun _ => rfl⟩ | exact ⟨undef, fun _ => rfl⟩
  apply obl_priv 43
  case hd => rfl
  case hp => rfl
  case hrun =>
    intro D y wz hW hD R hR
    have HRR := Lib.hid hR
    clear hR
    have h11 : D 11 = false := hD.post _ 11 rfl (by kernel_rfl)
    have h13 : D 13 = false := hD.post _ 13 rfl (by kernel_rfl)
    rw [h11, h13] at hW
    have HW := Lib.hid hW.putB
    have H11 := Lib.hid h11
    have H13 := Lib.hid h13
    clear hW hD h11 h13
    have hmk := run_made wz l.length (by omega)
    go_wp2_with fail
    refine HRR.out _ _ ?_
    show MkW w2 s.lots.length l.length s.things.length (D 3) true (D 10) (D 11) (D 12) (D 13) (y 40) _ (y 47) (y 48) (y 10) _
    rw [H11.out, H13.out]
    exact HW.out
  apply obl_det
  case hrun =>
    intro D y wz hW hD R hR
    have HRR := Lib.hid hR
    clear hR
    have HW := Lib.hid hW
    clear hW hD
    go_wp2_with fail
    exact HRR.out _ HW.out
  case hnp => rfl
  case hv => first | exact ⟨_, fun _ => rfl⟩ | exact ⟨undef, fun _ => rfl⟩
  apply obl_det
  case hrun =>
    intro D y wz hW hD R hR
    have HRR := Lib.hid hR
    clear hR
    have HW := Lib.hid hW
    have h1 := (C2.out.call HW.out.bel).cell 0 rfl 0
    clear hW hD
    go_wp2_with fail
    exact HRR.out _ HW.out
  case hnp => rfl
  case hv => first | exact ⟨_, fun _ => rfl⟩ | exact ⟨undef, fun _ => rfl⟩
  apply obl_det
  case hrun =>
    intro D y wz hW hD R hR
    have HRR := Lib.hid hR
    clear hR
    have HW := Lib.hid hW
    clear hW hD
    go_wp2_with fail
    exact HRR.out _ HW.out
  case hnp => rfl
  case hv => first | exact ⟨_, fun _ => rfl⟩ | exact ⟨undef, fun _ => rfl⟩
  apply obl_priv 47
  case hd => rfl
  case hp => rfl
  case hrun =>
    intro D y wz hW hD R hR
    have HRR := Lib.hid hR
    clear hR
    have h11 : D 11 = false := hD.post _ 11 rfl (by kernel_rfl)
    have h13 : D 13 = false := hD.post _ 13 rfl (by kernel_rfl)
    rw [h11, h13] at hW
    have HW := Lib.hid hW.putC
    have H11 := Lib.hid h11
    have H13 := Lib.hid h13
    clear hW hD h11 h13
    have hmk := run_made54 wz s.things.length (by omega)
    go_wp2_with fail
    refine HRR.out _ _ ?_
    show MkW w2 s.lots.length l.length s.things.length (D 3) (D 6) true (D 11) (D 12) (D 13) (y 40) (y 43) _ (y 48) (y 10) _
    rw [H11.out, H13.out]
    exact HW.out
  apply obl_priv 48
  case hd => rfl
  case hp => rfl
  case hrun =>
    intro D y wz hW hD R hR
    have HRR := Lib.hid hR
    clear hR
    have HW := Lib.hid hW.putX
    obtain ⟨gA, eA, -⟩ := hW.a (hD.pre _ 3 rfl (by kernel_rfl))
    obtain ⟨gB, eB, -⟩ := hW.b (hD.pre _ 6 rfl (by kernel_rfl))
    obtain ⟨gC, eC, -⟩ := hW.c (hD.pre _ 10 rfl (by kernel_rfl))
    have hbd : ∀ w, (Instr.build 75 #[(0, y 40), (1, y 43), (2, y 47)]).run Try.prog w = .ok (.agg #[y 40, y 43, y 47]) w := fun w => run_build w 75 _ _ (by rw [eA, eB, eC]; rfl)
    clear hW hD eA eB eC
    refine wpList_bd rfl 75 _ rfl #[(0, y 40), (1, y 43), (2, y 47)] (by simp only [List.map_toArray, List.map]; rfl) _ (hbd _) ?_
    refine HRR.out _ _ ?_
    show MkW w2 s.lots.length l.length s.things.length (D 3) (D 6) (D 10) true (D 12) (D 13) (y 40) (y 43) (y 47) _ (y 10) _
    exact HW.out
  apply obl_priv 10
  case hd => rfl
  case hp => rfl
  case hrun =>
    intro D y wz hW hD R hR
    have HRR := Lib.hid hR
    clear hR
    have h13 : D 13 = false := hD.post _ 13 rfl (by kernel_rfl)
    rw [h13] at hW
    have HW := Lib.hid hW.putP
    have H13 := Lib.hid h13
    clear hW hD h13
    go_wp2_with fail
    refine HRR.out _ _ ?_
    show MkW w2 s.lots.length l.length s.things.length (D 3) (D 6) (D 10) (D 11) true (D 13) (y 40) (y 43) (y 47) (y 48) _ _
    rw [H13.out]
    exact HW.out
  apply obl_det
  case hrun =>
    intro D y wz hW hD R hR
    have HRR := Lib.hid hR
    clear hR
    have h13 : D 13 = false := hD.not
    have ex := hW.x (hD.pre _ 11 rfl (by kernel_rfl))
    rw [h13] at hW
    obtain ⟨gp, e, hge, hcell⟩ := hW.p (hD.pre _ 12 rfl (by kernel_rfl))
    obtain ⟨gA, eA, -⟩ := hW.a (hD.pre _ 3 rfl (by kernel_rfl))
    obtain ⟨gB, eB, -⟩ := hW.b (hD.pre _ 6 rfl (by kernel_rfl))
    obtain ⟨gC, eC, -⟩ := hW.c (hD.pre _ 10 rfl (by kernel_rfl))
    have CC := Lib.hid (Bs.snoc (l := []) (w := w2) ⟨by simp, by simp, by simp, hW.bel⟩ (by simp) hcell hge)
    have HW := Lib.hid hW
    have E := Lib.hid e
    have EX := Lib.hid ex
    have HCL := Lib.hid hcell
    have EA := Lib.hid eA
    have EB := Lib.hid eB
    have EC := Lib.hid eC
    clear hW hD h13 e ex hge hcell eA eB eC
    refine wpList_store_bb rfl 75 _ _ rfl CC.out 0 gp #[y 40, y 43, y 47] _ _ rfl E.out EX.out info75 rfl (by rw [EA.out, EB.out, EC.out]; simp [Value.oneCell']) ?_
    intro w4 hC4 hB4
    simp only [Act.put]
    go_simp
    exact HRR.out _ (MkW.store HW.out E.out HCL.out hC4 hB4)
  case hnp => rfl
  case hv => first | exact ⟨_, fun _ => rfl⟩ | exact ⟨undef, fun _ => rfl⟩
  apply obl_nil
  intro D y w8 hall hW
  obtain ⟨gA, eA, hgA, hcA⟩ := hW.a (hall 3 (by decide))
  obtain ⟨gB, eB, hgB, hcB⟩ := hW.b (hall 6 (by decide))
  obtain ⟨gC, eC, hgC, hcC⟩ := hW.c (hall 10 (by decide))
  obtain ⟨gP, eP, hgP, hcP⟩ := hW.p (hall 12 (by decide))
  have hAB := hW.ab (hall 3 (by decide)) (hall 6 (by decide)) gA gB eA eB
  rw [hall 13 (by decide), eA, eB, eC] at hcP
  have hx := hW.x (hall 11 (by decide))
  have C3 := Lib.hid (C2.out.call hW.bel)
  have HCA := Lib.hid hcA
  have HCB := Lib.hid hcB
  have HCC := Lib.hid hcC
  have HCP : Hid (w8.heap[gP]? = some (.cells #[.slice (some ⟨gA, 0, none⟩) s.lots.length s.lots.length, .slice (some ⟨gB, 0, none⟩) l.length l.length, .slice (some ⟨gC, 0, none⟩) s.things.length s.things.length] 75)) := hcP
  have HBE := Lib.hid hW.bel
  have HGB := Lib.hid hgB
  have HABN := Lib.hid hAB
  rw [eP]
  clear hall hW hcA hcB hcC hcP hx eP hAB hgB
  rw [eA, eB, eC]
  clear eA eB eC
  generalize y 48 = y48
  have hc1 := cell_of_row _ _ 1 _ _ _ HCP.out
  go_wp2_with (refine wpList_cell_but rfl 3 _ _ rfl gB L (ints (List.replicate l.length 0)) 3 HCB.out rfl _ rfl (by simp [ints]; omega) rfl info3 ?_; intro w9 hcB9 hbut)
  have HB9 := Lib.hid (HBE.out.trans (hbut.below HGB.out HBE.out.size))
  have C4 := Lib.hid (C2.out.call HB9.out)
  have kp : ∀ {g : Nat} {cs : Array Value} {t : TypeId}, g ≠ gB → w8.heap[g]? = some (.cells cs t) → w9.heap[g]? = some (.cells cs t) := fun hne e => (hbut.block _ (block_lt e) hne).trans e
  have hcA := kp HABN.out HCA.out
  have hcC := kp (by rintro rfl; have h := HCC.out; rw [HCB.out] at h; injection h with h; injection h with h1 h2; exact absurd h2 (by decide)) HCC.out
  have hcP := kp (by rintro rfl; have h := HCP.out; rw [HCB.out] at h; injection h with h; injection h with h1 h2; exact absurd h2 (by decide)) HCP.out
  have HNB := Lib.hid (next_bat HLE.out hnl6 hn6 hnt5 hcA hcB9 hcC)
  have HPP := Lib.hid hcP
  obtain ⟨b', o', he, -, OL, hol, hoc, hone, hbt⟩ := bats_words HL.out rfl hn1
  cases he
  have HOL := Lib.hid hol
  have HOC := Lib.hid hoc
  have HON := Lib.hid hone
  have HOB := Lib.hid hbt
  clear hcA hcC hcP hbut hcB9 kp hc1 HCA HCB HCC HCP HBE C3 HABN HGB hgA hgC hgP hol hoc hone hbt C2
  have HCT := Lib.hid (fun v w h1 h2 => content_any s (l ++ [nextB s l g]) (.slice ta s.things.length tc) (.slice la s.lots.length lc) v w h1 h2)
  unfold RetTable at HCT
  rw [HAG.out.1, HAG.out.2] at HCT
  clear HAG
  obtain ⟨T, hTe⟩ : ∃ T, (rangesV s l ++ [(List.range s.things.length).map (againV s l g)]) = T := ⟨_, rfl⟩
  rw [hTe] at HCT
  have HTE := Lib.hid hTe
  clear hTe
  refine wp_region_inv1 (by kernel_rfl) (by kernel_rfl) [56, 58, 60, 61, 62, 54, 63, 11] (fun D y w' => AgC w9 l.length OL #[.slice (some ⟨gA, 0, none⟩) s.lots.length s.lots.length, .slice (some ⟨gB, 0, none⟩) l.length l.length, .slice (some ⟨gC, 0, none⟩) s.things.length s.things.length] T (D 1) (D 3) (D 5) (D 6) (D 7) (D 8) (D 9) (D 11) (y 56) (y 58) (y 60) (y 61) (y 62) (y 54) (y 63) (y 11) w') (AgC.start _) ?M2 ?hM2 ?_
  case hM2 =>
    intro y
    simp only [fill, List.foldl, Act.put, List.setIfInBounds_toArray, List.set]
    exact rfl
  apply obl_det
  case hrun =>
    intro D y wz hW hD R hR
    have HRR := Lib.hid hR
    clear hR
    have HW := Lib.hid hW
    clear hW hD
    refine wpList_load_want rfl 25 _ rfl _ rfl _ _ _ _ ((C4.out.call HW.out.bel).get 0 rfl) Try.underlying25 rfl info25 ?_
    go_simp
    exact HRR.out _ HW.out
  case hnp => rfl
  case hv => first | exact ⟨_, fun _ => rfl⟩ | exact ⟨undef, fun _ => rfl⟩
  apply obl_priv 56
  case hd => rfl
  case hp => rfl
  case hrun =>
    intro D y wz hW hD R hR
    have HRR := Lib.hid hR
    clear hR
    have h3 : D 3 = false := hD.post _ 3 rfl (by kernel_rfl)
    rw [h3] at hW
    have HW := Lib.hid hW.put1
    have H3 := Lib.hid h3
    clear hW hD h3
    go_wp2_with fail
    refine HRR.out _ _ ?_
    show AgC w9 l.length OL #[.slice (some ⟨gA, 0, none⟩) s.lots.length s.lots.length, .slice (some ⟨gB, 0, none⟩) l.length l.length, .slice (some ⟨gC, 0, none⟩) s.things.length s.things.length] T true (D 3) (D 5) (D 6) (D 7) (D 8) (D 9) (D 11) _ (y 58) (y 60) (y 61) (y 62) (y 54) (y 63) (y 11) _
    rw [H3.out]
    exact HW.out
  apply obl_det
  case hrun =>
    intro D y wz hW hD R hR
    have HRR := Lib.hid hR
    clear hR
    have HW := Lib.hid hW
    clear hW hD
    go_wp2_with fail
    exact HRR.out _ HW.out
  case hnp => rfl
  case hv => first | exact ⟨_, fun _ => rfl⟩ | exact ⟨undef, fun _ => rfl⟩
  apply obl_priv 58
  case hd => rfl
  case hp => rfl
  case hrun =>
    intro D y wz hW hD R hR
    have HRR := Lib.hid hR
    clear hR
    have h1 : D 1 = true := hD.pre _ 1 rfl (by kernel_rfl)
    have h3 : D 3 = false := hD.not
    rw [h1, h3] at hW
    have HW := Lib.hid hW
    have HO := Lib.hid hW.own1
    have HC2 := Lib.hid (HB9.out.trans (hW.bel.mono HB9.out.size))
    have HZ := Lib.hid (C4.out.bel.trans (hW.bel.mono C4.out.bel.size))
    have HBS := Lib.hid hW.bel.size
    have H1 := Lib.hid h1
    clear hW hD h1 h3
    obtain ⟨i0, hi0, hz0, hz1, hz2⟩ := info75'
    refine wpList_append_own _ rfl _ _ 31 rfl w9.heap.size 75 i0 (.agg #[.slice none 0 0, .slice none 0 0, .slice none 0 0]) 3 72 Try.underlying31 hi0 hz0 hz1 hz2 rfl (by decide) _ _ _ rfl HO.out ⟨b, o, none⟩ l.length c OL rfl HOL.out (fun j u hu => by rw [addr_add]; exact (HZ.out.cell (p := ⟨b, o + j, none⟩) HUB.out).trans (HOC.out j u hu)) HON.out (by unfold maxLen; omega) (by omega) HBS.out ?_
    intro v' w12 hown hgrow _
    have HN := Lib.hid (AgC.put3 (by simp) HW.out (by simpa using hown) hgrow)
    clear hown hgrow
    go_wp2_with fail
    refine HRR.out _ _ ?_
    show AgC w9 l.length OL #[.slice (some ⟨gA, 0, none⟩) s.lots.length s.lots.length, .slice (some ⟨gB, 0, none⟩) l.length l.length, .slice (some ⟨gC, 0, none⟩) s.things.length s.things.length] T (D 1) true (D 5) (D 6) (D 7) (D 8) (D 9) (D 11) (y 56) _ (y 60) (y 61) (y 62) (y 54) (y 63) (y 11) _
    rw [H1.out]
    exact HN.out
  apply obl_det
  case hrun =>
    intro D y wz hW hD R hR
    have HRR := Lib.hid hR
    clear hR
    have HW := Lib.hid hW
    clear hW hD
    refine wpList_load_want rfl 75 _ rfl _ rfl _ _ _ _ (block_keep HPP.out HW.out.bel) Try.underlying75 rfl info75 ?_
    go_simp
    exact HRR.out _ HW.out
  case hnp => rfl
  case hv => first | exact ⟨_, fun _ => rfl⟩ | exact ⟨undef, fun _ => rfl⟩
  apply obl_priv 60
  case hd => rfl
  case hp => rfl
  case hrun =>
    intro D y wz hW hD R hR
    have HRR := Lib.hid hR
    clear hR
    have h5 : D 5 = false := hD.not
    rw [h5] at hW
    have HW := Lib.hid hW.put5
    clear hW hD h5
    go_wp2_with fail
    refine HRR.out _ _ ?_
    show AgC w9 l.length OL #[.slice (some ⟨gA, 0, none⟩) s.lots.length s.lots.length, .slice (some ⟨gB, 0, none⟩) l.length l.length, .slice (some ⟨gC, 0, none⟩) s.things.length s.things.length] T (D 1) (D 3) true (D 6) (D 7) (D 8) (D 9) (D 11) (y 56) (y 58) _ (y 61) (y 62) (y 54) (y 63) (y 11) _
    exact HW.out
  apply obl_priv 61
  case hd => rfl
  case hp => rfl
  case hrun =>
    intro D y wz hW hD R hR
    have HRR := Lib.hid hR
    clear hR
    have h3 : D 3 = true := hD.pre _ 3 rfl (by kernel_rfl)
    have h5 : D 5 = true := hD.pre _ 5 rfl (by kernel_rfl)
    have h6 : D 6 = false := hD.not
    rw [h3, h5, h6] at hW
    have HW := Lib.hid hW
    have HO := Lib.hid (hW.ag.f rfl rfl)
    obtain ⟨gn, en, -, hcn⟩ := hW.ag.b rfl rfl
    have HBS := Lib.hid hW.bel.size
    have HEN := Lib.hid en
    have HCN := Lib.hid hcn
    have H3 := Lib.hid h3
    have H5 := Lib.hid h5
    clear hW hD h3 h5 h6 en hcn
    obtain ⟨i0, hi0, hz0, hz1, hz2⟩ := info75'
    refine wpList_append_own _ rfl _ _ 31 rfl w9.heap.size 75 i0 (.agg #[.slice none 0 0, .slice none 0 0, .slice none 0 0]) 3 72 Try.underlying31 hi0 hz0 hz1 hz2 rfl (by decide) _ _ _ rfl HO.out ⟨gn, 0, none⟩ 1 1 #[.slice (some ⟨gA, 0, none⟩) s.lots.length s.lots.length, .slice (some ⟨gB, 0, none⟩) l.length l.length, .slice (some ⟨gC, 0, none⟩) s.things.length s.things.length].toList HEN.out rfl (cell_news _ _ _ _ HCN.out) (by intro u hu; simp at hu; rcases hu with rfl | rfl | rfl <;> rfl) (by unfold maxLen; omega) (by omega) HBS.out ?_
    intro v' w12 hown hgrow _
    have HN := Lib.hid (AgC.put6 HW.out hown hgrow)
    clear hown hgrow
    go_wp2_with fail
    refine HRR.out _ _ ?_
    show AgC w9 l.length OL #[.slice (some ⟨gA, 0, none⟩) s.lots.length s.lots.length, .slice (some ⟨gB, 0, none⟩) l.length l.length, .slice (some ⟨gC, 0, none⟩) s.things.length s.things.length] T (D 1) (D 3) (D 5) true (D 7) (D 8) (D 9) (D 11) (y 56) (y 58) (y 60) _ (y 62) (y 54) (y 63) (y 11) _
    rw [H3.out, H5.out]
    exact HN.out
  apply obl_priv 62
  case hd => rfl
  case hp => rfl
  case hrun =>
    intro D y wz hW hD R hR
    have HRR := Lib.hid hR
    clear hR
    have h6 : D 6 = true := hD.pre _ 6 rfl (by kernel_rfl)
    rw [h6] at hW
    have HW := Lib.hid hW
    have H6 := Lib.hid h6
    have HZ := Lib.hid (C4.out.bel.trans (hW.bel.mono C4.out.bel.size))
    have HBI2 := Lib.hid (bats_snoc (l := l) (hW.ag.c rfl) rfl (by omega) HOL.out (fun i hi => by
      obtain ⟨u1, u2, u3, e1, e2, e3, e4⟩ := HOB.out i hi
      exact ⟨u1, u2, u3, e1, e2, e3, (e4.below HZ.out).mono HZ.out.size⟩) (HNB.out.next hW.bel))
    have HC := Lib.hid (HCT.out (y 61) wz ((HS.out.below HZ.out).mono HZ.out.size) HBI2.out)
    clear hW hD h6 HBI2
    go_wp2_with fail
    refine HC.out.mono ?_
    rintro e w' ⟨tv, rfl, hi, hb⟩
    have HN := Lib.hid (AgC.putB HW.out hb hi)
    clear hb hi
    go_wp2_with fail
    refine HRR.out _ _ ?_
    show AgC w9 l.length OL #[.slice (some ⟨gA, 0, none⟩) s.lots.length s.lots.length, .slice (some ⟨gB, 0, none⟩) l.length l.length, .slice (some ⟨gC, 0, none⟩) s.things.length s.things.length] T (D 1) (D 3) (D 5) (D 6) true (D 8) (D 9) (D 11) (y 56) (y 58) (y 60) (y 61) _ (y 54) (y 63) (y 11) _
    rw [H6.out]
    exact HN.out
  apply obl_priv 54
  case hd => rfl
  case hp => rfl
  case hrun =>
    intro D y wz hW hD R hR
    have HRR := Lib.hid hR
    clear hR
    have h7 : D 7 = true := hD.pre _ 7 rfl (by kernel_rfl)
    rw [h7] at hW
    have HN := Lib.hid hW.putM
    have H7 := Lib.hid h7
    clear hW hD h7
    refine wpList_mv rfl _ rfl (y 62) rfl ?_
    refine HRR.out (y 62) _ ?_
    show AgC w9 l.length OL #[.slice (some ⟨gA, 0, none⟩) s.lots.length s.lots.length, .slice (some ⟨gB, 0, none⟩) l.length l.length, .slice (some ⟨gC, 0, none⟩) s.things.length s.things.length] T (D 1) (D 3) (D 5) (D 6) (D 7) true (D 9) (D 11) (y 56) (y 58) (y 60) (y 61) (y 62) (y 62) (y 63) (y 11) _
    rw [H7.out]
    exact HN.out
  apply obl_priv 63
  case hd => rfl
  case hp => rfl
  case hrun =>
    intro D y wz hW hD R hR
    have HRR := Lib.hid hR
    clear hR
    have h8 : D 8 = true := hD.pre _ 8 rfl (by kernel_rfl)
    rw [h8] at hW
    obtain ⟨v, e, hv⟩ := hW.m
    have HN := Lib.hid (hW.putX hv)
    have H8 := Lib.hid h8
    clear hW hD h8
    refine wpList_ex rfl _ 0 rfl _ e v rfl ?_
    refine HRR.out v _ ?_
    show AgC w9 l.length OL #[.slice (some ⟨gA, 0, none⟩) s.lots.length s.lots.length, .slice (some ⟨gB, 0, none⟩) l.length l.length, .slice (some ⟨gC, 0, none⟩) s.things.length s.things.length] T (D 1) (D 3) (D 5) (D 6) (D 7) (D 8) true (D 11) (y 56) (y 58) (y 60) (y 61) (y 62) (y 54) v (y 11) _
    rw [H8.out]
    exact HN.out
  apply obl_det
  case hrun =>
    intro D y wz hW hD R hR
    have HRR := Lib.hid hR
    clear hR
    have HW := Lib.hid hW
    have h8 : D 8 = true := hD.pre _ 8 rfl (by kernel_rfl)
    rw [h8] at hW
    obtain ⟨v, e, -⟩ := hW.m
    have HE := Lib.hid e
    clear e hW hD h8
    refine wpList_ex rfl _ 1 rfl _ HE.out (.int .i64 0) rfl ?_
    exact HRR.out _ HW.out
  case hnp => rfl
  case hv => first | exact ⟨_, fun _ => rfl⟩ | exact ⟨undef, fun _ => rfl⟩
  apply obl_priv 11
  case hd => rfl
  case hp => rfl
  case hrun =>
    intro D y wz hW hD R hR
    have HRR := Lib.hid hR
    clear hR
    have h9 : D 9 = true := hD.pre _ 9 rfl (by kernel_rfl)
    rw [h9] at hW
    have HN := Lib.hid hW.putS
    have H9 := Lib.hid h9
    clear hW hD h9
    refine wpList_as rfl _ rfl (y 63) rfl ?_
    refine HRR.out (y 63) _ ?_
    show AgC w9 l.length OL #[.slice (some ⟨gA, 0, none⟩) s.lots.length s.lots.length, .slice (some ⟨gB, 0, none⟩) l.length l.length, .slice (some ⟨gC, 0, none⟩) s.things.length s.things.length] T (D 1) (D 3) (D 5) (D 6) (D 7) (D 8) (D 9) true (y 56) (y 58) (y 60) (y 61) (y 62) (y 54) (y 63) (y 63) _
    rw [H9.out]
    exact HN.out
  apply obl_det
  case hrun =>
    intro D y wz hW hD R hR
    have HRR := Lib.hid hR
    clear hR
    have HW := Lib.hid hW
    clear hW hD
    go_wp2_with fail
    exact HRR.out _ HW.out
  case hnp => rfl
  case hv => first | exact ⟨_, fun _ => rfl⟩ | exact ⟨undef, fun _ => rfl⟩
  apply obl_nil
  intro D y w10 hall hW
  rw [hall 11 (by decide)] at hW
  have HTB := Lib.hid hW.s
  have HBW10 := Lib.hid hW.bel
  clear hW hall
  have C5 := Lib.hid (C4.out.call HBW10.out)
  have HPP := Lib.hid (block_keep HPP.out HBW10.out)
  clear HBW10 C4 HCT HNB HOL HOC HON HOB HB9
  generalize y 56 = y56 at *
  generalize y 58 = y58 at *
  generalize y 60 = y60 at *
  generalize y 61 = y61 at *
  generalize y 62 = y62 at *
  generalize y 54 = y54 at *
  generalize y 63 = y63 at *
  generalize y 11 = y11 at *
  rw [← HTE.out] at HTB
  have HTL : Hid ((rangesV s l ++ [(List.range s.things.length).map (againV s l g)]).length = l.length + 1) := by unfold Hid; rw [List.length_append, rangesV_length]; rfl
  have HROW : Hid ((rangesV s l ++ [(List.range s.things.length).map (againV s l g)]).getD l.length [] = (List.range s.things.length).map (againV s l g)) := by
    unfold Hid
    rw [List.getD_eq_getElem?_getD, List.getElem?_append_right (by rw [rangesV_length]; exact Nat.le_refl _), rangesV_length, Nat.sub_self]
    rfl
  obtain ⟨va, vc, rfl, -, -⟩ := sl_shape HTB.out
  rw [HTL.out] at HTB ⊢
  obtain ⟨X1, M1, htr, hmd1, hm1, hmb⟩ := HTQ.out L hLl w10 ((HS.out.below C5.out.bel).mono C5.out.bel.size) ((HL.out.below C5.out.bel).mono C5.out.bel.size) ((HVX.out.below C5.out.bel).mono C5.out.bel.size)
  have HT1 := Lib.hid htr
  have HM1 := Lib.hid hmd1
  have HBT := Lib.hid hmb
  clear htr hmd1 hmb HTQ HPP HTE HVX HX HS
  go_wp2_with fail
  refine wp_region_inv1 (by kernel_rfl) (by kernel_rfl) [73, 74, 65, 75, 13] (fun D y w' => CalW w10 (IsTru X1) (IsInts M1) (.int .i64 0) (D 7) (D 8) (D 9) (D 10) (D 12) (y 73) (y 74) (y 65) (y 75) (y 13) w') (CalW.start _) ?L1 ?hL1 ?_
  case hL1 =>
    intro y
    simp only [fill, List.foldl, Act.put, List.setIfInBounds_toArray, List.set]
    exact rfl
  apply obl_det
  case hrun =>
    intro D y wz hW hD R hR
    have HRR := Lib.hid hR
    clear hR
    have HW := Lib.hid hW
    clear hW hD
    refine wpList_load_want rfl 25 _ rfl _ rfl _ _ _ _ ((C5.out.call HW.out.bel).get 0 rfl) Try.underlying25 rfl info25 ?_
    go_simp
    exact HRR.out _ HW.out
  case hnp => rfl
  case hv => first | exact ⟨_, fun _ => rfl⟩ | exact ⟨undef, fun _ => rfl⟩
  apply obl_det
  case hrun =>
    intro D y wz hW hD R hR
    have HRR := Lib.hid hR
    clear hR
    have HW := Lib.hid hW
    clear hW hD
    go_wp2_with fail
    exact HRR.out _ HW.out
  case hnp => rfl
  case hv => first | exact ⟨_, fun _ => rfl⟩ | exact ⟨undef, fun _ => rfl⟩
  apply obl_det
  case hrun =>
    intro D y wz hW hD R hR
    have HRR := Lib.hid hR
    clear hR
    have HW := Lib.hid hW
    clear hW hD
    go_wp2_with fail
    exact HRR.out _ HW.out
  case hnp => rfl
  case hv => first | exact ⟨_, fun _ => rfl⟩ | exact ⟨undef, fun _ => rfl⟩
  apply obl_det
  case hrun =>
    intro D y wz hW hD R hR
    have HRR := Lib.hid hR
    clear hR
    have HW := Lib.hid hW
    clear hW hD
    refine wpList_load_want rfl 25 _ rfl _ rfl _ _ _ _ ((C5.out.call HW.out.bel).get 0 rfl) Try.underlying25 rfl info25 ?_
    go_simp
    exact HRR.out _ HW.out
  case hnp => rfl
  case hv => first | exact ⟨_, fun _ => rfl⟩ | exact ⟨undef, fun _ => rfl⟩
  apply obl_det
  case hrun =>
    intro D y wz hW hD R hR
    have HRR := Lib.hid hR
    clear hR
    have HW := Lib.hid hW
    clear hW hD
    go_wp2_with fail
    exact HRR.out _ HW.out
  case hnp => rfl
  case hv => first | exact ⟨_, fun _ => rfl⟩ | exact ⟨undef, fun _ => rfl⟩
  apply obl_det
  case hrun =>
    intro D y wz hW hD R hR
    have HRR := Lib.hid hR
    clear hR
    have HW := Lib.hid hW
    clear hW hD
    go_wp2_with fail
    exact HRR.out _ HW.out
  case hnp => rfl
  case hv => first | exact ⟨_, fun _ => rfl⟩ | exact ⟨undef, fun _ => rfl⟩
  apply obl_det
  case hrun =>
    intro D y wz hW hD R hR
    have HRR := Lib.hid hR
    clear hR
    have HW := Lib.hid hW
    clear hW hD
    go_wp2_with fail
    exact HRR.out _ HW.out
  case hnp => rfl
  case hv => first | exact ⟨_, fun _ => rfl⟩ | exact ⟨undef, fun _ => rfl⟩
  apply obl_priv 73
  case hd => rfl
  case hp => rfl
  case hrun =>
    intro D y wz hW hD R hR
    have HRR := Lib.hid hR
    clear hR
    have HW := Lib.hid hW
    clear hW hD
    have HC := Lib.hid (HT1.out wz HW.out.bel)
    go_wp2_with fail
    refine HC.out.mono ?_
    rintro e w' ⟨t, rfl, hi, hb⟩
    have HN := Lib.hid ((CalW.next (stab_tru _) (stab_ints _) HW.out hb).putA hi)
    clear hb
    go_wp2_with fail
    refine HRR.out _ _ ?_
    show CalW w10 (IsTru X1) (IsInts M1) (.int .i64 0) true (D 8) (D 9) (D 10) (D 12) _ (y 74) (y 65) (y 75) (y 13) _
    exact HN.out
  apply obl_priv 74
  case hd => rfl
  case hp => rfl
  case hrun =>
    intro D y wz hW hD R hR
    have HRR := Lib.hid hR
    clear hR
    have HW := Lib.hid hW
    have HA := Lib.hid (hW.a (hD.pre _ 7 rfl (by kernel_rfl)))
    clear hW hD
    have HC := Lib.hid (HM1.out wz _ HW.out.bel HA.out)
    go_wp2_with fail
    refine HC.out.mono ?_
    rintro e w' ⟨v, rfl, hi, hb⟩
    have HN := Lib.hid ((CalW.next (stab_tru _) (stab_ints _) HW.out hb).putB hi)
    clear hb
    go_wp2_with fail
    refine HRR.out _ _ ?_
    show CalW w10 (IsTru X1) (IsInts M1) (.int .i64 0) (D 7) true (D 9) (D 10) (D 12) (y 73) _ (y 65) (y 75) (y 13) _
    exact HN.out
  apply obl_priv 65
  case hd => rfl
  case hp => rfl
  case hrun =>
    intro D y wz hW hD R hR
    have HRR := Lib.hid hR
    clear hR
    refine wpList_mv rfl _ rfl (y 74) rfl ?_
    refine HRR.out (y 74) _ ?_
    exact hW.putM (hD.pre _ 8 rfl (by kernel_rfl))
  apply obl_priv 75
  case hd => rfl
  case hp => rfl
  case hrun =>
    intro D y wz hW hD R hR
    have HRR := Lib.hid hR
    clear hR
    obtain ⟨v, e, hv⟩ := hW.m (hD.pre _ 9 rfl (by kernel_rfl))
    refine wpList_ex rfl _ 0 rfl _ e v rfl ?_
    refine HRR.out v _ ?_
    exact hW.putX hv
  apply obl_det
  case hrun =>
    intro D y wz hW hD R hR
    have HRR := Lib.hid hR
    clear hR
    have HW := Lib.hid hW
    obtain ⟨v, e, -⟩ := hW.m (hD.pre _ 9 rfl (by kernel_rfl))
    have HE := Lib.hid e
    clear e
    clear hW hD
    refine wpList_ex rfl _ 1 rfl _ HE.out (.int .i64 0) rfl ?_
    exact HRR.out _ HW.out
  case hnp => rfl
  case hv => first | exact ⟨_, fun _ => rfl⟩ | exact ⟨undef, fun _ => rfl⟩
  apply obl_priv 13
  case hd => rfl
  case hp => rfl
  case hrun =>
    intro D y wz hW hD R hR
    have HRR := Lib.hid hR
    clear hR
    refine wpList_as rfl _ rfl (y 75) rfl ?_
    refine HRR.out (y 75) _ ?_
    exact hW.putS (hD.pre _ 10 rfl (by kernel_rfl))
  apply obl_det
  case hrun =>
    intro D y wz hW hD R hR
    have HRR := Lib.hid hR
    clear hR
    have HW := Lib.hid hW
    clear hW hD
    go_wp2_with fail
    exact HRR.out _ HW.out
  case hnp => rfl
  case hv => first | exact ⟨_, fun _ => rfl⟩ | exact ⟨undef, fun _ => rfl⟩
  apply obl_nil
  intro D y w11 hall hW
  have HPB := Lib.hid (hW.s (hall 12 (by decide)))
  have HBW := Lib.hid hW.bel
  clear hW hall
  generalize y 73 = y73 at *
  generalize y 74 = y74 at *
  generalize y 65 = y65 at *
  generalize y 75 = y75 at *
  generalize y 13 = y13 at *
  have HP1 := Lib.hid HPB.out
  have C6 := Lib.hid (C5.out.call HBW.out)
  have HTB := Lib.hid (SlIn.next HTB.out HBW.out)
  clear HBW C5 HPB HT1 HM1
  obtain ⟨z1, q1, rfl⟩ := HP1.out.shape hm1
  have hq : ((s.things.length : Int) != (s.things.length : Int)) = false := by simp
  have hq1 : (((l.length + 1 : Nat) : Int) != (l.length : Int) + 1) = false := by simp
  have hq2 : ((l.length : Int) + 1 != (l.length : Int) + 1) = false := by simp
  have hll : (l.length : Int) < ((l.length + 1 : Nat) : Int) := by omega
  have hl2 : (l.length : Int) < (l.length : Int) + 1 := by omega
  have hc0 := C6.out.cell 0 rfl 0
  obtain ⟨tb, to, bT, oT, cT, rfl, htb, hbT, hq3, -, -⟩ := table_at HTB.out (i := l.length) (by rw [HTL.out]; omega) (q := s.things.length) (by rw [HROW.out]; simp) (t := 0) (by omega)
  go_wp2_with fail
  clear hq hq1 hq2 hc0
  have HQ3 := Lib.hid hq3
  have HUT := Lib.hid htb
  clear hq3 htb
  go_loopw [15] (fun iv wr => ∃ t : Nat, iv = .int .i64 t ∧ t ≤ s.things.length ∧ Below w11.heap.size w11 wr) (fun iv _ => s.things.length - (intOf iv).toNat)
  case atStart => exact ⟨0, rfl, by omega, Below.refl _ _⟩
  case round =>
    obtain ⟨t, rfl, ht, hb⟩ := hrel
    have HBR := Lib.hid hb
    clear hb
    by_cases htl : t < s.things.length
    · have hti : (t : Int) < (s.things.length : Int) := by omega
      obtain ⟨tb', to', bT', oT', cT', he, -, hbT2, hp0, hp1, hp2⟩ := table_at HTB.out (i := l.length) (by rw [HTL.out]; omega) (q := s.things.length) (by rw [HROW.out]; simp) htl
      cases he
      have e0 := hp0.symm.trans HQ3.out
      obtain ⟨rfl, rfl, rfl⟩ : bT' = bT ∧ oT' = oT ∧ cT' = cT := by simpa [and_assoc] using e0
      have e1 : ((rangesV s l ++ [(List.range s.things.length).map (againV s l g)]).getD l.length []).getD t (0, 0) = againV s l g t := by rw [HROW.out, mapr_get _ _ _ htl]
      rw [e1] at hp1 hp2
      obtain ⟨q1', q2', ea, ⟨hb0, hb1, hb2⟩, him⟩ := HFA.out g t _ (HBT.out t htl)
      rw [ea] at hp1 hp2
      simp only at hp1 hp2
      obtain ⟨bM, oM, rfl, hbM, hM⟩ := HP1.out.at' (i := t) (by omega)
      have HM := Lib.hid hM
      have HUM := Lib.hid hbM
      clear hM hbM e0 e1 ea hp0
      have hk0 := (HBR.out.cell (p := ⟨tb, to + l.length, none⟩) HUT.out).trans HQ3.out
      have hk1 := (HBR.out.cell (p := ⟨bT', oT' + t * 2, none⟩) hbT2).trans hp1
      have hk2 := (HBR.out.cell (p := ⟨bT', oT' + t * 2 + 1, none⟩) hbT2).trans hp2
      clear hp1 hp2
      generalize M1.getD t 0 = mt at *
      have hg0 := hgb.1
      have n1 := mul_bound (show 0 ≤ g ∧ g ≤ 1000 by omega) (show 0 ≤ q1' ∧ q1' ≤ 1000000 by omega)
      have n2 := mul_bound (show 0 ≤ g ∧ g ≤ 1000 by omega) (show 0 ≤ q2' ∧ q2' ≤ 1000000 by omega)
      have n3 : g * q1' ≤ g * q2' := Int.mul_le_mul_of_nonneg_left hb1 (by omega)
      have n4 : g * q2' ≤ g * 1000000 := Int.mul_le_mul_of_nonneg_left hb2 (by omega)
      have k1 : g * q1' % g = 0 := Int.mul_emod_right _ _
      have k2 : g * q2' % g = 0 := Int.mul_emod_right _ _
      have d1 : g * q1' / g = q1' := Int.mul_ediv_cancel_left _ (by omega)
      have d2 : g * q2' / g = q2' := Int.mul_ediv_cancel_left _ (by omega)
      have j1 : (g * q1').tmod g = 0 := Int.mul_tmod_right _ _
      have j2 : (g * q2').tmod g = 0 := Int.mul_tmod_right _ _
      have m1 := mul_bound (show 0 ≤ q1' ∧ q1' ≤ 1000000 by omega) (show 0 ≤ WT ∧ WT ≤ 1200000 by omega)
      have m2 := mul_bound (show 0 ≤ q2' ∧ q2' ≤ 1000000 by omega) (show 0 ≤ WT ∧ WT ≤ 1200000 by omega)
      have HW1 : Hid (wrap64 (q1' * WT) = q1' * WT) := by unfold Hid wrap64; omega
      have HW2 : Hid (wrap64 (q2' * WT) = q2' * WT) := by unfold Hid wrap64; omega
      have f1 : (g * q1').tdiv g = q1' := Int.mul_tdiv_cancel_left _ (by omega)
      have f2 : (g * q2').tdiv g = q2' := Int.mul_tdiv_cancel_left _ (by omega)
      obtain ⟨P1, hP1⟩ : ∃ P, g * q1' = P := ⟨_, rfl⟩
      obtain ⟨P2, hP2⟩ : ∃ P, g * q2' = P := ⟨_, rfl⟩
      obtain ⟨R1, hR1⟩ : ∃ P, q1' * WT = P := ⟨_, rfl⟩
      obtain ⟨R2, hR2⟩ : ∃ P, q2' * WT = P := ⟨_, rfl⟩
      rw [hP1] at hk1 k1 d1 f1 j1 n1 n3
      rw [hP2] at hk2 k2 d2 f2 j2 n2 n3 n4
      rw [hR1] at HW1 him m1
      rw [hR2] at HW2 him m2
      have HR1 := Lib.hid hR1
      have HR2 := Lib.hid hR2
      have HD1 := Lib.hid d1
      have HD2 := Lib.hid d2
      have HIM := Lib.hid him
      have HF1 := Lib.hid f1
      have HF2 := Lib.hid f2
      have k3 : decide (P1 < 0) = false := decide_eq_false (by omega)
      have k4 : decide (g * 1000000 < P2) = false := decide_eq_false (by omega)
      have k5 : decide (P2 < P1) = false := decide_eq_false (by omega)
      clear hP1 hP2 hR1 hR2 d1 d2 f1 f2 him
      have CN := Lib.hid ((Bs.nil wr).push _ rfl (.cells #[.int .i64 0, .int .i64 0] 51))
      obtain ⟨G, hG⟩ : ∃ G, wr.heap.size = G := ⟨_, rfl⟩
      rw [hG] at CN
      go_wp2_with (refine wpList_store_bs rfl 51 _ _ rfl CN.out 0 G #[.int .i64 P1, .int .i64 P2] _ _ rfl rfl rfl info51 rfl (by simp [Value.oneCell']) ?_; intro w12 hC12; have h51 := hC12.cell 0 rfl 0; have h52 := hC12.cell 0 rfl 1)
      clear k1 k2 k3 k4 k5 j1 j2 hk0 hk1 hk2
      have CO := Lib.hid hC12
      have HB12 := Lib.hid (HBR.out.trans (hC12.bel.mono HBR.out.size))
      clear hC12 h51 h52 CN
      have hWT := hwb
      by_cases hle : mt ≤ WT * 1000000
      · obtain ⟨hr1, hr2⟩ := HIM.out hle
        refine wp_region_inv0 (by kernel_rfl) (by kernel_rfl) (fun D w' => Below w12.heap.size w12 w') (Below.refl _ _).drew ?_
        apply obl_det
        case hrun =>
          intro D y wz hW hD R hR
          have HRR := Lib.hid hR
          clear hR
          have HW := Lib.hid hW
          clear hW hD
          go_wp2_with fail
          exact HRR.out _ HW.out
        case hnp => rfl
        case hv => first | exact ⟨_, fun _ => rfl⟩ | exact ⟨undef, fun _ => rfl⟩
        apply obl_det
        case hrun =>
          intro D y wz hW hD R hR
          have HRR := Lib.hid hR
          clear hR
          have HW := Lib.hid hW
          clear hW hD
          go_wp2_with fail
          exact HRR.out _ HW.out
        case hnp => rfl
        case hv => first | exact ⟨_, fun _ => rfl⟩ | exact ⟨undef, fun _ => rfl⟩
        apply obl_det
        case hrun =>
          intro D y wz hW hD R hR
          have HRR := Lib.hid hR
          clear hR
          have HW := Lib.hid hW
          clear hW hD
          go_wp2_with fail
          exact HRR.out _ HW.out
        case hnp => rfl
        case hv => first | exact ⟨_, fun _ => rfl⟩ | exact ⟨undef, fun _ => rfl⟩
        apply obl_det
        case hrun =>
          intro D y wz hW hD R hR
          have HRR := Lib.hid hR
          clear hR
          have HW := Lib.hid hW
          have HY := Lib.hid (HB12.out.trans (HW.out.mono HB12.out.size))
          have h1 := (HY.out.cell (p := ⟨bM, oM + t, none⟩) HUM.out).trans HM.out
          clear hW hD
          go_wp2_with fail
          exact HRR.out _ HW.out
        case hnp => rfl
        case hv => first | exact ⟨_, fun _ => rfl⟩ | exact ⟨undef, fun _ => rfl⟩
        apply obl_det
        case hrun =>
          intro D y wz hW hD R hR
          have HRR := Lib.hid hR
          clear hR
          have HW := Lib.hid hW
          clear hW hD
          go_wp2_with fail
          exact HRR.out _ HW.out
        case hnp => rfl
        case hv => first | exact ⟨_, fun _ => rfl⟩ | exact ⟨undef, fun _ => rfl⟩
        apply obl_det
        case hrun =>
          intro D y wz hW hD R hR
          have HRR := Lib.hid hR
          clear hR
          have HW := Lib.hid hW
          clear hW hD
          go_wp2_with fail
          exact HRR.out _ HW.out
        case hnp => rfl
        case hv => first | exact ⟨_, fun _ => rfl⟩ | exact ⟨undef, fun _ => rfl⟩
        apply obl_det
        case hrun =>
          intro D y wz hW hD R hR
          have HRR := Lib.hid hR
          clear hR
          have HW := Lib.hid hW
          clear hW hD
          go_wp2_with fail
          exact HRR.out _ HW.out
        case hnp => rfl
        case hv => first | exact ⟨_, fun _ => rfl⟩ | exact ⟨undef, fun _ => rfl⟩
        apply obl_det
        case hrun =>
          intro D y wz hW hD R hR
          have HRR := Lib.hid hR
          clear hR
          have HW := Lib.hid hW
          clear hW hD
          go_wp2_with fail
          exact HRR.out _ HW.out
        case hnp => rfl
        case hv => first | exact ⟨_, fun _ => rfl⟩ | exact ⟨undef, fun _ => rfl⟩
        apply obl_det
        case hrun =>
          intro D y wz hW hD R hR
          have HRR := Lib.hid hR
          clear hR
          have HW := Lib.hid hW
          clear hW hD
          go_wp2_with fail
          exact HRR.out _ HW.out
        case hnp => rfl
        case hv => first | exact ⟨_, fun _ => rfl⟩ | exact ⟨undef, fun _ => rfl⟩
        apply obl_det
        case hrun =>
          intro D y wz hW hD R hR
          have HRR := Lib.hid hR
          clear hR
          have HW := Lib.hid hW
          have h1 := (CO.out.call HW.out).cell 0 rfl 0
          clear hW hD
          go_wp2_with fail
          exact HRR.out _ HW.out
        case hnp => rfl
        case hv => first | exact ⟨_, fun _ => rfl⟩ | exact ⟨undef, fun _ => rfl⟩
        apply obl_det
        case hrun =>
          intro D y wz hW hD R hR
          have HRR := Lib.hid hR
          clear hR
          have HW := Lib.hid hW
          clear hW hD
          go_wp2_with fail
          exact HRR.out _ HW.out
        case hnp => rfl
        case hv => first | exact ⟨_, fun _ => rfl⟩ | exact ⟨undef, fun _ => rfl⟩
        apply obl_det
        case hrun =>
          intro D y wz hW hD R hR
          have HRR := Lib.hid hR
          clear hR
          have HW := Lib.hid hW
          clear hW hD
          go_wp2_with fail
          try rw [HD1.out]
          try rw [HF1.out]
          exact HRR.out _ HW.out
        case hnp => rfl
        case hv => first | exact ⟨_, fun _ => rfl⟩ | exact ⟨undef, fun _ => rfl⟩
        apply obl_det
        case hrun =>
          intro D y wz hW hD R hR
          have HRR := Lib.hid hR
          clear hR
          have HW := Lib.hid hW
          clear hW hD
          go_wp2_with fail
          exact HRR.out _ HW.out
        case hnp => rfl
        case hv => first | exact ⟨_, fun _ => rfl⟩ | exact ⟨undef, fun _ => rfl⟩
        apply obl_det
        case hrun =>
          intro D y wz hW hD R hR
          have HRR := Lib.hid hR
          clear hR
          have HW := Lib.hid hW
          clear hW hD
          go_wp2_with fail
          rw [HR1.out, HW1.out]
          exact HRR.out _ HW.out
        case hnp => rfl
        case hv => first | exact ⟨_, fun _ => rfl⟩ | exact ⟨undef, fun _ => rfl⟩
        apply obl_det
        case hrun =>
          intro D y wz hW hD R hR
          have HRR := Lib.hid hR
          clear hR
          have HW := Lib.hid hW
          clear hW hD
          go_wp2_with fail
          exact HRR.out _ HW.out
        case hnp => rfl
        case hv => first | exact ⟨_, fun _ => rfl⟩ | exact ⟨undef, fun _ => rfl⟩
        apply obl_det
        case hrun =>
          intro D y wz hW hD R hR
          have HRR := Lib.hid hR
          clear hR
          have HW := Lib.hid hW
          clear hW hD
          go_wp2_with fail
          exact HRR.out _ HW.out
        case hnp => rfl
        case hv => first | exact ⟨_, fun _ => rfl⟩ | exact ⟨undef, fun _ => rfl⟩
        apply obl_det
        case hrun =>
          intro D y wz hW hD R hR
          have HRR := Lib.hid hR
          clear hR
          have HW := Lib.hid hW
          clear hW hD
          go_wp2_with fail
          exact HRR.out _ HW.out
        case hnp => rfl
        case hv => first | exact ⟨_, fun _ => rfl⟩ | exact ⟨undef, fun _ => rfl⟩
        apply obl_det
        case hrun =>
          intro D y wz hW hD R hR
          have HRR := Lib.hid hR
          clear hR
          have HW := Lib.hid hW
          have HY := Lib.hid (HB12.out.trans (HW.out.mono HB12.out.size))
          have h1 := (HY.out.cell (p := ⟨bM, oM + t, none⟩) HUM.out).trans HM.out
          clear hW hD
          go_wp2_with fail
          exact HRR.out _ HW.out
        case hnp => rfl
        case hv => first | exact ⟨_, fun _ => rfl⟩ | exact ⟨undef, fun _ => rfl⟩
        apply obl_det
        case hrun =>
          intro D y wz hW hD R hR
          have HRR := Lib.hid hR
          clear hR
          have HW := Lib.hid hW
          clear hW hD
          go_wp2_with fail
          exact HRR.out _ HW.out
        case hnp => rfl
        case hv => first | exact ⟨_, fun _ => rfl⟩ | exact ⟨undef, fun _ => rfl⟩
        apply obl_det
        case hrun =>
          intro D y wz hW hD R hR
          have HRR := Lib.hid hR
          clear hR
          have HW := Lib.hid hW
          clear hW hD
          go_wp2_with fail
          exact HRR.out _ HW.out
        case hnp => rfl
        case hv => first | exact ⟨_, fun _ => rfl⟩ | exact ⟨undef, fun _ => rfl⟩
        apply obl_det
        case hrun =>
          intro D y wz hW hD R hR
          have HRR := Lib.hid hR
          clear hR
          have HW := Lib.hid hW
          clear hW hD
          go_wp2_with fail
          exact HRR.out _ HW.out
        case hnp => rfl
        case hv => first | exact ⟨_, fun _ => rfl⟩ | exact ⟨undef, fun _ => rfl⟩
        apply obl_det
        case hrun =>
          intro D y wz hW hD R hR
          have HRR := Lib.hid hR
          clear hR
          have HW := Lib.hid hW
          have h1 := (CO.out.call HW.out).cell 0 rfl 1
          clear hW hD
          go_wp2_with fail
          exact HRR.out _ HW.out
        case hnp => rfl
        case hv => first | exact ⟨_, fun _ => rfl⟩ | exact ⟨undef, fun _ => rfl⟩
        apply obl_det
        case hrun =>
          intro D y wz hW hD R hR
          have HRR := Lib.hid hR
          clear hR
          have HW := Lib.hid hW
          clear hW hD
          go_wp2_with fail
          exact HRR.out _ HW.out
        case hnp => rfl
        case hv => first | exact ⟨_, fun _ => rfl⟩ | exact ⟨undef, fun _ => rfl⟩
        apply obl_det
        case hrun =>
          intro D y wz hW hD R hR
          have HRR := Lib.hid hR
          clear hR
          have HW := Lib.hid hW
          clear hW hD
          go_wp2_with fail
          try rw [HD2.out]
          try rw [HF2.out]
          exact HRR.out _ HW.out
        case hnp => rfl
        case hv => first | exact ⟨_, fun _ => rfl⟩ | exact ⟨undef, fun _ => rfl⟩
        apply obl_det
        case hrun =>
          intro D y wz hW hD R hR
          have HRR := Lib.hid hR
          clear hR
          have HW := Lib.hid hW
          clear hW hD
          go_wp2_with fail
          exact HRR.out _ HW.out
        case hnp => rfl
        case hv => first | exact ⟨_, fun _ => rfl⟩ | exact ⟨undef, fun _ => rfl⟩
        apply obl_det
        case hrun =>
          intro D y wz hW hD R hR
          have HRR := Lib.hid hR
          clear hR
          have HW := Lib.hid hW
          clear hW hD
          go_wp2_with fail
          rw [HR2.out, HW2.out]
          exact HRR.out _ HW.out
        case hnp => rfl
        case hv => first | exact ⟨_, fun _ => rfl⟩ | exact ⟨undef, fun _ => rfl⟩
        apply obl_det
        case hrun =>
          intro D y wz hW hD R hR
          have HRR := Lib.hid hR
          clear hR
          have HW := Lib.hid hW
          clear hW hD
          go_wp2_with fail
          exact HRR.out _ HW.out
        case hnp => rfl
        case hv => first | exact ⟨_, fun _ => rfl⟩ | exact ⟨undef, fun _ => rfl⟩
        apply obl_det
        case hrun =>
          intro D y wz hW hD R hR
          have HRR := Lib.hid hR
          clear hR
          have HW := Lib.hid hW
          clear hW hD
          go_wp2_with fail
          exact HRR.out _ HW.out
        case hnp => rfl
        case hv => first | exact ⟨_, fun _ => rfl⟩ | exact ⟨undef, fun _ => rfl⟩
        apply obl_det
        case hrun =>
          intro D y wz hW hD R hR
          have HRR := Lib.hid hR
          clear hR
          have HW := Lib.hid hW
          clear hW hD
          go_wp2_with fail
          exact HRR.out _ HW.out
        case hnp => rfl
        case hv => first | exact ⟨_, fun _ => rfl⟩ | exact ⟨undef, fun _ => rfl⟩
        apply obl_det
        case hrun =>
          intro D y wz hW hD R hR
          have HRR := Lib.hid hR
          clear hR
          have HW := Lib.hid hW
          have HY := Lib.hid (HB12.out.trans (HW.out.mono HB12.out.size))
          have h1 := (HY.out.cell (p := ⟨bM, oM + t, none⟩) HUM.out).trans HM.out
          clear hW hD
          go_wp2_with fail
          exact HRR.out _ HW.out
        case hnp => rfl
        case hv => first | exact ⟨_, fun _ => rfl⟩ | exact ⟨undef, fun _ => rfl⟩
        apply obl_det
        case hrun =>
          intro D y wz hW hD R hR
          have HRR := Lib.hid hR
          clear hR
          have HW := Lib.hid hW
          clear hW hD
          go_wp2_with fail
          exact HRR.out _ HW.out
        case hnp => rfl
        case hv => first | exact ⟨_, fun _ => rfl⟩ | exact ⟨undef, fun _ => rfl⟩
        apply obl_det
        case hrun =>
          intro D y wz hW hD R hR
          have HRR := Lib.hid hR
          clear hR
          have HW := Lib.hid hW
          clear hW hD
          go_wp2_with fail
          exact HRR.out _ HW.out
        case hnp => rfl
        case hv => first | exact ⟨_, fun _ => rfl⟩ | exact ⟨undef, fun _ => rfl⟩
        apply obl_det
        case hrun =>
          intro D y wz hW hD R hR
          have HRR := Lib.hid hR
          clear hR
          have HW := Lib.hid hW
          clear hW hD
          go_wp2_with fail
          exact HRR.out _ HW.out
        case hnp => rfl
        case hv => first | exact ⟨_, fun _ => rfl⟩ | exact ⟨undef, fun _ => rfl⟩
        apply obl_nil
        intro D y w13 hall hW
        have HB13 := Lib.hid (HB12.out.trans (hW.mono HB12.out.size))
        clear hall hW CO
        go_wp2_with fail
        refine ⟨⟨t + 1, by push_cast; rfl, by omega, HB13.out⟩, ?_⟩
        simp [intOf]; omega
      · have hgt : decide (mt ≤ WT * 1000000) = false := decide_eq_false hle
        clear hle
        refine wp_region_inv0 (by kernel_rfl) (by kernel_rfl) (fun D w' => Below w12.heap.size w12 w') (Below.refl _ _).drew ?_
        apply obl_det
        case hrun =>
          intro D y wz hW hD R hR
          have HRR := Lib.hid hR
          clear hR
          have HW := Lib.hid hW
          clear hW hD
          go_wp2_with fail
          exact HRR.out _ HW.out
        case hnp => rfl
        case hv => first | exact ⟨_, fun _ => rfl⟩ | exact ⟨undef, fun _ => rfl⟩
        apply obl_det
        case hrun =>
          intro D y wz hW hD R hR
          have HRR := Lib.hid hR
          clear hR
          have HW := Lib.hid hW
          clear hW hD
          go_wp2_with fail
          exact HRR.out _ HW.out
        case hnp => rfl
        case hv => first | exact ⟨_, fun _ => rfl⟩ | exact ⟨undef, fun _ => rfl⟩
        apply obl_det
        case hrun =>
          intro D y wz hW hD R hR
          have HRR := Lib.hid hR
          clear hR
          have HW := Lib.hid hW
          clear hW hD
          go_wp2_with fail
          exact HRR.out _ HW.out
        case hnp => rfl
        case hv => first | exact ⟨_, fun _ => rfl⟩ | exact ⟨undef, fun _ => rfl⟩
        apply obl_det
        case hrun =>
          intro D y wz hW hD R hR
          have HRR := Lib.hid hR
          clear hR
          have HW := Lib.hid hW
          have HY := Lib.hid (HB12.out.trans (HW.out.mono HB12.out.size))
          have h1 := (HY.out.cell (p := ⟨bM, oM + t, none⟩) HUM.out).trans HM.out
          clear hW hD
          go_wp2_with fail
          exact HRR.out _ HW.out
        case hnp => rfl
        case hv => first | exact ⟨_, fun _ => rfl⟩ | exact ⟨undef, fun _ => rfl⟩
        apply obl_det
        case hrun =>
          intro D y wz hW hD R hR
          have HRR := Lib.hid hR
          clear hR
          have HW := Lib.hid hW
          clear hW hD
          go_wp2_with fail
          exact HRR.out _ HW.out
        case hnp => rfl
        case hv => first | exact ⟨_, fun _ => rfl⟩ | exact ⟨undef, fun _ => rfl⟩
        apply obl_det
        case hrun =>
          intro D y wz hW hD R hR
          have HRR := Lib.hid hR
          clear hR
          have HW := Lib.hid hW
          clear hW hD
          go_wp2_with fail
          exact HRR.out _ HW.out
        case hnp => rfl
        case hv => first | exact ⟨_, fun _ => rfl⟩ | exact ⟨undef, fun _ => rfl⟩
        apply obl_det
        case hrun =>
          intro D y wz hW hD R hR
          have HRR := Lib.hid hR
          clear hR
          have HW := Lib.hid hW
          clear hW hD
          go_wp2_with fail
          exact HRR.out _ HW.out
        case hnp => rfl
        case hv => first | exact ⟨_, fun _ => rfl⟩ | exact ⟨undef, fun _ => rfl⟩
        apply obl_det
        case hrun =>
          intro D y wz hW hD R hR
          have HRR := Lib.hid hR
          clear hR
          have HW := Lib.hid hW
          clear hW hD
          go_wp2_with fail
          exact HRR.out _ HW.out
        case hnp => rfl
        case hv => first | exact ⟨_, fun _ => rfl⟩ | exact ⟨undef, fun _ => rfl⟩
        apply obl_det
        case hrun =>
          intro D y wz hW hD R hR
          have HRR := Lib.hid hR
          clear hR
          have HW := Lib.hid hW
          clear hW hD
          go_wp2_with fail
          exact HRR.out _ HW.out
        case hnp => rfl
        case hv => first | exact ⟨_, fun _ => rfl⟩ | exact ⟨undef, fun _ => rfl⟩
        apply obl_det
        case hrun =>
          intro D y wz hW hD R hR
          have HRR := Lib.hid hR
          clear hR
          have HW := Lib.hid hW
          have h1 := (CO.out.call HW.out).cell 0 rfl 0
          clear hW hD
          go_wp2_with fail
          exact HRR.out _ HW.out
        case hnp => rfl
        case hv => first | exact ⟨_, fun _ => rfl⟩ | exact ⟨undef, fun _ => rfl⟩
        apply obl_det
        case hrun =>
          intro D y wz hW hD R hR
          have HRR := Lib.hid hR
          clear hR
          have HW := Lib.hid hW
          clear hW hD
          go_wp2_with fail
          exact HRR.out _ HW.out
        case hnp => rfl
        case hv => first | exact ⟨_, fun _ => rfl⟩ | exact ⟨undef, fun _ => rfl⟩
        apply obl_det
        case hrun =>
          intro D y wz hW hD R hR
          have HRR := Lib.hid hR
          clear hR
          have HW := Lib.hid hW
          clear hW hD
          go_wp2_with fail
          exact HRR.out _ HW.out
        case hnp => rfl
        case hv => first | exact ⟨_, fun _ => rfl⟩ | exact ⟨undef, fun _ => rfl⟩
        apply obl_det
        case hrun =>
          intro D y wz hW hD R hR
          have HRR := Lib.hid hR
          clear hR
          have HW := Lib.hid hW
          clear hW hD
          go_wp2_with fail
          exact HRR.out _ HW.out
        case hnp => rfl
        case hv => first | exact ⟨_, fun _ => rfl⟩ | exact ⟨undef, fun _ => rfl⟩
        apply obl_det
        case hrun =>
          intro D y wz hW hD R hR
          have HRR := Lib.hid hR
          clear hR
          have HW := Lib.hid hW
          clear hW hD
          go_wp2_with fail
          exact HRR.out _ HW.out
        case hnp => rfl
        case hv => first | exact ⟨_, fun _ => rfl⟩ | exact ⟨undef, fun _ => rfl⟩
        apply obl_det
        case hrun =>
          intro D y wz hW hD R hR
          have HRR := Lib.hid hR
          clear hR
          have HW := Lib.hid hW
          clear hW hD
          go_wp2_with fail
          exact HRR.out _ HW.out
        case hnp => rfl
        case hv => first | exact ⟨_, fun _ => rfl⟩ | exact ⟨undef, fun _ => rfl⟩
        apply obl_det
        case hrun =>
          intro D y wz hW hD R hR
          have HRR := Lib.hid hR
          clear hR
          have HW := Lib.hid hW
          clear hW hD
          go_wp2_with fail
          exact HRR.out _ HW.out
        case hnp => rfl
        case hv => first | exact ⟨_, fun _ => rfl⟩ | exact ⟨undef, fun _ => rfl⟩
        apply obl_det
        case hrun =>
          intro D y wz hW hD R hR
          have HRR := Lib.hid hR
          clear hR
          have HW := Lib.hid hW
          clear hW hD
          go_wp2_with fail
          exact HRR.out _ HW.out
        case hnp => rfl
        case hv => first | exact ⟨_, fun _ => rfl⟩ | exact ⟨undef, fun _ => rfl⟩
        apply obl_det
        case hrun =>
          intro D y wz hW hD R hR
          have HRR := Lib.hid hR
          clear hR
          have HW := Lib.hid hW
          have HY := Lib.hid (HB12.out.trans (HW.out.mono HB12.out.size))
          have h1 := (HY.out.cell (p := ⟨bM, oM + t, none⟩) HUM.out).trans HM.out
          clear hW hD
          go_wp2_with fail
          exact HRR.out _ HW.out
        case hnp => rfl
        case hv => first | exact ⟨_, fun _ => rfl⟩ | exact ⟨undef, fun _ => rfl⟩
        apply obl_det
        case hrun =>
          intro D y wz hW hD R hR
          have HRR := Lib.hid hR
          clear hR
          have HW := Lib.hid hW
          clear hW hD
          go_wp2_with fail
          exact HRR.out _ HW.out
        case hnp => rfl
        case hv => first | exact ⟨_, fun _ => rfl⟩ | exact ⟨undef, fun _ => rfl⟩
        apply obl_det
        case hrun =>
          intro D y wz hW hD R hR
          have HRR := Lib.hid hR
          clear hR
          have HW := Lib.hid hW
          clear hW hD
          go_wp2_with fail
          exact HRR.out _ HW.out
        case hnp => rfl
        case hv => first | exact ⟨_, fun _ => rfl⟩ | exact ⟨undef, fun _ => rfl⟩
        apply obl_det
        case hrun =>
          intro D y wz hW hD R hR
          have HRR := Lib.hid hR
          clear hR
          have HW := Lib.hid hW
          clear hW hD
          go_wp2_with fail
          exact HRR.out _ HW.out
        case hnp => rfl
        case hv => first | exact ⟨_, fun _ => rfl⟩ | exact ⟨undef, fun _ => rfl⟩
        apply obl_det
        case hrun =>
          intro D y wz hW hD R hR
          have HRR := Lib.hid hR
          clear hR
          have HW := Lib.hid hW
          have h1 := (CO.out.call HW.out).cell 0 rfl 1
          clear hW hD
          go_wp2_with fail
          exact HRR.out _ HW.out
        case hnp => rfl
        case hv => first | exact ⟨_, fun _ => rfl⟩ | exact ⟨undef, fun _ => rfl⟩
        apply obl_det
        case hrun =>
          intro D y wz hW hD R hR
          have HRR := Lib.hid hR
          clear hR
          have HW := Lib.hid hW
          clear hW hD
          go_wp2_with fail
          exact HRR.out _ HW.out
        case hnp => rfl
        case hv => first | exact ⟨_, fun _ => rfl⟩ | exact ⟨undef, fun _ => rfl⟩
        apply obl_det
        case hrun =>
          intro D y wz hW hD R hR
          have HRR := Lib.hid hR
          clear hR
          have HW := Lib.hid hW
          clear hW hD
          go_wp2_with fail
          exact HRR.out _ HW.out
        case hnp => rfl
        case hv => first | exact ⟨_, fun _ => rfl⟩ | exact ⟨undef, fun _ => rfl⟩
        apply obl_det
        case hrun =>
          intro D y wz hW hD R hR
          have HRR := Lib.hid hR
          clear hR
          have HW := Lib.hid hW
          clear hW hD
          go_wp2_with fail
          exact HRR.out _ HW.out
        case hnp => rfl
        case hv => first | exact ⟨_, fun _ => rfl⟩ | exact ⟨undef, fun _ => rfl⟩
        apply obl_det
        case hrun =>
          intro D y wz hW hD R hR
          have HRR := Lib.hid hR
          clear hR
          have HW := Lib.hid hW
          clear hW hD
          go_wp2_with fail
          exact HRR.out _ HW.out
        case hnp => rfl
        case hv => first | exact ⟨_, fun _ => rfl⟩ | exact ⟨undef, fun _ => rfl⟩
        apply obl_det
        case hrun =>
          intro D y wz hW hD R hR
          have HRR := Lib.hid hR
          clear hR
          have HW := Lib.hid hW
          clear hW hD
          go_wp2_with fail
          exact HRR.out _ HW.out
        case hnp => rfl
        case hv => first | exact ⟨_, fun _ => rfl⟩ | exact ⟨undef, fun _ => rfl⟩
        apply obl_det
        case hrun =>
          intro D y wz hW hD R hR
          have HRR := Lib.hid hR
          clear hR
          have HW := Lib.hid hW
          clear hW hD
          go_wp2_with fail
          exact HRR.out _ HW.out
        case hnp => rfl
        case hv => first | exact ⟨_, fun _ => rfl⟩ | exact ⟨undef, fun _ => rfl⟩
        apply obl_det
        case hrun =>
          intro D y wz hW hD R hR
          have HRR := Lib.hid hR
          clear hR
          have HW := Lib.hid hW
          clear hW hD
          go_wp2_with fail
          exact HRR.out _ HW.out
        case hnp => rfl
        case hv => first | exact ⟨_, fun _ => rfl⟩ | exact ⟨undef, fun _ => rfl⟩
        apply obl_det
        case hrun =>
          intro D y wz hW hD R hR
          have HRR := Lib.hid hR
          clear hR
          have HW := Lib.hid hW
          have HY := Lib.hid (HB12.out.trans (HW.out.mono HB12.out.size))
          have h1 := (HY.out.cell (p := ⟨bM, oM + t, none⟩) HUM.out).trans HM.out
          clear hW hD
          go_wp2_with fail
          exact HRR.out _ HW.out
        case hnp => rfl
        case hv => first | exact ⟨_, fun _ => rfl⟩ | exact ⟨undef, fun _ => rfl⟩
        apply obl_det
        case hrun =>
          intro D y wz hW hD R hR
          have HRR := Lib.hid hR
          clear hR
          have HW := Lib.hid hW
          clear hW hD
          go_wp2_with fail
          exact HRR.out _ HW.out
        case hnp => rfl
        case hv => first | exact ⟨_, fun _ => rfl⟩ | exact ⟨undef, fun _ => rfl⟩
        apply obl_det
        case hrun =>
          intro D y wz hW hD R hR
          have HRR := Lib.hid hR
          clear hR
          have HW := Lib.hid hW
          clear hW hD
          go_wp2_with fail
          exact HRR.out _ HW.out
        case hnp => rfl
        case hv => first | exact ⟨_, fun _ => rfl⟩ | exact ⟨undef, fun _ => rfl⟩
        apply obl_det
        case hrun =>
          intro D y wz hW hD R hR
          have HRR := Lib.hid hR
          clear hR
          have HW := Lib.hid hW
          clear hW hD
          go_wp2_with fail
          exact HRR.out _ HW.out
        case hnp => rfl
        case hv => first | exact ⟨_, fun _ => rfl⟩ | exact ⟨undef, fun _ => rfl⟩
        apply obl_nil
        intro D y w13 hall hW
        have HB13 := Lib.hid (HB12.out.trans (hW.mono HB12.out.size))
        clear hall hW CO
        go_wp2_with fail
        refine ⟨⟨t + 1, by push_cast; rfl, by omega, HB13.out⟩, ?_⟩
        simp [intOf]; omega
    · obtain rfl : t = s.things.length := by omega
      go_wp2_with fail
      refine (awake_any _).mono ?_
      rintro e w14 ⟨rfl, hb⟩
      have CX := Lib.hid ((C6.out.call HBR.out).call hb)
      clear hb C6 HBR
      go_wp2_with fail
      go_ret
      exact ⟨rfl, CX.out.bel⟩
end Go.Proofs.Ytaigbhhmmdfdcaa
