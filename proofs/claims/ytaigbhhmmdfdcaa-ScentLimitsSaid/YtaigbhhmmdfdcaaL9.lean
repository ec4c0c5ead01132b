/- ScentLimits: the walk. -/
import Derived.Test.YtaigbhhmmdfdcaaY25
import Derived.Test.YtaigbhhmmdfdcaaP11
namespace Go.Proofs.Ytaigbhhmmdfdcaa
open Go.RowKit
set_option maxRecDepth 100000 in
set_option maxHeartbeats 16000000 in
theorem limits_law (s : Shop) (l : List Bat) (x : List Int) (hx : Turns x) (vt vl v vx : Value) (w : World) (hs : ShopAt w.heap.size w vt vl s) (hl : BatsIn w.heap.size w v l) (hvx : IntsIn .u32 w.heap.size w vx x) :
    Calls Try.prog 9 #[.agg #[vt, vl], v, vx] w (fun e w' => e = .returned (.bool true) ∧ Below w.heap.size w w') := by
  have HS := Lib.hid hs
  have HL := Lib.hid hl
  have HX := Lib.hid hx
  have HVX := Lib.hid hvx
  obtain ⟨ta, tc, rfl, -, -⟩ := sl_shape hs.1
  obtain ⟨la, lc, rfl, -, -⟩ := sl_shape hs.2
  obtain ⟨a, c, rfl, hlc, hlen⟩ := sl_shape hl
  obtain ⟨ax, cx, rfl, -⟩ := hvx
  clear hs hl hx
  have C0 : Hid (Bs w [(w.heap.size, .cells #[.slice ta s.things.length tc, .slice la s.lots.length lc] 25)] _) := (Bs.nil w).push _ rfl (.cells #[.slice ta s.things.length tc, .slice la s.lots.length lc] 25)
  have hc0 := C0.out.cell 0 rfl 0
  have hc1 := C0.out.cell 0 rfl 1
  have HG : Hid (batchesE s l = 0 → AllGood s l) := all_good
  have HTP := Lib.hid (fun hz k hk w hs hl hvx => @truth_pair s l k hz hk x HX.out (.slice ta s.things.length tc) (.slice la s.lots.length lc) (.slice a l.length c) (.slice ax x.length cx) w hs hl hvx)
  have HEP := Lib.hid (fun hz k hk e w hs hl => @end_pair s l k hz hk e (.slice ta s.things.length tc) (.slice la s.lots.length lc) (.slice a l.length c) w hs hl)
  have HKB : Hid (batchesE s l ≠ 0 → keepsV s l = (0, 0, batchesE s l)) := fun h => by unfold keepsV; rw [if_pos h]
  have HKC := Lib.hid (@keeps_cases s l)
  have H1 := fun w h1 h2 => Lib.hid (keeps_any s l (.slice ta s.things.length tc) (.slice la s.lots.length lc) (.slice a l.length c) w h1 h2)
  have H2 := fun w h1 h2 => Lib.hid (batches_ref s l (.slice ta s.things.length tc) (.slice la s.lots.length lc) (.slice a l.length c) w h1 h2)
  unfold Ret3 at H1
  generalize batchesE s l = E at *
  generalize keepsV s l = KV at *
  go_enter Try.func9, Try.ntmps9
  go_wp2_with fail
  refine (H1 _ ((HS.out.below C0.out.bel).mono C0.out.bel.size) ((HL.out.below C0.out.bel).mono C0.out.bel.size)).out.mono ?_
  rintro e w1 ⟨rfl, hb⟩
  have C1 := Lib.hid (C0.out.call hb)
  clear hb C0 hc0 hc1 H1
  have hc0 := C1.out.cell 0 rfl 0
  have hc1 := C1.out.cell 0 rfl 1
  obtain ⟨K1, K2, K3⟩ := KV
  simp only
  go_wp2_with fail
  refine (H2 _ ((HS.out.below C1.out.bel).mono C1.out.bel.size) ((HL.out.below C1.out.bel).mono C1.out.bel.size)).out.mono ?_
  rintro e w2 ⟨rfl, hb⟩
  have C2 := Lib.hid (C1.out.call hb)
  clear hb C1 hc0 hc1 H2
  by_cases hE : E = 0
  case neg =>
    have hq : (E != 0) = true := by simpa using hE
    have hq2 : (E == E) = true := by simp
    have hz := HKB.out hE
    obtain ⟨rfl, rfl, rfl⟩ : K1 = 0 ∧ K2 = 0 ∧ K3 = E := by simpa using hz
    clear hE HG HKB HKC HTP HEP hz
    go_wp2_with fail
    refine (awake_any _).mono ?_
    rintro e w3 ⟨rfl, hb⟩
    have C3 := Lib.hid (C2.out.call hb)
    clear hb C2
    go_wp2_with fail
    go_ret
    exact ⟨rfl, C3.out.bel⟩
  subst hE
  have HTQ := Lib.hid (HTP.out rfl)
  have HEQ := Lib.hid (HEP.out rfl)
  have HGD := Lib.hid (HG.out rfl)
  have HKC2 := Lib.hid (HKC.out rfl)
  obtain ⟨hsh, hn1, hn6, -⟩ := HG.out rfl
  have hnt5 := hsh.nt5
  have hnt1 := hsh.nt1
  clear HG hsh HTP HEP HKB HKC
  rcases HKC2.out with ⟨hkv, hall⟩ | ⟨k, t, hkl, htl, hkv, habove⟩
  case inr =>
    obtain ⟨rfl, rfl, rfl⟩ : K1 = (k : Int) ∧ K2 = (t : Int) ∧ K3 = 0 := by simpa using hkv
    have HAB := Lib.hid habove
    have HKL := Lib.hid hkl
    clear HKC2 hkv habove HTQ
    have g1 : decide ((k : Int) < -1) = false := decide_eq_false (by omega)
    have g2 : decide (l.length ≤ k) = false := decide_eq_false (by omega)
    have g3 : decide ((t : Int) < -1) = false := decide_eq_false (by omega)
    have g4 : decide (s.things.length ≤ t) = false := decide_eq_false (by omega)
    have g5 : decide ((k : Int) < 0) = false := decide_eq_false (by omega)
    have g6 : decide ((t : Int) < 0) = false := decide_eq_false (by omega)
    have g7 : decide ((0 : Int) ≤ (k : Int)) = true := decide_eq_true (by omega)
    have hc0 := C2.out.cell 0 rfl 0
    go_wp2_with fail
    clear g1 g2 g3 g4 g5 g6 g7 hc0
    obtain ⟨X3, he3, hmd3⟩ := HEQ.out k hkl true w2 ((HS.out.below C2.out.bel).mono C2.out.bel.size) ((HL.out.below C2.out.bel).mono C2.out.bel.size)
    have HT3 := Lib.hid he3
    have HM3 := Lib.hid hmd3
    rw [sd_true_map] at HM3
    have HRF := Lib.hid (row_fst s l hkl)
    obtain ⟨B, hBE⟩ : ∃ B, ((rangesV s l).getD k []).map Prod.snd = B := ⟨_, rfl⟩
    rw [hBE] at HM3 HRF
    have hB := HRF.out.2.1
    have HBT : Hid (B.getD t 0 = (micV s l k t).2) := (HRF.out.2.2 t htl).2
    clear hBE HRF he3 hmd3 HEQ
    refine wp_region_inv1 (by kernel_rfl) (by kernel_rfl) [82, 83, 75, 84, 11] (fun D y w' => CalW w2 (IsTru X3) (IsInts B) (.int .i64 0) (D 6) (D 7) (D 8) (D 9) (D 11) (y 82) (y 83) (y 75) (y 84) (y 11) w') (CalW.start _) ?L1 ?hL1 ?_
    case hL1 =>
      intro y
      simp only [fill, List.foldl, Act.put, List.setIfInBounds_toArray, List.set]
      exact rfl
    apply obl_det
    case hrun =>
      intro D y wz hW hD R hR
      have HRR := Lib.hid hR
      clear hR
      have HW := Lib.hid hW
      clear hW hD
      refine wpList_load_want rfl 25 _ rfl _ rfl _ _ _ _ ((C2.out.call HW.out.bel).get 0 rfl) Try.underlying25 rfl info25 ?_
      go_simp
      exact HRR.out _ HW.out
    case hnp => rfl
    case hv => first | exact ⟨_, fun _ => rfl⟩ | exact ⟨undef, fun _ => rfl⟩
    apply obl_det
    case hrun =>
      intro D y wz hW hD R hR
      have HRR := Lib.hid hR
      clear hR
      have HW := Lib.hid hW
      clear hW hD
      go_wp2_with fail
      exact HRR.out _ HW.out
    case hnp => rfl
    case hv => first | exact ⟨_, fun _ => rfl⟩ | exact ⟨undef, fun _ => rfl⟩
    apply obl_det
    case hrun =>
      intro D y wz hW hD R hR
      have HRR := Lib.hid hR
      clear hR
      have HW := Lib.hid hW
      clear hW hD
      go_wp2_with fail
      exact HRR.out _ HW.out
    case hnp => rfl
    case hv => first | exact ⟨_, fun _ => rfl⟩ | exact ⟨undef, fun _ => rfl⟩
    apply obl_det
    case hrun =>
      intro D y wz hW hD R hR
      have HRR := Lib.hid hR
      clear hR
      have HW := Lib.hid hW
      clear hW hD
      refine wpList_load_want rfl 25 _ rfl _ rfl _ _ _ _ ((C2.out.call HW.out.bel).get 0 rfl) Try.underlying25 rfl info25 ?_
      go_simp
      exact HRR.out _ HW.out
    case hnp => rfl
    case hv => first | exact ⟨_, fun _ => rfl⟩ | exact ⟨undef, fun _ => rfl⟩
    apply obl_det
    case hrun =>
      intro D y wz hW hD R hR
      have HRR := Lib.hid hR
      clear hR
      have HW := Lib.hid hW
      clear hW hD
      go_wp2_with fail
      exact HRR.out _ HW.out
    case hnp => rfl
    case hv => first | exact ⟨_, fun _ => rfl⟩ | exact ⟨undef, fun _ => rfl⟩
    apply obl_det
    case hrun =>
      intro D y wz hW hD R hR
      have HRR := Lib.hid hR
      clear hR
      have HW := Lib.hid hW
      clear hW hD
      go_wp2_with fail
      exact HRR.out _ HW.out
    case hnp => rfl
    case hv => first | exact ⟨_, fun _ => rfl⟩ | exact ⟨undef, fun _ => rfl⟩
    apply obl_priv 82
    case hd => rfl
    case hp => rfl
    case hrun =>
      intro D y wz hW hD R hR
      have HRR := Lib.hid hR
      clear hR
      have HW := Lib.hid hW
      clear hW hD
      have HC := Lib.hid (HT3.out wz HW.out.bel)
      go_wp2_with fail
      refine HC.out.mono ?_
      rintro e w' ⟨t, rfl, hi, hb⟩
      have HN := Lib.hid ((CalW.next (stab_tru _) (stab_ints _) HW.out hb).putA hi)
      clear hb
      go_wp2_with fail
      refine HRR.out _ _ ?_
      show CalW w2 (IsTru X3) (IsInts B) (.int .i64 0) true (D 7) (D 8) (D 9) (D 11) _ (y 83) (y 75) (y 84) (y 11) _
      exact HN.out
    apply obl_priv 83
    case hd => rfl
    case hp => rfl
    case hrun =>
      intro D y wz hW hD R hR
      have HRR := Lib.hid hR
      clear hR
      have HW := Lib.hid hW
      have HA := Lib.hid (hW.a (hD.pre _ 6 rfl (by kernel_rfl)))
      clear hW hD
      have HC := Lib.hid (HM3.out wz _ HW.out.bel HA.out)
      go_wp2_with fail
      refine HC.out.mono ?_
      rintro e w' ⟨v, rfl, hi, hb⟩
      have HN := Lib.hid ((CalW.next (stab_tru _) (stab_ints _) HW.out hb).putB hi)
      clear hb
      go_wp2_with fail
      refine HRR.out _ _ ?_
      show CalW w2 (IsTru X3) (IsInts B) (.int .i64 0) (D 6) true (D 8) (D 9) (D 11) (y 82) _ (y 75) (y 84) (y 11) _
      exact HN.out
    apply obl_priv 75
    case hd => rfl
    case hp => rfl
    case hrun =>
      intro D y wz hW hD R hR
      have HRR := Lib.hid hR
      clear hR
      refine wpList_mv rfl _ rfl (y 83) rfl ?_
      refine HRR.out (y 83) _ ?_
      exact hW.putM (hD.pre _ 7 rfl (by kernel_rfl))
    apply obl_priv 84
    case hd => rfl
    case hp => rfl
    case hrun =>
      intro D y wz hW hD R hR
      have HRR := Lib.hid hR
      clear hR
      obtain ⟨v, e, hv⟩ := hW.m (hD.pre _ 8 rfl (by kernel_rfl))
      refine wpList_ex rfl _ 0 rfl _ e v rfl ?_
      refine HRR.out v _ ?_
      exact hW.putX hv
    apply obl_det
    case hrun =>
      intro D y wz hW hD R hR
      have HRR := Lib.hid hR
      clear hR
      have HW := Lib.hid hW
      obtain ⟨v, e, -⟩ := hW.m (hD.pre _ 8 rfl (by kernel_rfl))
      have HE := Lib.hid e
      clear e
      clear hW hD
      refine wpList_ex rfl _ 1 rfl _ HE.out (.int .i64 0) rfl ?_
      exact HRR.out _ HW.out
    case hnp => rfl
    case hv => first | exact ⟨_, fun _ => rfl⟩ | exact ⟨undef, fun _ => rfl⟩
    apply obl_priv 11
    case hd => rfl
    case hp => rfl
    case hrun =>
      intro D y wz hW hD R hR
      have HRR := Lib.hid hR
      clear hR
      refine wpList_as rfl _ rfl (y 84) rfl ?_
      refine HRR.out (y 84) _ ?_
      exact hW.putS (hD.pre _ 9 rfl (by kernel_rfl))
    apply obl_det
    case hrun =>
      intro D y wz hW hD R hR
      have HRR := Lib.hid hR
      clear hR
      have HW := Lib.hid hW
      clear hW hD
      go_wp2_with fail
      exact HRR.out _ HW.out
    case hnp => rfl
    case hv => first | exact ⟨_, fun _ => rfl⟩ | exact ⟨undef, fun _ => rfl⟩
    apply obl_nil
    intro D y w8 hall hW
    have HPB := Lib.hid (hW.s (hall 11 (by decide)))
    have HBW := Lib.hid hW.bel
    clear hW hall
    generalize y 82 = y82 at *
    generalize y 83 = y83 at *
    generalize y 75 = y75 at *
    generalize y 84 = y84 at *
    generalize y 11 = y11 at *
    have HP1 := Lib.hid HPB.out
    have C3 := Lib.hid (C2.out.call HBW.out)
    clear HBW C2 HPB HT3 HM3
    obtain ⟨z1, q1, rfl⟩ := HP1.out.shape hB
    obtain ⟨b1, o1, rfl, hb1, hk1⟩ := HP1.out.at' (i := t) (by omega)
    have HK1 := Lib.hid hk1
    have HU1 := Lib.hid hb1
    obtain ⟨b3, o3, rfl, hb3, hl3⟩ := limit_at HS.out.1 htl
    have HL3 := Lib.hid hl3
    have HU3 := Lib.hid hb3
    obtain ⟨b, o, rfl, hbb, g1, g2, g3, hd1, hd2, hd3, hwt⟩ := weigh HGD.out hkl HL.out
    have HD1 := Lib.hid hd1
    have HD2 := Lib.hid hd2
    have HD3 := Lib.hid hd3
    have HUB := Lib.hid hbb
    have HWT := Lib.hid hwt
    have hmb := mic_ok HGD.out.sh hn6 (k := k) (fun j hj => HGD.out.pre j (by omega)) hkl t
    have hlim := HGD.out.sh.limit t htl
    have hpos := HGD.out.pre.pos HGD.out.sh hn6 (Nat.le_refl _) hkl
    have hab := HAB.out
    rw [← HBT.out] at hmb hab
    clear HBT HAB hk1 hb1 hl3 hb3 hd1 hd2 hd3 hbb hwt HGD HL HS HP1 hB HX HVX
    have HBA := Lib.hid C3.out.bel
    generalize (s.things.getD t default).limit = LM at *
    generalize weightV (l.getD k default) = WT at *
    generalize B.getD t 0 = mt at *
    have hm := mul_bound hlim (show 0 ≤ WT ∧ WT ≤ 1200000 by omega)
    have HWP : Hid (wrap64 (LM * WT) = LM * WT) := by unfold Hid wrap64; omega
    obtain ⟨P, hP⟩ : ∃ P, LM * WT = P := ⟨_, rfl⟩
    rw [hP] at HWP hab hm
    have HH := Lib.hid hP
    clear hP
    have hki : (k : Int) < (l.length : Int) := by omega
    have hti : (t : Int) < (s.things.length : Int) := by omega
    have hq : ((s.things.length : Int) == (s.things.length : Int)) = true := by simp
    go_wp2_with fail
    refine wp_region_inv0 (by kernel_rfl) (by kernel_rfl) (fun D w' => Below w8.heap.size w8 w') (Below.refl _ _).drew ?_
    apply obl_det
    case hrun =>
      intro D y wz hW hD R hR
      have HRR := Lib.hid hR
      clear hR
      have HW := Lib.hid hW
      clear hW hD
      go_wp2_with fail
      exact HRR.out _ HW.out
    case hnp => rfl
    case hv => first | exact ⟨_, fun _ => rfl⟩ | exact ⟨undef, fun _ => rfl⟩
    apply obl_det
    case hrun =>
      intro D y wz hW hD R hR
      have HRR := Lib.hid hR
      clear hR
      have HW := Lib.hid hW
      clear hW hD
      go_wp2_with fail
      exact HRR.out _ HW.out
    case hnp => rfl
    case hv => first | exact ⟨_, fun _ => rfl⟩ | exact ⟨undef, fun _ => rfl⟩
    apply obl_det
    case hrun =>
      intro D y wz hW hD R hR
      have HRR := Lib.hid hR
      clear hR
      have HW := Lib.hid hW
      clear hW hD
      go_wp2_with fail
      exact HRR.out _ HW.out
    case hnp => rfl
    case hv => first | exact ⟨_, fun _ => rfl⟩ | exact ⟨undef, fun _ => rfl⟩
    apply obl_det
    case hrun =>
      intro D y wz hW hD R hR
      have HRR := Lib.hid hR
      clear hR
      have HW := Lib.hid hW
      clear hW hD
      go_wp2_with fail
      exact HRR.out _ HW.out
    case hnp => rfl
    case hv => first | exact ⟨_, fun _ => rfl⟩ | exact ⟨undef, fun _ => rfl⟩
    apply obl_det
    case hrun =>
      intro D y wz hW hD R hR
      have HRR := Lib.hid hR
      clear hR
      have HW := Lib.hid hW
      clear hW hD
      go_wp2_with fail
      exact HRR.out _ HW.out
    case hnp => rfl
    case hv => first | exact ⟨_, fun _ => rfl⟩ | exact ⟨undef, fun _ => rfl⟩
    apply obl_det
    case hrun =>
      intro D y wz hW hD R hR
      have HRR := Lib.hid hR
      clear hR
      have HW := Lib.hid hW
      clear hW hD
      go_wp2_with fail
      exact HRR.out _ HW.out
    case hnp => rfl
    case hv => first | exact ⟨_, fun _ => rfl⟩ | exact ⟨undef, fun _ => rfl⟩
    apply obl_det
    case hrun =>
      intro D y wz hW hD R hR
      have HRR := Lib.hid hR
      clear hR
      have HW := Lib.hid hW
      have h1 := (C3.out.call HW.out).cell 0 rfl 0
      clear hW hD
      go_wp2_with fail
      exact HRR.out _ HW.out
    case hnp => rfl
    case hv => first | exact ⟨_, fun _ => rfl⟩ | exact ⟨undef, fun _ => rfl⟩
    apply obl_det
    case hrun =>
      intro D y wz hW hD R hR
      have HRR := Lib.hid hR
      clear hR
      have HW := Lib.hid hW
      clear hW hD
      go_wp2_with fail
      exact HRR.out _ HW.out
    case hnp => rfl
    case hv => first | exact ⟨_, fun _ => rfl⟩ | exact ⟨undef, fun _ => rfl⟩
    apply obl_det
    case hrun =>
      intro D y wz hW hD R hR
      have HRR := Lib.hid hR
      clear hR
      have HW := Lib.hid hW
      clear hW hD
      go_wp2_with fail
      exact HRR.out _ HW.out
    case hnp => rfl
    case hv => first | exact ⟨_, fun _ => rfl⟩ | exact ⟨undef, fun _ => rfl⟩
    apply obl_det
    case hrun =>
      intro D y wz hW hD R hR
      have HRR := Lib.hid hR
      clear hR
      have HW := Lib.hid hW
      clear hW hD
      go_wp2_with fail
      exact HRR.out _ HW.out
    case hnp => rfl
    case hv => first | exact ⟨_, fun _ => rfl⟩ | exact ⟨undef, fun _ => rfl⟩
    apply obl_det
    case hrun =>
      intro D y wz hW hD R hR
      have HRR := Lib.hid hR
      clear hR
      have HW := Lib.hid hW
      clear hW hD
      go_wp2_with fail
      exact HRR.out _ HW.out
    case hnp => rfl
    case hv => first | exact ⟨_, fun _ => rfl⟩ | exact ⟨undef, fun _ => rfl⟩
    apply obl_det
    case hrun =>
      intro D y wz hW hD R hR
      have HRR := Lib.hid hR
      clear hR
      have HW := Lib.hid hW
      clear hW hD
      go_wp2_with fail
      exact HRR.out _ HW.out
    case hnp => rfl
    case hv => first | exact ⟨_, fun _ => rfl⟩ | exact ⟨undef, fun _ => rfl⟩
    apply obl_det
    case hrun =>
      intro D y wz hW hD R hR
      have HRR := Lib.hid hR
      clear hR
      have HW := Lib.hid hW
      clear hW hD
      go_wp2_with fail
      exact HRR.out _ HW.out
    case hnp => rfl
    case hv => first | exact ⟨_, fun _ => rfl⟩ | exact ⟨undef, fun _ => rfl⟩
    apply obl_det
    case hrun =>
      intro D y wz hW hD R hR
      have HRR := Lib.hid hR
      clear hR
      have HW := Lib.hid hW
      clear hW hD
      go_wp2_with fail
      exact HRR.out _ HW.out
    case hnp => rfl
    case hv => first | exact ⟨_, fun _ => rfl⟩ | exact ⟨undef, fun _ => rfl⟩
    apply obl_det
    case hrun =>
      intro D y wz hW hD R hR
      have HRR := Lib.hid hR
      clear hR
      have HW := Lib.hid hW
      have h1 := (HW.out.cell (p := ⟨b1, o1 + t, none⟩) HU1.out).trans HK1.out
      clear hW hD
      go_wp2_with fail
      exact HRR.out _ HW.out
    case hnp => rfl
    case hv => first | exact ⟨_, fun _ => rfl⟩ | exact ⟨undef, fun _ => rfl⟩
    apply obl_det
    case hrun =>
      intro D y wz hW hD R hR
      have HRR := Lib.hid hR
      clear hR
      have HW := Lib.hid hW
      clear hW hD
      go_wp2_with fail
      exact HRR.out _ HW.out
    case hnp => rfl
    case hv => first | exact ⟨_, fun _ => rfl⟩ | exact ⟨undef, fun _ => rfl⟩
    apply obl_det
    case hrun =>
      intro D y wz hW hD R hR
      have HRR := Lib.hid hR
      clear hR
      have HW := Lib.hid hW
      have h1 := (C3.out.call HW.out).cell 0 rfl 0
      clear hW hD
      go_wp2_with fail
      exact HRR.out _ HW.out
    case hnp => rfl
    case hv => first | exact ⟨_, fun _ => rfl⟩ | exact ⟨undef, fun _ => rfl⟩
    apply obl_det
    case hrun =>
      intro D y wz hW hD R hR
      have HRR := Lib.hid hR
      clear hR
      have HW := Lib.hid hW
      clear hW hD
      go_wp2_with fail
      exact HRR.out _ HW.out
    case hnp => rfl
    case hv => first | exact ⟨_, fun _ => rfl⟩ | exact ⟨undef, fun _ => rfl⟩
    apply obl_det
    case hrun =>
      intro D y wz hW hD R hR
      have HRR := Lib.hid hR
      clear hR
      have HW := Lib.hid hW
      clear hW hD
      go_wp2_with fail
      exact HRR.out _ HW.out
    case hnp => rfl
    case hv => first | exact ⟨_, fun _ => rfl⟩ | exact ⟨undef, fun _ => rfl⟩
    apply obl_det
    case hrun =>
      intro D y wz hW hD R hR
      have HRR := Lib.hid hR
      clear hR
      have HW := Lib.hid hW
      clear hW hD
      go_wp2_with fail
      exact HRR.out _ HW.out
    case hnp => rfl
    case hv => first | exact ⟨_, fun _ => rfl⟩ | exact ⟨undef, fun _ => rfl⟩
    apply obl_det
    case hrun =>
      intro D y wz hW hD R hR
      have HRR := Lib.hid hR
      clear hR
      have HW := Lib.hid hW
      have HZ := Lib.hid (HBA.out.trans (HW.out.mono HBA.out.size))
      have h1 := (HZ.out.cell (p := ⟨b3, o3 + t * 5 + 2, none⟩) HU3.out).trans HL3.out
      clear hW hD
      go_wp2_with fail
      exact HRR.out _ HW.out
    case hnp => rfl
    case hv => first | exact ⟨_, fun _ => rfl⟩ | exact ⟨undef, fun _ => rfl⟩
    apply obl_det
    case hrun =>
      intro D y wz hW hD R hR
      have HRR := Lib.hid hR
      clear hR
      have HW := Lib.hid hW
      clear hW hD
      go_wp2_with fail
      exact HRR.out _ HW.out
    case hnp => rfl
    case hv => first | exact ⟨_, fun _ => rfl⟩ | exact ⟨undef, fun _ => rfl⟩
    apply obl_det
    case hrun =>
      intro D y wz hW hD R hR
      have HRR := Lib.hid hR
      clear hR
      have HW := Lib.hid hW
      clear hW hD
      go_wp2_with fail
      exact HRR.out _ HW.out
    case hnp => rfl
    case hv => first | exact ⟨_, fun _ => rfl⟩ | exact ⟨undef, fun _ => rfl⟩
    apply obl_det
    case hrun =>
      intro D y wz hW hD R hR
      have HRR := Lib.hid hR
      clear hR
      have HW := Lib.hid hW
      clear hW hD
      go_wp2_with fail
      exact HRR.out _ HW.out
    case hnp => rfl
    case hv => first | exact ⟨_, fun _ => rfl⟩ | exact ⟨undef, fun _ => rfl⟩
    apply obl_det
    case hrun =>
      intro D y wz hW hD R hR
      have HRR := Lib.hid hR
      clear hR
      have HW := Lib.hid hW
      have HZ := Lib.hid (HBA.out.trans (HW.out.mono HBA.out.size))
      have h1 := (HZ.out.cell (p := ⟨b, o + k * 3, none⟩) HUB.out).trans HD1.out
      have h2 := (HZ.out.cell (p := ⟨b, o + k * 3 + 1, none⟩) HUB.out).trans HD2.out
      have h3 := (HZ.out.cell (p := ⟨b, o + k * 3 + 2, none⟩) HUB.out).trans HD3.out
      clear hW hD
      go_wp2_with fail
      exact HRR.out _ HW.out
    case hnp => rfl
    case hv => first | exact ⟨_, fun _ => rfl⟩ | exact ⟨undef, fun _ => rfl⟩
    apply obl_det
    case hrun =>
      intro D y wz hW hD R hR
      have HRR := Lib.hid hR
      clear hR
      have HW := Lib.hid hW
      have HZ := Lib.hid (HBA.out.trans (HW.out.mono HBA.out.size))
      clear hW hD
      go_wp2_with fail
      refine (HWT.out _ HZ.out).mono ?_
      rintro e w' ⟨rfl, hb⟩
      have HW2 := Lib.hid (HW.out.trans (hb.mono HW.out.size))
      clear hb
      go_wp2_with fail
      exact HRR.out _ HW2.out
    case hnp => rfl
    case hv => first | exact ⟨_, fun _ => rfl⟩ | exact ⟨undef, fun _ => rfl⟩
    apply obl_det
    case hrun =>
      intro D y wz hW hD R hR
      have HRR := Lib.hid hR
      clear hR
      have HW := Lib.hid hW
      clear hW hD
      go_wp2_with fail
      rw [HH.out, HWP.out]
      exact HRR.out _ HW.out
    case hnp => rfl
    case hv => first | exact ⟨_, fun _ => rfl⟩ | exact ⟨undef, fun _ => rfl⟩
    apply obl_det
    case hrun =>
      intro D y wz hW hD R hR
      have HRR := Lib.hid hR
      clear hR
      have HW := Lib.hid hW
      clear hW hD
      go_wp2_with fail
      exact HRR.out _ HW.out
    case hnp => rfl
    case hv => first | exact ⟨_, fun _ => rfl⟩ | exact ⟨undef, fun _ => rfl⟩
    apply obl_det
    case hrun =>
      intro D y wz hW hD R hR
      have HRR := Lib.hid hR
      clear hR
      have HW := Lib.hid hW
      clear hW hD
      go_wp2_with fail
      exact HRR.out _ HW.out
    case hnp => rfl
    case hv => first | exact ⟨_, fun _ => rfl⟩ | exact ⟨undef, fun _ => rfl⟩
    apply obl_det
    case hrun =>
      intro D y wz hW hD R hR
      have HRR := Lib.hid hR
      clear hR
      have HW := Lib.hid hW
      clear hW hD
      go_wp2_with fail
      exact HRR.out _ HW.out
    case hnp => rfl
    case hv => first | exact ⟨_, fun _ => rfl⟩ | exact ⟨undef, fun _ => rfl⟩
    apply obl_det
    case hrun =>
      intro D y wz hW hD R hR
      have HRR := Lib.hid hR
      clear hR
      have HW := Lib.hid hW
      clear hW hD
      go_wp2_with fail
      refine (awake_any _).mono ?_
      rintro e w' ⟨rfl, hb⟩
      have HW2 := Lib.hid (HW.out.trans (hb.mono HW.out.size))
      clear hb
      go_wp2_with fail
      exact HRR.out _ HW2.out
    case hnp => rfl
    case hv => first | exact ⟨_, fun _ => rfl⟩ | exact ⟨undef, fun _ => rfl⟩
    apply obl_det
    case hrun =>
      intro D y wz hW hD R hR
      have HRR := Lib.hid hR
      clear hR
      have HW := Lib.hid hW
      clear hW hD
      go_wp2_with fail
      exact HRR.out _ HW.out
    case hnp => rfl
    case hv => first | exact ⟨_, fun _ => rfl⟩ | exact ⟨undef, fun _ => rfl⟩
    apply obl_det
    case hrun =>
      intro D y wz hW hD R hR
      have HRR := Lib.hid hR
      clear hR
      have HW := Lib.hid hW
      clear hW hD
      go_wp2_with fail
      exact HRR.out _ HW.out
    case hnp => rfl
    case hv => first | exact ⟨_, fun _ => rfl⟩ | exact ⟨undef, fun _ => rfl⟩
    apply obl_nil
    intro D y w8 hall hW
    have CX := Lib.hid (C3.out.call hW)
    clear hall hW C3
    go_wp2_with fail
    go_ret
    exact ⟨rfl, CX.out.bel⟩
  obtain ⟨rfl, rfl, rfl⟩ : K1 = -1 ∧ K2 = -1 ∧ K3 = 0 := by simpa using hkv
  have HALL := Lib.hid hall
  clear HKC2 hkv hall HEQ
  have g2 : decide ((l.length : Int) ≤ -1) = false := decide_eq_false (by omega)
  have g4 : decide ((s.things.length : Int) ≤ -1) = false := decide_eq_false (by omega)
  have hc0 := C2.out.cell 0 rfl 0
  go_wp2_with fail
  clear g2 g4 hc0
  go_loopw [13] (fun kv wr => ∃ k : Nat, kv = .int .i64 k ∧ k ≤ l.length ∧ Below w2.heap.size w2 wr) (fun kv _ => l.length - (intOf kv).toNat)
  case atStart => exact ⟨0, rfl, by omega, Below.refl _ _⟩
  case round =>
    obtain ⟨k, rfl, hk, hb⟩ := hrel
    have HB := Lib.hid hb
    clear hb
    by_cases hkl : k < l.length
    · have hki : (k : Int) < (l.length : Int) := by omega
      obtain ⟨W2, hW2⟩ : ∃ x, x = wr := ⟨_, rfl⟩
      subst hW2
      go_wp2_with fail
      obtain ⟨X1, M1, htr, hmd1, hm1, hmb⟩ := HTQ.out k hkl w2 ((HS.out.below C2.out.bel).mono C2.out.bel.size) ((HL.out.below C2.out.bel).mono C2.out.bel.size) ((HVX.out.below C2.out.bel).mono C2.out.bel.size)
      have HT1 := Lib.hid htr
      have HM1 := Lib.hid hmd1
      have HBT := Lib.hid hmb
      have CR := Lib.hid (C2.out.call HB.out)
      clear htr hmd1 hmb
      refine wp_region_inv1 (by kernel_rfl) (by kernel_rfl) [132, 133, 124, 134, 14] (fun D y w' => CalW W2 (IsTru X1) (IsInts M1) (.int .i64 0) (D 7) (D 8) (D 9) (D 10) (D 12) (y 132) (y 133) (y 124) (y 134) (y 14) w') (CalW.start _) ?L2 ?hL2 ?_
      case hL2 =>
        intro y
        simp only [fill, List.foldl, Act.put, List.setIfInBounds_toArray, List.set]
        exact rfl
      apply obl_det
      case hrun =>
        intro D y wz hW hD R hR
        have HRR := Lib.hid hR
        clear hR
        have HW := Lib.hid hW
        clear hW hD
        refine wpList_load_want rfl 25 _ rfl _ rfl _ _ _ _ ((CR.out.call HW.out.bel).get 0 rfl) Try.underlying25 rfl info25 ?_
        go_simp
        exact HRR.out _ HW.out
      case hnp => rfl
      case hv => first | exact ⟨_, fun _ => rfl⟩ | exact ⟨undef, fun _ => rfl⟩
      apply obl_det
      case hrun =>
        intro D y wz hW hD R hR
        have HRR := Lib.hid hR
        clear hR
        have HW := Lib.hid hW
        clear hW hD
        go_wp2_with fail
        exact HRR.out _ HW.out
      case hnp => rfl
      case hv => first | exact ⟨_, fun _ => rfl⟩ | exact ⟨undef, fun _ => rfl⟩
      apply obl_det
      case hrun =>
        intro D y wz hW hD R hR
        have HRR := Lib.hid hR
        clear hR
        have HW := Lib.hid hW
        clear hW hD
        go_wp2_with fail
        exact HRR.out _ HW.out
      case hnp => rfl
      case hv => first | exact ⟨_, fun _ => rfl⟩ | exact ⟨undef, fun _ => rfl⟩
      apply obl_det
      case hrun =>
        intro D y wz hW hD R hR
        have HRR := Lib.hid hR
        clear hR
        have HW := Lib.hid hW
        clear hW hD
        refine wpList_load_want rfl 25 _ rfl _ rfl _ _ _ _ ((CR.out.call HW.out.bel).get 0 rfl) Try.underlying25 rfl info25 ?_
        go_simp
        exact HRR.out _ HW.out
      case hnp => rfl
      case hv => first | exact ⟨_, fun _ => rfl⟩ | exact ⟨undef, fun _ => rfl⟩
      apply obl_det
      case hrun =>
        intro D y wz hW hD R hR
        have HRR := Lib.hid hR
        clear hR
        have HW := Lib.hid hW
        clear hW hD
        go_wp2_with fail
        exact HRR.out _ HW.out
      case hnp => rfl
      case hv => first | exact ⟨_, fun _ => rfl⟩ | exact ⟨undef, fun _ => rfl⟩
      apply obl_det
      case hrun =>
        intro D y wz hW hD R hR
        have HRR := Lib.hid hR
        clear hR
        have HW := Lib.hid hW
        clear hW hD
        go_wp2_with fail
        exact HRR.out _ HW.out
      case hnp => rfl
      case hv => first | exact ⟨_, fun _ => rfl⟩ | exact ⟨undef, fun _ => rfl⟩
      apply obl_det
      case hrun =>
        intro D y wz hW hD R hR
        have HRR := Lib.hid hR
        clear hR
        have HW := Lib.hid hW
        clear hW hD
        go_wp2_with fail
        exact HRR.out _ HW.out
      case hnp => rfl
      case hv => first | exact ⟨_, fun _ => rfl⟩ | exact ⟨undef, fun _ => rfl⟩
      apply obl_priv 132
      case hd => rfl
      case hp => rfl
      case hrun =>
        intro D y wz hW hD R hR
        have HRR := Lib.hid hR
        clear hR
        have HW := Lib.hid hW
        clear hW hD
        have HC := Lib.hid (HT1.out wz (HB.out.trans (HW.out.bel.mono HB.out.size)))
        go_wp2_with fail
        refine HC.out.mono ?_
        rintro e w' ⟨t, rfl, hi, hb⟩
        have HN := Lib.hid ((CalW.next (stab_tru _) (stab_ints _) HW.out hb).putA hi)
        clear hb
        go_wp2_with fail
        refine HRR.out _ _ ?_
        show CalW W2 (IsTru X1) (IsInts M1) (.int .i64 0) true (D 8) (D 9) (D 10) (D 12) _ (y 133) (y 124) (y 134) (y 14) _
        exact HN.out
      apply obl_priv 133
      case hd => rfl
      case hp => rfl
      case hrun =>
        intro D y wz hW hD R hR
        have HRR := Lib.hid hR
        clear hR
        have HW := Lib.hid hW
        have HA := Lib.hid (hW.a (hD.pre _ 7 rfl (by kernel_rfl)))
        clear hW hD
        have HC := Lib.hid (HM1.out wz _ (HB.out.trans (HW.out.bel.mono HB.out.size)) HA.out)
        go_wp2_with fail
        refine HC.out.mono ?_
        rintro e w' ⟨v, rfl, hi, hb⟩
        have HN := Lib.hid ((CalW.next (stab_tru _) (stab_ints _) HW.out hb).putB hi)
        clear hb
        go_wp2_with fail
        refine HRR.out _ _ ?_
        show CalW W2 (IsTru X1) (IsInts M1) (.int .i64 0) (D 7) true (D 9) (D 10) (D 12) (y 132) _ (y 124) (y 134) (y 14) _
        exact HN.out
      apply obl_priv 124
      case hd => rfl
      case hp => rfl
      case hrun =>
        intro D y wz hW hD R hR
        have HRR := Lib.hid hR
        clear hR
        refine wpList_mv rfl _ rfl (y 133) rfl ?_
        refine HRR.out (y 133) _ ?_
        exact hW.putM (hD.pre _ 8 rfl (by kernel_rfl))
      apply obl_priv 134
      case hd => rfl
      case hp => rfl
      case hrun =>
        intro D y wz hW hD R hR
        have HRR := Lib.hid hR
        clear hR
        obtain ⟨v, e, hv⟩ := hW.m (hD.pre _ 9 rfl (by kernel_rfl))
        refine wpList_ex rfl _ 0 rfl _ e v rfl ?_
        refine HRR.out v _ ?_
        exact hW.putX hv
      apply obl_det
      case hrun =>
        intro D y wz hW hD R hR
        have HRR := Lib.hid hR
        clear hR
        have HW := Lib.hid hW
        obtain ⟨v, e, -⟩ := hW.m (hD.pre _ 9 rfl (by kernel_rfl))
        have HE := Lib.hid e
        clear e
        clear hW hD
        refine wpList_ex rfl _ 1 rfl _ HE.out (.int .i64 0) rfl ?_
        exact HRR.out _ HW.out
      case hnp => rfl
      case hv => first | exact ⟨_, fun _ => rfl⟩ | exact ⟨undef, fun _ => rfl⟩
      apply obl_priv 14
      case hd => rfl
      case hp => rfl
      case hrun =>
        intro D y wz hW hD R hR
        have HRR := Lib.hid hR
        clear hR
        refine wpList_as rfl _ rfl (y 134) rfl ?_
        refine HRR.out (y 134) _ ?_
        exact hW.putS (hD.pre _ 10 rfl (by kernel_rfl))
      apply obl_det
      case hrun =>
        intro D y wz hW hD R hR
        have HRR := Lib.hid hR
        clear hR
        have HW := Lib.hid hW
        clear hW hD
        go_wp2_with fail
        exact HRR.out _ HW.out
      case hnp => rfl
      case hv => first | exact ⟨_, fun _ => rfl⟩ | exact ⟨undef, fun _ => rfl⟩
      apply obl_nil
      intro D y w8 hall hW
      have HPB := Lib.hid (hW.s (hall 12 (by decide)))
      have HBW := Lib.hid hW.bel
      clear hW hall
      generalize y 132 = y132 at *
      generalize y 133 = y133 at *
      generalize y 124 = y124 at *
      generalize y 134 = y134 at *
      generalize y 14 = y14 at *
      have HP1 := Lib.hid HPB.out
      have C3 := Lib.hid (CR.out.call HBW.out)
      have HB3 := Lib.hid (HB.out.trans (HBW.out.mono HB.out.size))
      clear HBW CR HPB HT1 HM1 HB
      obtain ⟨z1, q1, rfl⟩ := HP1.out.shape hm1
      have hq : ((s.things.length : Int) != (s.things.length : Int)) = false := by simp
      have hc0 := C3.out.cell 0 rfl 0
      go_wp2_with fail
      clear hq hc0
      have HBA3 := Lib.hid C3.out.bel
      go_loopw [16] (fun iv wr => ∃ t : Nat, iv = .int .i64 t ∧ t ≤ s.things.length ∧ Below w8.heap.size w8 wr) (fun iv _ => s.things.length - (intOf iv).toNat)
      case atStart => exact ⟨0, rfl, by omega, Below.refl _ _⟩
      case round =>
        obtain ⟨t, rfl, ht, hb⟩ := hrel
        have HBR := Lib.hid hb
        clear hb
        by_cases htl : t < s.things.length
        · have hti : (t : Int) < (s.things.length : Int) := by omega
          have CR := Lib.hid (C3.out.call HBR.out)
          have HBA := Lib.hid (HBA3.out.trans (HBR.out.mono HBA3.out.size))
          obtain ⟨b1, o1, rfl, hb1, hk1⟩ := HP1.out.at' (i := t) (by omega)
          have HK1 := Lib.hid hk1
          have HU1 := Lib.hid hb1
          obtain ⟨b3, o3, rfl, hb3, hl3⟩ := limit_at HS.out.1 htl
          have HL3 := Lib.hid hl3
          have HU3 := Lib.hid hb3
          obtain ⟨b, o, rfl, hbb, g1, g2, g3, hd1, hd2, hd3, hwt⟩ := weigh HGD.out hkl HL.out
          have HD1 := Lib.hid hd1
          have HD2 := Lib.hid hd2
          have HD3 := Lib.hid hd3
          have HUB := Lib.hid hbb
          have HWT := Lib.hid hwt
          have hlim := HGD.out.sh.limit t htl
          have hpos := HGD.out.pre.pos HGD.out.sh hn6 (Nat.le_refl _) hkl
          have hle := Int.le_trans (HBT.out t htl).2 (HALL.out k hkl t htl)
          clear hk1 hb1 hl3 hb3 hd1 hd2 hd3 hbb hwt hm1 HBT HALL HTQ
          generalize (s.things.getD t default).limit = LM at *
          generalize weightV (l.getD k default) = WT at *
          generalize M1.getD t 0 = mt at *
          have hm := mul_bound hlim (show 0 ≤ WT ∧ WT ≤ 1200000 by omega)
          have HWP : Hid (wrap64 (LM * WT) = LM * WT) := by unfold Hid wrap64; omega
          obtain ⟨P, hP⟩ : ∃ P, LM * WT = P := ⟨_, rfl⟩
          rw [hP] at HWP hle hm
          have HH := Lib.hid hP
          clear hP
          go_wp2_with fail
          refine wp_region_inv0 (by kernel_rfl) (by kernel_rfl) (fun D w' => Below wr.heap.size wr w') (Below.refl _ _).drew ?_
          apply obl_det
          case hrun =>
            intro D y wz hW hD R hR
            have HRR := Lib.hid hR
            clear hR
            have HW := Lib.hid hW
            clear hW hD
            go_wp2_with fail
            exact HRR.out _ HW.out
          case hnp => rfl
          case hv => first | exact ⟨_, fun _ => rfl⟩ | exact ⟨undef, fun _ => rfl⟩
          apply obl_det
          case hrun =>
            intro D y wz hW hD R hR
            have HRR := Lib.hid hR
            clear hR
            have HW := Lib.hid hW
            clear hW hD
            go_wp2_with fail
            exact HRR.out _ HW.out
          case hnp => rfl
          case hv => first | exact ⟨_, fun _ => rfl⟩ | exact ⟨undef, fun _ => rfl⟩
          apply obl_det
          case hrun =>
            intro D y wz hW hD R hR
            have HRR := Lib.hid hR
            clear hR
            have HW := Lib.hid hW
            clear hW hD
            go_wp2_with fail
            exact HRR.out _ HW.out
          case hnp => rfl
          case hv => first | exact ⟨_, fun _ => rfl⟩ | exact ⟨undef, fun _ => rfl⟩
          apply obl_det
          case hrun =>
            intro D y wz hW hD R hR
            have HRR := Lib.hid hR
            clear hR
            have HW := Lib.hid hW
            have HY := Lib.hid (HBR.out.trans (HW.out.mono HBR.out.size))
            have h1 := (HY.out.cell (p := ⟨b1, o1 + t, none⟩) HU1.out).trans HK1.out
            clear hW hD
            go_wp2_with fail
            exact HRR.out _ HW.out
          case hnp => rfl
          case hv => first | exact ⟨_, fun _ => rfl⟩ | exact ⟨undef, fun _ => rfl⟩
          apply obl_det
          case hrun =>
            intro D y wz hW hD R hR
            have HRR := Lib.hid hR
            clear hR
            have HW := Lib.hid hW
            clear hW hD
            go_wp2_with fail
            exact HRR.out _ HW.out
          case hnp => rfl
          case hv => first | exact ⟨_, fun _ => rfl⟩ | exact ⟨undef, fun _ => rfl⟩
          apply obl_det
          case hrun =>
            intro D y wz hW hD R hR
            have HRR := Lib.hid hR
            clear hR
            have HW := Lib.hid hW
            have h1 := (CR.out.call HW.out).cell 0 rfl 0
            clear hW hD
            go_wp2_with fail
            exact HRR.out _ HW.out
          case hnp => rfl
          case hv => first | exact ⟨_, fun _ => rfl⟩ | exact ⟨undef, fun _ => rfl⟩
          apply obl_det
          case hrun =>
            intro D y wz hW hD R hR
            have HRR := Lib.hid hR
            clear hR
            have HW := Lib.hid hW
            clear hW hD
            go_wp2_with fail
            exact HRR.out _ HW.out
          case hnp => rfl
          case hv => first | exact ⟨_, fun _ => rfl⟩ | exact ⟨undef, fun _ => rfl⟩
          apply obl_det
          case hrun =>
            intro D y wz hW hD R hR
            have HRR := Lib.hid hR
            clear hR
            have HW := Lib.hid hW
            clear hW hD
            go_wp2_with fail
            exact HRR.out _ HW.out
          case hnp => rfl
          case hv => first | exact ⟨_, fun _ => rfl⟩ | exact ⟨undef, fun _ => rfl⟩
          apply obl_det
          case hrun =>
            intro D y wz hW hD R hR
            have HRR := Lib.hid hR
            clear hR
            have HW := Lib.hid hW
            clear hW hD
            go_wp2_with fail
            exact HRR.out _ HW.out
          case hnp => rfl
          case hv => first | exact ⟨_, fun _ => rfl⟩ | exact ⟨undef, fun _ => rfl⟩
          apply obl_det
          case hrun =>
            intro D y wz hW hD R hR
            have HRR := Lib.hid hR
            clear hR
            have HW := Lib.hid hW
            have HZ := Lib.hid (HBA.out.trans (HW.out.mono HBA.out.size))
            have h1 := (HZ.out.cell (p := ⟨b3, o3 + t * 5 + 2, none⟩) HU3.out).trans HL3.out
            clear hW hD
            go_wp2_with fail
            exact HRR.out _ HW.out
          case hnp => rfl
          case hv => first | exact ⟨_, fun _ => rfl⟩ | exact ⟨undef, fun _ => rfl⟩
          apply obl_det
          case hrun =>
            intro D y wz hW hD R hR
            have HRR := Lib.hid hR
            clear hR
            have HW := Lib.hid hW
            clear hW hD
            go_wp2_with fail
            exact HRR.out _ HW.out
          case hnp => rfl
          case hv => first | exact ⟨_, fun _ => rfl⟩ | exact ⟨undef, fun _ => rfl⟩
          apply obl_det
          case hrun =>
            intro D y wz hW hD R hR
            have HRR := Lib.hid hR
            clear hR
            have HW := Lib.hid hW
            clear hW hD
            go_wp2_with fail
            exact HRR.out _ HW.out
          case hnp => rfl
          case hv => first | exact ⟨_, fun _ => rfl⟩ | exact ⟨undef, fun _ => rfl⟩
          apply obl_det
          case hrun =>
            intro D y wz hW hD R hR
            have HRR := Lib.hid hR
            clear hR
            have HW := Lib.hid hW
            clear hW hD
            go_wp2_with fail
            exact HRR.out _ HW.out
          case hnp => rfl
          case hv => first | exact ⟨_, fun _ => rfl⟩ | exact ⟨undef, fun _ => rfl⟩
          apply obl_det
          case hrun =>
            intro D y wz hW hD R hR
            have HRR := Lib.hid hR
            clear hR
            have HW := Lib.hid hW
            have HZ := Lib.hid (HBA.out.trans (HW.out.mono HBA.out.size))
            have h1 := (HZ.out.cell (p := ⟨b, o + k * 3, none⟩) HUB.out).trans HD1.out
            have h2 := (HZ.out.cell (p := ⟨b, o + k * 3 + 1, none⟩) HUB.out).trans HD2.out
            have h3 := (HZ.out.cell (p := ⟨b, o + k * 3 + 2, none⟩) HUB.out).trans HD3.out
            clear hW hD
            go_wp2_with fail
            exact HRR.out _ HW.out
          case hnp => rfl
          case hv => first | exact ⟨_, fun _ => rfl⟩ | exact ⟨undef, fun _ => rfl⟩
          apply obl_det
          case hrun =>
            intro D y wz hW hD R hR
            have HRR := Lib.hid hR
            clear hR
            have HW := Lib.hid hW
            have HZ := Lib.hid (HBA.out.trans (HW.out.mono HBA.out.size))
            clear hW hD
            go_wp2_with fail
            refine (HWT.out _ HZ.out).mono ?_
            rintro e w' ⟨rfl, hb⟩
            have HW2 := Lib.hid (HW.out.trans (hb.mono HW.out.size))
            clear hb
            go_wp2_with fail
            exact HRR.out _ HW2.out
          case hnp => rfl
          case hv => first | exact ⟨_, fun _ => rfl⟩ | exact ⟨undef, fun _ => rfl⟩
          apply obl_det
          case hrun =>
            intro D y wz hW hD R hR
            have HRR := Lib.hid hR
            clear hR
            have HW := Lib.hid hW
            clear hW hD
            go_wp2_with fail
            rw [HH.out, HWP.out]
            exact HRR.out _ HW.out
          case hnp => rfl
          case hv => first | exact ⟨_, fun _ => rfl⟩ | exact ⟨undef, fun _ => rfl⟩
          apply obl_det
          case hrun =>
            intro D y wz hW hD R hR
            have HRR := Lib.hid hR
            clear hR
            have HW := Lib.hid hW
            clear hW hD
            go_wp2_with fail
            exact HRR.out _ HW.out
          case hnp => rfl
          case hv => first | exact ⟨_, fun _ => rfl⟩ | exact ⟨undef, fun _ => rfl⟩
          apply obl_nil
          intro D y w8 hall hW
          have HB8 := Lib.hid (HBR.out.trans (hW.mono HBR.out.size))
          clear hall hW
          go_wp2_with fail
          refine ⟨⟨t + 1, by push_cast; rfl, by omega, HB8.out⟩, ?_⟩
          simp [intOf]; omega
        · obtain rfl : t = s.things.length := by omega
          go_wp2_with fail
          refine ⟨⟨k + 1, by push_cast; rfl, by omega, HB3.out.trans (HBR.out.mono HB3.out.size)⟩, ?_⟩
          simp [intOf]; omega
    · obtain rfl : k = l.length := by omega
      go_wp2_with fail
      refine (awake_any _).mono ?_
      rintro e w14 ⟨rfl, hb⟩
      have CX := Lib.hid ((C2.out.call HB.out).call hb)
      clear hb C2 HB
      go_wp2_with fail
      go_ret
      exact ⟨rfl, CX.out.bel⟩
end Go.Proofs.Ytaigbhhmmdfdcaa
