/- MouldReached: the walk. -/
import Derived.Test.YtafdagjdpnaddaaW35
import Derived.Test.YtafdagjdpnaddaaW34
import Derived.Test.YtafdagjdpnaddaaAW
namespace Go.Proofs.Ytafdagjdpnaddaa
open Go.RowKit
theorem warmV_ok {m : Mou} (h : checkE m = 0) {N : Nat} (hN : N ≤ 600) : warmV m N = ((warmL m false N).zip (warmL m true N), 0) := by
  unfold warmV
  rw [if_neg (by simp [h]), if_neg (by simp [within]; omega), Int.toNat_natCast]
theorem skinV_ok {m : Mou} (h : checkE m = 0) {N : Nat} (hN : N ≤ 600) : skinV m N = ((((skinN (endsL m true) N : Nat) : Int), ((skinN (endsL m false) N : Nat) : Int)), 0) := by
  unfold skinV
  rw [if_neg (by simp [h]), if_neg (by simp [within]; omega)]
def neverTo (l : List Int) (k : Nat) : Bool := (l.take k).any fun x => decide (x < 0)
theorem neverTo_succ {l : List Int} {k : Nat} (h : k < l.length) : neverTo l (k + 1) = (neverTo l k || decide (l.getD k 0 < 0)) := by
  unfold neverTo
  rw [List.take_succ_eq_append_getElem h, List.any_append]
  simp [List.getD, h]
theorem neverTo_all (l : List Int) : neverTo l l.length = neverB l := by
  unfold neverTo neverB
  rw [List.take_of_length_le (Nat.le_refl _)]
theorem same_fits {m : Mou} (hm : Valid m) (hot : Bool) (n : Nat) : Fits2 m.pl m.ph (sameP m hot) ∧ Fits2 m.wl m.wh (sameW m hot n) := by
  have h1 := hm.pp
  have h2 := hm.ww
  constructor <;> intro i hi
  · unfold sameP at hi ⊢
    rw [List.length_replicate] at hi
    cases hot <;> simp only [List.getD_eq_getElem?_getD, List.getElem?_replicate, if_pos hi, Option.getD_some] <;> simp <;> omega
  · unfold sameW at hi ⊢
    rw [List.length_replicate] at hi
    cases hot <;> simp only [List.getD_eq_getElem?_getD, List.getElem?_replicate, if_pos hi, Option.getD_some] <;> simp <;> omega
set_option maxRecDepth 100000 in
set_option maxHeartbeats 64000000 in
theorem reached_law (m : Mou) (f : Int) (hf0 : 0 ≤ f) (hf6 : f ≤ 65535) (w : World) :
    Calls Try.prog 8 #[.agg #[.int .i64 m.rings, .int .i64 m.give, .int .i64 m.pl, .int .i64 m.ph, .int .i64 m.wl, .int .i64 m.wh, .int .i64 m.set, .int .i64 m.shrink, .int .i64 m.skin, .int .i64 m.fill, .int .i64 m.gap, .int .i64 m.deep], .int .u16 f] w (fun e w' => e = .returned (.bool true) ∧ Below w.heap.size w w') := by
  have C0 := Lib.hid ((Bs.nil w).push _ rfl (.cells #[.int .i64 m.rings, .int .i64 m.give, .int .i64 m.pl, .int .i64 m.ph, .int .i64 m.wl, .int .i64 m.wh, .int .i64 m.set, .int .i64 m.shrink, .int .i64 m.skin, .int .i64 m.fill, .int .i64 m.gap, .int .i64 m.deep] 25))
  have hn0 : 0 ≤ f % 601 := by omega
  have hn6 : f % 601 ≤ 600 := by omega
  go_enter Try.func8, Try.ntmps8
  go_wp2_with (refine wpList_load_bs rfl 25 _ rfl C0.out 0 w.heap.size #[.int .i64 m.rings, .int .i64 m.give, .int .i64 m.pl, .int .i64 m.ph, .int .i64 m.wl, .int .i64 m.wh, .int .i64 m.set, .int .i64 m.shrink, .int .i64 m.skin, .int .i64 m.fill, .int .i64 m.gap, .int .i64 m.deep] 25 rfl rfl _ Try.underlying25 rfl info25 ?_)
  generalize f % 601 = z' at *
  obtain ⟨N, rfl⟩ : ∃ N : Nat, z' = N := ⟨z'.toNat, by omega⟩
  have hN6 : N ≤ 600 := by omega
  clear hn0 hn6 hf0 hf6
  by_cases hc : checkE m = 0
  rotate_left
  · have hv : warmV m N = ([], checkE m) := by unfold warmV; rw [if_pos hc]
    have hv2 : skinV m N = ((0, 0), checkE m) := by unfold skinV; rw [if_pos hc]
    have hwc := fun w => warm_any m N w
    rw [hv] at hwc
    have hsc := fun w => skinM_any m N w
    rw [hv2] at hsc
    have HWC := Lib.hid hwc
    have HSC := Lib.hid hsc
    have HC : ∀ w, Hid (Calls Try.prog 19 #[.agg #[.int .i64 m.rings, .int .i64 m.give, .int .i64 m.pl, .int .i64 m.ph, .int .i64 m.wl, .int .i64 m.wh, .int .i64 m.set, .int .i64 m.shrink, .int .i64 m.skin, .int .i64 m.fill, .int .i64 m.gap, .int .i64 m.deep]] w fun e w' => e = .returned (.int .i64 (checkE m)) ∧ Below w.heap.size w w') := fun w => checkR_any m w
    have hz : (checkE m != 0) = true := by simpa using hc
    clear hc hv hwc hv2 hsc
    generalize checkE m = E at *
    refine (HWC.out _).mono ?_
    rintro e w5 ⟨v, rfl, ho, hb⟩
    have C5 := Lib.hid (C0.out.call hb)
    clear ho hb C0
    go_wp2_with (refine wpList_load_bs rfl 25 _ rfl C5.out 0 w.heap.size #[.int .i64 m.rings, .int .i64 m.give, .int .i64 m.pl, .int .i64 m.ph, .int .i64 m.wl, .int .i64 m.wh, .int .i64 m.set, .int .i64 m.shrink, .int .i64 m.skin, .int .i64 m.fill, .int .i64 m.gap, .int .i64 m.deep] 25 rfl rfl _ Try.underlying25 rfl info25 ?_)
    refine (HSC.out _).mono ?_
    rintro e w6 ⟨rfl, hb⟩
    have C6 := Lib.hid ((C5.out.call hb).push w6.heap.size rfl (.cells #[.int .i64 0, .int .i64 0] 23))
    clear hb C5
    go_wp2_with (refine wpList_load_bs rfl 25 _ rfl C6.out 0 w.heap.size #[.int .i64 m.rings, .int .i64 m.give, .int .i64 m.pl, .int .i64 m.ph, .int .i64 m.wl, .int .i64 m.wh, .int .i64 m.set, .int .i64 m.shrink, .int .i64 m.skin, .int .i64 m.fill, .int .i64 m.gap, .int .i64 m.deep] 25 rfl rfl _ Try.underlying25 rfl info25 ?_)
    refine (HC _).out.mono ?_
    rintro e w7 ⟨rfl, hb⟩
    have CI := Lib.hid (C6.out.call hb)
    clear hb C6
    go_wp2_with fail
    refine (awake_any _).mono ?_
    rintro e w14 ⟨rfl, hb⟩
    have HBel := Lib.hid (CI.out.call hb).bel
    clear hb CI
    go_wp2
    go_ret
    exact ⟨rfl, HBel.out⟩
  have HCK := Lib.hid hc
  have HM := Lib.hid (valid_of_check hc)
  have HC : ∀ w, Hid (Calls Try.prog 19 #[.agg #[.int .i64 m.rings, .int .i64 m.give, .int .i64 m.pl, .int .i64 m.ph, .int .i64 m.wl, .int .i64 m.wh, .int .i64 m.set, .int .i64 m.shrink, .int .i64 m.skin, .int .i64 m.fill, .int .i64 m.gap, .int .i64 m.deep]] w fun e w' => e = .returned (.int .i64 0) ∧ Below w.heap.size w w') := fun w => by
    have := checkR_any m w
    rw [hc] at this
    exact this
  obtain ⟨r, hr⟩ : ∃ r : Nat, m.rings = r := ⟨m.rings.toNat, by have := HM.out.r1; omega⟩
  have HRG := Lib.hid hr
  have hr1 : 1 ≤ r := by have := HM.out.r1; omega
  have hr8 : r ≤ 8 := by have := HM.out.r8; omega
  have hwl : ∀ hot, (warmL m hot N).length = r := fun hot => by
    unfold warmL
    rw [runL_length]
    simp [sameP]
    omega
  have HL0 : Hid ((warmL m false N).length = r) := hwl false
  have HL1 : Hid ((warmL m true N).length = r) := hwl true
  have HLF : Hid ((endsL m false).length = r) := by have := endsL_lenI HM.out false; unfold Hid; omega
  have HLH : Hid ((endsL m true).length = r) := by have := endsL_lenI HM.out true; unfold Hid; omega
  have HWM : ∀ w, Hid (Calls Try.prog 23 #[.agg #[.int .i64 m.rings, .int .i64 m.give, .int .i64 m.pl, .int .i64 m.ph, .int .i64 m.wl, .int .i64 m.wh, .int .i64 m.set, .int .i64 m.shrink, .int .i64 m.skin, .int .i64 m.fill, .int .i64 m.gap, .int .i64 m.deep], .int .i64 N] w (RetSpE ((warmL m false N).zip (warmL m true N)) 0 w)) := fun w => by
    have := warm_any m N w
    rw [warmV_ok hc hN6] at this
    exact this
  have HSK : ∀ w, Hid (Calls Try.prog 29 #[.agg #[.int .i64 m.rings, .int .i64 m.give, .int .i64 m.pl, .int .i64 m.ph, .int .i64 m.wl, .int .i64 m.wh, .int .i64 m.set, .int .i64 m.shrink, .int .i64 m.skin, .int .i64 m.fill, .int .i64 m.gap, .int .i64 m.deep], .int .i64 N] w (RetSkin ((((skinN (endsL m true) N : Nat) : Int), ((skinN (endsL m false) N : Nat) : Int)), 0) w)) := fun w => by
    have := skinM_any m N w
    rw [skinV_ok hc hN6] at this
    exact this
  have HCL : ∀ (hot : Bool) (w : World) (v1 v2 : Value), IntsIn .i64 w.heap.size w v1 (sameP m hot) → IntsIn .i64 w.heap.size w v2 (sameW m hot N) → Hid (Calls Try.prog 20 #[.agg #[.int .i64 m.rings, .int .i64 m.give, .int .i64 m.pl, .int .i64 m.ph, .int .i64 m.wl, .int .i64 m.wh, .int .i64 m.set, .int .i64 m.shrink, .int .i64 m.skin, .int .i64 m.fill, .int .i64 m.gap, .int .i64 m.deep], .agg #[v1, v2]] w (RetLE (warmL m hot N) 0 w)) := fun hot w v1 v2 h1 h2 => by
    have := cool_any m v1 v2 _ _ w h1 h2
    rw [cool_ok HM.out (by simp [sameP]; omega) (same_fits HM.out hot N).1 (by unfold sameW; rw [List.length_replicate]; omega) (same_fits HM.out hot N).2] at this
    exact this
  have HST : ∀ (hot : Bool) (w : World) (v : Value), IntsIn .i64 w.heap.size w v (endsL m hot) → Hid (Calls Try.prog 42 #[v, .int .i64 N] w fun e w' => e = .returned (.int .i64 (skinN (endsL m hot) N)) ∧ w = w') := fun hot w v h =>
    set_any (endsL m hot) (by have := endsL_lenI HM.out hot; omega) N v w h
  have HZW : Hid (∀ i, i < r → ((warmL m false N).zip (warmL m true N)).getD i (0, 0) = ((warmL m false N).getD i 0, (warmL m true N).getD i 0)) := fun i hi => zip_getD (by rw [hwl]; exact hi) (by rw [hwl]; exact hi)
  have HLS : Hid (((warmL m false N).zip (warmL m true N)).length = r) := by unfold Hid; rw [List.length_zip, hwl, hwl]; simp
  generalize (warmL m false N).zip (warmL m true N) = wsp at *
  have hka : ∃ ka : Int, ((skinN (endsL m true) N : Nat) : Int) = ka := ⟨_, rfl⟩
  have hkb : ∃ kb : Int, ((skinN (endsL m false) N : Nat) : Int) = kb := ⟨_, rfl⟩
  obtain ⟨ka, hka⟩ := hka
  obtain ⟨kb, hkb⟩ := hkb
  have HST0 := HST false
  have HST1 := HST true
  rw [hka, hkb] at HSK
  rw [hka] at HST1
  rw [hkb] at HST0
  clear hwl hc hr hka hkb HST
  refine (HWM _).out.mono ?_
  rintro e w1 ⟨v, rfl, ho, hb⟩
  have HS1 := Lib.hid (ho.spans (by rw [HLS.out]; omega))
  have C1 := Lib.hid (C0.out.call hb)
  clear ho hb C0
  go_wp2_with (refine wpList_load_bs rfl 25 _ rfl C1.out 0 w.heap.size #[.int .i64 m.rings, .int .i64 m.give, .int .i64 m.pl, .int .i64 m.ph, .int .i64 m.wl, .int .i64 m.wh, .int .i64 m.set, .int .i64 m.shrink, .int .i64 m.skin, .int .i64 m.fill, .int .i64 m.gap, .int .i64 m.deep] 25 rfl rfl _ Try.underlying25 rfl info25 ?_)
  refine (HSK _).out.mono ?_
  rintro e w2 ⟨rfl, hb⟩
  have hb2 := hb.alloc hb.size (.cells #[.int .i64 ka, .int .i64 kb] 23)
  have HS1 := Lib.hid (HS1.out.next hb2)
  have C2 : Hid (Bs w [(w.heap.size, .cells #[.int .i64 m.rings, .int .i64 m.give, .int .i64 m.pl, .int .i64 m.ph, .int .i64 m.wl, .int .i64 m.wh, .int .i64 m.set, .int .i64 m.shrink, .int .i64 m.skin, .int .i64 m.fill, .int .i64 m.gap, .int .i64 m.deep] 25), (w2.heap.size, .cells #[.int .i64 ka, .int .i64 kb] 23)] _) := (C1.out.call hb).push w2.heap.size rfl (.cells #[.int .i64 ka, .int .i64 kb] 23)
  clear hb hb2 C1
  go_wp2_with (refine wpList_load_bs rfl 25 _ rfl C2.out 0 w.heap.size #[.int .i64 m.rings, .int .i64 m.give, .int .i64 m.pl, .int .i64 m.ph, .int .i64 m.wl, .int .i64 m.wh, .int .i64 m.set, .int .i64 m.shrink, .int .i64 m.skin, .int .i64 m.fill, .int .i64 m.gap, .int .i64 m.deep] 25 rfl rfl _ Try.underlying25 rfl info25 ?_)
  refine (HC _).out.mono ?_
  rintro e w3 ⟨rfl, hb⟩
  have HS1 := Lib.hid (HS1.out.next hb)
  have C3 := Lib.hid (C2.out.call hb)
  clear hb C2 HC
  go_wp2_with fail
  refine wp_region_inv1 (by kernel_rfl) (by kernel_rfl) [51, 52, 47, 53, 54, 10, 11] (fun D y w' => CoW w3 (sameP m false) (sameW m false N) (warmL m false N) (D 3) (D 4) (D 5) (D 6) (D 7) (D 8) (D 9) (y 51) (y 52) (y 47) (y 53) (y 54) (y 10) (y 11) w') (CoW.start _) ?FC ?hFC ?_
  case hFC =>
    intro y
    simp only [fill, List.foldl, Act.put, List.setIfInBounds_toArray, List.set]
    exact rfl
  apply obl_det
  case hrun =>
    intro D y wz hW hD R hR
    have HRR := Lib.hid hR
    clear hR
    have HW := Lib.hid hW
    clear hW hD
    refine wpList_load_want rfl 25 _ rfl _ rfl _ _ _ _ ((C3.out.call HW.out.bel).get 0 rfl) Try.underlying25 rfl info25 ?_
    go_simp
    exact HRR.out _ HW.out
  case hnp => rfl
  case hv => first | exact ⟨_, fun _ => rfl⟩ | exact ⟨undef, fun _ => rfl⟩
  apply obl_det
  case hrun =>
    intro D y wz hW hD R hR
    have HRR := Lib.hid hR
    clear hR
    have HW := Lib.hid hW
    clear hW hD
    refine wpList_load_want rfl 25 _ rfl _ rfl _ _ _ _ ((C3.out.call HW.out.bel).get 0 rfl) Try.underlying25 rfl info25 ?_
    go_simp
    exact HRR.out _ HW.out
  case hnp => rfl
  case hv => first | exact ⟨_, fun _ => rfl⟩ | exact ⟨undef, fun _ => rfl⟩
  apply obl_det
  case hrun =>
    intro D y wz hW hD R hR
    have HRR := Lib.hid hR
    clear hR
    have HW := Lib.hid hW
    clear hW hD
    go_wp2
    exact HRR.out _ HW.out
  case hnp => rfl
  case hv => first | exact ⟨_, fun _ => rfl⟩ | exact ⟨undef, fun _ => rfl⟩
  apply obl_priv 51
  case hd => rfl
  case hp => rfl
  case hrun =>
    intro D y wz hW hD R hR
    have HRR := Lib.hid hR
    clear hR
    have HW := Lib.hid hW
    clear hW hD
    go_wp2_with fail
    refine (same_ref m HM.out false N hN6 wz).mono ?_
    rintro e w' ⟨v1, v2, rfl, hi1, hi2, hb⟩
    have HN := Lib.hid ((HW.out.next hb).put4 hi1 hi2)
    clear hb hi1 hi2
    go_wp2_with fail
    refine HRR.out _ _ ?_
    show CoW w3 (sameP m false) (sameW m false N) (warmL m false N) true (D 4) (D 5) (D 6) (D 7) (D 8) (D 9) _ (y 52) (y 47) (y 53) (y 54) (y 10) (y 11) _
    exact HN.out
  apply obl_priv 52
  case hd => rfl
  case hp => rfl
  case hrun =>
    intro D y wz hW hD R hR
    have HRR := Lib.hid hR
    clear hR
    obtain ⟨v1, v2, e3, hv1, hv2⟩ := hW.t (hD.pre _ 3 rfl (by kernel_rfl))
    have HW := Lib.hid hW
    have hwh := (HCL false wz v1 v2 hv1 hv2).out
    rw [← e3] at hwh
    have HWH := Lib.hid hwh
    clear hW hD hv1 hv2 hwh e3
    go_wp2_with fail
    refine HWH.out.mono ?_
    rintro e w' ⟨v, rfl, hi1, hb⟩
    have HN := Lib.hid ((HW.out.next hb).put5 (hi1.ints (by rw [HL0.out]; omega)))
    clear hb hi1
    go_wp2_with fail
    refine HRR.out _ _ ?_
    show CoW w3 (sameP m false) (sameW m false N) (warmL m false N) (D 3) true (D 5) (D 6) (D 7) (D 8) (D 9) (y 51) _ (y 47) (y 53) (y 54) (y 10) (y 11) _
    exact HN.out
  apply obl_priv 47
  case hd => rfl
  case hp => rfl
  case hrun =>
    intro D y wz hW hD R hR
    have HRR := Lib.hid hR
    clear hR
    refine wpList_mv rfl _ rfl (y 52) rfl ?_
    refine HRR.out (y 52) _ ?_
    exact hW.put6 (hD.pre _ 4 rfl (by kernel_rfl))
  apply obl_priv 53
  case hd => rfl
  case hp => rfl
  case hrun =>
    intro D y wz hW hD R hR
    have HRR := Lib.hid hR
    clear hR
    obtain ⟨v, e, hv⟩ := hW.m (hD.pre _ 5 rfl (by kernel_rfl))
    refine wpList_ex rfl _ 0 rfl _ e v rfl ?_
    refine HRR.out v _ ?_
    exact hW.put7 hv
  apply obl_priv 54
  case hd => rfl
  case hp => rfl
  case hrun =>
    intro D y wz hW hD R hR
    have HRR := Lib.hid hR
    clear hR
    obtain ⟨v, e, hv⟩ := hW.m (hD.pre _ 5 rfl (by kernel_rfl))
    refine wpList_ex rfl _ 1 rfl _ e (.int .i64 0) rfl ?_
    refine HRR.out (.int .i64 0) _ ?_
    exact hW.put8
  apply obl_priv 10
  case hd => rfl
  case hp => rfl
  case hrun =>
    intro D y wz hW hD R hR
    have HRR := Lib.hid hR
    clear hR
    refine wpList_as rfl _ rfl (y 53) rfl ?_
    refine HRR.out (y 53) _ ?_
    exact hW.put9 (hD.pre _ 6 rfl (by kernel_rfl))
  apply obl_priv 11
  case hd => rfl
  case hp => rfl
  case hrun =>
    intro D y wz hW hD R hR
    have HRR := Lib.hid hR
    clear hR
    refine wpList_as rfl _ rfl (y 54) rfl ?_
    refine HRR.out (y 54) _ ?_
    exact hW.put10 (hD.pre _ 7 rfl (by kernel_rfl))
  apply obl_nil
  intro D y w8 hall hW
  have hn := hW.a (hall 8 (by decide))
  have he := hW.b (hall 9 (by decide))
  have hbl := hW.bel
  clear hW hall

  have H10 := Lib.hid hn
  have HS1 := Lib.hid (HS1.out.next hbl)
  have C4 := Lib.hid (C3.out.call hbl)
  clear hn hbl C3
  generalize y 10 = v10 at *
  generalize y 11 = v11 at *
  generalize y 51 = g1 at *
  generalize y 52 = g2 at *
  generalize y 47 = g3 at *
  generalize y 53 = g4 at *
  generalize y 54 = g5 at *
  subst he
  rename_i w8
  go_wp2_with fail
  refine wp_region_inv1 (by kernel_rfl) (by kernel_rfl) [59, 60, 55, 61, 62, 12, 13] (fun D y w' => CoW w8 (sameP m true) (sameW m true N) (warmL m true N) (D 3) (D 4) (D 5) (D 6) (D 7) (D 8) (D 9) (y 59) (y 60) (y 55) (y 61) (y 62) (y 12) (y 13) w') (CoW.start _) ?FD ?hFD ?_
  case hFD =>
    intro y
    simp only [fill, List.foldl, Act.put, List.setIfInBounds_toArray, List.set]
    exact rfl
  apply obl_det
  case hrun =>
    intro D y wz hW hD R hR
    have HRR := Lib.hid hR
    clear hR
    have HW := Lib.hid hW
    clear hW hD
    refine wpList_load_want rfl 25 _ rfl _ rfl _ _ _ _ ((C4.out.call HW.out.bel).get 0 rfl) Try.underlying25 rfl info25 ?_
    go_simp
    exact HRR.out _ HW.out
  case hnp => rfl
  case hv => first | exact ⟨_, fun _ => rfl⟩ | exact ⟨undef, fun _ => rfl⟩
  apply obl_det
  case hrun =>
    intro D y wz hW hD R hR
    have HRR := Lib.hid hR
    clear hR
    have HW := Lib.hid hW
    clear hW hD
    refine wpList_load_want rfl 25 _ rfl _ rfl _ _ _ _ ((C4.out.call HW.out.bel).get 0 rfl) Try.underlying25 rfl info25 ?_
    go_simp
    exact HRR.out _ HW.out
  case hnp => rfl
  case hv => first | exact ⟨_, fun _ => rfl⟩ | exact ⟨undef, fun _ => rfl⟩
  apply obl_det
  case hrun =>
    intro D y wz hW hD R hR
    have HRR := Lib.hid hR
    clear hR
    have HW := Lib.hid hW
    clear hW hD
    go_wp2
    exact HRR.out _ HW.out
  case hnp => rfl
  case hv => first | exact ⟨_, fun _ => rfl⟩ | exact ⟨undef, fun _ => rfl⟩
  apply obl_priv 59
  case hd => rfl
  case hp => rfl
  case hrun =>
    intro D y wz hW hD R hR
    have HRR := Lib.hid hR
    clear hR
    have HW := Lib.hid hW
    clear hW hD
    go_wp2_with fail
    refine (same_ref m HM.out true N hN6 wz).mono ?_
    rintro e w' ⟨v1, v2, rfl, hi1, hi2, hb⟩
    have HN := Lib.hid ((HW.out.next hb).put4 hi1 hi2)
    clear hb hi1 hi2
    go_wp2_with fail
    refine HRR.out _ _ ?_
    show CoW w8 (sameP m true) (sameW m true N) (warmL m true N) true (D 4) (D 5) (D 6) (D 7) (D 8) (D 9) _ (y 60) (y 55) (y 61) (y 62) (y 12) (y 13) _
    exact HN.out
  apply obl_priv 60
  case hd => rfl
  case hp => rfl
  case hrun =>
    intro D y wz hW hD R hR
    have HRR := Lib.hid hR
    clear hR
    obtain ⟨v1, v2, e3, hv1, hv2⟩ := hW.t (hD.pre _ 3 rfl (by kernel_rfl))
    have HW := Lib.hid hW
    have hwh := (HCL true wz v1 v2 hv1 hv2).out
    rw [← e3] at hwh
    have HWH := Lib.hid hwh
    clear hW hD hv1 hv2 hwh e3
    go_wp2_with fail
    refine HWH.out.mono ?_
    rintro e w' ⟨v, rfl, hi1, hb⟩
    have HN := Lib.hid ((HW.out.next hb).put5 (hi1.ints (by rw [HL1.out]; omega)))
    clear hb hi1
    go_wp2_with fail
    refine HRR.out _ _ ?_
    show CoW w8 (sameP m true) (sameW m true N) (warmL m true N) (D 3) true (D 5) (D 6) (D 7) (D 8) (D 9) (y 59) _ (y 55) (y 61) (y 62) (y 12) (y 13) _
    exact HN.out
  apply obl_priv 55
  case hd => rfl
  case hp => rfl
  case hrun =>
    intro D y wz hW hD R hR
    have HRR := Lib.hid hR
    clear hR
    refine wpList_mv rfl _ rfl (y 60) rfl ?_
    refine HRR.out (y 60) _ ?_
    exact hW.put6 (hD.pre _ 4 rfl (by kernel_rfl))
  apply obl_priv 61
  case hd => rfl
  case hp => rfl
  case hrun =>
    intro D y wz hW hD R hR
    have HRR := Lib.hid hR
    clear hR
    obtain ⟨v, e, hv⟩ := hW.m (hD.pre _ 5 rfl (by kernel_rfl))
    refine wpList_ex rfl _ 0 rfl _ e v rfl ?_
    refine HRR.out v _ ?_
    exact hW.put7 hv
  apply obl_priv 62
  case hd => rfl
  case hp => rfl
  case hrun =>
    intro D y wz hW hD R hR
    have HRR := Lib.hid hR
    clear hR
    obtain ⟨v, e, hv⟩ := hW.m (hD.pre _ 5 rfl (by kernel_rfl))
    refine wpList_ex rfl _ 1 rfl _ e (.int .i64 0) rfl ?_
    refine HRR.out (.int .i64 0) _ ?_
    exact hW.put8
  apply obl_priv 12
  case hd => rfl
  case hp => rfl
  case hrun =>
    intro D y wz hW hD R hR
    have HRR := Lib.hid hR
    clear hR
    refine wpList_as rfl _ rfl (y 61) rfl ?_
    refine HRR.out (y 61) _ ?_
    exact hW.put9 (hD.pre _ 6 rfl (by kernel_rfl))
  apply obl_priv 13
  case hd => rfl
  case hp => rfl
  case hrun =>
    intro D y wz hW hD R hR
    have HRR := Lib.hid hR
    clear hR
    refine wpList_as rfl _ rfl (y 62) rfl ?_
    refine HRR.out (y 62) _ ?_
    exact hW.put10 (hD.pre _ 7 rfl (by kernel_rfl))
  apply obl_nil
  intro D y w9 hall hW
  have hn := hW.a (hall 8 (by decide))
  have he := hW.b (hall 9 (by decide))
  have hbl := hW.bel
  clear hW hall

  have H12 := Lib.hid hn
  have H10 := Lib.hid (H10.out.next hbl)
  have HS1 := Lib.hid (HS1.out.next hbl)
  have C5 := Lib.hid (C4.out.call hbl)
  clear hn hbl C4
  generalize y 12 = v12 at *
  generalize y 13 = v13 at *
  generalize y 59 = g6 at *
  generalize y 60 = g7 at *
  generalize y 55 = g8 at *
  generalize y 61 = g9 at *
  generalize y 62 = g10 at *
  subst he
  go_wp2_with fail
  refine wp_region_inv1 (by kernel_rfl) (by kernel_rfl) [65, 66, 69, 70, 14, 15] (fun D y w' => EnW w9 m (D 2) (D 3) (D 6) (D 7) (D 8) (D 9) (y 65) (y 66) (y 69) (y 70) (y 14) (y 15) w') (EnW.start _) ?FB ?hFB ?_
  case hFB =>
    intro y
    simp only [fill, List.foldl, Act.put, List.setIfInBounds_toArray, List.set]
    exact rfl
  apply obl_det
  case hrun =>
    intro D y wz hW hD R hR
    have HRR := Lib.hid hR
    clear hR
    have HW := Lib.hid hW
    clear hW hD
    refine wpList_load_want rfl 25 _ rfl _ rfl _ _ _ _ ((C5.out.call HW.out.bel).get 0 rfl) Try.underlying25 rfl info25 ?_
    go_simp
    exact HRR.out _ HW.out
  case hnp => rfl
  case hv => first | exact ⟨_, fun _ => rfl⟩ | exact ⟨undef, fun _ => rfl⟩
  apply obl_det
  case hrun =>
    intro D y wz hW hD R hR
    have HRR := Lib.hid hR
    clear hR
    have HW := Lib.hid hW
    clear hW hD
    refine wpList_load_want rfl 25 _ rfl _ rfl _ _ _ _ ((C5.out.call HW.out.bel).get 0 rfl) Try.underlying25 rfl info25 ?_
    go_simp
    exact HRR.out _ HW.out
  case hnp => rfl
  case hv => first | exact ⟨_, fun _ => rfl⟩ | exact ⟨undef, fun _ => rfl⟩
  apply obl_priv 65
  case hd => rfl
  case hp => rfl
  case hrun =>
    intro D y wz hW hD R hR
    have HRR := Lib.hid hR
    clear hR
    have HW := Lib.hid hW
    clear hW hD
    go_wp2_with fail
    refine (same_ref m HM.out false 600 (by omega) wz).mono ?_
    rintro e w' ⟨v1, v2, rfl, hi1, hi2, hb⟩
    have HN := Lib.hid ((HW.out.next hb).put1 hi1 hi2)
    clear hb hi1 hi2
    go_wp2_with fail
    refine HRR.out _ _ ?_
    show EnW w9 m true (D 3) (D 6) (D 7) (D 8) (D 9) _ (y 66) (y 69) (y 70) (y 14) (y 15) _
    exact HN.out
  apply obl_priv 66
  case hd => rfl
  case hp => rfl
  case hrun =>
    intro D y wz hW hD R hR
    have HRR := Lib.hid hR
    clear hR
    have h5 : D 8 = false := hD.post _ 8 rfl (by kernel_rfl)
    have h3 : D 2 = true := hD.pre _ 2 rfl (by kernel_rfl)
    obtain ⟨v1, v2, e3, hv1, hv2⟩ := hW.s1 h3
    have HW := Lib.hid hW
    have H5 := Lib.hid h5
    have hwh := when_side HM.out false wz v1 v2 hv1 hv2
    rw [← e3] at hwh
    have HWH := Lib.hid hwh
    clear hW hD h3 h5 hv1 hv2 hwh e3
    go_wp2_with fail
    refine HWH.out.mono ?_
    rintro e w' ⟨v, rfl, hi1, hb⟩
    have HN := Lib.hid ((HW.out.next hb).put2 H5.out hi1)
    clear hb hi1
    go_wp2_with fail
    refine HRR.out _ _ ?_
    show EnW w9 m (D 2) true (D 6) (D 7) (D 8) (D 9) (y 65) _ (y 69) (y 70) (y 14) (y 15) _
    exact HN.out
  apply obl_det
  case hrun =>
    intro D y wz hW hD R hR
    have HRR := Lib.hid hR
    clear hR
    have HW := Lib.hid hW
    clear hW hD
    refine wpList_load_want rfl 25 _ rfl _ rfl _ _ _ _ ((C5.out.call HW.out.bel).get 0 rfl) Try.underlying25 rfl info25 ?_
    go_simp
    exact HRR.out _ HW.out
  case hnp => rfl
  case hv => first | exact ⟨_, fun _ => rfl⟩ | exact ⟨undef, fun _ => rfl⟩
  apply obl_det
  case hrun =>
    intro D y wz hW hD R hR
    have HRR := Lib.hid hR
    clear hR
    have HW := Lib.hid hW
    clear hW hD
    refine wpList_load_want rfl 25 _ rfl _ rfl _ _ _ _ ((C5.out.call HW.out.bel).get 0 rfl) Try.underlying25 rfl info25 ?_
    go_simp
    exact HRR.out _ HW.out
  case hnp => rfl
  case hv => first | exact ⟨_, fun _ => rfl⟩ | exact ⟨undef, fun _ => rfl⟩
  apply obl_priv 69
  case hd => rfl
  case hp => rfl
  case hrun =>
    intro D y wz hW hD R hR
    have HRR := Lib.hid hR
    clear hR
    have HW := Lib.hid hW
    clear hW hD
    go_wp2_with fail
    refine (same_ref m HM.out true 600 (by omega) wz).mono ?_
    rintro e w' ⟨v1, v2, rfl, hi1, hi2, hb⟩
    have HN := Lib.hid ((HW.out.next hb).put3 hi1 hi2)
    clear hb hi1 hi2
    go_wp2_with fail
    refine HRR.out _ _ ?_
    show EnW w9 m (D 2) (D 3) true (D 7) (D 8) (D 9) (y 65) (y 66) _ (y 70) (y 14) (y 15) _
    exact HN.out
  apply obl_priv 70
  case hd => rfl
  case hp => rfl
  case hrun =>
    intro D y wz hW hD R hR
    have HRR := Lib.hid hR
    clear hR
    have h5 : D 9 = false := hD.post _ 9 rfl (by kernel_rfl)
    have h3 : D 6 = true := hD.pre _ 6 rfl (by kernel_rfl)
    obtain ⟨v1, v2, e3, hv1, hv2⟩ := hW.s2 h3
    have HW := Lib.hid hW
    have H5 := Lib.hid h5
    have hwh := when_side HM.out true wz v1 v2 hv1 hv2
    rw [← e3] at hwh
    have HWH := Lib.hid hwh
    clear hW hD h3 h5 hv1 hv2 hwh e3
    go_wp2_with fail
    refine HWH.out.mono ?_
    rintro e w' ⟨v, rfl, hi1, hb⟩
    have HN := Lib.hid ((HW.out.next hb).put4 H5.out hi1)
    clear hb hi1
    go_wp2_with fail
    refine HRR.out _ _ ?_
    show EnW w9 m (D 2) (D 3) (D 6) true (D 8) (D 9) (y 65) (y 66) (y 69) _ (y 14) (y 15) _
    exact HN.out
  apply obl_priv 14
  case hd => rfl
  case hp => rfl
  case hrun =>
    intro D y wz hW hD R hR
    have HRR := Lib.hid hR
    clear hR
    have HW := Lib.hid hW
    clear hW hD
    go_wp2
    refine HRR.out _ _ ?_
    show EnW w9 m (D 2) (D 3) (D 6) (D 7) true (D 9) (y 65) (y 66) (y 69) (y 70) (y 66) (y 15) _
    exact HW.out.put5
  apply obl_priv 15
  case hd => rfl
  case hp => rfl
  case hrun =>
    intro D y wz hW hD R hR
    have HRR := Lib.hid hR
    clear hR
    have HW := Lib.hid hW
    clear hW hD
    go_wp2
    refine HRR.out _ _ ?_
    show EnW w9 m (D 2) (D 3) (D 6) (D 7) (D 8) true (y 65) (y 66) (y 69) (y 70) (y 14) (y 70) _
    exact HW.out.put6
  apply obl_nil
  intro D y w10 hall hW
  have hn1 := hW.n1 (hall 3 (by decide))
  have ha1 := hW.a1 (hall 8 (by decide))
  have hn2 := hW.n2 (hall 7 (by decide))
  have ha2 := hW.a2 (hall 9 (by decide))
  have hbl := hW.bel
  clear hW hall
  rw [← ha1] at hn1
  rw [← ha2] at hn2
  clear ha1 ha2

  have HF := Lib.hid hn1
  have HH := Lib.hid hn2
  have H12 := Lib.hid (H12.out.next hbl)
  have H10 := Lib.hid (H10.out.next hbl)
  have HS1 := Lib.hid (HS1.out.next hbl)
  have C6 := Lib.hid (C5.out.call hbl)
  clear hn1 hn2 hbl C5
  generalize y 14 = v14 at *
  generalize y 15 = v15 at *
  generalize y 65 = g11 at *
  generalize y 66 = g12 at *
  generalize y 69 = g13 at *
  generalize y 70 = g14 at *
  obtain ⟨a10, c10, ev, -⟩ := H10.out
  rw [HL0.out] at ev
  subst ev
  obtain ⟨a12, c12, ev, -⟩ := H12.out
  rw [HL1.out] at ev
  subst ev
  obtain ⟨a14, c14, ev, -⟩ := HF.out
  rw [HLF.out] at ev
  subst ev
  obtain ⟨a15, c15, ev, -⟩ := HH.out
  rw [HLH.out] at ev
  subst ev
  obtain ⟨a6, c6, ev, -⟩ := HS1.out
  rw [HLS.out] at ev
  subst ev
  have hq : ((r : Int) != (r : Int)) = false := by simp
  go_wp2_with fail
  refine wp_region_inv0 (by kernel_rfl) (by kernel_rfl) (fun _ w' => Below w10.heap.size w10 w') (Below.refl _ _).drew ?_
  iterate 18
    (apply obl_det
     case hrun =>
       intro D y wz hW hD R hR
       have HRR := Lib.hid hR
       clear hR
       have HW := Lib.hid hW
       clear hW hD
       go_wp2
       exact HRR.out _ HW.out
     case hnp => rfl
     case hv => first | exact ⟨_, fun _ => rfl⟩ | exact ⟨undef, fun _ => rfl⟩)
  apply obl_det
  case hrun =>
    intro D y wz hW hD R hR
    have HRR := Lib.hid hR
    clear hR
    have HW := Lib.hid hW
    have c0 : wz.cell? ⟨w.heap.size, 0, none⟩ = some (.int .i64 r) := by rw [(C6.out.call hW).cell 0 rfl, ← HRG.out]; rfl
    clear hW hD
    go_wp2
    exact HRR.out _ HW.out
  case hnp => rfl
  case hv => first | exact ⟨_, fun _ => rfl⟩ | exact ⟨undef, fun _ => rfl⟩
  iterate 6
    (apply obl_det
     case hrun =>
       intro D y wz hW hD R hR
       have HRR := Lib.hid hR
       clear hR
       have HW := Lib.hid hW
       clear hW hD
       go_wp2
       exact HRR.out _ HW.out
     case hnp => rfl
     case hv => first | exact ⟨_, fun _ => rfl⟩ | exact ⟨undef, fun _ => rfl⟩)
  apply obl_det
  case hrun =>
    intro D y wz hW hD R hR
    have HRR := Lib.hid hR
    clear hR
    have HW := Lib.hid hW
    have c0 : wz.cell? ⟨w.heap.size, 0, none⟩ = some (.int .i64 r) := by rw [(C6.out.call hW).cell 0 rfl, ← HRG.out]; rfl
    clear hW hD
    go_wp2
    exact HRR.out _ HW.out
  case hnp => rfl
  case hv => first | exact ⟨_, fun _ => rfl⟩ | exact ⟨undef, fun _ => rfl⟩
  iterate 6
    (apply obl_det
     case hrun =>
       intro D y wz hW hD R hR
       have HRR := Lib.hid hR
       clear hR
       have HW := Lib.hid hW
       clear hW hD
       go_wp2
       exact HRR.out _ HW.out
     case hnp => rfl
     case hv => first | exact ⟨_, fun _ => rfl⟩ | exact ⟨undef, fun _ => rfl⟩)
  apply obl_det
  case hrun =>
    intro D y wz hW hD R hR
    have HRR := Lib.hid hR
    clear hR
    have HW := Lib.hid hW
    have c0 : wz.cell? ⟨w.heap.size, 0, none⟩ = some (.int .i64 r) := by rw [(C6.out.call hW).cell 0 rfl, ← HRG.out]; rfl
    clear hW hD
    go_wp2
    exact HRR.out _ HW.out
  case hnp => rfl
  case hv => first | exact ⟨_, fun _ => rfl⟩ | exact ⟨undef, fun _ => rfl⟩
  iterate 3
    (apply obl_det
     case hrun =>
       intro D y wz hW hD R hR
       have HRR := Lib.hid hR
       clear hR
       have HW := Lib.hid hW
       clear hW hD
       go_wp2
       exact HRR.out _ HW.out
     case hnp => rfl
     case hv => first | exact ⟨_, fun _ => rfl⟩ | exact ⟨undef, fun _ => rfl⟩)
  apply obl_det
  case hrun =>
    intro D y wz hW hD R hR
    have HRR := Lib.hid hR
    clear hR
    have HW := Lib.hid hW
    have c1 := (C6.out.call hW).cell 1 rfl
    clear hW hD
    go_wp2
    exact HRR.out _ HW.out
  case hnp => rfl
  case hv => first | exact ⟨_, fun _ => rfl⟩ | exact ⟨undef, fun _ => rfl⟩
  iterate 2
    (apply obl_det
     case hrun =>
       intro D y wz hW hD R hR
       have HRR := Lib.hid hR
       clear hR
       have HW := Lib.hid hW
       clear hW hD
       go_wp2
       exact HRR.out _ HW.out
     case hnp => rfl
     case hv => first | exact ⟨_, fun _ => rfl⟩ | exact ⟨undef, fun _ => rfl⟩)
  apply obl_det
  case hrun =>
    intro D y wz hW hD R hR
    have HRR := Lib.hid hR
    clear hR
    have HW := Lib.hid hW
    clear hW hD
    go_wp2_with fail
    refine (HST1 wz _ (HH.out.next HW.out)).out.mono ?_
    rintro e w' ⟨rfl, rfl⟩
    go_wp2_with fail
    exact HRR.out _ HW.out
  case hnp => rfl
  case hv => first | exact ⟨_, fun _ => rfl⟩ | exact ⟨undef, fun _ => rfl⟩
  iterate 2
    (apply obl_det
     case hrun =>
       intro D y wz hW hD R hR
       have HRR := Lib.hid hR
       clear hR
       have HW := Lib.hid hW
       clear hW hD
       go_wp2
       exact HRR.out _ HW.out
     case hnp => rfl
     case hv => first | exact ⟨_, fun _ => rfl⟩ | exact ⟨undef, fun _ => rfl⟩)
  apply obl_det
  case hrun =>
    intro D y wz hW hD R hR
    have HRR := Lib.hid hR
    clear hR
    have HW := Lib.hid hW
    clear hW hD
    go_wp2_with fail
    refine (HST0 wz _ (HF.out.next HW.out)).out.mono ?_
    rintro e w' ⟨rfl, rfl⟩
    go_wp2_with fail
    exact HRR.out _ HW.out
  case hnp => rfl
  case hv => first | exact ⟨_, fun _ => rfl⟩ | exact ⟨undef, fun _ => rfl⟩
  apply obl_det
  case hrun =>
    intro D y wz hW hD R hR
    have HRR := Lib.hid hR
    clear hR
    have HW := Lib.hid hW
    clear hW hD
    go_wp2_with fail
    refine (span36 ka kb _).mono ?_
    rintro e w' ⟨rfl, hb⟩
    have HW2 := Lib.hid (HW.out.trans (hb.mono HW.out.size))
    clear hb
    go_wp2_with fail
    exact HRR.out _ HW2.out
  case hnp => rfl
  case hv => first | exact ⟨_, fun _ => rfl⟩ | exact ⟨undef, fun _ => rfl⟩
  iterate 2
    (apply obl_det
     case hrun =>
       intro D y wz hW hD R hR
       have HRR := Lib.hid hR
       clear hR
       have HW := Lib.hid hW
       clear hW hD
       go_wp2
       exact HRR.out _ HW.out
     case hnp => rfl
     case hv => first | exact ⟨_, fun _ => rfl⟩ | exact ⟨undef, fun _ => rfl⟩)
  apply obl_nil
  intro D y w11 hall hW
  clear hall

  have HF := Lib.hid (HF.out.next hW)
  have HH := Lib.hid (HH.out.next hW)
  have H12 := Lib.hid (H12.out.next hW)
  have H10 := Lib.hid (H10.out.next hW)
  have HS1 := Lib.hid (HS1.out.next hW)
  have C11 := Lib.hid (C6.out.call hW)
  clear hW C6 hq
  go_wp2_with (refine wpList_load_bs rfl 25 _ rfl C11.out 0 w.heap.size #[.int .i64 m.rings, .int .i64 m.give, .int .i64 m.pl, .int .i64 m.ph, .int .i64 m.wl, .int .i64 m.wh, .int .i64 m.set, .int .i64 m.shrink, .int .i64 m.skin, .int .i64 m.fill, .int .i64 m.gap, .int .i64 m.deep] 25 rfl rfl _ Try.underlying25 rfl info25 ?_)
  by_cases hnv : neverB (endsL m true) = true
  · have hse := sets_any m w11
    rw [setsV_never HCK.out hnv] at hse
    have HNV := Lib.hid hnv
    refine hse.mono ?_
    rintro e w12 ⟨v, rfl, -, hb⟩
    have HH := Lib.hid (HH.out.next hb)
    have H12 := Lib.hid (H12.out.next hb)
    have H10 := Lib.hid (H10.out.next hb)
    have HS1 := Lib.hid (HS1.out.next hb)
    have C12 := Lib.hid (C11.out.call hb)
    clear hb hse hnv C11 HF
    go_wp2_with fail
    go_loopw [17, 18] (fun nv iv wr => ∃ i : Nat, iv = .int .i64 i ∧ i ≤ r ∧ nv = .bool (neverTo (endsL m true) i) ∧ Below w12.heap.size w12 wr) (fun _ iv _ => r - (intOf iv).toNat)
    case atStart => exact ⟨0, rfl, by omega, rfl, Below.refl _ _⟩
    case round =>
      obtain ⟨i, rfl, hi, rfl, hb⟩ := hrel
      have CB := Lib.hid hb
      have CI := Lib.hid (C12.out.call hb)
      have c00 : wr.cell? ⟨w.heap.size, 0, none⟩ = some (.int .i64 r) := by
        rw [CI.out.cell 0 rfl, ← HRG.out]
        rfl
      clear hb
      by_cases hir : i < r
      · have hii : (i : Int) < (r : Int) := by omega
        obtain ⟨_, _, hva, -, hcc⟩ := HH.out
        simp only [Value.slice.injEq] at hva
        obtain ⟨rfl, -, rfl⟩ := hva
        obtain ⟨bh, oh, rfl, hbbh, hcellh⟩ := hcc.resolve_left (by intro h; have := HLH.out; rw [h] at this; simp at this; omega)
        obtain ⟨_, _, hva, -, hcc⟩ := H10.out
        simp only [Value.slice.injEq] at hva
        obtain ⟨rfl, -, rfl⟩ := hva
        obtain ⟨b0, o0, rfl, hbb0, hcell0⟩ := hcc.resolve_left (by intro h; have := HL0.out; rw [h] at this; simp at this; omega)
        obtain ⟨_, _, hva, -, hcc⟩ := H12.out
        simp only [Value.slice.injEq] at hva
        obtain ⟨rfl, -, rfl⟩ := hva
        obtain ⟨b1, o1, rfl, hbb1, hcell1⟩ := hcc.resolve_left (by intro h; have := HL1.out; rw [h] at this; simp at this; omega)
        obtain ⟨_, _, hvb, -, -, hcs⟩ := HS1.out
        simp only [Value.slice.injEq] at hvb
        obtain ⟨rfl, -, rfl⟩ := hvb
        obtain ⟨b3, o3, rfl, hbb3, hcell3⟩ := hcs.resolve_left (by intro h; have := HLS.out; rw [h] at this; simp at this; omega)
        have KH := Lib.hid (hcellh i (by rw [HLH.out]; exact hir))
        have K0 := Lib.hid (hcell0 i (by rw [HL0.out]; exact hir))
        have K1 := Lib.hid (hcell1 i (by rw [HL1.out]; exact hir))
        have k3 := hcell3 i (by rw [HLS.out]; exact hir)
        rw [HZW.out i hir] at k3
        have K3 := Lib.hid k3
        clear hcellh hcell0 hcell1 hcell3 hcc hcs k3
        have kh := (CB.out.cell (p := ⟨bh, oh + i, none⟩) hbbh).trans KH.out
        have HNT := Lib.hid (neverTo_succ (l := endsL m true) (k := i) (by rw [HLH.out]; exact hir))
        generalize neverTo (endsL m true) i = nv at *
        generalize (endsL m true).getD i 0 = xh at *
        generalize (warmL m false N).getD i 0 = x0 at *
        generalize (warmL m true N).getD i 0 = x1 at *
        cases nv
        · by_cases hx : xh < 0
          · have hx' : decide (xh < 0) = true := decide_eq_true hx
            rw [hx', Bool.or_true] at HNT
            clear hx
            go_wp2_with fail
            clear c00 kh
            refine wp_region_inv0 (by kernel_rfl) (by kernel_rfl) (fun _ w' => Below w12.heap.size w12 w') CB.out.drew ?_
            iterate 3
              (apply obl_det
               case hrun =>
                 intro D y wz hW hD R hR
                 have HRR := Lib.hid hR
                 clear hR
                 have HW := Lib.hid hW
                 clear hW hD
                 go_wp2
                 exact HRR.out _ HW.out
               case hnp => rfl
               case hv => first | exact ⟨_, fun _ => rfl⟩ | exact ⟨undef, fun _ => rfl⟩)
            apply obl_det
            case hrun =>
              intro D y wz hW hD R hR
              have HRR := Lib.hid hR
              clear hR
              have HW := Lib.hid hW
              have k3 := (hW.cell (p := ⟨b3, o3 + i * 2, none⟩) hbb3).trans K3.out.1
              have k4 := (hW.cell (p := ⟨b3, o3 + i * 2 + 1, none⟩) hbb3).trans K3.out.2
              clear hW hD
              go_wp2
              exact HRR.out _ HW.out
            case hnp => rfl
            case hv => first | exact ⟨_, fun _ => rfl⟩ | exact ⟨undef, fun _ => rfl⟩
            iterate 3
              (apply obl_det
               case hrun =>
                 intro D y wz hW hD R hR
                 have HRR := Lib.hid hR
                 clear hR
                 have HW := Lib.hid hW
                 clear hW hD
                 go_wp2
                 exact HRR.out _ HW.out
               case hnp => rfl
               case hv => first | exact ⟨_, fun _ => rfl⟩ | exact ⟨undef, fun _ => rfl⟩)
            apply obl_det
            case hrun =>
              intro D y wz hW hD R hR
              have HRR := Lib.hid hR
              clear hR
              have HW := Lib.hid hW
              have k0 := (hW.cell (p := ⟨b0, o0 + i, none⟩) hbb0).trans K0.out
              clear hW hD
              go_wp2
              exact HRR.out _ HW.out
            case hnp => rfl
            case hv => first | exact ⟨_, fun _ => rfl⟩ | exact ⟨undef, fun _ => rfl⟩
            iterate 3
              (apply obl_det
               case hrun =>
                 intro D y wz hW hD R hR
                 have HRR := Lib.hid hR
                 clear hR
                 have HW := Lib.hid hW
                 clear hW hD
                 go_wp2
                 exact HRR.out _ HW.out
               case hnp => rfl
               case hv => first | exact ⟨_, fun _ => rfl⟩ | exact ⟨undef, fun _ => rfl⟩)
            apply obl_det
            case hrun =>
              intro D y wz hW hD R hR
              have HRR := Lib.hid hR
              clear hR
              have HW := Lib.hid hW
              have k1 := (hW.cell (p := ⟨b1, o1 + i, none⟩) hbb1).trans K1.out
              clear hW hD
              go_wp2
              exact HRR.out _ HW.out
            case hnp => rfl
            case hv => first | exact ⟨_, fun _ => rfl⟩ | exact ⟨undef, fun _ => rfl⟩
            apply obl_det
            case hrun =>
              intro D y wz hW hD R hR
              have HRR := Lib.hid hR
              clear hR
              have HW := Lib.hid hW
              clear hW hD
              go_wp2_with fail
              refine (span36 x0 x1 _).mono ?_
              rintro e w' ⟨rfl, hb⟩
              have HW2 := Lib.hid (HW.out.trans (hb.mono HW.out.size))
              clear hb
              go_wp2_with fail
              exact HRR.out _ HW2.out
            case hnp => rfl
            case hv => first | exact ⟨_, fun _ => rfl⟩ | exact ⟨undef, fun _ => rfl⟩
            iterate 28
              (apply obl_det
               case hrun =>
                 intro D y wz hW hD R hR
                 have HRR := Lib.hid hR
                 clear hR
                 have HW := Lib.hid hW
                 clear hW hD
                 go_wp2
                 exact HRR.out _ HW.out
               case hnp => rfl
               case hv => first | exact ⟨_, fun _ => rfl⟩ | exact ⟨undef, fun _ => rfl⟩)
            apply obl_nil
            intro D y w8 hall hW
            clear hall
            have HW8 := Lib.hid hW
            clear hW CI CB
            go_wp2_with fail
            refine ⟨⟨i + 1, by push_cast; rfl, by omega, by rw [HNT.out], HW8.out⟩, ?_⟩
            simp [intOf]
            omega
          · have hx' : decide (xh < 0) = false := decide_eq_false hx
            rw [hx', Bool.or_false] at HNT
            clear hx
            go_wp2_with fail
            clear c00 kh
            refine wp_region_inv0 (by kernel_rfl) (by kernel_rfl) (fun _ w' => Below w12.heap.size w12 w') CB.out.drew ?_
            iterate 3
              (apply obl_det
               case hrun =>
                 intro D y wz hW hD R hR
                 have HRR := Lib.hid hR
                 clear hR
                 have HW := Lib.hid hW
                 clear hW hD
                 go_wp2
                 exact HRR.out _ HW.out
               case hnp => rfl
               case hv => first | exact ⟨_, fun _ => rfl⟩ | exact ⟨undef, fun _ => rfl⟩)
            apply obl_det
            case hrun =>
              intro D y wz hW hD R hR
              have HRR := Lib.hid hR
              clear hR
              have HW := Lib.hid hW
              have k3 := (hW.cell (p := ⟨b3, o3 + i * 2, none⟩) hbb3).trans K3.out.1
              have k4 := (hW.cell (p := ⟨b3, o3 + i * 2 + 1, none⟩) hbb3).trans K3.out.2
              clear hW hD
              go_wp2
              exact HRR.out _ HW.out
            case hnp => rfl
            case hv => first | exact ⟨_, fun _ => rfl⟩ | exact ⟨undef, fun _ => rfl⟩
            iterate 3
              (apply obl_det
               case hrun =>
                 intro D y wz hW hD R hR
                 have HRR := Lib.hid hR
                 clear hR
                 have HW := Lib.hid hW
                 clear hW hD
                 go_wp2
                 exact HRR.out _ HW.out
               case hnp => rfl
               case hv => first | exact ⟨_, fun _ => rfl⟩ | exact ⟨undef, fun _ => rfl⟩)
            apply obl_det
            case hrun =>
              intro D y wz hW hD R hR
              have HRR := Lib.hid hR
              clear hR
              have HW := Lib.hid hW
              have k0 := (hW.cell (p := ⟨b0, o0 + i, none⟩) hbb0).trans K0.out
              clear hW hD
              go_wp2
              exact HRR.out _ HW.out
            case hnp => rfl
            case hv => first | exact ⟨_, fun _ => rfl⟩ | exact ⟨undef, fun _ => rfl⟩
            iterate 3
              (apply obl_det
               case hrun =>
                 intro D y wz hW hD R hR
                 have HRR := Lib.hid hR
                 clear hR
                 have HW := Lib.hid hW
                 clear hW hD
                 go_wp2
                 exact HRR.out _ HW.out
               case hnp => rfl
               case hv => first | exact ⟨_, fun _ => rfl⟩ | exact ⟨undef, fun _ => rfl⟩)
            apply obl_det
            case hrun =>
              intro D y wz hW hD R hR
              have HRR := Lib.hid hR
              clear hR
              have HW := Lib.hid hW
              have k1 := (hW.cell (p := ⟨b1, o1 + i, none⟩) hbb1).trans K1.out
              clear hW hD
              go_wp2
              exact HRR.out _ HW.out
            case hnp => rfl
            case hv => first | exact ⟨_, fun _ => rfl⟩ | exact ⟨undef, fun _ => rfl⟩
            apply obl_det
            case hrun =>
              intro D y wz hW hD R hR
              have HRR := Lib.hid hR
              clear hR
              have HW := Lib.hid hW
              clear hW hD
              go_wp2_with fail
              refine (span36 x0 x1 _).mono ?_
              rintro e w' ⟨rfl, hb⟩
              have HW2 := Lib.hid (HW.out.trans (hb.mono HW.out.size))
              clear hb
              go_wp2_with fail
              exact HRR.out _ HW2.out
            case hnp => rfl
            case hv => first | exact ⟨_, fun _ => rfl⟩ | exact ⟨undef, fun _ => rfl⟩
            iterate 28
              (apply obl_det
               case hrun =>
                 intro D y wz hW hD R hR
                 have HRR := Lib.hid hR
                 clear hR
                 have HW := Lib.hid hW
                 clear hW hD
                 go_wp2
                 exact HRR.out _ HW.out
               case hnp => rfl
               case hv => first | exact ⟨_, fun _ => rfl⟩ | exact ⟨undef, fun _ => rfl⟩)
            apply obl_nil
            intro D y w8 hall hW
            clear hall
            have HW8 := Lib.hid hW
            clear hW CI CB
            go_wp2_with fail
            refine ⟨⟨i + 1, by push_cast; rfl, by omega, by rw [HNT.out], HW8.out⟩, ?_⟩
            simp [intOf]
            omega
        · rw [Bool.true_or] at HNT
          go_wp2_with fail
          clear c00 kh
          refine wp_region_inv0 (by kernel_rfl) (by kernel_rfl) (fun _ w' => Below w12.heap.size w12 w') CB.out.drew ?_
          iterate 3
            (apply obl_det
             case hrun =>
               intro D y wz hW hD R hR
               have HRR := Lib.hid hR
               clear hR
               have HW := Lib.hid hW
               clear hW hD
               go_wp2
               exact HRR.out _ HW.out
             case hnp => rfl
             case hv => first | exact ⟨_, fun _ => rfl⟩ | exact ⟨undef, fun _ => rfl⟩)
          apply obl_det
          case hrun =>
            intro D y wz hW hD R hR
            have HRR := Lib.hid hR
            clear hR
            have HW := Lib.hid hW
            have k3 := (hW.cell (p := ⟨b3, o3 + i * 2, none⟩) hbb3).trans K3.out.1
            have k4 := (hW.cell (p := ⟨b3, o3 + i * 2 + 1, none⟩) hbb3).trans K3.out.2
            clear hW hD
            go_wp2
            exact HRR.out _ HW.out
          case hnp => rfl
          case hv => first | exact ⟨_, fun _ => rfl⟩ | exact ⟨undef, fun _ => rfl⟩
          iterate 3
            (apply obl_det
             case hrun =>
               intro D y wz hW hD R hR
               have HRR := Lib.hid hR
               clear hR
               have HW := Lib.hid hW
               clear hW hD
               go_wp2
               exact HRR.out _ HW.out
             case hnp => rfl
             case hv => first | exact ⟨_, fun _ => rfl⟩ | exact ⟨undef, fun _ => rfl⟩)
          apply obl_det
          case hrun =>
            intro D y wz hW hD R hR
            have HRR := Lib.hid hR
            clear hR
            have HW := Lib.hid hW
            have k0 := (hW.cell (p := ⟨b0, o0 + i, none⟩) hbb0).trans K0.out
            clear hW hD
            go_wp2
            exact HRR.out _ HW.out
          case hnp => rfl
          case hv => first | exact ⟨_, fun _ => rfl⟩ | exact ⟨undef, fun _ => rfl⟩
          iterate 3
            (apply obl_det
             case hrun =>
               intro D y wz hW hD R hR
               have HRR := Lib.hid hR
               clear hR
               have HW := Lib.hid hW
               clear hW hD
               go_wp2
               exact HRR.out _ HW.out
             case hnp => rfl
             case hv => first | exact ⟨_, fun _ => rfl⟩ | exact ⟨undef, fun _ => rfl⟩)
          apply obl_det
          case hrun =>
            intro D y wz hW hD R hR
            have HRR := Lib.hid hR
            clear hR
            have HW := Lib.hid hW
            have k1 := (hW.cell (p := ⟨b1, o1 + i, none⟩) hbb1).trans K1.out
            clear hW hD
            go_wp2
            exact HRR.out _ HW.out
          case hnp => rfl
          case hv => first | exact ⟨_, fun _ => rfl⟩ | exact ⟨undef, fun _ => rfl⟩
          apply obl_det
          case hrun =>
            intro D y wz hW hD R hR
            have HRR := Lib.hid hR
            clear hR
            have HW := Lib.hid hW
            clear hW hD
            go_wp2_with fail
            refine (span36 x0 x1 _).mono ?_
            rintro e w' ⟨rfl, hb⟩
            have HW2 := Lib.hid (HW.out.trans (hb.mono HW.out.size))
            clear hb
            go_wp2_with fail
            exact HRR.out _ HW2.out
          case hnp => rfl
          case hv => first | exact ⟨_, fun _ => rfl⟩ | exact ⟨undef, fun _ => rfl⟩
          iterate 28
            (apply obl_det
             case hrun =>
               intro D y wz hW hD R hR
               have HRR := Lib.hid hR
               clear hR
               have HW := Lib.hid hW
               clear hW hD
               go_wp2
               exact HRR.out _ HW.out
             case hnp => rfl
             case hv => first | exact ⟨_, fun _ => rfl⟩ | exact ⟨undef, fun _ => rfl⟩)
          apply obl_nil
          intro D y w8 hall hW
          clear hall
          have HW8 := Lib.hid hW
          clear hW CI CB
          go_wp2_with fail
          refine ⟨⟨i + 1, by push_cast; rfl, by omega, by rw [HNT.out], HW8.out⟩, ?_⟩
          simp [intOf]
          omega
      · obtain rfl : r = i := by omega
        have hna : neverTo (endsL m true) r = true := by
          have := neverTo_all (endsL m true)
          rw [HLH.out] at this
          rw [this]
          exact HNV.out
        rw [hna]
        clear hna
        clear C12
        go_wp2_with fail
        refine (awake_any _).mono ?_
        rintro e w14 ⟨rfl, hb⟩
        have HBel := Lib.hid (CI.out.call hb).bel
        clear hb CI
        go_wp2
        go_ret
        exact ⟨rfl, HBel.out⟩
  have hnv' : neverB (endsL m true) = false := by simpa using hnv
  have hse := sets_any m w11
  rw [setsV_ok HCK.out hnv'] at hse
  have HZS : Hid (∀ i, i < r → ((endsL m false).zip (endsL m true)).getD i (0, 0) = ((endsL m false).getD i 0, (endsL m true).getD i 0)) := fun i hi => zip_getD (by rw [HLF.out]; exact hi) (by rw [HLH.out]; exact hi)
  have HLS2 : Hid (((endsL m false).zip (endsL m true)).length = r) := by unfold Hid; rw [List.length_zip, HLF.out, HLH.out]; simp
  have HNN : Hid (∀ i, i < r → decide ((endsL m true).getD i 0 < 0) = false) := fun i hi => by
    have h := HLH.out
    rw [endsL_length] at h
    have := never_not hnv' (i := i) (by omega)
    rw [endsL_getD m true (by omega)]
    exact decide_eq_false (by omega)
  generalize (endsL m false).zip (endsL m true) = ssp at *
  refine hse.mono ?_
  rintro e w12 ⟨v, rfl, ho, hb⟩
  have HS2 := Lib.hid (ho.spans (by rw [HLS2.out]; omega))
  have HF := Lib.hid (HF.out.next hb)
  have HH := Lib.hid (HH.out.next hb)
  have H12 := Lib.hid (H12.out.next hb)
  have H10 := Lib.hid (H10.out.next hb)
  have HS1 := Lib.hid (HS1.out.next hb)
  have C12 := Lib.hid (C11.out.call hb)
  clear hb hse hnv hnv' C11 ho
  obtain ⟨a16, c16, ev, -⟩ := HS2.out
  rw [HLS2.out] at ev
  subst ev
  go_wp2_with fail
  go_loopw [17, 18] (fun nv iv wr => ∃ i : Nat, iv = .int .i64 i ∧ i ≤ r ∧ nv = .bool (false) ∧ Below w12.heap.size w12 wr) (fun _ iv _ => r - (intOf iv).toNat)
  case atStart => exact ⟨0, rfl, by omega, rfl, Below.refl _ _⟩
  case round =>
    obtain ⟨i, rfl, hi, rfl, hb⟩ := hrel
    have CB := Lib.hid hb
    have CI := Lib.hid (C12.out.call hb)
    have c00 : wr.cell? ⟨w.heap.size, 0, none⟩ = some (.int .i64 r) := by
      rw [CI.out.cell 0 rfl, ← HRG.out]
      rfl
    clear hb
    by_cases hir : i < r
    · have hii : (i : Int) < (r : Int) := by omega
      obtain ⟨_, _, hva, -, hcc⟩ := HH.out
      simp only [Value.slice.injEq] at hva
      obtain ⟨rfl, -, rfl⟩ := hva
      obtain ⟨bh, oh, rfl, hbbh, hcellh⟩ := hcc.resolve_left (by intro h; have := HLH.out; rw [h] at this; simp at this; omega)
      obtain ⟨_, _, hva, -, hcc⟩ := H10.out
      simp only [Value.slice.injEq] at hva
      obtain ⟨rfl, -, rfl⟩ := hva
      obtain ⟨b0, o0, rfl, hbb0, hcell0⟩ := hcc.resolve_left (by intro h; have := HL0.out; rw [h] at this; simp at this; omega)
      obtain ⟨_, _, hva, -, hcc⟩ := H12.out
      simp only [Value.slice.injEq] at hva
      obtain ⟨rfl, -, rfl⟩ := hva
      obtain ⟨b1, o1, rfl, hbb1, hcell1⟩ := hcc.resolve_left (by intro h; have := HL1.out; rw [h] at this; simp at this; omega)
      obtain ⟨_, _, hvb, -, -, hcs⟩ := HS1.out
      simp only [Value.slice.injEq] at hvb
      obtain ⟨rfl, -, rfl⟩ := hvb
      obtain ⟨b3, o3, rfl, hbb3, hcell3⟩ := hcs.resolve_left (by intro h; have := HLS.out; rw [h] at this; simp at this; omega)
      have KH := Lib.hid (hcellh i (by rw [HLH.out]; exact hir))
      have K0 := Lib.hid (hcell0 i (by rw [HL0.out]; exact hir))
      have K1 := Lib.hid (hcell1 i (by rw [HL1.out]; exact hir))
      have k3 := hcell3 i (by rw [HLS.out]; exact hir)
      rw [HZW.out i hir] at k3
      have K3 := Lib.hid k3
      obtain ⟨_, _, hva, -, hcc⟩ := HF.out
      simp only [Value.slice.injEq] at hva
      obtain ⟨rfl, -, rfl⟩ := hva
      obtain ⟨bf, of', rfl, hbbf, hcellf⟩ := hcc.resolve_left (by intro h; have := HLF.out; rw [h] at this; simp at this; omega)
      obtain ⟨_, _, hvb, -, -, hcs⟩ := HS2.out
      simp only [Value.slice.injEq] at hvb
      obtain ⟨rfl, -, rfl⟩ := hvb
      obtain ⟨b5, o5, rfl, hbb5, hcell5⟩ := hcs.resolve_left (by intro h; have := HLS2.out; rw [h] at this; simp at this; omega)
      have KF := Lib.hid (hcellf i (by rw [HLF.out]; exact hir))
      have k5 := hcell5 i (by rw [HLS2.out]; exact hir)
      rw [HZS.out i hir] at k5
      have K5 := Lib.hid k5
      have hnn : decide ((endsL m true).getD i 0 < 0) = false := HNN.out i hir
      have hqr : ((r : Int) != (r : Int)) = false := by simp
      clear hcellf hcell5 k5
      generalize (endsL m false).getD i 0 = xf at *
      clear hcellh hcell0 hcell1 hcell3 hcc hcs k3
      have kh := (CB.out.cell (p := ⟨bh, oh + i, none⟩) hbbh).trans KH.out
      generalize (endsL m true).getD i 0 = xh at *
      generalize (warmL m false N).getD i 0 = x0 at *
      generalize (warmL m true N).getD i 0 = x1 at *
      go_wp2_with fail
      clear c00 kh
      refine wp_region_inv0 (by kernel_rfl) (by kernel_rfl) (fun _ w' => Below w12.heap.size w12 w') CB.out.drew ?_
      iterate 3
        (apply obl_det
         case hrun =>
           intro D y wz hW hD R hR
           have HRR := Lib.hid hR
           clear hR
           have HW := Lib.hid hW
           clear hW hD
           go_wp2
           exact HRR.out _ HW.out
         case hnp => rfl
         case hv => first | exact ⟨_, fun _ => rfl⟩ | exact ⟨undef, fun _ => rfl⟩)
      apply obl_det
      case hrun =>
        intro D y wz hW hD R hR
        have HRR := Lib.hid hR
        clear hR
        have HW := Lib.hid hW
        have k3 := (hW.cell (p := ⟨b3, o3 + i * 2, none⟩) hbb3).trans K3.out.1
        have k4 := (hW.cell (p := ⟨b3, o3 + i * 2 + 1, none⟩) hbb3).trans K3.out.2
        clear hW hD
        go_wp2
        exact HRR.out _ HW.out
      case hnp => rfl
      case hv => first | exact ⟨_, fun _ => rfl⟩ | exact ⟨undef, fun _ => rfl⟩
      iterate 3
        (apply obl_det
         case hrun =>
           intro D y wz hW hD R hR
           have HRR := Lib.hid hR
           clear hR
           have HW := Lib.hid hW
           clear hW hD
           go_wp2
           exact HRR.out _ HW.out
         case hnp => rfl
         case hv => first | exact ⟨_, fun _ => rfl⟩ | exact ⟨undef, fun _ => rfl⟩)
      apply obl_det
      case hrun =>
        intro D y wz hW hD R hR
        have HRR := Lib.hid hR
        clear hR
        have HW := Lib.hid hW
        have k0 := (hW.cell (p := ⟨b0, o0 + i, none⟩) hbb0).trans K0.out
        clear hW hD
        go_wp2
        exact HRR.out _ HW.out
      case hnp => rfl
      case hv => first | exact ⟨_, fun _ => rfl⟩ | exact ⟨undef, fun _ => rfl⟩
      iterate 3
        (apply obl_det
         case hrun =>
           intro D y wz hW hD R hR
           have HRR := Lib.hid hR
           clear hR
           have HW := Lib.hid hW
           clear hW hD
           go_wp2
           exact HRR.out _ HW.out
         case hnp => rfl
         case hv => first | exact ⟨_, fun _ => rfl⟩ | exact ⟨undef, fun _ => rfl⟩)
      apply obl_det
      case hrun =>
        intro D y wz hW hD R hR
        have HRR := Lib.hid hR
        clear hR
        have HW := Lib.hid hW
        have k1 := (hW.cell (p := ⟨b1, o1 + i, none⟩) hbb1).trans K1.out
        clear hW hD
        go_wp2
        exact HRR.out _ HW.out
      case hnp => rfl
      case hv => first | exact ⟨_, fun _ => rfl⟩ | exact ⟨undef, fun _ => rfl⟩
      apply obl_det
      case hrun =>
        intro D y wz hW hD R hR
        have HRR := Lib.hid hR
        clear hR
        have HW := Lib.hid hW
        clear hW hD
        go_wp2_with fail
        refine (span36 x0 x1 _).mono ?_
        rintro e w' ⟨rfl, hb⟩
        have HW2 := Lib.hid (HW.out.trans (hb.mono HW.out.size))
        clear hb
        go_wp2_with fail
        exact HRR.out _ HW2.out
      case hnp => rfl
      case hv => first | exact ⟨_, fun _ => rfl⟩ | exact ⟨undef, fun _ => rfl⟩
      iterate 8
        (apply obl_det
         case hrun =>
           intro D y wz hW hD R hR
           have HRR := Lib.hid hR
           clear hR
           have HW := Lib.hid hW
           clear hW hD
           go_wp2
           exact HRR.out _ HW.out
         case hnp => rfl
         case hv => first | exact ⟨_, fun _ => rfl⟩ | exact ⟨undef, fun _ => rfl⟩)
      apply obl_det
      case hrun =>
        intro D y wz hW hD R hR
        have HRR := Lib.hid hR
        clear hR
        have HW := Lib.hid hW
        have c0 : wz.cell? ⟨w.heap.size, 0, none⟩ = some (.int .i64 r) := by rw [(C12.out.call hW).cell 0 rfl, ← HRG.out]; rfl
        clear hW hD
        go_wp2
        exact HRR.out _ HW.out
      case hnp => rfl
      case hv => first | exact ⟨_, fun _ => rfl⟩ | exact ⟨undef, fun _ => rfl⟩
      iterate 5
        (apply obl_det
         case hrun =>
           intro D y wz hW hD R hR
           have HRR := Lib.hid hR
           clear hR
           have HW := Lib.hid hW
           clear hW hD
           go_wp2
           exact HRR.out _ HW.out
         case hnp => rfl
         case hv => first | exact ⟨_, fun _ => rfl⟩ | exact ⟨undef, fun _ => rfl⟩)
      apply obl_det
      case hrun =>
        intro D y wz hW hD R hR
        have HRR := Lib.hid hR
        clear hR
        have HW := Lib.hid hW
        have k5 := (hW.cell (p := ⟨b5, o5 + i * 2, none⟩) hbb5).trans K5.out.1
        have k6 := (hW.cell (p := ⟨b5, o5 + i * 2 + 1, none⟩) hbb5).trans K5.out.2
        clear hW hD
        go_wp2
        exact HRR.out _ HW.out
      case hnp => rfl
      case hv => first | exact ⟨_, fun _ => rfl⟩ | exact ⟨undef, fun _ => rfl⟩
      iterate 3
        (apply obl_det
         case hrun =>
           intro D y wz hW hD R hR
           have HRR := Lib.hid hR
           clear hR
           have HW := Lib.hid hW
           clear hW hD
           go_wp2
           exact HRR.out _ HW.out
         case hnp => rfl
         case hv => first | exact ⟨_, fun _ => rfl⟩ | exact ⟨undef, fun _ => rfl⟩)
      apply obl_det
      case hrun =>
        intro D y wz hW hD R hR
        have HRR := Lib.hid hR
        clear hR
        have HW := Lib.hid hW
        have kf := (hW.cell (p := ⟨bf, of' + i, none⟩) hbbf).trans KF.out
        clear hW hD
        go_wp2
        exact HRR.out _ HW.out
      case hnp => rfl
      case hv => first | exact ⟨_, fun _ => rfl⟩ | exact ⟨undef, fun _ => rfl⟩
      iterate 3
        (apply obl_det
         case hrun =>
           intro D y wz hW hD R hR
           have HRR := Lib.hid hR
           clear hR
           have HW := Lib.hid hW
           clear hW hD
           go_wp2
           exact HRR.out _ HW.out
         case hnp => rfl
         case hv => first | exact ⟨_, fun _ => rfl⟩ | exact ⟨undef, fun _ => rfl⟩)
      apply obl_det
      case hrun =>
        intro D y wz hW hD R hR
        have HRR := Lib.hid hR
        clear hR
        have HW := Lib.hid hW
        have kh := (hW.cell (p := ⟨bh, oh + i, none⟩) hbbh).trans KH.out
        clear hW hD
        go_wp2
        exact HRR.out _ HW.out
      case hnp => rfl
      case hv => first | exact ⟨_, fun _ => rfl⟩ | exact ⟨undef, fun _ => rfl⟩
      apply obl_det
      case hrun =>
        intro D y wz hW hD R hR
        have HRR := Lib.hid hR
        clear hR
        have HW := Lib.hid hW
        clear hW hD
        go_wp2_with fail
        refine (span36 xf xh _).mono ?_
        rintro e w' ⟨rfl, hb⟩
        have HW2 := Lib.hid (HW.out.trans (hb.mono HW.out.size))
        clear hb
        go_wp2_with fail
        exact HRR.out _ HW2.out
      case hnp => rfl
      case hv => first | exact ⟨_, fun _ => rfl⟩ | exact ⟨undef, fun _ => rfl⟩
      iterate 4
        (apply obl_det
         case hrun =>
           intro D y wz hW hD R hR
           have HRR := Lib.hid hR
           clear hR
           have HW := Lib.hid hW
           clear hW hD
           go_wp2
           exact HRR.out _ HW.out
         case hnp => rfl
         case hv => first | exact ⟨_, fun _ => rfl⟩ | exact ⟨undef, fun _ => rfl⟩)
      apply obl_nil
      intro D y w8 hall hW
      clear hall
      have HW8 := Lib.hid hW
      clear hW CI CB
      go_wp2_with fail
      refine ⟨⟨i + 1, by push_cast; rfl, by omega, rfl, HW8.out⟩, ?_⟩
      simp [intOf]
      omega
    · obtain rfl : r = i := by omega
      clear C12
      go_wp2_with fail
      refine (awake_any _).mono ?_
      rintro e w14 ⟨rfl, hb⟩
      have HBel := Lib.hid (CI.out.call hb).bel
      clear hb CI
      go_wp2
      go_ret
      exact ⟨rfl, HBel.out⟩
end Go.Proofs.Ytafdagjdpnaddaa
