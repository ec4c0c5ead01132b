/- mould.Fewest. -/
import Derived.Test.YtafdagjdpnaddaaW20
import Derived.Test.YtafdagjdpnaddaaW15
import Derived.Deep.Cut
namespace Go.Proofs.Ytafdagjdpnaddaa
open Go.RowKit
theorem fewN_is {m : Mou} {f l : List Int} {n : Nat} (hn : n < 41) (hb : fewB m f l n = true) (h : ∀ j, j < n → fewB m f l j = false) : fewN m f l = n := by
  have h1 := firstTo_of (p := fewB m f l) hn hb
  have h2 := firstTo_pos h1.1
  unfold fewN
  by_cases e : firstTo (fewB m f l) 41 = n
  · exact e
  · have h3 := h (firstTo (fewB m f l) 41).toNat (by omega)
    rw [h2.1] at h3
    cases h3
theorem fewN_no {m : Mou} {f l : List Int} (h : ∀ j, j < 41 → fewB m f l j = false) : fewN m f l < 0 := by
  unfold fewN
  by_cases e : 0 ≤ firstTo (fewB m f l) 41
  · have h2 := firstTo_pos e
    have h1 := firstTo_bound (fewB m f l) 41
    have h3 := h (firstTo (fewB m f l) 41).toNat (by omega)
    rw [h2.1] at h3
    cases h3
  · omega
theorem fewV_bad {m : Mou} (h : checkE m ≠ 0) : fewV m = ([], checkE m) := by
  have e : fewE m = checkE m := by unfold fewE setsE; rw [if_pos h, if_pos h]
  unfold fewV
  rw [if_pos (by rw [e]; exact h), e]
theorem fewV_never {m : Mou} (h : checkE m = 0) (hn : neverB (endsL m true) = true) : fewV m = ([], 9) := by
  have hs : setsE m = 9 := by unfold setsE; rw [if_neg (by simp [h]), if_pos hn]
  have e : fewE m = 9 := by unfold fewE; rw [if_pos (by rw [hs]; decide), hs]
  unfold fewV
  rw [if_pos (by rw [e]; decide), e]
theorem fewV_no {m : Mou} (h : checkE m = 0) (hn : neverB (endsL m true) = false) (hf : fewN m (endsL m false) (endsL m true) < 0) : fewV m = ([], 9) := by
  have hs : setsE m = 0 := by unfold setsE; rw [if_neg (by simp [h]), if_neg (by simp [hn])]
  have e : fewE m = 9 := by unfold fewE; rw [if_neg (by rw [hs]; simp), if_pos hf]
  unfold fewV
  rw [if_pos (by rw [e]; decide), e]
theorem fewV_is {m : Mou} (h : checkE m = 0) (hn : neverB (endsL m true) = false) {n : Nat} (hf : fewN m (endsL m false) (endsL m true) = n) : fewV m = (lateP (lastM m (endsL m false)) m.gap n, 0) := by
  have hs : setsE m = 0 := by unfold setsE; rw [if_neg (by simp [h]), if_neg (by simp [hn])]
  have e : fewE m = 0 := by unfold fewE; rw [if_neg (by rw [hs]; simp), if_neg (by omega)]
  unfold fewV
  rw [if_neg (by rw [e]; decide), hf, Int.toNat_natCast]
/-- The first i minutes of the latest plan of n. -/
def laTo (last gap : Int) (n i : Nat) : List Int := (List.range i).map fun (k : Nat) => last - ((n : Int) - 1 - (k : Int)) * gap
theorem laTo_all (last gap : Int) (n : Nat) : laTo last gap n n = lateP last gap n := rfl
theorem laTo_len (last gap : Int) (n i : Nat) : (laTo last gap n i).length = i := by simp [laTo]
theorem laTo_succ (last gap : Int) (n i : Nat) : laTo last gap n (i + 1) = laTo last gap n i ++ [last - ((n : Int) - 1 - (i : Int)) * gap] := by simp [laTo, List.range_succ]
theorem late_order {m : Mou} (hm : Valid m) {last : Int} (h6 : last ≤ 600) {n : Nat} (h0 : 0 < n → 0 ≤ last - ((n : Int) - 1) * m.gap) : InOrder (lateP last m.gap n) := by
  have hg := hm.a1
  refine ⟨fun i hi => ?_, fun i j hij hj => ?_⟩
  · rw [lateP_length] at hi
    rw [lateP_getD _ _ _ _ hi]
    have h1 := h0 (by omega)
    have h2 : ((n : Int) - 1 - i) * m.gap ≤ ((n : Int) - 1) * m.gap := Int.mul_le_mul_of_nonneg_right (by omega) (by omega)
    have h3 : 0 ≤ ((n : Int) - 1 - i) * m.gap := Int.mul_nonneg (by omega) (by omega)
    omega
  · rw [lateP_length] at hj
    rw [lateP_getD _ _ _ _ hj, lateP_getD _ _ _ _ (by omega)]
    have h2 : ((n : Int) - 1 - j) * m.gap ≤ ((n : Int) - 1 - i) * m.gap := Int.mul_le_mul_of_nonneg_right (by omega) (by omega)
    omega
set_option maxRecDepth 100000 in
set_option maxHeartbeats 8000000 in
theorem few_bad (m : Mou) (h : checkE m ≠ 0) (w : World) : Calls Try.prog 33 #[.agg #[.int .i64 m.rings, .int .i64 m.give, .int .i64 m.pl, .int .i64 m.ph, .int .i64 m.wl, .int .i64 m.wh, .int .i64 m.set, .int .i64 m.shrink, .int .i64 m.skin, .int .i64 m.fill, .int .i64 m.gap, .int .i64 m.deep]] w (RetLE (fewV m).1 (fewV m).2 w) := by
  have C0 := Lib.hid ((Bs.nil w).push _ rfl (.cells #[.int .i64 m.rings, .int .i64 m.give, .int .i64 m.pl, .int .i64 m.ph, .int .i64 m.wl, .int .i64 m.wh, .int .i64 m.set, .int .i64 m.shrink, .int .i64 m.skin, .int .i64 m.fill, .int .i64 m.gap, .int .i64 m.deep] 25))
  have HV := Lib.hid (fewV_bad h)
  have hc := fun w => open_bad m h w
  have HC := Lib.hid hc
  have hz : (checkE m != 0) = true := by simpa using h
  clear h hc
  generalize checkE m = E at *
  go_enter Try.func33, Try.ntmps33
  go_wp2_with fail
  refine (HC.out _).mono ?_
  rintro e w1 ⟨rfl, hbw⟩
  have C1 := Lib.hid ((C0.out.call hbw).alloc (.cells zero14 102))
  clear hbw C0
  unfold zero14
  go_wp2_with fail
  go_ret2
  rw [HV.out]
  exact ⟨_, rfl, OwnInts.nil _ _, C1.out.bel⟩
set_option maxRecDepth 100000 in
set_option maxHeartbeats 16000000 in
theorem few_good (m : Mou) (h : checkE m = 0) (w : World) : Calls Try.prog 33 #[.agg #[.int .i64 m.rings, .int .i64 m.give, .int .i64 m.pl, .int .i64 m.ph, .int .i64 m.wl, .int .i64 m.wh, .int .i64 m.set, .int .i64 m.shrink, .int .i64 m.skin, .int .i64 m.fill, .int .i64 m.gap, .int .i64 m.deep]] w (RetLE (fewV m).1 (fewV m).2 w) := by
  have C0 := Lib.hid ((Bs.nil w).push _ rfl (.cells #[.int .i64 m.rings, .int .i64 m.give, .int .i64 m.pl, .int .i64 m.ph, .int .i64 m.wl, .int .i64 m.wh, .int .i64 m.set, .int .i64 m.shrink, .int .i64 m.skin, .int .i64 m.fill, .int .i64 m.gap, .int .i64 m.deep] 25))
  have HM := Lib.hid (valid_of_check h)
  obtain ⟨r, hr⟩ : ∃ r : Nat, m.rings = r := ⟨m.rings.toNat, by have := HM.out.r1; omega⟩
  have HR := Lib.hid hr
  have hr1 : 1 ≤ r := by have := HM.out.r1; omega
  have hr8 : r ≤ 8 := by have := HM.out.r8; omega
  have hc := fun w => open_good m h w
  have HC := Lib.hid hc
  have hmx := max_never (m := m) HM.out.r1 true
  rw [hr, Int.toNat_natCast] at hmx
  have HMX := Lib.hid hmx
  have H := Lib.hid h
  clear hmx hc h hr
  go_enter Try.func33, Try.ntmps33
  go_wp2_with fail
  refine (HC.out _).mono ?_
  rintro e w1 ⟨v1, v2, rfl, hf1, hf2, hbw⟩
  have C1 := Lib.hid (C0.out.call hbw)
  have hw1 : w.heap.size < w1.heap.size := C1.out.lt 0 rfl
  obtain ⟨g1, n1, e1, rfl, hg1, hl1⟩ := hf1
  obtain ⟨g2, n2, e2, rfl, hg2, hl2⟩ := hf2
  obtain rfl : r = n1 := (e1.trans (by rw [whenP_length, HR.out, Int.toNat_natCast])).symm
  obtain rfl : r = n2 := (e2.trans (by rw [whenP_length, HR.out, Int.toNat_natCast])).symm
  clear e1 e2
  obtain ⟨W, hW⟩ : ∃ W, w1.alloc (.cells #[.int .i64 m.rings, .int .i64 m.give, .int .i64 m.pl, .int .i64 m.ph, .int .i64 m.wl, .int .i64 m.wh, .int .i64 m.set, .int .i64 m.shrink, .int .i64 m.skin, .int .i64 m.fill, .int .i64 m.gap, .int .i64 m.deep, .slice (some ⟨g1, 0, none⟩) r r, .slice (some ⟨g2, 0, none⟩) r r] 102) = W := ⟨_, rfl⟩
  have HWW := Lib.hid hW
  have TA : Hid (TS m g1 g2 r w1.heap.size (w.heap.size + 1) W) := by
    unfold Hid; rw [← hW]
    exact ⟨block_keep hg1 ((Below.refl _ _).alloc (Nat.le_refl _) _), block_keep hg2 ((Below.refl _ _).alloc (Nat.le_refl _) _), heap_alloc_new _ _, by simpa using hl1, by simpa using hl2, by omega, hr8, HR.out⟩
  have hbW : Below w.heap.size w W := by rw [← hW]; exact C1.out.bel.alloc C1.out.bel.size _
  have HBW := Lib.hid hbW
  have c13 : (w1.alloc (.cells #[.int .i64 m.rings, .int .i64 m.give, .int .i64 m.pl, .int .i64 m.ph, .int .i64 m.wl, .int .i64 m.wh, .int .i64 m.set, .int .i64 m.shrink, .int .i64 m.skin, .int .i64 m.fill, .int .i64 m.gap, .int .i64 m.deep, .slice (some ⟨g1, 0, none⟩) r r, .slice (some ⟨g2, 0, none⟩) r r] 102)).cell? ⟨w1.heap.size, 13, none⟩ = some (.slice (some ⟨g2, 0, none⟩) r r) := cell_of_row _ w1.heap.size 13 _ _ _ (heap_alloc_new _ _)
  clear hg1 hg2 hl1 hl2 hbw C1 C0 hbW hW
  go_wp2_with fail
  rw [HWW.out]
  clear c13
  refine (max_any (whenP m true) _ _ _ TA.out.hot r (TA.out.len true) (by omega)).mono ?_
  rintro e w2 ⟨rfl, rfl⟩
  obtain ⟨mx, hmx⟩ : ∃ x, maxTo (whenP m true) r = x := ⟨_, rfl⟩
  rw [hmx] at HMX ⊢
  clear hmx
  by_cases hx : mx = 601
  · have HV := Lib.hid (fewV_never H.out (HMX.out.1 hx))
    have hz : (mx == 601) = true := by simpa using hx
    clear hx
    go_wp2_with fail
    go_ret2
    rw [HV.out]
    exact ⟨_, rfl, OwnInts.nil _ _, HBW.out⟩
  have hnv : neverB (endsL m true) = false := by
    cases hn : neverB (endsL m true) with
    | false => rfl
    | true => exact absurd (HMX.out.2 hn) hx
  have HNV := Lib.hid hnv
  have hz : (mx == 601) = false := by simpa using hx
  clear hx hnv HMX
  have HS := fun (k : Nat) (hk : k ≤ 600) => skin_eq m false (n := (k : Int)) (by omega)
  have HSK := Lib.hid HS
  have hSR : ∀ k : Nat, (skinP (whenP m false) k : Int) ≤ 8 := fun k => by have h1 := leTo_le (whenP m false) k (whenP m false).length; rw [TA.out.len false] at h1; unfold skinP; rw [TA.out.len false]; omega
  have HSR := Lib.hid hSR
  have hsk0 : 0 ≤ m.skin := HM.out.k0
  have hsk8 : m.skin ≤ 8 := by have := HM.out.kr; have := HM.out.r8; omega
  clear HS hSR
  go_upto_region 6 with (fail)
  iterate 8 go_step
  go_cut [5] from 9 (fun s5 wc => s5 = .int .i64 (lastM m (endsL m false)) ∧ Below W.heap.size W wc)
  case first =>
    go_wp2_with fail
    go_loopw [5] (fun p wr => ∃ k : Nat, k ≤ 601 ∧ p = .int .i64 ((k : Int) - 1) ∧ lastM m (endsL m false) = downTo (pourAt m (endsL m false)) k ∧ Below W.heap.size W wr) (fun p _ => (intOf p + 1).toNat)
    case atStart => exact ⟨601, by omega, by go_num, rfl, Below.refl _ _⟩
    case round =>
      obtain ⟨k, hk, rfl, hd, hb⟩ := hrel
      have HD := Lib.hid hd
      have HB := Lib.hid hb
      have T3 := Lib.hid (TA.out.call hb)
      clear hd hb
      have c12 : wr.cell? ⟨w1.heap.size, 12, none⟩ = some (.slice (some ⟨g1, 0, none⟩) r r) := cell_of_row wr w1.heap.size 12 _ _ _ T3.out.h3
      have c8 : wr.cell? ⟨w1.heap.size, 8, none⟩ = some (.int .i64 m.skin) := cell_of_row wr w1.heap.size 8 _ _ _ T3.out.h3
      cases k with
      | zero =>
        have hx : ((0 : Nat) : Int) - 1 = -1 := rfl
        have HL : Hid (lastM m (endsL m false) = -1) := HD.out
        rw [hx]
        go_wp2
        go_quiet (fail)
        go_wp2
        go_meet
        case rel => exact ⟨by rw [HL.out], below_drewN HB.out _⟩
      | succ k =>
        have hx : ((k + 1 : Nat) : Int) - 1 = (k : Int) := by omega
        rw [hx]
        have hk6 : k ≤ 600 := by omega
        have hk0 : 0 ≤ (k : Int) := by omega
        have hs8 := HSR.out k
        have hs0 : 0 ≤ (skinP (whenP m false) (k : Int) : Int) := by omega
        have HSE := Lib.hid (HSK.out k hk6)
        have HPA : Hid (pourAt m (endsL m false) k = decide ((skinP (whenP m false) (k : Int) : Int) ≤ m.skin)) := by unfold Hid pourAt; rw [HSK.out k hk6]
        have HDD : Hid (downTo (pourAt m (endsL m false)) (k + 1) = if pourAt m (endsL m false) k = true then (k : Int) else downTo (pourAt m (endsL m false)) k) := Lib.hid rfl
        have HCC := fun n : Nat => Lib.hid (skin_any (whenP m false) (k : Int) (by rw [T3.out.len false]; omega) _ _ (T3.out.call (below_drewN (Below.refl _ _) n)).cold)
        generalize skinP (whenP m false) (k : Int) = q at *
        by_cases hq : (q : Int) ≤ m.skin
        · have hdq : decide (m.skin < (q : Int)) = false := decide_eq_false (by omega)
          have HL : Hid (lastM m (endsL m false) = (k : Int)) := by unfold Hid; rw [HD.out, HDD.out, if_pos (by rw [HPA.out]; exact decide_eq_true hq)]
          clear HDD
          go_wp2
          go_quiet ((go_at_call 63; exact Calls.quiet_of_same (((HCC _).out).mono fun e w' h => ⟨h.1, h.2.symm⟩)))
          go_wp2
          go_meet
          case rel => exact ⟨by rw [HL.out], below_drewN HB.out _⟩
        · have hdq : decide (m.skin < (q : Int)) = true := decide_eq_true (by omega)
          have HL : Hid (lastM m (endsL m false) = downTo (pourAt m (endsL m false)) k) := by unfold Hid; rw [HD.out, HDD.out, if_neg (by rw [HPA.out]; simpa using hq)]
          clear HDD
          go_wp2
          go_quiet ((go_at_call 63; exact Calls.quiet_of_same (((HCC _).out).mono fun e w' h => ⟨h.1, h.2.symm⟩)))
          go_wp2
          go_roundw
          case rel => exact ⟨k, by omega, by go_num, HL.out, below_drewN HB.out _⟩
          case measure => simp [intOf]
  case rest =>
    obtain ⟨rfl, hcb⟩ := hcut
    have CB0 := Lib.hid hcb
    have hl6 : -1 ≤ lastM m (endsL m false) ∧ lastM m (endsL m false) ≤ 600 := by have := downTo_bound (pourAt m (endsL m false)) 601; unfold lastM; omega
    obtain ⟨last, hlast⟩ : ∃ x, lastM m (endsL m false) = x := ⟨_, rfl⟩
    have HLAST := Lib.hid hlast
    rw [hlast] at hl6 ⊢
    have hg1 : 1 ≤ m.gap := HM.out.a1
    have hg6 : m.gap ≤ 60 := HM.out.a6
    clear hcb hlast
    go_wp2_with fail
    go_loopw [39] (fun i wr => ∃ n : Nat, n ≤ 41 ∧ i = .int .i64 n ∧ (∀ j, j < n → fewB m (endsL m false) (endsL m true) j = false) ∧ Below W.heap.size W wr) (fun i _ => 41 - (intOf i).toNat)
    case atStart => exact ⟨0, by omega, rfl, fun j hj => by omega, CB0.out⟩
    case round =>
      obtain ⟨n, hn, rfl, hno, hcb⟩ := hrel
      have HNO := Lib.hid hno
      have CB := Lib.hid hcb
      clear hno hcb
      by_cases hlt : n < 41
      · have hni : (n : Int) < 41 := by omega
        have hdn : decide ((n : Int) < 41) = true := decide_eq_true hni
        have hdn' : decide (n < 41) = true := decide_eq_true hlt
        go_wp2_with fail
        go_loopw [2, 43] (fun lv kv wi => ∃ (k : Nat) (av : Option Addr) (cv : Nat), kv = .int .i64 k ∧ k ≤ n ∧ lv = .slice av k cv ∧ wi.ownsRow W.heap.size 3 1 (.slice av k cv) k ((laTo last m.gap n k).map (Value.int .i64)) ∧ Below W.heap.size W wi) (fun _ kv _ => n - (intOf kv).toNat)
        case atStart => exact ⟨0, none, 0, rfl, by omega, rfl, ⟨rfl, .inl ⟨rfl, rfl⟩⟩, CB.out⟩
        case round =>
          obtain ⟨k, av, cv, rfl, hk, rfl, ho, hb⟩ := hrel
          have CB2 := Lib.hid hb
          have HO := Lib.hid ho
          have T4 := Lib.hid (TA.out.call hb)
          clear hb ho
          by_cases hkn : k < n
          · obtain ⟨i0, hi0, hz0, hz1, hz2⟩ := info3'
            have hb1 : W.heap.size ≤ _ := CB2.out.size
            have c10 := cell_of_row _ w1.heap.size 10 _ _ _ T4.out.h3
            have hki : (k : Int) < (n : Int) := by omega
            have hdk : decide ((k : Int) < (n : Int)) = true := decide_eq_true hki
            have hdk' : decide (k < n) = true := decide_eq_true hkn
            have hp0 : 0 ≤ ((n : Int) - 1 - (k : Int)) * m.gap := Int.mul_nonneg (by omega) (by omega)
            have hp1 : ((n : Int) - 1 - (k : Int)) * m.gap ≤ 2400 := by
              have h1 : ((n : Int) - 1 - (k : Int)) * m.gap ≤ ((n : Int) - 1 - (k : Int)) * 60 := Int.mul_le_mul_of_nonneg_left hg6 (by omega)
              omega
            go_wp2_with (at_builtin; refine wpList_append_own _ rfl _ _ 26 rfl W.heap.size 3 i0 (.int .i64 0) 1 8 Try.underlying26 hi0 hz0 hz1 hz2 rfl (by decide) _ _ _ rfl (HO.out.alloc _) ⟨_, 0, none⟩ 1 1 [.int .i64 (last - ((n : Int) - 1 - (k : Int)) * m.gap)] rfl rfl (cell_news _ _ _ _ (heap_alloc_new _ _)) (one_int _) (by unfold maxLen; omega) (by omega) (by simp; omega) ?_; intro v' w12 hown12 hgrow12 _)
            have hlt12 := World.ownsRow.lt HO.out
            have CB8 := Lib.hid ((CB2.out.alloc CB2.out.size (.cells #[.int .i64 (last - ((n : Int) - 1 - (k : Int)) * m.gap)] 3)).grown hgrow12 (by simp only [World.size_alloc]; omega) (fun k e => (hlt12 k e).1))
            obtain ⟨av', cv', rfl⟩ := ownsRow_slice1 hown12
            have HO8 := Lib.hid hown12
            clear hown12 hgrow12
            refine ⟨⟨k + 1, av', cv', by push_cast; rfl, by omega, rfl, by rw [laTo_succ, List.map_append]; exact HO8.out, CB8.out⟩, ?_⟩
            simp [intOf]
            omega
          · obtain rfl : k = n := by omega
            have hki : ¬ ((k : Int) < (k : Int)) := by omega
            have hoi := (ownsRow_ints (l := laTo last m.gap k k) (by rw [laTo_len]; exact HO.out) (by rw [laTo_len]; omega)).1
            have HOI := Lib.hid hoi
            have HFW : Hid (fewB m (endsL m false) (endsL m true) k = ((decide (k = 0) || decide (0 ≤ last - ((k : Int) - 1) * m.gap)) && decide (holV m (endsL m true) (lateP last m.gap k) ≤ m.deep))) := by unfold Hid fewB; rw [HLAST.out]
            have c13 := cell_of_row _ w1.heap.size 13 _ _ _ T4.out.h3
            have c11 := cell_of_row _ w1.heap.size 11 _ _ _ T4.out.h3
            have hd0 : 0 ≤ m.deep := HM.out.d0
            by_cases hk0 : k = 0
            · have hd0' : decide ((0 : Int) < (k : Int)) = false := decide_eq_false (by omega)
              have hd0'' : decide (0 < k) = false := decide_eq_false (by omega)
              have HK0 : Hid (k = 0 ∨ 0 ≤ last - ((k : Int) - 1) * m.gap) := Or.inl hk0
              have HORD := Lib.hid (late_order HM.out hl6.2 (n := k) (fun h => by omega))
              clear hk0 hoi
              obtain ⟨hv, hhv⟩ : ∃ x, holV m (whenP m true) (lateP last m.gap k) = x := ⟨_, rfl⟩
              obtain ⟨pv, hpv⟩ : ∃ x, pourL (fall m (whenP m true)) m.fill (lateP last m.gap k) = x := ⟨_, rfl⟩
              have HE := Lib.hid (end_any m HM.out (whenP m true) r (T4.out.len true) HR.out.symm (whenP_range m true HR.out) (lateP last m.gap k) HORD.out (some ⟨g1, 0, none⟩) (some ⟨g2, 0, none⟩) _ _ _ T4.out.hot HOI.out)
              rw [hhv, hpv] at HE
              have ehv : holV m (endsL m true) (lateP last m.gap k) = hv := by rw [← whenP_ok HNV.out]; exact hhv
              rw [ehv] at HFW
              clear ehv
              clear hhv hpv
              go_wp2_with (refine wpList_load_row rfl 102 _ rfl _ rfl 102 _ _ _ T4.out.h3 Try.underlying102 rfl info102 ?_)
              refine HE.out.mono ?_
              rintro e w5 ⟨rfl, hbw⟩
              have HBB := Lib.hid hbw
              have T5 := Lib.hid (T4.out.call hbw)
              have HO5 := Lib.hid (ownsRow.below HO.out hbw)
              have CB5 := Lib.hid (CB2.out.trans (hbw.mono CB2.out.size))
              clear hbw c11 c13
              have c11 := cell_of_row _ w1.heap.size 11 _ _ _ T5.out.h3
              by_cases hdp : hv ≤ m.deep
              · have hdd : decide (hv ≤ m.deep) = true := decide_eq_true hdp
                have HV := Lib.hid (fewV_is H.out HNV.out (fewN_is hlt (by rw [HFW.out, hdd, Bool.and_true, Bool.or_eq_true, decide_eq_true_eq, decide_eq_true_eq]; exact HK0.out) HNO.out))
                go_wp2_with fail
                go_ret2
                rw [HV.out, HLAST.out]
                refine ⟨_, rfl, ?_, HBW.out.trans (CB5.out.mono HBW.out.size)⟩
                have ho := HO5.out
                refine OwnInts.mono (base := W.heap.size) ?_ HBW.out.size
                unfold OwnInts
                rw [lateP_length]
                exact ho
              · have hdd : decide (hv ≤ m.deep) = false := decide_eq_false hdp
                have HFF : Hid (fewB m (endsL m false) (endsL m true) k = false) := by unfold Hid; rw [HFW.out, hdd]; simp
                go_wp2_with fail
                go_roundw
                case rel => exact ⟨k + 1, by omega, by go_num, upto_succ HNO.out HFF.out, CB5.out⟩
                case measure => simp [intOf]; omega
            · have hd0' : decide ((0 : Int) < (k : Int)) = true := decide_eq_true (by omega)
              have hd0'' : decide (0 < k) = true := decide_eq_true (by omega)
              obtain ⟨a9, c9, hae, -, hcc⟩ := hoi
              obtain ⟨b9, o9, rfl, -, hcc⟩ : ∃ b o, a9 = some ⟨b, o, none⟩ ∧ b < wr.heap.size ∧ ∀ i, i < (laTo last m.gap k k).length → wr.cell? ⟨b, o + i, none⟩ = some (.int .i64 ((laTo last m.gap k k).getD i 0)) := by
                rcases hcc with h | h
                · have := laTo_len last m.gap k k
                  rw [h] at this
                  simp at this
                  omega
                · exact h
              obtain ⟨rfl, -, rfl⟩ : av = some ⟨b9, o9, none⟩ ∧ k = (laTo last m.gap k k).length ∧ cv = c9 := by simpa using hae
              have hc0 := hcc 0 (by rw [laTo_len]; omega)
              rw [show (laTo last m.gap k k).getD 0 0 = last - ((k : Int) - 1 - 0) * m.gap from lateP_getD last m.gap k 0 (by omega), Int.sub_zero, Nat.add_zero] at hc0
              have hp0 : 0 ≤ ((k : Int) - 1) * m.gap := Int.mul_nonneg (by omega) (by omega)
              have hp1 : ((k : Int) - 1) * m.gap ≤ 2400 := by
                have h1 : ((k : Int) - 1) * m.gap ≤ ((k : Int) - 1) * 60 := Int.mul_le_mul_of_nonneg_left hg6 (by omega)
                omega
              clear hcc hae
              have hki0 : (0 : Int) < (k : Int) := by omega
              have hkn0 : 0 < k := by omega
              by_cases hneg : last - ((k : Int) - 1) * m.gap < 0
              · have hdn9 : decide (last - ((k : Int) - 1) * m.gap < 0) = true := decide_eq_true hneg
                have HV := Lib.hid (fewV_no H.out HNV.out (fewN_no (fun j hj => by
                  by_cases hjk : j < k
                  · exact HNO.out j hjk
                  · have h1 : ((k : Int) - 1) * m.gap ≤ ((j : Int) - 1) * m.gap := Int.mul_le_mul_of_nonneg_right (by omega) (by omega)
                    unfold fewB
                    rw [HLAST.out, decide_eq_false (show ¬ j = 0 by omega), decide_eq_false (show ¬ 0 ≤ last - ((j : Int) - 1) * m.gap by omega)]
                    rfl)))
                go_wp2_with fail
                go_ret2
                rw [HV.out]
                exact ⟨_, rfl, OwnInts.nil _ _, HBW.out.trans (CB2.out.mono HBW.out.size)⟩
              · have hdn9 : decide (last - ((k : Int) - 1) * m.gap < 0) = false := decide_eq_false hneg
                have HK0 : Hid (k = 0 ∨ 0 ≤ last - ((k : Int) - 1) * m.gap) := Or.inr (by omega)
                have HORD := Lib.hid (late_order HM.out hl6.2 (n := k) (fun _ => by omega))
                clear hk0
                obtain ⟨hv, hhv⟩ : ∃ x, holV m (whenP m true) (lateP last m.gap k) = x := ⟨_, rfl⟩
                obtain ⟨pv, hpv⟩ : ∃ x, pourL (fall m (whenP m true)) m.fill (lateP last m.gap k) = x := ⟨_, rfl⟩
                have HE := Lib.hid (end_any m HM.out (whenP m true) r (T4.out.len true) HR.out.symm (whenP_range m true HR.out) (lateP last m.gap k) HORD.out (some ⟨g1, 0, none⟩) (some ⟨g2, 0, none⟩) _ _ _ T4.out.hot HOI.out)
                rw [hhv, hpv] at HE
                have ehv : holV m (endsL m true) (lateP last m.gap k) = hv := by rw [← whenP_ok HNV.out]; exact hhv
                rw [ehv] at HFW
                clear ehv
                clear hhv hpv
                go_wp2_with (refine wpList_load_row rfl 102 _ rfl _ rfl 102 _ _ _ T4.out.h3 Try.underlying102 rfl info102 ?_)
                refine HE.out.mono ?_
                rintro e w5 ⟨rfl, hbw⟩
                have HBB := Lib.hid hbw
                have T5 := Lib.hid (T4.out.call hbw)
                have HO5 := Lib.hid (ownsRow.below HO.out hbw)
                have CB5 := Lib.hid (CB2.out.trans (hbw.mono CB2.out.size))
                clear hbw c11 c13
                have c11 := cell_of_row _ w1.heap.size 11 _ _ _ T5.out.h3
                by_cases hdp : hv ≤ m.deep
                · have hdd : decide (hv ≤ m.deep) = true := decide_eq_true hdp
                  have HV := Lib.hid (fewV_is H.out HNV.out (fewN_is hlt (by rw [HFW.out, hdd, Bool.and_true, Bool.or_eq_true, decide_eq_true_eq, decide_eq_true_eq]; exact HK0.out) HNO.out))
                  go_wp2_with fail
                  go_ret2
                  rw [HV.out, HLAST.out]
                  refine ⟨_, rfl, ?_, HBW.out.trans (CB5.out.mono HBW.out.size)⟩
                  have ho := HO5.out
                  refine OwnInts.mono (base := W.heap.size) ?_ HBW.out.size
                  unfold OwnInts
                  rw [lateP_length]
                  exact ho
                · have hdd : decide (hv ≤ m.deep) = false := decide_eq_false hdp
                  have HFF : Hid (fewB m (endsL m false) (endsL m true) k = false) := by unfold Hid; rw [HFW.out, hdd]; simp
                  go_wp2_with fail
                  go_roundw
                  case rel => exact ⟨k + 1, by omega, by go_num, upto_succ HNO.out HFF.out, CB5.out⟩
                  case measure => simp [intOf]; omega
      · obtain rfl : n = 41 := by omega
        have HV := Lib.hid (fewV_no H.out HNV.out (fewN_no HNO.out))
        go_wp2_with fail
        go_ret2
        rw [HV.out]
        exact ⟨_, rfl, OwnInts.nil _ _, HBW.out.trans (CB.out.mono HBW.out.size)⟩
theorem few_any (m : Mou) (w : World) : Calls Try.prog 33 #[.agg #[.int .i64 m.rings, .int .i64 m.give, .int .i64 m.pl, .int .i64 m.ph, .int .i64 m.wl, .int .i64 m.wh, .int .i64 m.set, .int .i64 m.shrink, .int .i64 m.skin, .int .i64 m.fill, .int .i64 m.gap, .int .i64 m.deep]] w (RetLE (fewV m).1 (fewV m).2 w) := by
  by_cases h : checkE m = 0
  · exact few_good m h w
  · exact few_bad m h w
end Go.Proofs.Ytafdagjdpnaddaa
