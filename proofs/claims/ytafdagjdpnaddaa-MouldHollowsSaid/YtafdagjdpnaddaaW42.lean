/- stearinref05.Fewest. -/
import Derived.Test.YtafdagjdpnaddaaW41
import Derived.Test.YtafdagjdpnaddaaW38
import Derived.Deep.Cut
namespace Go.Proofs.Ytafdagjdpnaddaa
open Go.RowKit
theorem pourL_bound {m : Mou} (hm : Valid m) {when : List Int} (hl : (when.length : Int) = m.rings) (plan : List Int) : 0 ≤ pourL (fall m when) m.fill plan ∧ pourL (fall m when) m.fill plan ≤ 24000 := by
  unfold pourL
  refine ⟨pourF_nonneg (by have := hm.f1; omega) (Int.le_refl _) (fun t _ => fall_nonneg hm hl t), pourF_step (by omega) (fun t _ => ?_)⟩
  exact (fall_bound hm hl t).2
theorem ownsRow.low {w : World} {base base' : Nat} {v : Value} {n sz : Nat} {e : TypeId} {xs : List Value} (h : w.ownsRow base e sz v n xs) (hb : base' ≤ base) : w.ownsRow base' e sz v n xs := by
  refine ⟨h.1, ?_⟩
  rcases h.2 with h0 | ⟨g, cap, cur, rfl, h1, h2⟩
  · exact .inl h0
  · exact .inr ⟨g, cap, cur, rfl, by omega, h2⟩
def lenOf : Value → Nat
  | .slice _ n _ => n
  | _ => 0
theorem ownsRow_one (w : World) (x : Int) : (w.alloc (.cells #[.int .i64 x] 3)).ownsRow w.heap.size 3 1 (.slice (some ⟨w.heap.size, 0, none⟩) 1 1) 1 [.int .i64 x] :=
  ⟨rfl, .inr ⟨w.heap.size, 1, #[.int .i64 x], rfl, Nat.le_refl _, heap_alloc_new _ _, Nat.le_refl _, by unfold maxLen; omega, rfl, rfl⟩⟩
set_option maxRecDepth 100000 in
set_option maxHeartbeats 32000000 in
theorem few_ref (m : Mou) (w : World) : Calls Try.prog 34 #[.agg #[.int .i64 m.rings, .int .i64 m.give, .int .i64 m.pl, .int .i64 m.ph, .int .i64 m.wl, .int .i64 m.wh, .int .i64 m.set, .int .i64 m.shrink, .int .i64 m.skin, .int .i64 m.fill, .int .i64 m.gap, .int .i64 m.deep]] w (RetIE (fewV m).1 (fewV m).2 w) := by
  have C0 : Hid (Bs w [(w.heap.size, .cells #[.int .i64 m.rings, .int .i64 m.give, .int .i64 m.pl, .int .i64 m.ph, .int .i64 m.wl, .int .i64 m.wh, .int .i64 m.set, .int .i64 m.shrink, .int .i64 m.skin, .int .i64 m.fill, .int .i64 m.gap, .int .i64 m.deep] 25)] _) := (Bs.nil w).push _ rfl (.cells #[.int .i64 m.rings, .int .i64 m.give, .int .i64 m.pl, .int .i64 m.ph, .int .i64 m.wl, .int .i64 m.wh, .int .i64 m.set, .int .i64 m.shrink, .int .i64 m.skin, .int .i64 m.fill, .int .i64 m.gap, .int .i64 m.deep] 25)
  have HS : ∀ w, Hid (Calls Try.prog 28 #[.agg #[.int .i64 m.rings, .int .i64 m.give, .int .i64 m.pl, .int .i64 m.ph, .int .i64 m.wl, .int .i64 m.wh, .int .i64 m.set, .int .i64 m.shrink, .int .i64 m.skin, .int .i64 m.fill, .int .i64 m.gap, .int .i64 m.deep]] w (RetSpE (setsV m).1 (setsV m).2 w)) := sets_ref m
  by_cases hs : setsE m = 0
  rotate_left
  · have HV : Hid (fewV m = ([], setsE m)) := by
      have hE : fewE m = setsE m := by unfold fewE; rw [if_pos hs]
      unfold Hid fewV
      rw [if_pos (by rw [hE]; exact hs), hE]
    have hsv : (setsV m).2 = setsE m := by unfold setsV; rw [if_neg hs]
    rw [hsv] at HS
    have hz : (setsE m != 0) = true := by simpa using hs
    clear hs hsv
    generalize setsE m = E at *
    generalize (setsV m).1 = sl at *
    go_enter Try.func34, Try.ntmps34
    go_wp2_with (refine wpList_load_bs rfl 25 _ rfl C0.out 0 w.heap.size #[.int .i64 m.rings, .int .i64 m.give, .int .i64 m.pl, .int .i64 m.ph, .int .i64 m.wl, .int .i64 m.wh, .int .i64 m.set, .int .i64 m.shrink, .int .i64 m.skin, .int .i64 m.fill, .int .i64 m.gap, .int .i64 m.deep] 25 rfl rfl _ Try.underlying25 rfl info25 ?_)
    refine (HS _).out.mono ?_
    rintro e w1 ⟨v, rfl, -, hb⟩
    have C1 := Lib.hid (C0.out.call hb)
    clear hb C0
    go_wp2_with fail
    rw [HV.out]
    refine bodyPost_ret (v := .tuple #[.slice none 0 0, .int .i64 E]) ?_ rfl ⟨_, rfl, ⟨none, 0, rfl, by simp, .inl rfl⟩, C1.out.bel⟩
    rw [results_tmp2 (fn := Try.f34) rfl]
    go_simp
  have hck : checkE m = 0 := by
    unfold setsE at hs
    by_cases h : checkE m ≠ 0
    · rw [if_pos h] at hs; exact absurd hs h
    · simpa using h
  have hnv : neverB (endsL m true) = false := by
    unfold setsE at hs
    rw [if_neg (by simp [hck])] at hs
    cases h : neverB (endsL m true) with
    | false => rfl
    | true => rw [h] at hs; simp at hs
  have hm := valid_of_check hck
  have HM := Lib.hid hm
  have hsv : (setsV m).2 = 0 := by unfold setsV; rw [if_pos hs]
  rw [hsv] at HS
  have HE : ∀ w, Hid (Calls Try.prog 62 #[.agg #[.int .i64 m.rings, .int .i64 m.give, .int .i64 m.pl, .int .i64 m.ph, .int .i64 m.wl, .int .i64 m.wh, .int .i64 m.set, .int .i64 m.shrink, .int .i64 m.skin, .int .i64 m.fill, .int .i64 m.gap, .int .i64 m.deep]] w (RetEnds m w)) := ends_ref m hm
  have HST : ∀ (n : Int) (w : World) (v : Value), IntsIn .i64 w.heap.size w v (endsL m false) → Hid (Calls Try.prog 42 #[v, .int .i64 n] w fun e w' => e = .returned (.int .i64 (skinN (endsL m false) n)) ∧ w = w') := fun n w v h =>
    set_any (endsL m false) (by have := endsL_lenI hm false; have := hm.r8; omega) n v w h
  have hEnd : ∀ (plan : List Int), InOrder plan → plan.length ≤ 40 → ∀ (w : World) (v1 v2 : Value), IntsIn .i64 w.heap.size w v1 (endsL m true) → IntsIn .i64 w.heap.size w v2 plan → Hid (Calls Try.prog 44 #[.agg #[.int .i64 m.rings, .int .i64 m.give, .int .i64 m.pl, .int .i64 m.ph, .int .i64 m.wl, .int .i64 m.wh, .int .i64 m.set, .int .i64 m.shrink, .int .i64 m.skin, .int .i64 m.fill, .int .i64 m.gap, .int .i64 m.deep], v1, v2] w fun e w' => e = .returned (.tuple #[.int .i64 (holV m (endsL m true) plan), .int .i64 (pourL (fall m (endsL m true)) m.fill plan)]) ∧ Below w.heap.size w w') := fun plan ho hl w v1 v2 h1 h2 => by
    have := end_ref m hm (endsL m true) plan (endsL_lenI hm true) ho hl v1 v2 w h1 h2
    rw [hollow_is (fun i hi => by
      rw [endsL_length] at hi
      rw [endsL_getD m true hi]
      exact ⟨never_not hnv hi, (setAtF_bound m true i).2⟩)] at this
    exact this
  have HCK := Lib.hid hck
  have HNV := Lib.hid hnv
  have hr8 := hm.r8
  have hsk0 := hm.k0
  have hsk8 := hm.kr
  generalize (setsV m).1 = sl at *
  clear hs hsv hck hnv
  go_enter Try.func34, Try.ntmps34
  go_wp2_with (refine wpList_load_bs rfl 25 _ rfl C0.out 0 w.heap.size #[.int .i64 m.rings, .int .i64 m.give, .int .i64 m.pl, .int .i64 m.ph, .int .i64 m.wl, .int .i64 m.wh, .int .i64 m.set, .int .i64 m.shrink, .int .i64 m.skin, .int .i64 m.fill, .int .i64 m.gap, .int .i64 m.deep] 25 rfl rfl _ Try.underlying25 rfl info25 ?_)
  refine (HS _).out.mono ?_
  rintro e w1 ⟨v, rfl, -, hb⟩
  have C1 := Lib.hid (C0.out.call hb)
  clear hb C0
  go_wp2_with (refine wpList_load_bs rfl 25 _ rfl C1.out 0 w.heap.size #[.int .i64 m.rings, .int .i64 m.give, .int .i64 m.pl, .int .i64 m.ph, .int .i64 m.wl, .int .i64 m.wh, .int .i64 m.set, .int .i64 m.shrink, .int .i64 m.skin, .int .i64 m.fill, .int .i64 m.gap, .int .i64 m.deep] 25 rfl rfl _ Try.underlying25 rfl info25 ?_)
  refine (HE _).out.mono ?_
  rintro e w2 ⟨v1, v2, rfl, hn1, hn2, hb⟩
  have HF := Lib.hid hn1
  have HH := Lib.hid hn2
  have C2 := Lib.hid (C1.out.call hb)
  clear hb C1 hn1 hn2
  go_upto_region 5 with (fail)
  iterate 8 go_step
  go_cut [8] from 12 (fun s8 wc => s8 = .int .i64 (lastM m (endsL m false)) ∧ Below w2.heap.size w2 wc)
  case first =>
    go_wp2_with fail
    go_loopw [8] (fun pv wr => ∃ k : Nat, k ≤ 601 ∧ pv = .int .i64 ((k : Int) - 1) ∧ lastM m (endsL m false) = downTo (pourAt m (endsL m false)) k ∧ Below w2.heap.size w2 wr) (fun p _ => (intOf p + 1).toNat)
    case atStart => exact ⟨601, by omega, by go_num, rfl, Below.refl _ _⟩
    case round =>
      obtain ⟨k, hk, rfl, hd, hb⟩ := hrel
      have CB := Lib.hid hb
      have CI := Lib.hid (C2.out.call hb)
      have HFI := fun n : Nat => Lib.hid ((HF.out.next hb).next (below_drewN (Below.refl _ wr) n))
      have HD := Lib.hid hd
      have c0 := CI.out.cell 0 rfl
      clear hb hd
      cases k with
      | zero =>
        have hx : ((0 : Nat) : Int) - 1 = -1 := rfl
        have HL : Hid (lastM m (endsL m false) = -1) := HD.out
        rw [hx]
        go_wp2
        go_quiet (fail)
        go_wp2
        go_meet
        case rel => exact ⟨by rw [HL.out], below_drewN CB.out _⟩
      | succ q =>
        have hx : ((q + 1 : Nat) : Int) - 1 = (q : Int) := by omega
        rw [hx]
        have hk6 : q ≤ 600 := by omega
        have hk0 : 0 ≤ (q : Int) := by omega
        have hb1 : ((skinN (endsL m false) (q : Int) : Nat) : Int) ≤ 8 := by
          have h1 := skin_le (endsL m false) (q : Int)
          have h2 := endsL_lenI HM.out false
          omega
        have hb0 : 0 ≤ ((skinN (endsL m false) (q : Int) : Nat) : Int) := by omega
        have HPA : Hid (pourAt m (endsL m false) q = decide ((skinN (endsL m false) (q : Int) : Int) ≤ m.skin)) := rfl
        have HDD : Hid (downTo (pourAt m (endsL m false)) (q + 1) = if pourAt m (endsL m false) q = true then (q : Int) else downTo (pourAt m (endsL m false)) q) := Lib.hid rfl
        have HCC := fun n : Nat => HST (q : Int) _ _ (HFI n).out
        generalize ((skinN (endsL m false) (q : Int) : Nat) : Int) = sk at *
        by_cases hq : sk ≤ m.skin
        · have hdq : decide (m.skin < sk) = false := decide_eq_false (by omega)
          have HL : Hid (lastM m (endsL m false) = (q : Int)) := by unfold Hid; rw [HD.out, HDD.out, if_pos (by rw [HPA.out]; exact decide_eq_true hq)]
          clear HDD
          go_wp2
          go_quiet ((go_at_call 42; exact Calls.quiet_of_same (((HCC _).out).mono fun e w' h => ⟨h.1, h.2.symm⟩)))
          go_wp2
          go_meet
          case rel => exact ⟨by rw [HL.out], below_drewN CB.out _⟩
        · have hdq : decide (m.skin < sk) = true := decide_eq_true (by omega)
          have HL : Hid (lastM m (endsL m false) = downTo (pourAt m (endsL m false)) q) := by unfold Hid; rw [HD.out, HDD.out, if_neg (by rw [HPA.out]; simpa using hq)]
          clear HDD
          go_wp2
          go_quiet ((go_at_call 42; exact Calls.quiet_of_same (((HCC _).out).mono fun e w' h => ⟨h.1, h.2.symm⟩)))
          go_wp2
          go_roundw
          case rel => exact ⟨q, by omega, rfl, HL.out, below_drewN CB.out _⟩
          case measure => simp [intOf]
  case rest =>
    obtain ⟨rfl, hbl⟩ := hcut
    have HL6 : lastM m (endsL m false) ≤ 600 := by have := downTo_bound (pourAt m (endsL m false)) 601; unfold lastM; omega
    have HL0 : -1 ≤ lastM m (endsL m false) := by have := downTo_bound (pourAt m (endsL m false)) 601; unfold lastM; omega
    have HLAST : Hid (∀ n : Nat, fewB m (endsL m false) (endsL m true) n = ((decide (n = 0) || decide (0 ≤ lastM m (endsL m false) - ((n : Int) - 1) * m.gap)) && decide (holV m (endsL m true) (lateP (lastM m (endsL m false)) m.gap n) ≤ m.deep))) := fun n => rfl
    have HFV := Lib.hid (fun (n : Nat) (h : fewN m (endsL m false) (endsL m true) = n) => fewV_is HCK.out HNV.out h)
    have HFN := Lib.hid (fun (h : fewN m (endsL m false) (endsL m true) < 0) => fewV_no HCK.out HNV.out h)
    have hg1 := HM.out.a1
    have hg6 := HM.out.a6
    have hd0 := HM.out.d0
    have hd1 := HM.out.d1
    have hbh : ∀ plan, -24000 ≤ holV m (endsL m true) plan ∧ holV m (endsL m true) plan ≤ 24000 := fun plan => by
      have h1 := pourL_bound HM.out (endsL_lenI HM.out true) plan
      have h2 := allTo_bound HM.out (endsL m true).length (by have := endsL_lenI HM.out true; omega)
      have h3 := endsL_lenI HM.out true
      unfold holV
      omega
    have HBH := Lib.hid hbh
    clear hbh
    have HHc := Lib.hid (HH.out.next hbl)
    have CC := Lib.hid (C2.out.call hbl)
    clear hbl C2 HF HH HST
    generalize hlast : lastM m (endsL m false) = last at *
    have HLM := Lib.hid hlast
    clear hlast
    go_wp2_with fail
    go_loopw [8, 9] (fun av pv wr => ∃ (n : Nat) (a : Option Addr) (c : Nat), n ≤ 40 ∧ av = .int .i64 (last - (n : Int) * m.gap) ∧ pv = .slice a n c ∧ (0 < n → 0 ≤ last - ((n : Int) - 1) * m.gap) ∧ (∀ j, j < n → fewB m (endsL m false) (endsL m true) j = false) ∧ wr.ownsRow wc.heap.size 3 1 (.slice a n c) n ((lateP last m.gap n).map (Value.int .i64)) ∧ Below wc.heap.size wc wr) (fun _ pv _ => 41 - lenOf pv)
    case atStart => exact ⟨0, none, 0, by omega, by simp, rfl, fun h => by omega, fun j hj => by omega, World.ownsRow_nil _ _ 3 1, Below.refl _ _⟩
    case round =>
      obtain ⟨n, a, c, hn, rfl, rfl, h0, hall, hO, hb⟩ := hrel
      have hll : (lateP last m.gap n).length = n := lateP_length _ _ _
      have HI := Lib.hid (OwnInts.ints (l := lateP last m.gap n) (base := wc.heap.size) (by unfold OwnInts; rw [hll]; exact hO) (by omega))
      have hord := late_order HM.out HL6 h0
      have HEn := hEnd (lateP last m.gap n) hord (by omega)
      have HOK := Lib.hid hO
      have CB := Lib.hid hb
      have CI := Lib.hid (CC.out.call hb)
      have HHI := Lib.hid (HHc.out.next hb)
      have HALL := Lib.hid hall
      have HH0 := Lib.hid h0
      have HFB := Lib.hid (HLAST.out n)
      have HB1 := HBH.out (lateP last m.gap n)
      have hb1 := HB1.1
      have hb2 := HB1.2
      have HSUC := Lib.hid (lateP_succ last m.gap n)
      have ht0 : 0 ≤ (n : Int) * m.gap := Int.mul_nonneg (by omega) (by omega)
      have ht1 : (n : Int) * m.gap ≤ 2400 := by
        have h1 : (n : Int) * m.gap ≤ (n : Int) * 60 := Int.mul_le_mul_of_nonneg_left hg6 (by omega)
        omega
      have HT1 : Hid (((n + 1 : Nat) : Int) * m.gap = (n : Int) * m.gap + m.gap) := by
        unfold Hid
        push_cast
        rw [Int.add_mul, Int.one_mul]
      have HTJ : Hid (last - (n : Int) * m.gap < 0 → ∀ j : Nat, n < j → fewB m (endsL m false) (endsL m true) j = false) := fun hneg j hj => by
        rw [HLAST.out j]
        have h1 : (n : Int) * m.gap ≤ ((j : Int) - 1) * m.gap := Int.mul_le_mul_of_nonneg_right (by omega) (by omega)
        rw [decide_eq_false (show ¬ j = 0 by omega), decide_eq_false (show ¬ 0 ≤ last - ((j : Int) - 1) * m.gap by omega)]
        rfl
      clear hO hb h0 hall hord hll HB1
      generalize htg : (n : Int) * m.gap = tg at *
      have HTG := Lib.hid htg
      clear htg
      have HPL := Lib.hid (rfl : lateP last m.gap n = lateP last m.gap n)
      generalize hlp : lateP last m.gap n = pl at *
      have HLP := Lib.hid hlp
      clear hlp HPL
      generalize holV m (endsL m true) pl = hol at *
      go_wp2_with (refine wpList_load_bs rfl 25 _ rfl CI.out 0 w.heap.size #[.int .i64 m.rings, .int .i64 m.give, .int .i64 m.pl, .int .i64 m.ph, .int .i64 m.wl, .int .i64 m.wh, .int .i64 m.set, .int .i64 m.shrink, .int .i64 m.skin, .int .i64 m.fill, .int .i64 m.gap, .int .i64 m.deep] 25 rfl rfl _ Try.underlying25 rfl info25 ?_)
      refine (HEn _ _ _ HHI.out HI.out).out.mono ?_
      rintro e w9 ⟨rfl, hb⟩
      have CI := Lib.hid (CI.out.call hb)
      have CB := Lib.hid (CB.out.trans (hb.mono CB.out.size))
      have HOK := Lib.hid (ownsRow.below HOK.out hb)
      have HI := Lib.hid (HI.out.next hb)
      have c0 := CI.out.cell 0 rfl
      clear hb HEn HHI
      by_cases hd : hol ≤ m.deep
      · have hdd : decide (hol ≤ m.deep) = true := decide_eq_true hd
        have hfb : fewB m (endsL m false) (endsL m true) n = true := by
          rw [HFB.out, hdd, Bool.and_true, Bool.or_eq_true, decide_eq_true_eq, decide_eq_true_eq]
          by_cases hn0 : n = 0
          · exact .inl hn0
          · exact .inr (HH0.out (by omega))
        have HV := Lib.hid (HFV.out n (fewN_is (by omega) hfb HALL.out))
        clear hfb
        go_wp2_with fail
        rw [HV.out]
        refine bodyPost_ret (v := .tuple #[.slice a n c, .int .i64 0]) ?_ rfl ⟨_, rfl, by rw [HLP.out]; exact HI.out, CI.out.bel⟩
        rw [results_tmp2 (fn := Try.f34) rfl]
        go_simp
      have hdd : decide (hol ≤ m.deep) = false := decide_eq_false hd
      have HALL2 : Hid (∀ j, j < n + 1 → fewB m (endsL m false) (endsL m true) j = false) := fun j hj => by
        by_cases hji : j < n
        · exact HALL.out j hji
        · obtain rfl : j = n := by omega
          rw [HFB.out, hdd, Bool.and_false]
      by_cases hneg : last - tg < 0
      · have hdn : decide (last - tg < 0) = true := decide_eq_true hneg
        have HV := Lib.hid (HFN.out (fewN_no (fun j hj => by
          by_cases hj1 : j < n + 1
          · exact HALL2.out j hj1
          · exact HTJ.out hneg j (by omega))))
        clear hneg HALL2 HTJ
        go_wp2_with fail
        rw [HV.out]
        refine bodyPost_ret (v := .tuple #[.slice none 0 0, .int .i64 9]) ?_ rfl ⟨_, rfl, ⟨none, 0, rfl, by simp, .inl rfl⟩, CI.out.bel⟩
        rw [results_tmp2 (fn := Try.f34) rfl]
        go_simp
      have hdn : decide (last - tg < 0) = false := decide_eq_false hneg
      by_cases hn40 : n = 40
      · subst hn40
        have HV := Lib.hid (HFN.out (fewN_no (fun j hj => HALL2.out j (by omega))))
        clear hneg HALL2 HTJ
        go_wp2_with fail
        rw [HV.out]
        refine bodyPost_ret (v := .tuple #[.slice none 0 0, .int .i64 9]) ?_ rfl ⟨_, rfl, ⟨none, 0, rfl, by simp, .inl rfl⟩, CI.out.bel⟩
        rw [results_tmp2 (fn := Try.f34) rfl]
        go_simp
      have hq40 : ((n : Int) == 40) = false := by simp; omega
      have hn39 : n ≤ 39 := by omega
      obtain ⟨i0, hi0, hz0, hz1, hz2⟩ := info3'
      have hszc : wc.heap.size ≤ w9.heap.size := CB.out.size
      have hlen : (pl.map (Value.int .i64)).length = n * 1 := HOK.out.1
      have hlt0 : w.heap.size < w9.heap.size := CI.out.lt 0 rfl
      have HFR := Lib.hid (ownsRow_one w9 (last - tg))
      have HSRC := Lib.hid (SrcIn.own (HOK.out.alloc (.cells #[.int .i64 (last - tg)] 3)))
      have HNG := Lib.hid hneg
      clear hneg hn40 HTJ HALL
      go_wp2_with (at_builtin; refine wpList_append_onto rfl _ _ 26 rfl w9.heap.size 3 i0 (.int .i64 0) 1 8 Try.underlying26 hi0 hz0 hz1 hz2 rfl (by decide) (.slice (some ⟨w9.heap.size, 0, none⟩) 1 1) 1 _ rfl HFR.out (by decide) _ n _ rfl HSRC.out hlen (fun u hu => by obtain ⟨z, -, rfl⟩ := List.mem_map.1 hu; rfl) (by unfold maxLen; omega) (by omega) (by simp) ?_; intro v' w12 hown12 hgrow12; rw [Nat.add_comm 1 n] at hown12; obtain ⟨a9, c9, rfl⟩ := ownsRow_slice1 hown12; have HN := Lib.hid hown12; have hb12 : Below w9.heap.size w9 w12 := ((Below.refl w9.heap.size w9).alloc (Nat.le_refl _) (.cells #[.int .i64 (last - tg)] 3)).grown hgrow12 (by simp) (fun k e => (World.ownsRow.lt HFR.out k e).1); have C12 := Lib.hid (CI.out.call hb12); have c8 := C12.out.cell 0 rfl; clear hown12 hgrow12 c0)
      refine ⟨⟨n + 1, a9, c9, by omega, ?_, rfl, fun _ => ?_, HALL2.out, ?_, CB.out.trans (hb12.mono hszc)⟩, ?_⟩
      · rw [HT1.out]
        congr 1
        omega
      · rw [show (((n + 1 : Nat) : Int)) - 1 = (n : Int) by omega, HTG.out]
        have := HNG.out
        omega
      · rw [HSUC.out]
        exact ownsRow.low HN.out hszc
      · simp [lenOf]
        omega
end Go.Proofs.Ytafdagjdpnaddaa
