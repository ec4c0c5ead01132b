/- MouldWider: the walk. -/
import Derived.Test.YtafdagjdpnaddaaAW
import Derived.Test.YtafdagjdpnaddaaB2
import Derived.Test.YtafdagjdpnaddaaP16
import Derived.Lib.MinMax
import Derived.BigQuiet
namespace Go.Proofs.Ytafdagjdpnaddaa
open Go.RowKit
theorem warmV_ok {m : Mou} (h : checkE m = 0) {N : Nat} (hN : N ≤ 600) : warmV m N = ((warmL m false N).zip (warmL m true N), 0) := by
  unfold warmV
  rw [if_neg (by simp [h]), if_neg (by simp [within]; omega), Int.toNat_natCast]
theorem skinV_ok {m : Mou} (h : checkE m = 0) {N : Nat} (hN : N ≤ 600) : skinV m N = ((((skinN (endsL m true) N : Nat) : Int), ((skinN (endsL m false) N : Nat) : Int)), 0) := by
  unfold skinV
  rw [if_neg (by simp [h]), if_neg (by simp [within]; omega)]
theorem hollowV_ok {m : Mou} {plan : List Int} (h : hollowE m plan = 0) : hollowV m plan = ((holV m (endsL m false) plan, holV m (endsL m true) plan), (pourL (fall m (endsL m true)) m.fill plan, pourL (fall m (endsL m false)) m.fill plan), 0) := by
  unfold hollowV
  rw [if_neg (by simp [h])]
theorem hollowV_err (m : Mou) (plan : List Int) : (hollowV m plan).2.2 = hollowE m plan := by
  unfold hollowV
  split
  · rfl
  · rename_i h
    have h' : hollowE m plan = 0 := by simpa using h
    exact h'.symm
set_option maxRecDepth 100000 in
set_option maxHeartbeats 16000000 in
theorem wider_law (m : Mou) (pv : Value) (plan : List Int) (x0 x1 x2 x3 x4 : Int) (h0 : 0 ≤ x0 ∧ x0 ≤ 65535) (h1 : 0 ≤ x1 ∧ x1 ≤ 65535) (h2 : 0 ≤ x2 ∧ x2 ≤ 65535) (h3 : 0 ≤ x3 ∧ x3 ≤ 65535) (h4 : 0 ≤ x4 ∧ x4 ≤ 65535) (w : World) (hp : IntsIn .i64 w.heap.size w pv plan) :
    Calls Try.prog 16 #[.agg #[.int .i64 m.rings, .int .i64 m.give, .int .i64 m.pl, .int .i64 m.ph, .int .i64 m.wl, .int .i64 m.wh, .int .i64 m.set, .int .i64 m.shrink, .int .i64 m.skin, .int .i64 m.fill, .int .i64 m.gap, .int .i64 m.deep], pv, .agg #[.int .u16 x0, .int .u16 x1, .int .u16 x2, .int .u16 x3, .int .u16 x4]] w (fun e w' => e = .returned (.bool true) ∧ Below w.heap.size w w') := by
  have C0 := Lib.hid (((Bs.nil w).push _ rfl (.cells #[.int .i64 m.rings, .int .i64 m.give, .int .i64 m.pl, .int .i64 m.ph, .int .i64 m.wl, .int .i64 m.wh, .int .i64 m.set, .int .i64 m.shrink, .int .i64 m.skin, .int .i64 m.fill, .int .i64 m.gap, .int .i64 m.deep] 25)).push (w.heap.size + 1) (by simp) (.cells #[.int .u16 x0, .int .u16 x1, .int .u16 x2, .int .u16 x3, .int .u16 x4] 79))
  have HP := Lib.hid hp
  clear hp
  have c1 := C0.out.cell 1 rfl
  have hn0 : 0 ≤ x0 % 601 := by omega
  have hn6 : x0 % 601 ≤ 600 := by omega
  obtain ⟨h00, h01⟩ := h0
  obtain ⟨h10, h11⟩ := h1
  obtain ⟨h20, h21⟩ := h2
  obtain ⟨h30, h31⟩ := h3
  obtain ⟨h40, h41⟩ := h4
  go_enter Try.func16, Try.ntmps16
  go_wp2_with (refine wpList_load_bs rfl 25 _ rfl C0.out 0 w.heap.size #[.int .i64 m.rings, .int .i64 m.give, .int .i64 m.pl, .int .i64 m.ph, .int .i64 m.wl, .int .i64 m.wh, .int .i64 m.set, .int .i64 m.shrink, .int .i64 m.skin, .int .i64 m.fill, .int .i64 m.gap, .int .i64 m.deep] 25 rfl rfl _ Try.underlying25 rfl info25 ?_)
  generalize x0 % 601 = z' at *
  obtain ⟨N, rfl⟩ : ∃ N : Nat, z' = N := ⟨z'.toNat, by omega⟩
  have hN6 : N ≤ 600 := by omega
  clear hn0 hn6 c1
  by_cases hc : checkE m = 0
  rotate_left
  · have hv : warmV m N = ([], checkE m) := by unfold warmV; rw [if_pos hc]
    have hwc := fun w => warm_any m N w
    rw [hv] at hwc
    have HWC := Lib.hid hwc
    have HC : ∀ w, Hid (Calls Try.prog 19 #[.agg #[.int .i64 m.rings, .int .i64 m.give, .int .i64 m.pl, .int .i64 m.ph, .int .i64 m.wl, .int .i64 m.wh, .int .i64 m.set, .int .i64 m.shrink, .int .i64 m.skin, .int .i64 m.fill, .int .i64 m.gap, .int .i64 m.deep]] w fun e w' => e = .returned (.int .i64 (checkE m)) ∧ Below w.heap.size w w') := fun w => checkR_any m w
    have hz : (checkE m != 0) = true := by simpa using hc
    clear hc hv hwc
    generalize checkE m = E at *
    refine (HWC.out _).mono ?_
    rintro e w5 ⟨v, rfl, ho, hb⟩
    have C5 := Lib.hid (C0.out.call hb)
    clear ho hb C0
    go_wp2_with (refine wpList_load_bs rfl 25 _ rfl C5.out 0 w.heap.size #[.int .i64 m.rings, .int .i64 m.give, .int .i64 m.pl, .int .i64 m.ph, .int .i64 m.wl, .int .i64 m.wh, .int .i64 m.set, .int .i64 m.shrink, .int .i64 m.skin, .int .i64 m.fill, .int .i64 m.gap, .int .i64 m.deep] 25 rfl rfl _ Try.underlying25 rfl info25 ?_)
    refine (HC _).out.mono ?_
    rintro e w6 ⟨rfl, hb⟩
    have C6 := Lib.hid (C5.out.call hb)
    clear hb C5
    go_wp2_with fail
    refine (awake_any _).mono ?_
    rintro e w7 ⟨rfl, hb⟩
    have HBel := Lib.hid (C6.out.call hb).bel
    clear hb C6
    go_wp2
    go_ret
    exact ⟨rfl, HBel.out⟩
  have HM := Lib.hid (valid_of_check hc)
  have HC : ∀ w, Hid (Calls Try.prog 19 #[.agg #[.int .i64 m.rings, .int .i64 m.give, .int .i64 m.pl, .int .i64 m.ph, .int .i64 m.wl, .int .i64 m.wh, .int .i64 m.set, .int .i64 m.shrink, .int .i64 m.skin, .int .i64 m.fill, .int .i64 m.gap, .int .i64 m.deep]] w fun e w' => e = .returned (.int .i64 0) ∧ Below w.heap.size w w') := fun w => by
    have := checkR_any m w
    rw [hc] at this
    exact this
  have g10 : 0 ≤ x1 % 100 := by omega
  have g11 : x1 % 100 ≤ 99 := by omega
  have g20 : 0 ≤ x2 % 100 := by omega
  have g21 : x2 % 100 ≤ 99 := by omega
  have g30 : 0 ≤ x3 % 100 := by omega
  have g31 : x3 % 100 ≤ 99 := by omega
  have g40 : 0 ≤ x4 % 100 := by omega
  have g41 : x4 % 100 ≤ 99 := by omega
  have hWd := wider_of HM.out g10 g20 g30 g40
  have HWd := Lib.hid hWd
  clear hWd
  have p0 := HM.out.p0
  have p1 : m.pl ≤ 2000 := by have := HM.out.p2; have := HM.out.pp; omega
  have p2 : 0 ≤ m.ph := by have := HM.out.pp; omega
  have p3 := HM.out.p2
  have w00 := HM.out.w0
  have w01 : m.wl ≤ 2000 := by have := HM.out.w2; have := HM.out.ww; omega
  have w02 : 0 ≤ m.wh := by have := HM.out.ww; omega
  have w03 := HM.out.w2
  obtain ⟨r, hr⟩ : ∃ r : Nat, m.rings.toNat = r := ⟨_, rfl⟩
  have HWM : ∀ w, Hid (Calls Try.prog 23 #[.agg #[.int .i64 m.rings, .int .i64 m.give, .int .i64 m.pl, .int .i64 m.ph, .int .i64 m.wl, .int .i64 m.wh, .int .i64 m.set, .int .i64 m.shrink, .int .i64 m.skin, .int .i64 m.fill, .int .i64 m.gap, .int .i64 m.deep], .int .i64 N] w (RetSpE ((warmL m false N).zip (warmL m true N)) 0 w)) := fun w => by
    have := warm_any m N w
    rw [warmV_ok hc hN6] at this
    exact this
  have hL1 : ((warmL m false N).zip (warmL m true N)).length = r := by rw [List.length_zip, warmL_len, warmL_len, hr]; simp
  have HG1 : Hid (∀ i, i < r → ((warmL m false N).zip (warmL m true N)).getD i (0, 0) = ((warmL m false N).getD i 0, (warmL m true N).getD i 0)) := fun i hi => zip_getD (by rw [warmL_len, hr]; exact hi) (by rw [warmL_len, hr]; exact hi)
  generalize (warmL m false N).zip (warmL m true N) = lw at *
  have HL1 := Lib.hid hL1
  have HR := Lib.hid hr
  have HCK := Lib.hid hc
  have hr8 : r ≤ 8 := by have := HM.out.r8; omega
  clear hL1 hr hc
  refine (HWM _).out.mono ?_
  rintro e w1 ⟨v, rfl, ho, hb⟩
  have HS1 := Lib.hid (ho.spans (by rw [HL1.out]; omega))
  have C1 := Lib.hid (C0.out.call hb)
  have D1 := Lib.hid (Bs.nil w1)
  clear ho hb C0
  go_wp2_with (refine wpList_load_bs rfl 25 _ rfl C1.out 0 w.heap.size #[.int .i64 m.rings, .int .i64 m.give, .int .i64 m.pl, .int .i64 m.ph, .int .i64 m.wl, .int .i64 m.wh, .int .i64 m.set, .int .i64 m.shrink, .int .i64 m.skin, .int .i64 m.fill, .int .i64 m.gap, .int .i64 m.deep] 25 rfl rfl _ Try.underlying25 rfl info25 ?_)
  refine (HC _).out.mono ?_
  rintro e w2 ⟨rfl, hb⟩
  have D3 := Lib.hid ((D1.out.call hb).push w2.heap.size rfl (.cells #[.int .i64 m.rings, .int .i64 m.give, .int .i64 m.pl, .int .i64 m.ph, .int .i64 m.wl, .int .i64 m.wh, .int .i64 m.set, .int .i64 m.shrink, .int .i64 m.skin, .int .i64 m.fill, .int .i64 m.gap, .int .i64 m.deep] 25))
  have C3 := Lib.hid ((C1.out.call hb).push w2.heap.size rfl (.cells #[.int .i64 m.rings, .int .i64 m.give, .int .i64 m.pl, .int .i64 m.ph, .int .i64 m.wl, .int .i64 m.wh, .int .i64 m.set, .int .i64 m.shrink, .int .i64 m.skin, .int .i64 m.fill, .int .i64 m.gap, .int .i64 m.deep] 25))
  have C2 := Lib.hid (C1.out.call hb)
  clear hb C1 D1 HC
  have c0 := C3.out.cell 0 rfl
  have c1 := C3.out.cell 1 rfl
  go_wp2_with (refine wpList_load_bs rfl 25 _ rfl C2.out 0 w.heap.size #[.int .i64 m.rings, .int .i64 m.give, .int .i64 m.pl, .int .i64 m.ph, .int .i64 m.wl, .int .i64 m.wh, .int .i64 m.set, .int .i64 m.shrink, .int .i64 m.skin, .int .i64 m.fill, .int .i64 m.gap, .int .i64 m.deep] 25 rfl rfl _ Try.underlying25 rfl info25 ?_)
  generalize max 0 (m.pl - x1 % 100) = pl' at *
  generalize min 2000 (m.ph + x2 % 100) = ph' at *
  refine (span36 _ _ _).mono ?_
  rintro e w3 ⟨rfl, hb⟩
  have C4 := Lib.hid (C3.out.call hb)
  have D4 := Lib.hid (D3.out.call hb)
  clear hb C3 D3 C2 c0 c1
  go_wp2_with (refine wpList_store_bsmid2 rfl 23 _ _ rfl C4.out D4.out 2 0 w2.heap.size 2 #[.int .i64 pl', .int .i64 ph'] [.int .i64 m.rings, .int .i64 m.give] [.int .i64 m.pl, .int .i64 m.ph, .int .i64 m.wl, .int .i64 m.wh, .int .i64 m.set, .int .i64 m.shrink, .int .i64 m.skin, .int .i64 m.fill, .int .i64 m.gap, .int .i64 m.deep] 25 rfl rfl rfl rfl rfl info23 (by simp) (by simp [Value.oneCell']) ?_; intro w4 hC5 hD5; have c0 := hC5.cell 0 rfl; have c1 := hC5.cell 1 rfl)
  generalize max 0 (m.wl - x3 % 100) = wl' at *
  generalize min 2000 (m.wh + x4 % 100) = wh' at *
  refine (span36 _ _ _).mono ?_
  rintro e w5 ⟨rfl, hb⟩
  have C6 := Lib.hid (hC5.call hb)
  have D6 := Lib.hid (hD5.call hb)
  clear hb hC5 hD5 C4 D4 c0 c1
  go_wp2_with (first
    | (refine wpList_store_bsmid2 rfl 23 _ _ rfl C6.out D6.out 2 0 w2.heap.size 4 #[.int .i64 wl', .int .i64 wh'] [.int .i64 m.rings, .int .i64 m.give, .int .i64 pl', .int .i64 ph'] [.int .i64 m.wl, .int .i64 m.wh, .int .i64 m.set, .int .i64 m.shrink, .int .i64 m.skin, .int .i64 m.fill, .int .i64 m.gap, .int .i64 m.deep] 25 rfl rfl rfl rfl rfl info23 (by simp) (by simp [Value.oneCell']) ?_; intro w6 hC7 hD7)
    | refine wpList_load_bs rfl 25 _ rfl hC7 2 w2.heap.size #[.int .i64 m.rings, .int .i64 m.give, .int .i64 pl', .int .i64 ph', .int .i64 wl', .int .i64 wh', .int .i64 m.set, .int .i64 m.shrink, .int .i64 m.skin, .int .i64 m.fill, .int .i64 m.gap, .int .i64 m.deep] 25 rfl rfl _ Try.underlying25 rfl info25 ?_)
  have C7 : Hid (Bs w [(w.heap.size, .cells #[.int .i64 m.rings, .int .i64 m.give, .int .i64 m.pl, .int .i64 m.ph, .int .i64 m.wl, .int .i64 m.wh, .int .i64 m.set, .int .i64 m.shrink, .int .i64 m.skin, .int .i64 m.fill, .int .i64 m.gap, .int .i64 m.deep] 25), (w.heap.size + 1, .cells #[.int .u16 x0, .int .u16 x1, .int .u16 x2, .int .u16 x3, .int .u16 x4] 79), (w2.heap.size, .cells #[.int .i64 m.rings, .int .i64 m.give, .int .i64 pl', .int .i64 ph', .int .i64 wl', .int .i64 wh', .int .i64 m.set, .int .i64 m.shrink, .int .i64 m.skin, .int .i64 m.fill, .int .i64 m.gap, .int .i64 m.deep] 25)] w6) := hC7
  have D7 : Hid (Below w1.heap.size w1 w6) := hD7.bel
  clear hC7 hD7 C6 D6
  -- the wide mould
  have HV2 := Lib.hid (HWd.out.valid HM.out)
  have HWM2 : ∀ w, Hid (Calls Try.prog 23 #[.agg #[.int .i64 m.rings, .int .i64 m.give, .int .i64 pl', .int .i64 ph', .int .i64 wl', .int .i64 wh', .int .i64 m.set, .int .i64 m.shrink, .int .i64 m.skin, .int .i64 m.fill, .int .i64 m.gap, .int .i64 m.deep], .int .i64 N] w (RetSpE ((warmL (wideM m pl' ph' wl' wh') false N).zip (warmL (wideM m pl' ph' wl' wh') true N)) 0 w)) := fun w => by
    have := warm_any (wideM m pl' ph' wl' wh') N w
    rw [warmV_ok (check_of_valid HV2.out) hN6] at this
    exact this
  have hL2 : ((warmL (wideM m pl' ph' wl' wh') false N).zip (warmL (wideM m pl' ph' wl' wh') true N)).length = r := by rw [List.length_zip, warmL_len, warmL_len]; show min m.rings.toNat m.rings.toNat = r; rw [HR.out]; simp
  have HCMP : Hid (∀ i, i < r → ¬ (lw.getD i (0, 0)).1 < (((warmL (wideM m pl' ph' wl' wh') false N).zip (warmL (wideM m pl' ph' wl' wh') true N)).getD i (0, 0)).1 ∧ ¬ (((warmL (wideM m pl' ph' wl' wh') false N).zip (warmL (wideM m pl' ph' wl' wh') true N)).getD i (0, 0)).2 < (lw.getD i (0, 0)).2) := fun i hi => by
    rw [HG1.out i hi, zip_getD (by rw [warmL_len]; show i < m.rings.toNat; rw [HR.out]; exact hi) (by rw [warmL_len]; show i < m.rings.toNat; rw [HR.out]; exact hi)]
    have q1 := (HWd.out.warmC HM.out N).2 i (by rw [warmL_len]; show i < m.rings.toNat; rw [HR.out]; exact hi)
    have q2 := (HWd.out.warmH HM.out N).2 i (by rw [warmL_len, HR.out]; exact hi)
    constructor <;> simp only <;> omega
  generalize (warmL (wideM m pl' ph' wl' wh') false N).zip (warmL (wideM m pl' ph' wl' wh') true N) = vl at *
  have HL2 := Lib.hid hL2
  clear hL2 HG1 HWM
  -- skins
  have HK1 : ∀ w, Hid (Calls Try.prog 29 #[.agg #[.int .i64 m.rings, .int .i64 m.give, .int .i64 m.pl, .int .i64 m.ph, .int .i64 m.wl, .int .i64 m.wh, .int .i64 m.set, .int .i64 m.shrink, .int .i64 m.skin, .int .i64 m.fill, .int .i64 m.gap, .int .i64 m.deep], .int .i64 N] w (RetSkin ((((skinN (endsL m true) N : Nat) : Int), ((skinN (endsL m false) N : Nat) : Int)), 0) w)) := fun w => by
    have := skinM_any m N w
    rw [skinV_ok HCK.out hN6] at this
    exact this
  have HK2 : ∀ w, Hid (Calls Try.prog 29 #[.agg #[.int .i64 m.rings, .int .i64 m.give, .int .i64 pl', .int .i64 ph', .int .i64 wl', .int .i64 wh', .int .i64 m.set, .int .i64 m.shrink, .int .i64 m.skin, .int .i64 m.fill, .int .i64 m.gap, .int .i64 m.deep], .int .i64 N] w (RetSkin ((((skinN (endsL (wideM m pl' ph' wl' wh') true) N : Nat) : Int), ((skinN (endsL (wideM m pl' ph' wl' wh') false) N : Nat) : Int)), 0) w)) := fun w => by
    have := skinM_any (wideM m pl' ph' wl' wh') N w
    rw [skinV_ok (check_of_valid HV2.out) hN6] at this
    exact this
  have hs1 : ¬ ((skinN (endsL m true) N : Nat) : Int) < ((skinN (endsL (wideM m pl' ph' wl' wh') true) N : Nat) : Int) := by
    have := skin_mono (HWd.out.endsH HM.out) N
    omega
  have hs2 : ¬ ((skinN (endsL (wideM m pl' ph' wl' wh') false) N : Nat) : Int) < ((skinN (endsL m false) N : Nat) : Int) := by
    have := skin_mono (HWd.out.endsC HM.out) N
    omega
  generalize ((skinN (endsL m true) N : Nat) : Int) = ka at *
  generalize ((skinN (endsL m false) N : Nat) : Int) = kb at *
  generalize ((skinN (endsL (wideM m pl' ph' wl' wh') true) N : Nat) : Int) = kc at *
  generalize ((skinN (endsL (wideM m pl' ph' wl' wh') false) N : Nat) : Int) = kd at *
  clear g10 g11 g20 g21 g30 g31 g40 g41 h00 h01 h10 h11 h20 h21 h30 h31 h40 h41 p0 p1 p2 p3 w00 w01 w02 w03
  refine (HWM2 _).out.mono ?_
  rintro e w7 ⟨v2, rfl, ho, hb⟩
  have HS2 := Lib.hid (ho.spans (by rw [HL2.out]; omega))
  have HS1 := Lib.hid ((HS1.out.below (D7.out.trans (hb.mono D7.out.size))).mono (D7.out.trans (hb.mono D7.out.size)).size)
  have C8 := Lib.hid (C7.out.call hb)
  clear ho hb C7 D7 HWM2
  go_wp2_with (refine wpList_load_bs rfl 25 _ rfl C8.out 0 w.heap.size #[.int .i64 m.rings, .int .i64 m.give, .int .i64 m.pl, .int .i64 m.ph, .int .i64 m.wl, .int .i64 m.wh, .int .i64 m.set, .int .i64 m.shrink, .int .i64 m.skin, .int .i64 m.fill, .int .i64 m.gap, .int .i64 m.deep] 25 rfl rfl _ Try.underlying25 rfl info25 ?_)
  refine (HK1 _).out.mono ?_
  rintro e w8 ⟨rfl, hb⟩
  have hb2 := hb.alloc hb.size (.cells #[.int .i64 ka, .int .i64 kb] 23)
  have HS1 := Lib.hid (HS1.out.next hb2)
  have HS2 := Lib.hid (HS2.out.next hb2)
  have C9 := Lib.hid ((C8.out.call hb).push w8.heap.size rfl (.cells #[.int .i64 ka, .int .i64 kb] 23))
  clear hb hb2 C8 HK1
  go_wp2_with (refine wpList_load_bs rfl 25 _ rfl C9.out 2 w2.heap.size #[.int .i64 m.rings, .int .i64 m.give, .int .i64 pl', .int .i64 ph', .int .i64 wl', .int .i64 wh', .int .i64 m.set, .int .i64 m.shrink, .int .i64 m.skin, .int .i64 m.fill, .int .i64 m.gap, .int .i64 m.deep] 25 rfl rfl _ Try.underlying25 rfl info25 ?_)
  refine (HK2 _).out.mono ?_
  rintro e w9 ⟨rfl, hb⟩
  have hb2 := hb.alloc hb.size (.cells #[.int .i64 kc, .int .i64 kd] 23)
  have HS1 := Lib.hid (HS1.out.next hb2)
  have HS2 := Lib.hid (HS2.out.next hb2)
  have C10 := Lib.hid ((C9.out.call hb).push w9.heap.size rfl (.cells #[.int .i64 kc, .int .i64 kd] 23))
  clear hb hb2 C9 HK2
  obtain ⟨a1, c1, e1, -, -, hrow1⟩ := HS1.out
  obtain ⟨a2, c2, e2, -, -, hrow2⟩ := HS2.out
  rw [HL1.out] at e1 hrow1
  rw [HL2.out] at e2 hrow2
  subst e1
  subst e2
  have HROW1 := Lib.hid hrow1
  have HROW2 := Lib.hid hrow2
  clear hrow1 hrow2 HS1 HS2
  have k3 := C10.out.cell 3 rfl
  have k4 := C10.out.cell 4 rfl
  have hq : ((r : Int) != (r : Int)) = false := by simp
  go_wp2_with fail
  clear k3 k4 hq hs1 hs2
  generalize w9.alloc (.cells #[.int .i64 kc, .int .i64 kd] 23) = wl at *
  -- the loop
  go_loopw [17] (fun kv wr => ∃ k : Nat, kv = .int .i64 k ∧ k ≤ r ∧ Below wl.heap.size wl wr) (fun kv _ => r - (intOf kv).toNat)
  case atStart => exact ⟨0, rfl, by omega, Below.refl _ _⟩
  case round =>
    obtain ⟨k, rfl, hk, hb⟩ := hrel
    have CB := Lib.hid hb
    clear hb
    by_cases hlt : k < r
    · obtain ⟨b, o, rfl, hbb, hc⟩ := HROW1.out.resolve_left (by intro h; have := HL1.out; rw [h] at this; simp at this; omega)
      obtain ⟨b2, o2, rfl, hbb2, hc2⟩ := HROW2.out.resolve_left (by intro h; have := HL2.out; rw [h] at this; simp at this; omega)
      have h1 : wr.cell? ⟨b, o + k * 2, none⟩ = some (.int .i64 (lw.getD k (0, 0)).1) := (CB.out.cell (p := ⟨b, o + k * 2, none⟩) hbb).trans (hc k hlt).1
      have h1' : wr.cell? ⟨b, o + k * 2 + 1, none⟩ = some (.int .i64 (lw.getD k (0, 0)).2) := (CB.out.cell (p := ⟨b, o + k * 2 + 1, none⟩) hbb).trans (hc k hlt).2
      have h2 : wr.cell? ⟨b2, o2 + k * 2, none⟩ = some (.int .i64 (vl.getD k (0, 0)).1) := (CB.out.cell (p := ⟨b2, o2 + k * 2, none⟩) hbb2).trans (hc2 k hlt).1
      have h2' : wr.cell? ⟨b2, o2 + k * 2 + 1, none⟩ = some (.int .i64 (vl.getD k (0, 0)).2) := (CB.out.cell (p := ⟨b2, o2 + k * 2 + 1, none⟩) hbb2).trans (hc2 k hlt).2
      obtain ⟨q1, q2⟩ := HCMP.out k hlt
      clear hc hc2
      generalize (lw.getD k (0, 0)).1 = y1 at *
      generalize (lw.getD k (0, 0)).2 = y2 at *
      generalize (vl.getD k (0, 0)).1 = y3 at *
      generalize (vl.getD k (0, 0)).2 = y4 at *
      have r1 : decide (y1 < y3) = false := by simpa using q1
      have r2 : decide (y4 < y2) = false := by simpa using q2
      clear q1 q2
      go_wp2_with fail
      go_quiet (fail)
      simp only [Exit.then]
      go_wp2_with fail
      refine ⟨⟨k + 1, by push_cast; rfl, by omega, ⟨CB.out.os, CB.out.tape, CB.out.output, CB.out.size, CB.out.block⟩⟩, ?_⟩
      simp [intOf]
      omega
    · obtain rfl : r = k := by omega
      have C11 := Lib.hid (C10.out.call CB.out)
      clear C10 CB HROW1 HROW2
      have HH1 := Lib.hid (hollowV_err m plan)
      have HH2 := Lib.hid (hollowV_err (wideM m pl' ph' wl' wh') plan)
      have HI1 : Hid (hollowE (wideM m pl' ph' wl' wh') plan = 0 → hollowE m plan = 0) := fun h => HWd.out.hollowE HM.out h
      have HI2 : Hid (hollowE (wideM m pl' ph' wl' wh') plan = 0 → ¬ (hollowV m plan).1.1 < (hollowV (wideM m pl' ph' wl' wh') plan).1.1 ∧ ¬ (hollowV (wideM m pl' ph' wl' wh') plan).1.2 < (hollowV m plan).1.2) := fun h => by
        rw [hollowV_ok h, hollowV_ok (HWd.out.hollowE HM.out h)]
        have q1 := HWd.out.holC HM.out plan
        have q2 := HWd.out.holH HM.out plan
        constructor <;> simp only <;> omega
      have HA1 : ∀ w, IntsIn .i64 w.heap.size w pv plan → Hid (Calls Try.prog 31 #[.agg #[.int .i64 m.rings, .int .i64 m.give, .int .i64 m.pl, .int .i64 m.ph, .int .i64 m.wl, .int .i64 m.wh, .int .i64 m.set, .int .i64 m.shrink, .int .i64 m.skin, .int .i64 m.fill, .int .i64 m.gap, .int .i64 m.deep], pv] w (RetHol (hollowV m plan) w)) := fun w h => hollow_any m plan pv w h
      have HA2 : ∀ w, IntsIn .i64 w.heap.size w pv plan → Hid (Calls Try.prog 31 #[.agg #[.int .i64 m.rings, .int .i64 m.give, .int .i64 pl', .int .i64 ph', .int .i64 wl', .int .i64 wh', .int .i64 m.set, .int .i64 m.shrink, .int .i64 m.skin, .int .i64 m.fill, .int .i64 m.gap, .int .i64 m.deep], pv] w (RetHol (hollowV (wideM m pl' ph' wl' wh') plan) w)) := fun w h => hollow_any (wideM m pl' ph' wl' wh') plan pv w h
      rw [← HH1.out, ← HH2.out] at HI1
      rw [← HH2.out] at HI2
      clear HH1 HH2
      generalize hollowV m plan = A at *
      generalize hollowV (wideM m pl' ph' wl' wh') plan = B at *
      obtain ⟨⟨a1, a2⟩, ⟨a3, a4⟩, ae⟩ := A
      obtain ⟨⟨b1, b2⟩, ⟨b3, b4⟩, be⟩ := B
      go_wp2_with (refine wpList_load_bs rfl 25 _ rfl C11.out 0 w.heap.size #[.int .i64 m.rings, .int .i64 m.give, .int .i64 m.pl, .int .i64 m.ph, .int .i64 m.wl, .int .i64 m.wh, .int .i64 m.set, .int .i64 m.shrink, .int .i64 m.skin, .int .i64 m.fill, .int .i64 m.gap, .int .i64 m.deep] 25 rfl rfl _ Try.underlying25 rfl info25 ?_)
      refine (HA1 _ ((HP.out.below C11.out.bel).mono C11.out.bel.size)).out.mono ?_
      rintro e w11 ⟨rfl, hb⟩
      have C12 := Lib.hid ((C11.out.call hb).push w11.heap.size rfl (.cells #[.int .i64 a1, .int .i64 a2, .int .i64 a3, .int .i64 a4] 45))
      clear hb C11
      go_wp2_with (refine wpList_load_bs rfl 25 _ rfl C12.out 2 w2.heap.size #[.int .i64 m.rings, .int .i64 m.give, .int .i64 pl', .int .i64 ph', .int .i64 wl', .int .i64 wh', .int .i64 m.set, .int .i64 m.shrink, .int .i64 m.skin, .int .i64 m.fill, .int .i64 m.gap, .int .i64 m.deep] 25 rfl rfl _ Try.underlying25 rfl info25 ?_)
      refine (HA2 _ ((HP.out.below C12.out.bel).mono C12.out.bel.size)).out.mono ?_
      rintro e w12 ⟨rfl, hb⟩
      have C13 := Lib.hid ((C12.out.call hb).push w12.heap.size rfl (.cells #[.int .i64 b1, .int .i64 b2, .int .i64 b3, .int .i64 b4] 45))
      clear hb C12
      have k5 := C13.out.cell 5 rfl
      have k6 := C13.out.cell 6 rfl
      have hfin : ∀ wz, Below w.heap.size w wz → True := fun _ _ => trivial
      clear hfin HA1 HA2
      by_cases hbe : be = 0
      · obtain rfl : ae = 0 := HI1.out hbe
        subst hbe
        obtain ⟨q1, q2⟩ := HI2.out rfl
        go_wp2_with fail
        refine (awake_any _).mono ?_
        rintro e w14 ⟨rfl, hb⟩
        have HBel := Lib.hid (C13.out.call hb).bel
        clear hb C13 k5 k6
        go_wp2
        go_ret
        exact ⟨rfl, HBel.out⟩
      · have q1 : (be == 0) = false := by simpa using hbe
        have q2 : (be != 0) = true := by simpa using hbe
        clear hbe
        by_cases hae : ae = 0
        · subst hae
          go_wp2_with fail
          refine (awake_any _).mono ?_
          rintro e w14 ⟨rfl, hb⟩
          have HBel := Lib.hid (C13.out.call hb).bel
          clear hb C13 k5 k6
          go_wp2
          go_ret
          exact ⟨rfl, HBel.out⟩
        · have q3 : (ae == 0) = false := by simpa using hae
          clear hae
          go_wp2_with fail
          refine (awake_any _).mono ?_
          rintro e w14 ⟨rfl, hb⟩
          have HBel := Lib.hid (C13.out.call hb).bel
          clear hb C13 k5 k6
          go_wp2
          go_ret
          exact ⟨rfl, HBel.out⟩
end Go.Proofs.Ytafdagjdpnaddaa
