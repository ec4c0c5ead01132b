/- TopDipped: the walk. -/
import Derived.Deep.Cut
import Derived.Deep.CutBlock
import Derived.Test.YtpkggjobdmchlaaGreatDoorE35
import Derived.Test.YtpkggjobdmchlaaGreatDoorE34
import Derived.Test.YtpkggjobdmchlaaGreatDoorE21
import Derived.Test.YtpkggjobdmchlaaGreatDoorU21
namespace Go.Proofs.YtpkggjobdmchlaaGreatDoor
open Go.RowKit
def rowsD (l : List DDip) : List Value := l.flatMap dipV
theorem map_getD (p : List Nat) {i : Nat} (hi : i < p.length) : (p.map fun i : Nat => (i : Int)).getD i 0 = (p.getD i 0 : Nat) := by simp [List.getD_eq_getElem?_getD, hi]
theorem rowsD_take (ks : List DDip) {p : List Nat} {i : Nat} (hi : i < p.length) : rowsD ((planD ks p).take (i + 1)) = rowsD ((planD ks p).take i) ++ dipV (ks.getD (p.getD i 0) default) := by
  have hl : i < (planD ks p).length := by rw [planD_len]; exact hi
  rw [List.take_succ_eq_append_getElem hl]
  unfold rowsD
  rw [List.flatMap_append]
  have h := planD_get ks hi
  rw [List.getD_eq_getElem?_getD, List.getElem?_eq_getElem hl] at h
  simp only [Option.getD_some] at h
  rw [h]
  simp
theorem rowsD_at : ∀ (l : List DDip) {i j : Nat}, i < l.length → j < 4 → (rowsD l)[i * 4 + j]? = (dipV (l.getD i default))[j]?
  | [], _, _, h, _ => by simp at h
  | d :: r, i, j, h, hj => by
    have e : rowsD (d :: r) = dipV d ++ rowsD r := rfl
    have hl : (dipV d).length = 4 := rfl
    rw [e]
    cases i with
    | zero => rw [List.getElem?_append_left (by omega)]; simp
    | succ i =>
      rw [List.getElem?_append_right (by omega), hl, show (i + 1) * 4 + j - 4 = i * 4 + j by omega, rowsD_at r (by simpa using h) hj]
      rfl
/-- Warmed is called, then Follow; a taper's box is laid somewhere among them, and filled at the end. -/
structure FoW (W0 : World) (R : Array Value) (xs : List Int) (d10 d15 d16 : Bool) (y1 y2 : Value) (w' : World) : Prop where
  pl : PlG 34 W0 #[.int .i64 0, .int .i64 0, .int .i64 0] R d15 d16 y2 w'
  ints : d10 = true → d16 = false → IntsIn .i64 w'.heap.size w' y1 xs
theorem FoW.next {W0 w w' : World} {R : Array Value} {xs : List Int} {d10 d15 d16 : Bool} {y1 y2 : Value} (h : FoW W0 R xs d10 d15 d16 y1 y2 w) (hb : Below w.heap.size w w') : FoW W0 R xs d10 d15 d16 y1 y2 w' :=
  ⟨h.pl.next hb, fun a b => (h.ints a b).next hb⟩
abbrev dipC2 (c : Candle) (b : Int) (t : DTap) (vk : Value) (bound : Int) (vy : Value) : Array Value := #[.int .i64 c.wax, .int .i64 c.dia, .int .i64 c.draught, .int .i64 c.cold.1, .int .i64 c.cold.2, .int .u8 b, .int .i64 t.wick, .int .i64 t.top, .int .i64 t.foot, vk, .int .i64 bound, vy]
set_option maxRecDepth 100000 in
set_option maxHeartbeats 64000000 in
theorem dipped_law (q : WShop) (s : DShop) (c : Candle) (b : Int) (t : DTap) (ks : List DDip) (bound : Int) (yl : List Int) (hb : 0 ≤ b ∧ b ≤ 255) (hbd : -9223372036854775808 ≤ bound ∧ bound ≤ 9223372036854775807) (hy : ∀ x ∈ yl, 0 ≤ x ∧ x ≤ 65535)
    (vw vx v kv yv : Value) (w : World) (hq : WShopAt w.heap.size w vw vx q) (hs : DBathsIn w.heap.size w v s.baths) (hk : DipsIn w.heap.size w kv ks) (hyv : IntsIn .u16 w.heap.size w yv yl) (hm : ∃ m, w.cell? ⟨0, 0, none⟩ = some (.int .i64 m)) :
    Calls Tryz.prog 3 #[.agg (wshopC vw vx q), .agg (dshopC s v), .agg (dipC2 c b t kv bound yv)] w (fun e w' => e = .returned (.bool true) ∧ Below w.heap.size w w') := by
  obtain ⟨m, hm⟩ := hm
  have HM := Lib.hid hm
  have HM0 : Hid (0 < w.heap.size) := lt_of_cell0 hm
  have HQ := Lib.hid hq
  have HS := Lib.hid hs
  have HK := Lib.hid hk
  have HY := Lib.hid hyv
  have HBB := Lib.hid hb
  have HBD := Lib.hid hbd
  have HYB := Lib.hid hy
  obtain ⟨wa, wc, rfl, hwc, -⟩ := sl_shape hq.1
  obtain ⟨xa, xc, rfl, -, -⟩ := sl_shape hq.2
  obtain ⟨ba, bc, rfl, -, hbl⟩ := sl_shape hs
  obtain ⟨ka, kc, rfl, -, hkl⟩ := sl_shape hk
  obtain ⟨ya, yc, rfl, -⟩ := hyv
  clear hs hq hk hb hbd hy hm
  have C0 : Hid (Bs w [(w.heap.size, .cells #[(.slice wa q.wicks.length wc), (.slice xa q.waxes.length xc), .int .i64 q.flame.1, .int .i64 q.flame.2, .int .i64 q.pool.1, .int .i64 q.pool.2] 27), (w.heap.size + 1, .cells (dshopC s (.slice ba s.baths.length bc)) 30), (w.heap.size + 2, .cells #[.int .i64 c.wax, .int .i64 c.dia, .int .i64 c.draught, .int .i64 c.cold.1, .int .i64 c.cold.2, .int .u8 b, .int .i64 t.wick, .int .i64 t.top, .int .i64 t.foot, (.slice ka ks.length kc), .int .i64 bound, (.slice ya yl.length yc)] 40)] _) := Lib.hid ((((Bs.nil w).push _ rfl (.cells #[(.slice wa q.wicks.length wc), (.slice xa q.waxes.length xc), .int .i64 q.flame.1, .int .i64 q.flame.2, .int .i64 q.pool.1, .int .i64 q.pool.2] 27)).push (w.heap.size + 1) (by simp) (.cells (dshopC s (.slice ba s.baths.length bc)) 30)).push (w.heap.size + 2) (by simp) (.cells #[.int .i64 c.wax, .int .i64 c.dia, .int .i64 c.draught, .int .i64 c.cold.1, .int .i64 c.cold.2, .int .u8 b, .int .i64 t.wick, .int .i64 t.top, .int .i64 t.foot, (.slice ka ks.length kc), .int .i64 bound, (.slice ya yl.length yc)] 40))
  have H1 := fun w h => Lib.hid (check4_ref s (.slice ba s.baths.length bc) w h)
  have HC := fun w h => Lib.hid (candle3_ref q c (.slice wa q.wicks.length wc) (.slice xa q.waxes.length xc) w h)
  have HOK : Hid (candleE q c = 0 → WOk q c) := candle_ok
  have HT := fun w => Lib.hid (taper4_ref t w)
  generalize candleE q c = CE at *
  go_enter Tryz.func3, Tryz.ntmps3
  go_upto_region 1 with fail
  obtain ⟨w0, HW0⟩ : ∃ z, Hid ((((w.alloc (.cells #[(.slice wa q.wicks.length wc), (.slice xa q.waxes.length xc), .int .i64 q.flame.1, .int .i64 q.flame.2, .int .i64 q.pool.1, .int .i64 q.pool.2] 27)).alloc (.cells (dshopC s (.slice ba s.baths.length bc)) 30)).alloc (.cells #[.int .i64 c.wax, .int .i64 c.dia, .int .i64 c.draught, .int .i64 c.cold.1, .int .i64 c.cold.2, .int .u8 b, .int .i64 t.wick, .int .i64 t.top, .int .i64 t.foot, (.slice ka ks.length kc), .int .i64 bound, (.slice ya yl.length yc)] 40)) = z) := ⟨_, rfl⟩
  rw [HW0.out] at C0 ⊢
  clear HW0
  go_wp2_with (first | (refine wpList_load_row rfl 30 _ rfl _ rfl _ _ _ _ (C0.out.get 1 rfl) Tryz.underlying30 rfl infoDS ?_))
  refine (H1 _ ((HS.out.below C0.out.bel).mono C0.out.bel.size)).out.mono ?_
  rintro e w1 ⟨p1, p2, E1, rfl, hE1, hb⟩
  have C1 := Lib.hid (C0.out.call hb)
  have HE1 := Lib.hid hE1
  clear hb hE1 C0 H1
  have hc0 := C1.out.cell 2 rfl 0
  have hc1 := C1.out.cell 2 rfl 1
  have hc2 := C1.out.cell 2 rfl 2
  have hc3 := C1.out.cell 2 rfl 3
  have hc4 := C1.out.cell 2 rfl 4
  have ht0 := C1.out.cell 2 rfl 6
  have ht1 := C1.out.cell 2 rfl 7
  have ht2 := C1.out.cell 2 rfl 8
  have hq0 := C1.out.cell 0 rfl 0
  have hq1 := C1.out.cell 0 rfl 1
  have hq2 := C1.out.cell 0 rfl 2
  have hq3 := C1.out.cell 0 rfl 3
  have hq4 := C1.out.cell 0 rfl 4
  have hq5 := C1.out.cell 0 rfl 5
  go_wp2_with fail
  refine (HC _ ((HQ.out.below C1.out.bel).mono C1.out.bel.size)).out.mono ?_
  rintro e w2 ⟨E2, rfl, hE2, hb⟩
  have C2 := Lib.hid (C1.out.call hb)
  have HE2 := Lib.hid hE2
  clear hb hE2 C1 HC hc0 hc1 hc2 hc3 hc4 ht0 ht1 ht2 hq0 hq1 hq2 hq3 hq4 hq5
  by_cases h2 : E2 = 0
  case neg =>
    have hq1 : (E2 != 0) = true := by simpa using h2
    clear h2 HOK HE2 HE1 HT
    go_wp2_with fail
    refine (awake3_any _).mono ?_
    rintro e wa1 ⟨rfl, hb⟩
    have CA := Lib.hid (C2.out.call hb)
    clear hb
    go_wp2_with fail
    refine (awake4_any _ ⟨m, (CA.out.bel.cell (p := ⟨0, 0, none⟩) HM0.out).trans HM.out⟩).mono ?_
    rintro e wa2 ⟨rfl, hb⟩
    have CB := Lib.hid (CA.out.call hb)
    clear hb
    go_wp2_with fail
    go_ret
    exact ⟨rfl, CB.out.bel⟩
  subst h2
  have HWO := Lib.hid (HOK.out (HE2.out (by simp)))
  clear HE2 HOK
  by_cases h1 : E1 = 0
  case neg =>
    have hq1 : (E1 != 0) = true := by simpa using h1
    clear h1 HE1 HT
    go_wp2_with fail
    refine (awake3_any _).mono ?_
    rintro e wa1 ⟨rfl, hb⟩
    have CA := Lib.hid (C2.out.call hb)
    clear hb
    go_wp2_with fail
    refine (awake4_any _ ⟨m, (CA.out.bel.cell (p := ⟨0, 0, none⟩) HM0.out).trans HM.out⟩).mono ?_
    rintro e wa2 ⟨rfl, hb⟩
    have CB := Lib.hid (CA.out.call hb)
    clear hb
    go_wp2_with fail
    go_ret
    exact ⟨rfl, CB.out.bel⟩
  subst h1
  have HSO := Lib.hid (HE1.out rfl)
  clear HE1
  have hc0 := C2.out.cell 2 rfl 0
  have hc1 := C2.out.cell 2 rfl 1
  have hc2 := C2.out.cell 2 rfl 2
  have hc3 := C2.out.cell 2 rfl 3
  have hc4 := C2.out.cell 2 rfl 4
  have ht0 := C2.out.cell 2 rfl 6
  have ht1 := C2.out.cell 2 rfl 7
  have ht2 := C2.out.cell 2 rfl 8
  have hq0 := C2.out.cell 0 rfl 0
  have hq1 := C2.out.cell 0 rfl 1
  have hq2 := C2.out.cell 0 rfl 2
  have hq3 := C2.out.cell 0 rfl 3
  have hq4 := C2.out.cell 0 rfl 4
  have hq5 := C2.out.cell 0 rfl 5
  go_wp2_with fail
  refine (HT _).out.mono ?_
  rintro e w3 ⟨E3, rfl, hE3, hb⟩
  have C3 := Lib.hid (C2.out.call hb)
  have HE3 := Lib.hid hE3
  clear hb hE3 C2 HT hc0 hc1 hc2 hc3 hc4 ht0 ht1 ht2 hq0 hq1 hq2 hq3 hq4 hq5
  by_cases h3 : E3 = 0
  case neg =>
    have hq1 : (E3 != 0) = true := by simpa using h3
    clear h3 HE3
    go_wp2_with fail
    refine (awake3_any _).mono ?_
    rintro e wa1 ⟨rfl, hb⟩
    have CA := Lib.hid (C3.out.call hb)
    clear hb
    go_wp2_with fail
    refine (awake4_any _ ⟨m, (CA.out.bel.cell (p := ⟨0, 0, none⟩) HM0.out).trans HM.out⟩).mono ?_
    rintro e wa2 ⟨rfl, hb⟩
    have CB := Lib.hid (CA.out.call hb)
    clear hb
    go_wp2_with fail
    go_ret
    exact ⟨rfl, CB.out.bel⟩
  subst h3
  have HTO := Lib.hid (HE3.out rfl)
  clear HE3
  have hc0 := C3.out.cell 2 rfl 0
  have hc1 := C3.out.cell 2 rfl 1
  have hc2 := C3.out.cell 2 rfl 2
  have hc3 := C3.out.cell 2 rfl 3
  have hc4 := C3.out.cell 2 rfl 4
  have ht0 := C3.out.cell 2 rfl 6
  have ht1 := C3.out.cell 2 rfl 7
  have ht2 := C3.out.cell 2 rfl 8
  have hq0 := C3.out.cell 0 rfl 0
  have hq1 := C3.out.cell 0 rfl 1
  have hq2 := C3.out.cell 0 rfl 2
  have hq3 := C3.out.cell 0 rfl 3
  have hq4 := C3.out.cell 0 rfl 4
  have hq5 := C3.out.cell 0 rfl 5
  have hbw := C3.out.cell 2 rfl 5
  have hbb := HBB.out
  obtain ⟨n, hn⟩ : ∃ n, q.wicks.length = n := ⟨_, rfl⟩
  have hn1' := HWO.out.nw1
  have hn12 := HWO.out.nw12
  rw [hn] at hn1' hn12
  have HN := Lib.hid hn
  obtain ⟨k, hk⟩ : ∃ k : Nat, b % (n : Int) = k := ⟨(b % (n : Int)).toNat, by have := Int.emod_nonneg b (show (n : Int) ≠ 0 by omega); omega⟩
  have hkn : k < n := by have := Int.emod_lt_of_pos b (show (0 : Int) < (n : Int) by omega); omega
  have HKM := Lib.hid hk
  have HKN := Lib.hid hkn
  clear hn hk hkn
  rw [HN.out] at hq0
  go_upto_region 5 with fail
  rw [HKM.out]
  clear hq0 hbw hbb HKM HBB
  have hq0 := C3.out.cell 0 rfl 0
  have hkq : k < q.wicks.length := by rw [HN.out]; exact HKN.out
  have HKQ := Lib.hid hkq
  have HSZ := Lib.hid (Sizes_ok HWO.out k hkq (.slice wa q.wicks.length wc) (.slice xa q.waxes.length xc) w3 ((HQ.out.below C3.out.bel).mono C3.out.bel.size))
  have HES : Hid (sizesE q c k = 0 ∨ sizesE q c k = 9) := by unfold Hid sizesE; split <;> simp
  have HSU := Lib.hid (fun h => sizes_suit HWO.out (k := k) h)
  clear hkq hn1' hn12
  generalize sizesE q c k = ES at *
  generalize sizesV q c k = SV at *
  obtain ⟨lo, hiD⟩ := SV
  simp only at HSZ HSU
  go_wp2_with fail
  refine HSZ.out.mono ?_
  rintro e w4 ⟨rfl, hb⟩
  have C4 := Lib.hid (C3.out.call hb)
  clear hb C3 HSZ hc0 hc1 hc2 hc3 hc4 ht0 ht1 ht2 hq0 hq1 hq2 hq3 hq4 hq5
  have hbs := (Below.refl w4.heap.size w4).alloc (Nat.le_refl _) (.cells #[.int .i64 lo, .int .i64 hiD] 25)
  have C5 := Lib.hid (C4.out.call hbs)
  have HD5 := Lib.hid (heap_alloc_new w4 (.cells #[.int .i64 lo, .int .i64 hiD] 25))
  clear hbs
  go_upto_region 6 with fail
  generalize hwd : w4.alloc (.cells #[.int .i64 lo, .int .i64 hiD] 25) = w5 at *
  clear hwd
  rcases HES.out with h4 | h4
  rotate_left
  · subst h4
    clear HSU HES HD5
    go_wp2_with fail
    refine (awake3_any _).mono ?_
    rintro e wa1 ⟨rfl, hb⟩
    have CA := Lib.hid (C5.out.call hb)
    clear hb
    go_wp2_with fail
    refine (awake4_any _ ⟨m, (CA.out.bel.cell (p := ⟨0, 0, none⟩) HM0.out).trans HM.out⟩).mono ?_
    rintro e wa2 ⟨rfl, hb⟩
    have CB := Lib.hid (CA.out.call hb)
    clear hb
    go_wp2_with fail
    go_ret
    exact ⟨rfl, CB.out.bel⟩
  subst h4
  obtain ⟨hlh, hdia⟩ := HSU.out rfl
  have HLH := Lib.hid hlh
  have HDIA := Lib.hid hdia
  clear HSU HES hlh hdia
  have hl0 := (cell_of_row _ _ 0 _ _ _ HD5.out)
  have hl1 := (cell_of_row _ _ 1 _ _ _ HD5.out)
  have hc0 := C5.out.cell 2 rfl 0
  have hc1 := C5.out.cell 2 rfl 1
  have hc2 := C5.out.cell 2 rfl 2
  have hc3 := C5.out.cell 2 rfl 3
  have hc4 := C5.out.cell 2 rfl 4
  have ht0 := C5.out.cell 2 rfl 6
  have ht1 := C5.out.cell 2 rfl 7
  have ht2 := C5.out.cell 2 rfl 8
  have hq0 := C5.out.cell 0 rfl 0
  have hq1 := C5.out.cell 0 rfl 1
  have hq2 := C5.out.cell 0 rfl 2
  have hq3 := C5.out.cell 0 rfl 3
  have hq4 := C5.out.cell 0 rfl 4
  have hq5 := C5.out.cell 0 rfl 5
  have hkk := C5.out.cell 2 rfl 9
  have hbo := C5.out.cell 2 rfl 10
  obtain ⟨hlo1, hlo2, hlo3⟩ := HLH.out
  have hw1 : wrap64 (100 * lo) = 100 * lo := wrapU (by omega)
  have hw2 : wrap64 (100 * hiD) = 100 * hiD := wrapU (by omega)
  have HFE := Lib.hid (fewest_any HSO.out HTO.out (100 * lo) (100 * hiD) bound (by omega) HBD.out ks (.slice ba s.baths.length bc) (.slice ka ks.length kc) w5 ((HS.out.below C5.out.bel).mono C5.out.bel.size) ((HK.out.below C5.out.bel).mono C5.out.bel.size))
  go_upto_region 8 with fail
  go_wp2_with (first | (refine wpList_load_row rfl 30 _ rfl _ rfl _ _ _ _ (C5.out.get 1 rfl) Tryz.underlying30 rfl infoDS ?_))
  refine HFE.out.mono ?_
  rintro e w6 ⟨u, E6, rfl, hb, hcase⟩
  have C6 := Lib.hid (C5.out.call hb)
  have HCS := Lib.hid hcase
  clear hb hcase C5 HFE hl0 hl1 hkk hbo hw1 hw2 HD5 hc0 hc1 hc2 hc3 hc4 ht0 ht1 ht2 hq0 hq1 hq2 hq3 hq4 hq5
  by_cases h6 : E6 = 0
  case neg =>
    have hq1 : (E6 != 0) = true := by simpa using h6
    clear h6 HCS
    go_wp2_with fail
    refine (awake3_any _).mono ?_
    rintro e wa1 ⟨rfl, hb⟩
    have CA := Lib.hid (C6.out.call hb)
    clear hb
    go_wp2_with fail
    refine (awake4_any _ ⟨m, (CA.out.bel.cell (p := ⟨0, 0, none⟩) HM0.out).trans HM.out⟩).mono ?_
    rintro e wa2 ⟨rfl, hb⟩
    have CB := Lib.hid (CA.out.call hb)
    clear hb
    go_wp2_with fail
    go_ret
    exact ⟨rfl, CB.out.bel⟩
  subst h6
  obtain ⟨-, hfo, q', p, hiq, hfp, hui⟩ : (0 : Int) = 0 ∧ FewOk s ks bound ∧ ∃ q' p, IsQ s t (100 * lo) (100 * hiD) bound ks q' ∧ fewR q' = some p ∧ IntsIn .i64 w6.heap.size w6 u (p.map fun i : Nat => (i : Int)) := by
    rcases HCS.out with ⟨h, -⟩ | h
    · exact absurd rfl h
    · exact h
  have hpk : PlanOk s ks := ⟨by have := hfo.n5; omega, fun i hi => hfo.all _ (by rw [List.getD_eq_getElem?_getD, List.getElem?_eq_getElem hi]; exact List.getElem_mem hi)⟩
  obtain ⟨hp10, hpl, hpo, hway⟩ := dipped_plain HSO.out hfo.n5 hfo.all hiq hfp
  have HP10 := Lib.hid hp10
  have HPL := Lib.hid hpl
  have HPO := Lib.hid hpo
  have HWAY := Lib.hid hway
  have HUI := Lib.hid hui
  have hk5 := hfo.n5
  have HPR := Lib.hid (plan4_ref s ks (.slice ba s.baths.length bc) (.slice ka ks.length kc) w6 ⟨_, _, rfl⟩ (by have := HSO.out.n6; omega) ((HK.out.below C6.out.bel).mono C6.out.bel.size))
  have HPK := Lib.hid hpk
  clear HCS hfo hiq hfp hpl hpo hway hui hpk hp10
  have hkk := C6.out.cell 2 rfl 9
  have hs0 := C6.out.cell 1 rfl 0
  have hs1 := C6.out.cell 1 rfl 1
  have hs2 := C6.out.cell 1 rfl 2
  have hs3 := C6.out.cell 1 rfl 3
  have hs4 := C6.out.cell 1 rfl 4
  have hs5 := C6.out.cell 1 rfl 5
  have hs6 := C6.out.cell 1 rfl 6
  have hs7 := C6.out.cell 1 rfl 7
  have hs8 := C6.out.cell 1 rfl 8
  go_wp2_with fail
  refine HPR.out.mono ?_
  rintro e w7 ⟨E7, rfl, hE7, hb⟩
  obtain rfl : E7 = 0 := hE7.2 HPK.out
  have C7 := Lib.hid (C6.out.call hb)
  replace HUI := Lib.hid ((HUI.out.below hb).mono hb.size)
  clear hb hE7 C6 HPR HPK hkk hs0 hs1 hs2 hs3 hs4 hs5 hs6 hs7 hs8
  obtain ⟨PN, hPN⟩ : ∃ z, p.length = z := ⟨_, rfl⟩
  have HPN := Lib.hid hPN
  obtain ⟨ua, uc, rfl, -, -⟩ := id HUI.out
  rw [List.length_map, hPN]
  have hUL : (p.map fun i : Nat => (i : Int)).length = PN := by rw [List.length_map, hPN]
  have HUI2 : Hid (IntsIn .i64 w7.heap.size w7 (.slice ua PN uc) (p.map fun i : Nat => (i : Int))) := by have h := HUI.out; rw [hUL] at h; exact h
  clear hUL hPN HUI
  go_wp2_with fail
  go_loopw [13, 14] (fun pv iv wr => ∃ (i : Nat) (rv : Value), rv = pv ∧ iv = .int .i64 i ∧ i ≤ PN ∧ Below w7.heap.size w7 wr ∧ wr.ownsRow w7.heap.size 54 4 rv i (rowsD ((planD ks p).take i))) (fun _ iv _ => PN - (intOf iv).toNat)
  case atStart => exact ⟨0, _, rfl, rfl, by omega, Below.refl _ _, World.ownsRow_nil _ _ 54 4⟩
  case round =>
    obtain ⟨i, pv, rfl, rfl, hi, hb, hrow⟩ := hrel
    have CR := Lib.hid (C7.out.call hb)
    have HB := Lib.hid hb
    have HR := Lib.hid hrow
    clear hb hrow
    by_cases hil : i < PN
    · obtain ⟨ub, uo, uc', he, hub, hue⟩ := getD_cell HUI2.out (i := i) (by rw [List.length_map, HPN.out]; exact hil)
      have e1 := (Value.slice.inj he).1
      subst e1
      clear he
      have hpi : i < p.length := by rw [HPN.out]; exact hil
      rw [map_getD p hpi] at hue
      obtain ⟨j, hj⟩ : ∃ z, p.getD i 0 = z := ⟨_, rfl⟩
      rw [hj] at hue
      have hjk : j < ks.length := by rw [← hj]; exact HPL.out _ (by rw [List.getD_eq_getElem?_getD, List.getElem?_eq_getElem hpi]; exact List.getElem_mem hpi)
      have HXS : Hid (rowsD ((planD ks p).take (i + 1)) = rowsD ((planD ks p).take i) ++ dipV (ks.getD j default)) := by unfold Hid; rw [rowsD_take ks hpi, hj]
      obtain ⟨kb, ko, he, hkb, k0, k1, k2, k3⟩ := HK.out.at' hjk
      cases he
      have HUE := Lib.hid ((HB.out.cell (p := ⟨ub, uo + i, none⟩) hub).trans hue)
      have HUE7 := Lib.hid hue
      have HUB7 := Lib.hid hub
      have HKB7 : Hid (kb < w7.heap.size) := Nat.lt_of_lt_of_le hkb C7.out.bel.size
      have HUB : Hid (ub < wr.heap.size) := Nat.lt_of_lt_of_le hub HB.out.size
      have HKB : Hid (kb < wr.heap.size) := Nat.lt_of_lt_of_le hkb CR.out.bel.size
      generalize ks.getD j default = dd at *
      have HK0 := Lib.hid ((CR.out.bel.cell (p := ⟨kb, ko + j * 4, none⟩) hkb).trans k0)
      have HK70 := Lib.hid ((C7.out.bel.cell (p := ⟨kb, ko + j * 4, none⟩) hkb).trans k0)
      have HK1 := Lib.hid ((CR.out.bel.cell (p := ⟨kb, ko + j * 4 + 1, none⟩) hkb).trans k1)
      have HK71 := Lib.hid ((C7.out.bel.cell (p := ⟨kb, ko + j * 4 + 1, none⟩) hkb).trans k1)
      have HK2 := Lib.hid ((CR.out.bel.cell (p := ⟨kb, ko + j * 4 + 2, none⟩) hkb).trans k2)
      have HK72 := Lib.hid ((C7.out.bel.cell (p := ⟨kb, ko + j * 4 + 2, none⟩) hkb).trans k2)
      have HK3 := Lib.hid ((CR.out.bel.cell (p := ⟨kb, ko + j * 4 + 3, none⟩) hkb).trans k3)
      have HK73 := Lib.hid ((C7.out.bel.cell (p := ⟨kb, ko + j * 4 + 3, none⟩) hkb).trans k3)
      have hii : (i : Int) < (PN : Int) := by omega
      have hji : (j : Int) < (ks.length : Int) := by omega
      have HJI := Lib.hid hji
      clear k0 k1 k2 k3 hue hub hkb hj hpi hjk
      go_upto_region 15 with fail
      refine wp_region_inv0 (by kernel_rfl) (by kernel_rfl) (fun D w' => Below wr.heap.size wr w') (Below.refl _ _).drew ?_
      iterate 2
        (apply obl_det
         case hrun =>
           intro D y wz hW hD R hR
           have HRR := Lib.hid hR
           clear hR
           have HW := Lib.hid hW
           clear hW hD
           go_wp2_with fail
           exact HRR.out _ HW.out
         case hnp => rfl
         case hv => first | exact ⟨_, fun _ => rfl⟩ | exact ⟨undef, fun _ => rfl⟩)
      apply obl_det
      case hrun =>
        intro D y wz hW hD R hR
        have HRR := Lib.hid hR
        clear hR
        have HW := Lib.hid hW
        have h1 := hii
        clear hW hD
        go_wp2_with fail
        exact HRR.out _ HW.out
      case hnp => rfl
      case hv => first | exact ⟨_, fun _ => rfl⟩ | exact ⟨undef, fun _ => rfl⟩
      apply obl_det
      case hrun =>
        intro D y wz hW hD R hR
        have HRR := Lib.hid hR
        clear hR
        have HW := Lib.hid hW
        have h1 := (HW.out.cell (p := ⟨ub, uo + i, none⟩) HUB.out).trans HUE.out
        clear hW hD
        go_wp2_with fail
        exact HRR.out _ HW.out
      case hnp => rfl
      case hv => first | exact ⟨_, fun _ => rfl⟩ | exact ⟨undef, fun _ => rfl⟩
      apply obl_det
      case hrun =>
        intro D y wz hW hD R hR
        have HRR := Lib.hid hR
        clear hR
        have HW := Lib.hid hW
        have h1 : (0 : Int) ≤ (j : Int) := by omega
        clear hW hD
        go_wp2_with fail
        exact HRR.out _ HW.out
      case hnp => rfl
      case hv => first | exact ⟨_, fun _ => rfl⟩ | exact ⟨undef, fun _ => rfl⟩
      iterate 3
        (apply obl_det
         case hrun =>
           intro D y wz hW hD R hR
           have HRR := Lib.hid hR
           clear hR
           have HW := Lib.hid hW
           clear hW hD
           go_wp2_with fail
           exact HRR.out _ HW.out
         case hnp => rfl
         case hv => first | exact ⟨_, fun _ => rfl⟩ | exact ⟨undef, fun _ => rfl⟩)
      apply obl_det
      case hrun =>
        intro D y wz hW hD R hR
        have HRR := Lib.hid hR
        clear hR
        have HW := Lib.hid hW
        have h1 := hii
        clear hW hD
        go_wp2_with fail
        exact HRR.out _ HW.out
      case hnp => rfl
      case hv => first | exact ⟨_, fun _ => rfl⟩ | exact ⟨undef, fun _ => rfl⟩
      apply obl_det
      case hrun =>
        intro D y wz hW hD R hR
        have HRR := Lib.hid hR
        clear hR
        have HW := Lib.hid hW
        have h1 := (HW.out.cell (p := ⟨ub, uo + i, none⟩) HUB.out).trans HUE.out
        clear hW hD
        go_wp2_with fail
        exact HRR.out _ HW.out
      case hnp => rfl
      case hv => first | exact ⟨_, fun _ => rfl⟩ | exact ⟨undef, fun _ => rfl⟩
      iterate 2
        (apply obl_det
         case hrun =>
           intro D y wz hW hD R hR
           have HRR := Lib.hid hR
           clear hR
           have HW := Lib.hid hW
           clear hW hD
           go_wp2_with fail
           exact HRR.out _ HW.out
         case hnp => rfl
         case hv => first | exact ⟨_, fun _ => rfl⟩ | exact ⟨undef, fun _ => rfl⟩)
      apply obl_det
      case hrun =>
        intro D y wz hW hD R hR
        have HRR := Lib.hid hR
        clear hR
        have HW := Lib.hid hW
        have h1 := (CR.out.call HW.out).cell 2 rfl 9
        clear hW hD
        go_wp2_with fail
        exact HRR.out _ HW.out
      case hnp => rfl
      case hv => first | exact ⟨_, fun _ => rfl⟩ | exact ⟨undef, fun _ => rfl⟩
      apply obl_det
      case hrun =>
        intro D y wz hW hD R hR
        have HRR := Lib.hid hR
        clear hR
        have HW := Lib.hid hW
        clear hW hD
        go_wp2_with fail
        exact HRR.out _ HW.out
      case hnp => rfl
      case hv => first | exact ⟨_, fun _ => rfl⟩ | exact ⟨undef, fun _ => rfl⟩
      apply obl_det
      case hrun =>
        intro D y wz hW hD R hR
        have HRR := Lib.hid hR
        clear hR
        have HW := Lib.hid hW
        have h1 := HJI.out
        clear hW hD
        go_wp2_with fail
        exact HRR.out _ HW.out
      case hnp => rfl
      case hv => first | exact ⟨_, fun _ => rfl⟩ | exact ⟨undef, fun _ => rfl⟩
      apply obl_det
      case hrun =>
        intro D y wz hW hD R hR
        have HRR := Lib.hid hR
        clear hR
        have HW := Lib.hid hW
        clear hW hD
        go_wp2_with fail
        exact HRR.out _ HW.out
      case hnp => rfl
      case hv => first | exact ⟨_, fun _ => rfl⟩ | exact ⟨undef, fun _ => rfl⟩
      apply obl_nil
      intro D y w8 hall hW
      have HB8 := Lib.hid hW
      clear hW hall
      go_upto_region 17 with fail
      have e1 : decide (ks.length ≤ j) = false := by simp only [decide_eq_false_iff_not]; omega
      have e2 : decide ((j : Int) < 0) = false := by simp
      simp only [e1, e2, Bool.or_false]
      clear e1 e2
      obtain ⟨pa, pc, rfl⟩ := ownsRow_slice HR.out
      have HR8 := Lib.hid (ownsRow.below HR.out HB8.out)
      have HL8 : Hid (w7.heap.size ≤ w8.heap.size) := Nat.le_trans HB.out.size HB8.out.size
      have hi10 : i < 30 := by have := HP10.out; have := HPN.out; omega
      have HB9 := Lib.hid (HB.out.trans (HB8.out.mono HB.out.size))
      clear CR HR HB HB8 HUE HUB HK0 HK1 HK2 HK3 HKB
      refine wp_region_inv1 (by kernel_rfl) (by kernel_rfl) [144, 145, 13] (fun D y w' => AppX w8 (w7.heap.size) 54 4 (.slice pa i pc) (i) (rowsD ((planD ks p).take i)) [.int .i64 dd.bath, .int .i64 dd.seconds, .int .i64 dd.pause, .bool dd.turned] (D 10) (D 11) (y 144) (y 145) w' ∧ (D 12 = false → y 13 = .slice pa i pc) ∧ (D 12 = true → y 13 = y 145)) ?_ ?F1 ?hF1 ?_
      · exact ⟨AppX.start HR8.out HL8.out, fun _ => rfl, fun h => (by cases h)⟩
      case hF1 =>
        intro y
        simp only [fill, List.foldl, Act.put, List.setIfInBounds_toArray, List.set]
        exact rfl
      apply obl_det
      case hrun =>
        intro D y wz hW hD R hR
        have HRR := Lib.hid hR
        clear hR
        have h15 : D 12 = false := hD.post _ 12 rfl (by kernel_rfl)
        refine wpList_mv rfl _ rfl (.slice pa i pc) (hW.2.1 h15) ?_
        have HW := Lib.hid hW
        clear hW hD
        go_wp2_with fail
        exact HRR.out _ HW.out
      case hnp => rfl
      case hv => first | exact ⟨_, fun _ => rfl⟩ | exact ⟨undef, fun _ => rfl⟩
      iterate 2
        (apply obl_det
         case hrun =>
           intro D y wz hW hD R hR
           have HRR := Lib.hid hR
           clear hR
           have HW := Lib.hid hW
           clear hW hD
           go_wp2_with fail
           exact HRR.out _ HW.out
         case hnp => rfl
         case hv => first | exact ⟨_, fun _ => rfl⟩ | exact ⟨undef, fun _ => rfl⟩)
      apply obl_det
      case hrun =>
        intro D y wz hW hD R hR
        have HRR := Lib.hid hR
        clear hR
        have HW := Lib.hid hW
        have h1 := (C7.out.call (HB9.out.trans HW.out.1.bel)).cell 2 rfl 9
        clear hW hD
        go_wp2_with fail
        exact HRR.out _ HW.out
      case hnp => rfl
      case hv => first | exact ⟨_, fun _ => rfl⟩ | exact ⟨undef, fun _ => rfl⟩
      iterate 2
        (apply obl_det
         case hrun =>
           intro D y wz hW hD R hR
           have HRR := Lib.hid hR
           clear hR
           have HW := Lib.hid hW
           clear hW hD
           go_wp2_with fail
           exact HRR.out _ HW.out
         case hnp => rfl
         case hv => first | exact ⟨_, fun _ => rfl⟩ | exact ⟨undef, fun _ => rfl⟩)
      apply obl_det
      case hrun =>
        intro D y wz hW hD R hR
        have HRR := Lib.hid hR
        clear hR
        have HW := Lib.hid hW
        have h1 := hii
        clear hW hD
        go_wp2_with fail
        exact HRR.out _ HW.out
      case hnp => rfl
      case hv => first | exact ⟨_, fun _ => rfl⟩ | exact ⟨undef, fun _ => rfl⟩
      apply obl_det
      case hrun =>
        intro D y wz hW hD R hR
        have HRR := Lib.hid hR
        clear hR
        have HW := Lib.hid hW
        have h1 := ((HB9.out.trans HW.out.1.bel).cell (p := ⟨ub, uo + i, none⟩) HUB7.out).trans HUE7.out
        clear hW hD
        go_wp2_with fail
        exact HRR.out _ HW.out
      case hnp => rfl
      case hv => first | exact ⟨_, fun _ => rfl⟩ | exact ⟨undef, fun _ => rfl⟩
      apply obl_det
      case hrun =>
        intro D y wz hW hD R hR
        have HRR := Lib.hid hR
        clear hR
        have HW := Lib.hid hW
        have h1 := HJI.out
        clear hW hD
        go_wp2_with fail
        exact HRR.out _ HW.out
      case hnp => rfl
      case hv => first | exact ⟨_, fun _ => rfl⟩ | exact ⟨undef, fun _ => rfl⟩
      apply obl_det
      case hrun =>
        intro D y wz hW hD R hR
        have HRR := Lib.hid hR
        clear hR
        have HW := Lib.hid hW
        have h0 := ((HB9.out.trans HW.out.1.bel).cell (p := ⟨kb, ko + j * 4, none⟩) HKB7.out).trans HK70.out
        have h1 := ((HB9.out.trans HW.out.1.bel).cell (p := ⟨kb, ko + j * 4 + 1, none⟩) HKB7.out).trans HK71.out
        have h2 := ((HB9.out.trans HW.out.1.bel).cell (p := ⟨kb, ko + j * 4 + 2, none⟩) HKB7.out).trans HK72.out
        have h3 := ((HB9.out.trans HW.out.1.bel).cell (p := ⟨kb, ko + j * 4 + 3, none⟩) HKB7.out).trans HK73.out
        clear hW hD
        go_wp2_with fail
        exact HRR.out _ HW.out
      case hnp => rfl
      case hv => first | exact ⟨_, fun _ => rfl⟩ | exact ⟨undef, fun _ => rfl⟩
      apply obl_priv 144
      case hd => rfl
      case hp => rfl
      case hrun =>
        intro D y wz hW hD R hR
        have HRR := Lib.hid hR
        clear hR
        have h13 : D 10 = false := hD.not
        have h14 : D 11 = false := hD.post _ 11 rfl (by kernel_rfl)
        have hA := hW.1
        rw [h13, h14] at hA
        have HA := Lib.hid hA.laid
        have HV := Lib.hid hW.2
        have H14 := Lib.hid h14
        clear hA hW hD h13 h14
        go_wp2_with fail
        refine HRR.out (.slice (some ⟨wz.heap.size, 0, none⟩) 1 1) _ ?_
        show AppX w8 (w7.heap.size) 54 4 (.slice pa i pc) (i) (rowsD ((planD ks p).take i)) [.int .i64 dd.bath, .int .i64 dd.seconds, .int .i64 dd.pause, .bool dd.turned] true (D 11) (.slice (some ⟨wz.heap.size, 0, none⟩) 1 1) (y 145) _ ∧ (D 12 = false → y 13 = .slice pa i pc) ∧ (D 12 = true → y 13 = y 145)
        rw [H14.out]
        exact ⟨HA.out, HV.out⟩
      apply obl_priv 145
      case hd => rfl
      case hp => rfl
      case hrun =>
        intro D y wz hW hD R hR
        have HRR := Lib.hid hR
        clear hR
        have h14 : D 11 = false := hD.not
        have h13 : D 10 = true := hD.pre _ 10 rfl (by kernel_rfl)
        have h15 : D 12 = false := hD.post _ 12 rfl (by kernel_rfl)
        have hA := hW.1
        rw [h13, h14] at hA
        have HA := Lib.hid hA
        have HV := Lib.hid (hW.2.1 h15)
        have H13 := Lib.hid h13
        have H15 := Lib.hid h15
        have hbase := hA.le
        have ho := hA.row rfl
        obtain ⟨g, hyb, hgc⟩ := hA.lay rfl rfl
        clear hA hW hD h13 h14 h15
        obtain ⟨i0, hi0, hz0, hz1, hz2⟩ := infoDDx
        refine wpList_append_own _ rfl _ _ 35 rfl (w7.heap.size) 54 i0 (.agg #[.int .i64 0, .int .i64 0, .int .i64 0, .bool false]) 4 32 Tryz.underlying35 hi0 hz0 hz1 hz2 rfl (by decide) _ _ _ rfl ho ⟨g, 0, none⟩ 1 1 [.int .i64 dd.bath, .int .i64 dd.seconds, .int .i64 dd.pause, .bool dd.turned] hyb rfl (cell_news _ _ _ _ hgc) (four_dip _ _ _ _) (by unfold maxLen; omega) (by omega) (by omega) ?_
        intro v' w12 hown12 hgrow12 _
        have HA2 := Lib.hid (HA.out.got hown12 hgrow12)
        clear ho hgc hown12 hgrow12 hi0 hz0 hz1 hz2 hyb
        go_wp2_with fail
        refine HRR.out v' _ ?_
        show AppX w8 (w7.heap.size) 54 4 (.slice pa i pc) (i) (rowsD ((planD ks p).take i)) [.int .i64 dd.bath, .int .i64 dd.seconds, .int .i64 dd.pause, .bool dd.turned] (D 10) true (y 144) v' _ ∧ (D 12 = false → y 13 = .slice pa i pc) ∧ (D 12 = true → y 13 = v')
        rw [H13.out]
        exact ⟨HA2.out, fun _ => HV.out, fun h => (by rw [H15.out] at h; cases h)⟩
      apply obl_priv 13
      case hd => rfl
      case hp => rfl
      case hrun =>
        intro D y wz hW hD R hR
        have HRR := Lib.hid hR
        clear hR
        have HA := Lib.hid hW.1
        clear hW hD
        go_wp2_with fail
        refine HRR.out (y 145) _ ?_
        show AppX w8 (w7.heap.size) 54 4 (.slice pa i pc) (i) (rowsD ((planD ks p).take i)) [.int .i64 dd.bath, .int .i64 dd.seconds, .int .i64 dd.pause, .bool dd.turned] (D 10) (D 11) (y 144) (y 145) _ ∧ (true = false → y 145 = .slice pa i pc) ∧ (true = true → y 145 = y 145)
        exact ⟨HA.out, fun h => (by cases h), fun _ => rfl⟩
      apply obl_nil
      intro D y w8 hall hW
      have h14 := hall 11 (by decide)
      have hy := hW.2.2 (hall 12 (by decide))
      have hA := hW.1
      rw [h14] at hA
      have HO8 := Lib.hid (hA.new rfl)
      have C8 := Lib.hid hA.bel
      clear hA hW hall h14
      rw [hy]
      clear hy
      generalize y 145 = yv at HO8 ⊢
      generalize y 144 = yb at ⊢
      go_wp2_with fail
      refine ⟨⟨i + 1, _, rfl, by push_cast; rfl, by omega, HB9.out.trans C8.out, by rw [HXS.out]; exact HO8.out⟩, ?_⟩
      simp [intOf]; omega
    · obtain rfl : i = PN := by omega
      have HTK : Hid ((planD ks p).take i = planD ks p) := List.take_of_length_le (by rw [planD_len, HPN.out]; exact Nat.le_refl _)
      rw [HTK.out] at HR
      have HDL : Hid ((planD ks p).length = i) := by rw [Hid, planD_len, HPN.out]
      have HDI : Hid (DipsIn wr.heap.size wr pv (planD ks p)) := dips_of (base := w7.heap.size) (by rw [HDL.out]; exact HR.out) (by rw [HDL.out]; have := HP10.out; have := HPN.out; omega) (fun i' j' h1 h2 => rowsD_at _ h1 h2)
      have HWI := warmed_in HSO.out HPO.out yl
      obtain ⟨hnl, hE1, hE2⟩ := HWAY.out _ (by simp) HWI
      have HWM := fun v lv yv w h1 h2 h3 => Lib.hid (warmed_any HSO.out HPO.out HYB.out v lv yv w h1 h2 h3)
      have HFO := fun v lv wv w h1 h2 h3 => Lib.hid (follow_ok HSO.out HTO.out HPO.out (warm := (List.range (planD ks p).length).map (warmedV s (planD ks p) yl)) (by simp) HWI hnl v lv wv w h1 h2 h3)
      clear hnl HWI HWAY HPL HPO HP10 HDL HTK HR C7 HUI2 hi
      unfold endF at hE1 hE2
      generalize stF s (t.top, t.foot) (planD ks p) ((List.range (planD ks p).length).map (warmedV s (planD ks p) yl)) (planD ks p).length = EE at *
      obtain ⟨E1, E2⟩ := EE
      simp only at hE1 hE2 HFO
      have HE1 := Lib.hid hE1
      have HE2 := Lib.hid hE2
      generalize (List.range (planD ks p).length).map (warmedV s (planD ks p) yl) = XS at *
      generalize planD ks p = PD at *
      obtain ⟨pa, pc, rfl, -, -⟩ := sl_shape HDI.out
      clear hE1 hE2 hil
      clear hlo1 hlo2 hlo3
      go_upto_region 18 with fail
      refine wp_region_inv1 (by kernel_rfl) (by kernel_rfl) [157, 15] (fun D y w' => FoW wr #[.int .i64 t.wick, .int .i64 E1, .int .i64 E2] XS (D 10) (D 15) (D 16) (y 157) (y 15) w') ⟨⟨(Below.refl _ _).drew, fun h => (by cases h)⟩, fun h => (by cases h)⟩ ?FR ?hFR ?_
      case hFR =>
        intro y
        simp only [fill, List.foldl, Act.put, List.setIfInBounds_toArray, List.set]
        exact rfl
      apply obl_det
      case hrun =>
        intro D y wz hW hD R hR
        have HRR := Lib.hid hR
        clear hR
        have HW := Lib.hid hW
        have CW := CR.out.call HW.out.pl.bel
        have h1 := CW.get 1 rfl
        clear CW
        clear hW hD
        refine wpList_load_row rfl 30 _ rfl _ rfl _ _ _ _ h1 Tryz.underlying30 rfl infoDS ?_
        go_wp2_with fail
        exact HRR.out _ HW.out
      case hnp => rfl
      case hv => first | exact ⟨_, fun _ => rfl⟩ | exact ⟨undef, fun _ => rfl⟩
      apply obl_det
      case hrun =>
        intro D y wz hW hD R hR
        have HRR := Lib.hid hR
        clear hR
        have HW := Lib.hid hW
        clear hW hD
        go_wp2_with fail
        exact HRR.out _ HW.out
      case hnp => rfl
      case hv => first | exact ⟨_, fun _ => rfl⟩ | exact ⟨undef, fun _ => rfl⟩
      apply obl_det
      case hrun =>
        intro D y wz hW hD R hR
        have HRR := Lib.hid hR
        clear hR
        have HW := Lib.hid hW
        clear hW hD
        go_wp2_with fail
        exact HRR.out _ HW.out
      case hnp => rfl
      case hv => first | exact ⟨_, fun _ => rfl⟩ | exact ⟨undef, fun _ => rfl⟩
      apply obl_det
      case hrun =>
        intro D y wz hW hD R hR
        have HRR := Lib.hid hR
        clear hR
        have HW := Lib.hid hW
        have CW := CR.out.call HW.out.pl.bel
        have ht0 := CW.cell 2 rfl 6
        have ht1 := CW.cell 2 rfl 7
        have ht2 := CW.cell 2 rfl 8
        clear CW
        clear hW hD
        go_wp2_with fail
        exact HRR.out _ HW.out
      case hnp => rfl
      case hv => first | exact ⟨_, fun _ => rfl⟩ | exact ⟨undef, fun _ => rfl⟩
      apply obl_det
      case hrun =>
        intro D y wz hW hD R hR
        have HRR := Lib.hid hR
        clear hR
        have HW := Lib.hid hW
        clear hW hD
        go_wp2_with fail
        exact HRR.out _ HW.out
      case hnp => rfl
      case hv => first | exact ⟨_, fun _ => rfl⟩ | exact ⟨undef, fun _ => rfl⟩
      apply obl_det
      case hrun =>
        intro D y wz hW hD R hR
        have HRR := Lib.hid hR
        clear hR
        have HW := Lib.hid hW
        have CW := CR.out.call HW.out.pl.bel
        have h1 := CW.get 1 rfl
        clear CW
        clear hW hD
        refine wpList_load_row rfl 30 _ rfl _ rfl _ _ _ _ h1 Tryz.underlying30 rfl infoDS ?_
        go_wp2_with fail
        exact HRR.out _ HW.out
      case hnp => rfl
      case hv => first | exact ⟨_, fun _ => rfl⟩ | exact ⟨undef, fun _ => rfl⟩
      apply obl_det
      case hrun =>
        intro D y wz hW hD R hR
        have HRR := Lib.hid hR
        clear hR
        have HW := Lib.hid hW
        clear hW hD
        go_wp2_with fail
        exact HRR.out _ HW.out
      case hnp => rfl
      case hv => first | exact ⟨_, fun _ => rfl⟩ | exact ⟨undef, fun _ => rfl⟩
      apply obl_det
      case hrun =>
        intro D y wz hW hD R hR
        have HRR := Lib.hid hR
        clear hR
        have HW := Lib.hid hW
        clear hW hD
        go_wp2_with fail
        exact HRR.out _ HW.out
      case hnp => rfl
      case hv => first | exact ⟨_, fun _ => rfl⟩ | exact ⟨undef, fun _ => rfl⟩
      apply obl_det
      case hrun =>
        intro D y wz hW hD R hR
        have HRR := Lib.hid hR
        clear hR
        have HW := Lib.hid hW
        clear hW hD
        go_wp2_with fail
        exact HRR.out _ HW.out
      case hnp => rfl
      case hv => first | exact ⟨_, fun _ => rfl⟩ | exact ⟨undef, fun _ => rfl⟩
      apply obl_det
      case hrun =>
        intro D y wz hW hD R hR
        have HRR := Lib.hid hR
        clear hR
        have HW := Lib.hid hW
        have CW := CR.out.call HW.out.pl.bel
        have h1 := CW.cell 2 rfl 11
        clear CW
        clear hW hD
        go_wp2_with fail
        exact HRR.out _ HW.out
      case hnp => rfl
      case hv => first | exact ⟨_, fun _ => rfl⟩ | exact ⟨undef, fun _ => rfl⟩
      apply obl_priv 157
      case hd => rfl
      case hp => rfl
      case hrun =>
        intro D y wz hW hD R hR
        have HRR := Lib.hid hR
        clear hR
        have h16 : D 16 = false := hD.post _ 16 rfl (by kernel_rfl)
        have HW := Lib.hid hW
        have CW := Lib.hid (CR.out.call HW.out.pl.bel)
        clear hW hD h16
        go_wp2_with fail
        refine (HWM _ _ _ _ ((HS.out.below CW.out.bel).mono CW.out.bel.size) ((HDI.out.below HW.out.pl.bel).mono HW.out.pl.bel.size) ((HY.out.below CW.out.bel).mono CW.out.bel.size)).out.mono ?_
        rintro e wn ⟨uu, rfl, hu, hb⟩
        have HN := Lib.hid (HW.out.next hb)
        have HU := Lib.hid hu
        clear hu hb
        go_wp2_with fail
        refine HRR.out uu _ ?_
        show FoW wr #[.int .i64 t.wick, .int .i64 E1, .int .i64 E2] XS true (D 15) (D 16) uu (y 15) _
        exact ⟨HN.out.pl, fun _ _ => HU.out⟩
      apply obl_det
      case hrun =>
        intro D y wz hW hD R hR
        have HRR := Lib.hid hR
        clear hR
        have h16 : D 16 = false := hD.post _ 16 rfl (by kernel_rfl)
        have HIN := Lib.hid (hW.ints (hD.pre _ 10 rfl (by kernel_rfl)) h16)
        clear h16
        have HW := Lib.hid hW
        have CW := Lib.hid (CR.out.call HW.out.pl.bel)
        clear hW hD
        go_wp2_with fail
        refine (HFO _ _ _ _ ((HS.out.below CW.out.bel).mono CW.out.bel.size) ((HDI.out.below HW.out.pl.bel).mono HW.out.pl.bel.size) HIN.out).out.mono ?_
        rintro e wn ⟨rfl, hb⟩
        have HN := Lib.hid (HW.out.next hb)
        clear hb
        go_wp2_with fail
        exact HRR.out _ HN.out
      case hnp => rfl
      case hv => first | exact ⟨_, fun _ => rfl⟩ | exact ⟨undef, fun _ => rfl⟩
      apply obl_det
      case hrun =>
        intro D y wz hW hD R hR
        have HRR := Lib.hid hR
        clear hR
        have HW := Lib.hid hW
        clear hW hD
        go_wp2_with fail
        exact HRR.out _ HW.out
      case hnp => rfl
      case hv => first | exact ⟨_, fun _ => rfl⟩ | exact ⟨undef, fun _ => rfl⟩
      apply obl_det
      case hrun =>
        intro D y wz hW hD R hR
        have HRR := Lib.hid hR
        clear hR
        have HW := Lib.hid hW
        clear hW hD
        go_wp2_with fail
        exact HRR.out _ HW.out
      case hnp => rfl
      case hv => first | exact ⟨_, fun _ => rfl⟩ | exact ⟨undef, fun _ => rfl⟩
      apply obl_det
      case hrun =>
        intro D y wz hW hD R hR
        have HRR := Lib.hid hR
        clear hR
        have HW := Lib.hid hW
        clear hW hD
        go_wp2_with fail
        exact HRR.out _ HW.out
      case hnp => rfl
      case hv => first | exact ⟨_, fun _ => rfl⟩ | exact ⟨undef, fun _ => rfl⟩
      apply obl_priv 15
      case hd => rfl
      case hp => rfl
      case hrun =>
        intro D y wz hW hD R hR
        have HRR := Lib.hid hR
        clear hR
        have h16 : D 16 = false := hD.post _ 16 rfl (by kernel_rfl)
        have HW := Lib.hid hW
        have H16 := Lib.hid h16
        clear hW hD h16
        go_wp2_with fail
        refine HRR.out (.pointer (some ⟨wz.heap.size, 0, none⟩)) _ ?_
        show FoW wr #[.int .i64 t.wick, .int .i64 E1, .int .i64 E2] XS (D 10) true (D 16) (y 157) (.pointer (some ⟨wz.heap.size, 0, none⟩)) _
        refine ⟨⟨HW.out.pl.bel.alloc HW.out.pl.bel.size _, fun _ => ⟨_, rfl, HW.out.pl.bel.size, ?_⟩⟩, (HW.out.next ((Below.refl _ _).alloc (Nat.le_refl _) _)).ints⟩
        rw [H16.out]
        exact heap_alloc_new _ _
      apply obl_det
      case hrun =>
        intro D y wz hW hD R hR
        have HRR := Lib.hid hR
        clear hR
        have h16 : D 16 = false := hD.not
        obtain ⟨gp, e, hgt, hcell⟩ := hW.pl.al (hD.pre _ 15 rfl (by kernel_rfl))
        rw [h16] at hcell
        have CC := Lib.hid (Bs.snoc (l := []) (w := wr) ⟨by simp, by simp, by simp, hW.pl.bel⟩ (by simp) hcell hgt)
        have E := Lib.hid e
        have HGT := Lib.hid hgt
        clear hW hD h16 hcell e hgt
        refine wpList_store_bs rfl 34 _ _ rfl CC.out 0 gp #[.int .i64 t.wick, .int .i64 E1, .int .i64 E2] _ _ rfl E.out rfl infoDT rfl (by simp [Value.oneCell']) ?_
        intro w4 hC4
        simp only [Act.put]
        go_simp
        exact HRR.out _ ⟨⟨hC4.bel, fun _ => ⟨gp, E.out, HGT.out, hC4.get 0 rfl⟩⟩, fun _ h => (by cases h)⟩
      case hnp => rfl
      case hv => first | exact ⟨_, fun _ => rfl⟩ | exact ⟨undef, fun _ => rfl⟩
      apply obl_det
      case hrun =>
        intro D y wz hW hD R hR
        have HRR := Lib.hid hR
        clear hR
        have HW := Lib.hid hW
        clear hW hD
        go_wp2_with fail
        exact HRR.out _ HW.out
      case hnp => rfl
      case hv => first | exact ⟨_, fun _ => rfl⟩ | exact ⟨undef, fun _ => rfl⟩
      apply obl_nil
      intro D y w8 hall hW
      obtain ⟨gp, e, hgt, hcell⟩ := hW.pl.al (hall 15 (by decide))
      rw [hall 16 (by decide)] at hcell
      have HGP : Hid (w8.heap[gp]? = some (.cells #[.int .i64 t.wick, .int .i64 E1, .int .i64 E2] 34)) := hcell
      have HGT := Lib.hid hgt
      have C8 := Lib.hid (CR.out.call hW.pl.bel)
      clear hW hall hcell hgt CR HFO HWM HDI
      rw [e]
      clear e
      generalize y 157 = y1 at *
      go_upto_region 21 with fail
      have h1 := cell_of_row _ _ 1 _ _ _ HGP.out
      have h2 := cell_of_row _ _ 2 _ _ _ HGP.out
      obtain ⟨ha1, ha2, ha3, ha4⟩ : 0 ≤ E1 ∧ E1 ≤ 200000 ∧ 0 ≤ E2 ∧ E2 ≤ 200000 := by have := HE1.out; have := HE2.out; have := HLH.out; omega
      go_upto_region 22 with fail
      have HFI := Lib.hid (four_in (lo := lo) (hi := hiD) (a := E1) (b := E2) (by have := HLH.out; omega) HLH.out.2.2 HE1.out HE2.out)
      have HZC : Hid (∃ SZ, w8.heap.size = SZ ∧ Bs w [(w.heap.size, .cells #[(.slice wa q.wicks.length wc), (.slice xa q.waxes.length xc), .int .i64 q.flame.1, .int .i64 q.flame.2, .int .i64 q.pool.1, .int .i64 q.pool.2] 27), (w.heap.size + 1, .cells (dshopC s (.slice ba s.baths.length bc)) 30), (w.heap.size + 2, .cells #[.int .i64 c.wax, .int .i64 c.dia, .int .i64 c.draught, .int .i64 c.cold.1, .int .i64 c.cold.2, .int .u8 b, .int .i64 t.wick, .int .i64 t.top, .int .i64 t.foot, (.slice ka ks.length kc), .int .i64 bound, (.slice ya yl.length yc)] 40), (SZ, .cells #[.int .i64 (E1 / 100), .int .i64 ((E1 + 99) / 100), .int .i64 (E2 / 100), .int .i64 ((E2 + 99) / 100)] 3)] (w8.alloc (.cells #[.int .i64 (E1 / 100), .int .i64 ((E1 + 99) / 100), .int .i64 (E2 / 100), .int .i64 ((E2 + 99) / 100)] 3))) := ⟨_, rfl, C8.out.push w8.heap.size rfl _⟩
      obtain ⟨SZ, hsz, hC9⟩ := HZC.out
      rw [hsz]
      generalize w8.alloc (.cells #[.int .i64 (E1 / 100), .int .i64 ((E1 + 99) / 100), .int .i64 (E2 / 100), .int .i64 ((E2 + 99) / 100)] 3) = w9 at *
      have C9 := Lib.hid hC9
      clear hC9 HZC hsz ha1 ha2 ha3 ha4 h1 h2 C8 HE1 HE2 HGP HGT
      go_wp2_with fail
      go_loopw [17] (fun jv wr => ∃ j : Nat, jv = .int .i64 j ∧ j ≤ 4 ∧ Bs w [(w.heap.size, .cells #[(.slice wa q.wicks.length wc), (.slice xa q.waxes.length xc), .int .i64 q.flame.1, .int .i64 q.flame.2, .int .i64 q.pool.1, .int .i64 q.pool.2] 27), (w.heap.size + 1, .cells (dshopC s (.slice ba s.baths.length bc)) 30), (w.heap.size + 2, .cells #[.int .i64 c.wax, .int .i64 c.dia, .int .i64 c.draught, .int .i64 c.cold.1, .int .i64 c.cold.2, .int .u8 b, .int .i64 t.wick, .int .i64 t.top, .int .i64 t.foot, (.slice ka ks.length kc), .int .i64 bound, (.slice ya yl.length yc)] 40), (SZ, .cells #[.int .i64 (E1 / 100), .int .i64 ((E1 + 99) / 100), .int .i64 (E2 / 100), .int .i64 ((E2 + 99) / 100)] 3)] wr) (fun jv _ => 4 - (intOf jv).toNat)
      case atStart => exact ⟨0, rfl, by omega, C9.out⟩
      case round =>
        obtain ⟨j, rfl, hj, hbs⟩ := hrel
        have CI := Lib.hid hbs
        clear hbs
        by_cases hj4 : j < 4
        · have hjj : (j : Int) < 4 := by omega
          have HSE : Hid (∃ EE : Int, wr.cell? ⟨SZ, j, none⟩ = some (.int .i64 EE) ∧ lo ≤ EE ∧ EE ≤ hiD) := by
            have h01 : j = 0 ∨ j = 1 ∨ j = 2 ∨ j = 3 := by omega
            rcases h01 with rfl | rfl | rfl | rfl
            · exact ⟨_, CI.out.cell 3 rfl 0, HFI.out _ (by simp)⟩
            · exact ⟨_, CI.out.cell 3 rfl 1, HFI.out _ (by simp)⟩
            · exact ⟨_, CI.out.cell 3 rfl 2, HFI.out _ (by simp)⟩
            · exact ⟨_, CI.out.cell 3 rfl 3, HFI.out _ (by simp)⟩
          obtain ⟨EE, hee, he1, he2⟩ := HSE.out
          obtain ⟨hfv, hwo⟩ := HDIA.out EE he1 he2
          have HFA := fun w h => Lib.hid (Faults_ok hwo k HKQ.out (.slice wa q.wicks.length wc) (.slice xa q.waxes.length xc) w h)
          rw [hfv] at HFA
          have HEE := Lib.hid hee
          clear HSE he1 he2 hfv hwo hee hj
          go_upto_region 25 with fail
          have CP := Lib.hid (CI.out.push _ rfl (.cells #[.int .i64 0, .int .i64 0, .int .i64 0, .int .i64 0, .int .i64 0] 32))
          have hc0 := CI.out.cell 2 rfl 0
          have hc1 := CI.out.cell 2 rfl 1
          have hc2 := CI.out.cell 2 rfl 2
          have hc3 := CI.out.cell 2 rfl 3
          have hc4 := CI.out.cell 2 rfl 4
          go_upto_region 26 with (refine wpList_store_bs rfl 32 _ _ rfl CP.out 4 _ #[.int .i64 c.wax, .int .i64 c.dia, .int .i64 c.draught, .int .i64 c.cold.1, .int .i64 c.cold.2] _ _ rfl rfl rfl infoWC rfl (by simp [Value.oneCell']) ?_; intro wA hC; have CA := Lib.hid hC; clear hC CP)
          try simp only [Act.put]
          clear hc0 hc1 hc2 hc3 hc4
          have hee : wA.cell? ⟨SZ, j, none⟩ = some (.int .i64 EE) := (CA.out.cell 3 rfl j).trans ((CI.out.cell 3 rfl j).symm.trans HEE.out)
          go_upto_region 27 with (refine wpList_cell_bs rfl 3 _ _ rfl CA.out 4 _ 1 _ _ rfl rfl (.int .i64 EE) rfl (by simp) rfl info3 ?_; intro wB hC; have CB := Lib.hid hC; clear hC CA)
          try simp only [Act.put]
          clear hee
          have CB2 : Hid (Bs w [(w.heap.size, .cells #[(.slice wa q.wicks.length wc), (.slice xa q.waxes.length xc), .int .i64 q.flame.1, .int .i64 q.flame.2, .int .i64 q.pool.1, .int .i64 q.pool.2] 27), (w.heap.size + 1, .cells (dshopC s (.slice ba s.baths.length bc)) 30), (w.heap.size + 2, .cells #[.int .i64 c.wax, .int .i64 c.dia, .int .i64 c.draught, .int .i64 c.cold.1, .int .i64 c.cold.2, .int .u8 b, .int .i64 t.wick, .int .i64 t.top, .int .i64 t.foot, (.slice ka ks.length kc), .int .i64 bound, (.slice ya yl.length yc)] 40), (SZ, .cells #[.int .i64 (E1 / 100), .int .i64 ((E1 + 99) / 100), .int .i64 (E2 / 100), .int .i64 ((E2 + 99) / 100)] 3), (wr.heap.size, .cells #[.int .i64 c.wax, .int .i64 EE, .int .i64 c.draught, .int .i64 c.cold.1, .int .i64 c.cold.2] 32)] wB) := CB.out
          clear CB
          have hq0 := CB2.out.cell 0 rfl 0
          have hq1 := CB2.out.cell 0 rfl 1
          have hq2 := CB2.out.cell 0 rfl 2
          have hq3 := CB2.out.cell 0 rfl 3
          have hq4 := CB2.out.cell 0 rfl 4
          have hq5 := CB2.out.cell 0 rfl 5
          have hk0 := CB2.out.cell 4 rfl 0
          have hk1 := CB2.out.cell 4 rfl 1
          have hk2 := CB2.out.cell 4 rfl 2
          have hk3 := CB2.out.cell 4 rfl 3
          have hk4 := CB2.out.cell 4 rfl 4
          go_wp2_with fail
          refine (HFA _ ((HQ.out.below CB2.out.bel).mono CB2.out.bel.size)).out.mono ?_
          rintro e wC ⟨fv, rfl, hfv, hb⟩
          have CC := Lib.hid (CB2.out.call hb)
          clear hb CB2 HFA hq0 hq1 hq2 hq3 hq4 hq5 hk0 hk1 hk2 hk3 hk4
          obtain ⟨fa, fc, rfl, -, -⟩ := id hfv
          clear hfv
          simp only [List.length_nil]
          go_wp2_with fail
          refine ⟨⟨j + 1, by push_cast; rfl, by omega, CC.out.sub [(w.heap.size, .cells #[(.slice wa q.wicks.length wc), (.slice xa q.waxes.length xc), .int .i64 q.flame.1, .int .i64 q.flame.2, .int .i64 q.pool.1, .int .i64 q.pool.2] 27), (w.heap.size + 1, .cells (dshopC s (.slice ba s.baths.length bc)) 30), (w.heap.size + 2, .cells #[.int .i64 c.wax, .int .i64 c.dia, .int .i64 c.draught, .int .i64 c.cold.1, .int .i64 c.cold.2, .int .u8 b, .int .i64 t.wick, .int .i64 t.top, .int .i64 t.foot, (.slice ka ks.length kc), .int .i64 bound, (.slice ya yl.length yc)] 40), (SZ, .cells #[.int .i64 (E1 / 100), .int .i64 ((E1 + 99) / 100), .int .i64 (E2 / 100), .int .i64 ((E2 + 99) / 100)] 3)] (by simp)⟩, ?_⟩
          simp [intOf]; omega
        · obtain rfl : j = 4 := by omega
          go_wp2_with fail
          refine (awake3_any _).mono ?_
          rintro e wa1 ⟨rfl, hb⟩
          have CA := Lib.hid (CI.out.call hb)
          clear hb
          go_wp2_with fail
          refine (awake4_any _ ⟨m, (CA.out.bel.cell (p := ⟨0, 0, none⟩) HM0.out).trans HM.out⟩).mono ?_
          rintro e wa2 ⟨rfl, hb⟩
          have CB := Lib.hid (CA.out.call hb)
          clear hb
          go_wp2_with fail
          go_ret
          exact ⟨rfl, CB.out.bel⟩
end Go.Proofs.YtpkggjobdmchlaaGreatDoor
