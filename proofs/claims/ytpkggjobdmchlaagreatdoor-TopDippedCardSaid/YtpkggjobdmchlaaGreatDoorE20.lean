/- dip.Follow at what is in order. -/
import Derived.Deep.Cut
import Derived.Deep.CutBlock
import Derived.Test.YtpkggjobdmchlaaGreatDoorE16
import Derived.Test.YtpkggjobdmchlaaGreatDoorE13
namespace Go.Proofs.YtpkggjobdmchlaaGreatDoor
open Go.RowKit
set_option maxRecDepth 100000 in
set_option maxHeartbeats 16000000 in
theorem findF1_ok (xb wb : Nat) (l : List DDip) (v : Value) (B : Nat) (w : World) (_hB : B ≤ w.heap.size) (hv : DipsIn B w v l) (J : Nat → World → Prop) (Jx : Int → World → Prop) (h0 : J 0 w) (hJ : ∀ i W W', J i W → Below W.heap.size W W' → J i W') (hJB : ∀ i W, J i W → Below B w W)
    (hf : ∀ i, i < l.length → ∀ W, J i W → Calls Tryz.prog 51 #[.int .i64 i, .agg (dipC (l.getD i default)), .pointer (some ⟨xb, 0, none⟩), .pointer (some ⟨wb, 0, none⟩)] W fun e W' => ∃ E : Int, e = .returned (.int .i64 E) ∧ ((E = 0 ∧ J (i + 1) W') ∨ (E ≠ 0 ∧ Jx E W'))) :
    Calls Tryz.prog 50 #[v, .func (.func 51) #[] #[.pointer (some ⟨xb, 0, none⟩), .pointer (some ⟨wb, 0, none⟩)]] w fun e W' => (e = .returned (.tuple #[.int .i64 0, .int .i64 0]) ∧ J l.length W') ∨ ∃ i E : Int, e = .returned (.tuple #[.int .i64 i, .int .i64 E]) ∧ E ≠ 0 ∧ Jx E W' := by
  obtain ⟨a, cap, rfl, hcap, hlm⟩ := sl_shape hv
  have HV := Lib.hid hv
  have HF := Lib.hid hf
  have HJ := Lib.hid hJ
  have HJB := Lib.hid hJB
  have HJ0 := Lib.hid h0
  clear hv hf h0 hJ hJB
  generalize hN : l.length = N at *
  have HNN := Lib.hid hN
  clear hN
  go_enter Tryz.func50, Tryz.ntmps50
  go_wp2_with fail
  go_loopw [5, 10] (fun ev iv wr => ∃ i : Nat, ev = .int .i64 0 ∧ iv = .int .i64 i ∧ i ≤ N ∧ J i wr) (fun _ iv _ => N - (intOf iv).toNat)
  case atStart => exact ⟨0, rfl, rfl, by omega, HJ0.out⟩
  case round =>
    clear HJ0
    obtain ⟨i, rfl, rfl, hi, hj⟩ := hrel
    have HJI := Lib.hid hj
    clear hj
    by_cases hil : i < N
    · have hii : (i : Int) < (N : Int) := by omega
      have HBB := Lib.hid (HJB.out _ _ HJI.out)
      obtain ⟨b, o, he, hbl, hx0, hx1, hx2, hx3⟩ := HV.out.at' (i := i) (by rw [HNN.out]; exact hil)
      subst he
      have HFI := Lib.hid (HF.out i hil)
      have hy0 := (HBB.out.cell (p := ⟨b, o + i * 4, none⟩) hbl).trans hx0
      have hy1 := (HBB.out.cell (p := ⟨b, o + i * 4 + 1, none⟩) hbl).trans hx1
      have hy2 := (HBB.out.cell (p := ⟨b, o + i * 4 + 2, none⟩) hbl).trans hx2
      have hy3 := (HBB.out.cell (p := ⟨b, o + i * 4 + 3, none⟩) hbl).trans hx3
      clear hx0 hx1 hx2 hx3 hbl HBB
      generalize l.getD i default = d at *
      have CP := Lib.hid ((Bs.nil wr).push _ rfl (.cells #[.int .i64 0, .int .i64 0, .int .i64 0, .bool false] 54))
      go_wp2_with (first | (refine wpList_store_bs rfl 54 _ _ rfl CP.out 0 _ _ _ _ rfl rfl rfl infoDD rfl (by simp [Value.oneCell']) ?_; intro w5 hC; have C5 : Hid (Bs wr [(wr.heap.size, .cells (dipC d) 54)] w5) := hC; clear hC CP hy0 hy1 hy2 hy3) | (refine wpList_load_row rfl 54 _ rfl _ rfl _ _ _ _ (C5.out.get 0 rfl) Tryz.underlying54 rfl infoDD ?_))
      refine (HFI.out _ (HJ.out _ _ _ HJI.out C5.out.bel)).mono ?_
      rintro e w6 ⟨E, rfl, (⟨rfl, hj6⟩ | ⟨hne, hx⟩)⟩
      · have HJ6 := Lib.hid hj6
        clear hj6 C5 HJI
        go_wp2_with fail
        refine ⟨⟨i + 1, rfl, by push_cast; rfl, by omega, HJ6.out⟩, ?_⟩
        simp [intOf]; omega
      · have HX := Lib.hid hx
        have HNE := Lib.hid hne
        have hq : (E != 0) = true := by simpa using hne
        clear hx hne C5 HJI
        go_wp2_with fail
        go_ret2
        exact .inr ⟨_, _, rfl, HNE.out, HX.out⟩
    · obtain rfl : i = N := by omega
      go_wp2_with fail
      go_ret2
      exact .inl ⟨rfl, HJI.out⟩
set_option maxRecDepth 100000 in
set_option maxHeartbeats 16000000 in
theorem findF2_ok (xb wb tb : Nat) (l : List DDip) (v : Value) (B : Nat) (w : World) (_hB : B ≤ w.heap.size) (hv : DipsIn B w v l) (J : Nat → World → Prop) (Jx : Int → World → Prop) (h0 : J 0 w) (hJ : ∀ i W W', J i W → Below W.heap.size W W' → J i W') (hJB : ∀ i W, J i W → Below B w W)
    (hf : ∀ i, i < l.length → ∀ W, J i W → Calls Tryz.prog 52 #[.int .i64 i, .agg (dipC (l.getD i default)), .pointer (some ⟨xb, 0, none⟩), .pointer (some ⟨wb, 0, none⟩), .pointer (some ⟨tb, 0, none⟩)] W fun e W' => ∃ E : Int, e = .returned (.int .i64 E) ∧ ((E = 0 ∧ J (i + 1) W') ∨ (E ≠ 0 ∧ Jx E W'))) :
    Calls Tryz.prog 50 #[v, .func (.func 52) #[] #[.pointer (some ⟨xb, 0, none⟩), .pointer (some ⟨wb, 0, none⟩), .pointer (some ⟨tb, 0, none⟩)]] w fun e W' => (e = .returned (.tuple #[.int .i64 0, .int .i64 0]) ∧ J l.length W') ∨ ∃ i E : Int, e = .returned (.tuple #[.int .i64 i, .int .i64 E]) ∧ E ≠ 0 ∧ Jx E W' := by
  obtain ⟨a, cap, rfl, hcap, hlm⟩ := sl_shape hv
  have HV := Lib.hid hv
  have HF := Lib.hid hf
  have HJ := Lib.hid hJ
  have HJB := Lib.hid hJB
  have HJ0 := Lib.hid h0
  clear hv hf h0 hJ hJB
  generalize hN : l.length = N at *
  have HNN := Lib.hid hN
  clear hN
  go_enter Tryz.func50, Tryz.ntmps50
  go_wp2_with fail
  go_loopw [5, 10] (fun ev iv wr => ∃ i : Nat, ev = .int .i64 0 ∧ iv = .int .i64 i ∧ i ≤ N ∧ J i wr) (fun _ iv _ => N - (intOf iv).toNat)
  case atStart => exact ⟨0, rfl, rfl, by omega, HJ0.out⟩
  case round =>
    clear HJ0
    obtain ⟨i, rfl, rfl, hi, hj⟩ := hrel
    have HJI := Lib.hid hj
    clear hj
    by_cases hil : i < N
    · have hii : (i : Int) < (N : Int) := by omega
      have HBB := Lib.hid (HJB.out _ _ HJI.out)
      obtain ⟨b, o, he, hbl, hx0, hx1, hx2, hx3⟩ := HV.out.at' (i := i) (by rw [HNN.out]; exact hil)
      subst he
      have HFI := Lib.hid (HF.out i hil)
      have hy0 := (HBB.out.cell (p := ⟨b, o + i * 4, none⟩) hbl).trans hx0
      have hy1 := (HBB.out.cell (p := ⟨b, o + i * 4 + 1, none⟩) hbl).trans hx1
      have hy2 := (HBB.out.cell (p := ⟨b, o + i * 4 + 2, none⟩) hbl).trans hx2
      have hy3 := (HBB.out.cell (p := ⟨b, o + i * 4 + 3, none⟩) hbl).trans hx3
      clear hx0 hx1 hx2 hx3 hbl HBB
      generalize l.getD i default = d at *
      have CP := Lib.hid ((Bs.nil wr).push _ rfl (.cells #[.int .i64 0, .int .i64 0, .int .i64 0, .bool false] 54))
      go_wp2_with (first | (refine wpList_store_bs rfl 54 _ _ rfl CP.out 0 _ _ _ _ rfl rfl rfl infoDD rfl (by simp [Value.oneCell']) ?_; intro w5 hC; have C5 : Hid (Bs wr [(wr.heap.size, .cells (dipC d) 54)] w5) := hC; clear hC CP hy0 hy1 hy2 hy3) | (refine wpList_load_row rfl 54 _ rfl _ rfl _ _ _ _ (C5.out.get 0 rfl) Tryz.underlying54 rfl infoDD ?_))
      refine (HFI.out _ (HJ.out _ _ _ HJI.out C5.out.bel)).mono ?_
      rintro e w6 ⟨E, rfl, (⟨rfl, hj6⟩ | ⟨hne, hx⟩)⟩
      · have HJ6 := Lib.hid hj6
        clear hj6 C5 HJI
        go_wp2_with fail
        refine ⟨⟨i + 1, rfl, by push_cast; rfl, by omega, HJ6.out⟩, ?_⟩
        simp [intOf]; omega
      · have HX := Lib.hid hx
        have HNE := Lib.hid hne
        have hq : (E != 0) = true := by simpa using hne
        clear hx hne C5 HJI
        go_wp2_with fail
        go_ret2
        exact .inr ⟨_, _, rfl, HNE.out, HX.out⟩
    · obtain rfl : i = N := by omega
      go_wp2_with fail
      go_ret2
      exact .inl ⟨rfl, HJI.out⟩
theorem stF_bound {s : DShop} (hs : DOk s) {t : DTap} (ht : TapOk t) {plan : List DDip} (hp : PlanOk s plan) {warm : List Int} (hw : WarmIn s plan warm) : ∀ i : Nat, i ≤ plan.length → (-(100000 + 25000000 * (i : Int)) ≤ (stF s (t.top, t.foot) plan warm i).1 ∧ (stF s (t.top, t.foot) plan warm i).1 ≤ 100000 + 25000000 * (i : Int)) ∧ -(100000 + 25000000 * (i : Int)) ≤ (stF s (t.top, t.foot) plan warm i).2 ∧ (stF s (t.top, t.foot) plan warm i).2 ≤ 100000 + 25000000 * (i : Int)
  | 0, _ => by
    have h1 := ht.wick
    have h2 := ht.top
    have h3 := ht.foot
    unfold stF
    simp only
    omega
  | i + 1, h => by
    have ih := stF_bound hs ht hp hw i (by omega)
    have hd := hp.2 i (by omega)
    have h1 := hw i (by omega)
    have h2 := hs.warm (plan.getD i default).bath.toNat (by have := hd.bath; omega)
    have h3 := grow_bound hs hd (warm := warm.getD i 0) (by unfold warmOf at h1; omega)
    rw [stF]
    unfold stepF
    simp only
    omega
set_option maxRecDepth 100000 in
set_option maxHeartbeats 16000000 in
theorem follow_ok {s : DShop} (hs : DOk s) {t : DTap} (ht : TapOk t) {plan : List DDip} (hp : PlanOk s plan) {warm : List Int} (hlen : warm.length = plan.length) (hwi : WarmIn s plan warm)
    (hnl : ∀ i, 0 < i → i ≤ plan.length → t.wick ≤ (stF s (t.top, t.foot) plan warm i).1 ∧ t.wick ≤ (stF s (t.top, t.foot) plan warm i).2) (v lv wv : Value) (w : World) (hv : DBathsIn w.heap.size w v s.baths) (hl : DipsIn w.heap.size w lv plan) (hw : IntsIn .i64 w.heap.size w wv warm) :
    Calls Tryz.prog 12 #[.agg (dshopC s v), .agg (tapC t), lv, wv] w fun e w' => e = .returned (.tuple #[.agg (tapC ⟨t.wick, (stF s (t.top, t.foot) plan warm plan.length).1, (stF s (t.top, t.foot) plan warm plan.length).2⟩), .int .i64 0]) ∧ Below w.heap.size w w' := by
  obtain ⟨va, vc, rfl, -, -⟩ := sl_shape hv
  obtain ⟨la, lc, rfl, -, -⟩ := sl_shape hl
  obtain ⟨wa, wc, rfl, -, -⟩ := id hw
  have HV := Lib.hid hv
  have HL := Lib.hid hl
  have HWW := Lib.hid hw
  have HS := Lib.hid hs
  have HT := Lib.hid ht
  have HP := Lib.hid hp
  have HWI := Lib.hid hwi
  have HNL := Lib.hid hnl
  have HLEN := Lib.hid hlen
  have HOP := fun v lv w h1 h2 => Lib.hid (dopen_ok hs ht plan v lv w h1 h2)
  rw [planE_zero.2 hp] at HOP
  have hne : ((warm.length : Int) != (plan.length : Int)) = false := by rw [hlen]; simp
  have hbn := stF_bound hs ht hp hwi
  have HBN := Lib.hid hbn
  clear hv hl hw hs ht hp hwi hnl hlen hbn
  have C0 : Hid (Bs w [(w.heap.size, .cells (dshopC s (.slice va s.baths.length vc)) 30), (w.heap.size + 1, .cells (tapC t) 34), (w.heap.size + 2, .cells #[(.slice wa warm.length wc)] 49), (w.heap.size + 3, .cells #[.int .i64 0, .int .i64 0, .int .i64 0] 34)] _) := Lib.hid (((((Bs.nil w).push _ rfl (.cells (dshopC s (.slice va s.baths.length vc)) 30)).push (w.heap.size + 1) (by simp) (.cells (tapC t) 34)).push (w.heap.size + 2) (by simp) (.cells #[(.slice wa warm.length wc)] 49)).push (w.heap.size + 3) (by simp) (.cells #[.int .i64 0, .int .i64 0, .int .i64 0] 34))
  go_enter Tryz.func12, Tryz.ntmps12
  go_upto_region 1 with fail
  obtain ⟨w0, HW0⟩ : ∃ z, Hid (((((w.alloc (.cells (dshopC s (.slice va s.baths.length vc)) 30)).alloc (.cells (tapC t) 34)).alloc (.cells #[(.slice wa warm.length wc)] 49)).alloc (.cells #[.int .i64 0, .int .i64 0, .int .i64 0] 34)) = z) := ⟨_, rfl⟩
  rw [HW0.out] at C0 ⊢
  go_wp2_with (first | (refine wpList_load_row rfl 30 _ rfl _ rfl _ _ _ _ (C0.out.get 0 rfl) Tryz.underlying30 rfl infoDS ?_) | (refine wpList_load_row rfl 34 _ rfl _ rfl _ _ _ _ (C0.out.get 1 rfl) Tryz.underlying34 rfl infoDT ?_))
  refine (HOP _ _ _ ((HV.out.below C0.out.bel).mono C0.out.bel.size) ((HL.out.below C0.out.bel).mono C0.out.bel.size)).out.mono ?_
  rintro e w1 ⟨rfl, hb⟩
  have C1 := Lib.hid (C0.out.call hb)
  have HZ1 : Hid (w.heap.size + 4 ≤ w1.heap.size) := C1.out.lt 3 rfl
  clear hb C0 HOP HW0
  have CP : Hid (Bs w [(w.heap.size, .cells (dshopC s (.slice va s.baths.length vc)) 30), (w.heap.size + 1, .cells (tapC t) 34), (w.heap.size + 2, .cells #[(.slice wa warm.length wc)] 49), (w.heap.size + 3, .cells #[.int .i64 0, .int .i64 0, .int .i64 0] 34), (w1.heap.size, .cells #[.int .i64 0, .int .i64 0, .int .i64 0, .int .i64 0, .int .i64 0, .int .i64 0, .int .i64 0, .int .i64 0, .slice none 0 0] 106)] _) := Lib.hid (C1.out.push w1.heap.size rfl (.cells #[.int .i64 0, .int .i64 0, .int .i64 0, .int .i64 0, .int .i64 0, .int .i64 0, .int .i64 0, .int .i64 0, .slice none 0 0] 106))
  go_upto_region 2 with (refine wpList_store_bs rfl 106 _ _ rfl CP.out 4 _ (dshopC s (.slice va s.baths.length vc)) _ _ rfl rfl rfl infoDsh rfl (by simp [Value.oneCell']) ?_; intro w2 hC; have C2 : Hid (Bs w [(w.heap.size, .cells (dshopC s (.slice va s.baths.length vc)) 30), (w.heap.size + 1, .cells (tapC t) 34), (w.heap.size + 2, .cells #[(.slice wa warm.length wc)] 49), (w.heap.size + 3, .cells #[.int .i64 0, .int .i64 0, .int .i64 0] 34), (w1.heap.size, .cells (dshopC s (.slice va s.baths.length vc)) 106)] w2) := hC; clear hC CP C1)
  have c_w := C2.out.cell 2 rfl 0
  go_upto_region 5 with fail
  clear hne c_w
  go_wp2_with fail
  refine (findF1_ok w1.heap.size (w.heap.size + 2) plan (.slice la plan.length lc) w.heap.size w2 C2.out.bel.size (HL.out.below C2.out.bel) (fun _ W => Below w2.heap.size w2 W) (fun _ _ => False) (Below.refl _ _) (fun i W W' h hb => h.trans (hb.mono h.size)) (fun i W h => h.mono C2.out.bel.size) (fun i hi W h => ?f1)).mono ?_
  case f1 =>
    have hi2 : i < warm.length := by rw [HLEN.out]; exact hi
    refine (fclo1_ok HS.out (HP.out.2 i hi) hi2 (HWI.out i hi) (.slice va s.baths.length vc) (.slice wa warm.length wc) _ _ w.heap.size W (block_keep (C2.out.get 4 rfl) h) (block_keep (C2.out.get 2 rfl) h) (Nat.le_trans C2.out.bel.size h.size) (HV.out.below (C2.out.bel.trans (h.mono C2.out.bel.size))) (HWW.out.below (C2.out.bel.trans (h.mono C2.out.bel.size)))).mono ?_
    rintro e W' ⟨rfl, hb⟩
    exact ⟨0, rfl, .inl ⟨rfl, h.trans (hb.mono h.size)⟩⟩
  rintro e w3 (⟨rfl, hb⟩ | ⟨_, _, _, _, hx⟩)
  rotate_left
  · exact hx.elim
  have C3 := Lib.hid (C2.out.call hb)
  clear hb C2
  go_upto_region 7 with fail
  go_wp2_with fail
  have HBEL : Hid (∀ (i : Nat) (W : World), But (w.heap.size + 1) w3 W ∧ W.heap[w.heap.size + 1]? = some (.cells (tapC ⟨t.wick, (stF s (t.top, t.foot) plan warm i).1, (stF s (t.top, t.foot) plan warm i).2⟩) 34) → Below w.heap.size w W) := fun i W h => C3.out.bel.trans (h.1.below (by omega) C3.out.bel.size)
  refine (findF2_ok w1.heap.size (w.heap.size + 2) (w.heap.size + 1) plan (.slice la plan.length lc) w.heap.size w3 C3.out.bel.size (HL.out.below C3.out.bel) (fun i W => But (w.heap.size + 1) w3 W ∧ W.heap[w.heap.size + 1]? = some (.cells (tapC ⟨t.wick, (stF s (t.top, t.foot) plan warm i).1, (stF s (t.top, t.foot) plan warm i).2⟩) 34)) (fun _ _ => False) ⟨But.refl _ _, C3.out.get 1 rfl⟩ (fun i W W' h hb => ⟨h.1.trans (But.of hb), block_keep h.2 hb⟩) (fun i W h => h.1.below (by omega) C3.out.bel.size) (fun i hi W h => ?f2)).mono ?_
  case f2 =>
    have hi2 : i < warm.length := by rw [HLEN.out]; exact hi
    have hbel := HBEL.out i W h
    have hz1 := HZ1.out
    have hd := HP.out.2 i hi
    have hwi := HWI.out i hi
    have hwr := HS.out.warm (plan.getD i default).bath.toNat (by have := hd.bath; omega)
    have hnl := HNL.out (i + 1) (by omega) hi
    have hbn := HBN.out i (by omega)
    have hp30 := HP.out.1
    rw [stF] at hnl
    have hblk : ∀ (k : Nat) (cs : Array Value) (ty : TypeId), w3.heap[k]? = some (.cells cs ty) → k ≠ w.heap.size + 1 → W.heap[k]? = some (.cells cs ty) := fun k cs ty hk hne => (h.1.block k (block_lt hk) hne).trans hk
    refine (fclo2_ok HS.out hd hi2 (by unfold warmOf at hwi; omega) (t := ⟨t.wick, (stF s (t.top, t.foot) plan warm i).1, (stF s (t.top, t.foot) plan warm i).2⟩) (by simp only; omega) hnl (.slice va s.baths.length vc) (.slice wa warm.length wc) _ _ _ w.heap.size W (hblk _ _ _ (C3.out.get 4 rfl) (by omega)) (hblk _ _ _ (C3.out.get 2 rfl) (by omega)) h.2 hbel.size (HV.out.below hbel) (HWW.out.below hbel)).mono ?_
    rintro e W' ⟨rfl, h1, h2⟩
    exact ⟨0, rfl, .inl ⟨rfl, h.1.trans h2, h1⟩⟩
  rintro e w4 (⟨rfl, hb1, hb2⟩ | ⟨_, _, _, _, hx⟩)
  rotate_left
  · exact hx.elim
  have C4 : Hid (Bs w [(w.heap.size, .cells (dshopC s (.slice va s.baths.length vc)) 30), (w.heap.size + 1, .cells (tapC ⟨t.wick, (stF s (t.top, t.foot) plan warm plan.length).1, (stF s (t.top, t.foot) plan warm plan.length).2⟩) 34), (w.heap.size + 2, .cells #[(.slice wa warm.length wc)] 49), (w.heap.size + 3, .cells #[.int .i64 0, .int .i64 0, .int .i64 0] 34), (w1.heap.size, .cells (dshopC s (.slice va s.baths.length vc)) 106)] w4) := C3.out.but 1 rfl hb1 hb2
  clear hb1 hb2 C3 HBEL
  go_upto_region 10 with fail
  go_wp2_with (first | (refine wpList_load_row rfl 34 _ rfl _ rfl _ _ _ _ (C4.out.get 1 rfl) Tryz.underlying34 rfl infoDT ?_) | (refine wpList_store_bs rfl 34 _ _ rfl C4.out 3 _ (tapC ⟨t.wick, (stF s (t.top, t.foot) plan warm plan.length).1, (stF s (t.top, t.foot) plan warm plan.length).2⟩) _ _ rfl rfl rfl infoDT rfl (by simp [Value.oneCell']) ?_; intro w5 hC; have C5 := Lib.hid hC; clear hC C4))
  exact bodyPost_ret (results_row_tmp (fn := Tryz.f12) rfl _ _ _ _ _ _ _ rfl rfl (C5.out.get 3 rfl) Tryz.underlying34 rfl infoDT) rfl ⟨rfl, C5.out.bel⟩
end Go.Proofs.YtpkggjobdmchlaaGreatDoor
