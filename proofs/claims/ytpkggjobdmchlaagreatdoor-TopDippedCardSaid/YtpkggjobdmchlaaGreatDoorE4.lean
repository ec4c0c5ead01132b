/- dip: least, most; begin. -/
import Derived.Deep.Cut
import Derived.Deep.CutBlock
import Derived.Test.YtpkggjobdmchlaaGreatDoorE2
import Derived.Test.YtpkggjobdmchlaaGreatDoorU21
namespace Go.Proofs.YtpkggjobdmchlaaGreatDoor
open Go.RowKit
set_option maxRecDepth 100000 in
set_option maxHeartbeats 8000000 in
theorem least_ok {s : DShop} (hs : DOk s) {d : DDip} (hd : DipOk s d) (v : Value) (w : World) (hv : DBathsIn w.heap.size w v s.baths) :
    Calls Tryz.prog 64 #[.agg (dshopC s v), .agg (dipC d)] w fun e w' => e = .returned (.tuple #[.agg #[.int .i64 (leastV s d).1.1, .int .i64 (leastV s d).1.2], .int .i64 (leastV s d).2]) ∧ Below w.heap.size w w' := by
  have hwi := warm_in hs hd
  obtain ⟨va, vc, rfl, -, -⟩ := sl_shape hv
  have HV := Lib.hid hv
  have hgc := grow_bound hs hd (warm := (warmOf s d).1) (by omega)
  have hgh := grow_bound hs hd (warm := (warmOf s d).2) (by omega)
  have HCO := fun v w h => Lib.hid (cold_ok hs hd v w h)
  have HHO := fun v w h => Lib.hid (hot_ok hs hd v w h)
  have HSC := fun w => Lib.hid (skew_ok (coldV s d) (by unfold coldV; omega) w)
  have HSH := fun w => Lib.hid (skew_ok (hotV s d) (by unfold hotV; omega) w)
  have HE : Hid (leastV s d = if skewG (hotV s d) < skewG (coldV s d) then (hotV s d, (warmOf s d).2) else (coldV s d, (warmOf s d).1)) := rfl
  clear hgc hgh hwi hs hd hv
  generalize leastV s d = R at *
  generalize coldV s d = C at *
  generalize hotV s d = H at *
  generalize warmOf s d = wm at *
  obtain ⟨c1, c2⟩ := C
  obtain ⟨h1, h2⟩ := H
  obtain ⟨l1, l2⟩ := wm
  obtain ⟨⟨r1, r2⟩, r3⟩ := R
  have C3 : Hid (Bs w [(w.heap.size, .cells (dshopC s (.slice va s.baths.length vc)) 106), (w.heap.size + 1, .cells (dipC d) 54), (w.heap.size + 2, .cells #[.int .i64 0, .int .i64 0] 127)] _) := Lib.hid ((((Bs.nil w).push _ rfl (.cells (dshopC s (.slice va s.baths.length vc)) 106)).push (w.heap.size + 1) (by simp) (.cells (dipC d) 54)).push (w.heap.size + 2) (by simp) (.cells #[.int .i64 0, .int .i64 0] 127))
  simp only at HSC HSH HE HCO HHO
  obtain ⟨kc, HKC⟩ : ∃ z, Hid (skewG (c1, c2) = z) := ⟨_, rfl⟩
  obtain ⟨kh, HKH⟩ : ∃ z, Hid (skewG (h1, h2) = z) := ⟨_, rfl⟩
  rw [HKC.out] at HSC HE
  rw [HKH.out] at HSH HE
  go_enter Tryz.func64, Tryz.ntmps64
  go_wp2_with (first | (refine wpList_load_row rfl 106 _ rfl _ rfl _ _ _ _ (C3.out.get 0 rfl) Tryz.underlying106 rfl infoDsh ?_) | (refine wpList_load_row rfl 54 _ rfl _ rfl _ _ _ _ (C3.out.get 1 rfl) Tryz.underlying54 rfl infoDD ?_))
  refine (HCO _ _ ((HV.out.below C3.out.bel).mono C3.out.bel.size)).out.mono ?_
  rintro e w1 ⟨rfl, hb⟩
  have C4 := Lib.hid (C3.out.call hb)
  clear hb C3 HCO
  have CP := Lib.hid (C4.out.push _ rfl (.cells #[.int .i64 0, .int .i64 0] 127))
  go_wp2_with (first | (refine wpList_store_bs rfl 127 _ _ rfl CP.out 3 _ _ _ _ rfl rfl rfl infoGT rfl (by simp [Value.oneCell']) ?_; intro wa hC; have C5 : Hid (Bs w [(w.heap.size, .cells (dshopC s (.slice va s.baths.length vc)) 106), (w.heap.size + 1, .cells (dipC d) 54), (w.heap.size + 2, .cells #[.int .i64 0, .int .i64 0] 127), (w1.heap.size, .cells #[.int .i64 c1, .int .i64 c2] 127)] wa) := hC; clear hC CP C4) | (refine wpList_load_row rfl 106 _ rfl _ rfl _ _ _ _ (C5.out.get 0 rfl) Tryz.underlying106 rfl infoDsh ?_) | (refine wpList_load_row rfl 54 _ rfl _ rfl _ _ _ _ (C5.out.get 1 rfl) Tryz.underlying54 rfl infoDD ?_))
  refine (HHO _ _ ((HV.out.below C5.out.bel).mono C5.out.bel.size)).out.mono ?_
  rintro e w2 ⟨rfl, hb⟩
  have C4 := Lib.hid (C5.out.call hb)
  clear hb C5 HHO
  have CP := Lib.hid (C4.out.push _ rfl (.cells #[.int .i64 0, .int .i64 0] 127))
  go_upto_region 3 with (refine wpList_store_bs rfl 127 _ _ rfl CP.out 4 _ _ _ _ rfl rfl rfl infoGT rfl (by simp [Value.oneCell']) ?_; intro wb hC; have C6 : Hid (Bs w [(w.heap.size, .cells (dshopC s (.slice va s.baths.length vc)) 106), (w.heap.size + 1, .cells (dipC d) 54), (w.heap.size + 2, .cells #[.int .i64 0, .int .i64 0] 127), (w1.heap.size, .cells #[.int .i64 c1, .int .i64 c2] 127), (w2.heap.size, .cells #[.int .i64 h1, .int .i64 h2] 127)] wb) := hC; clear hC CP C4)
  refine wp_region_inv0 (by kernel_rfl) (by kernel_rfl) (fun D w' => Bs w [(w.heap.size, .cells (dshopC s (.slice va s.baths.length vc)) 106), (w.heap.size + 1, .cells (dipC d) 54), (w.heap.size + 2, .cells #[.int .i64 0, .int .i64 0] 127), (w1.heap.size, .cells #[.int .i64 c1, .int .i64 c2] 127), (w2.heap.size, .cells #[.int .i64 h1, .int .i64 h2] 127)] w') C6.out.drew ?_
  apply obl_det
  case hrun =>
    intro D y wz hW hD R hR
    have HRR := Lib.hid hR
    clear hR
    have HW := Lib.hid hW
    have h1 := HW.out.get 4 rfl
    clear hW hD
    refine wpList_load_row rfl 127 _ rfl _ rfl _ _ _ _ h1 Tryz.underlying127 rfl infoGT ?_
    go_simp
    exact HRR.out _ HW.out
  case hnp => rfl
  case hv => first | exact ⟨_, fun _ => rfl⟩ | exact ⟨undef, fun _ => rfl⟩
  apply obl_det
  case hrun =>
    intro D y wz hW hD R hR
    have HRR := Lib.hid hR
    clear hR
    have HW := Lib.hid hW
    clear hW hD
    go_wp2_with fail
    refine ((HSH _).out).mono ?_
    rintro e w' ⟨rfl, hb⟩
    have HB2 := Lib.hid (HW.out.call hb)
    clear hb
    go_wp2_with fail
    exact HRR.out _ HB2.out
  case hnp => rfl
  case hv => first | exact ⟨_, fun _ => rfl⟩ | exact ⟨undef, fun _ => rfl⟩
  apply obl_det
  case hrun =>
    intro D y wz hW hD R hR
    have HRR := Lib.hid hR
    clear hR
    have HW := Lib.hid hW
    have h1 := HW.out.get 3 rfl
    clear hW hD
    refine wpList_load_row rfl 127 _ rfl _ rfl _ _ _ _ h1 Tryz.underlying127 rfl infoGT ?_
    go_simp
    exact HRR.out _ HW.out
  case hnp => rfl
  case hv => first | exact ⟨_, fun _ => rfl⟩ | exact ⟨undef, fun _ => rfl⟩
  apply obl_det
  case hrun =>
    intro D y wz hW hD R hR
    have HRR := Lib.hid hR
    clear hR
    have HW := Lib.hid hW
    clear hW hD
    go_wp2_with fail
    refine ((HSC _).out).mono ?_
    rintro e w' ⟨rfl, hb⟩
    have HB2 := Lib.hid (HW.out.call hb)
    clear hb
    go_wp2_with fail
    exact HRR.out _ HB2.out
  case hnp => rfl
  case hv => first | exact ⟨_, fun _ => rfl⟩ | exact ⟨undef, fun _ => rfl⟩
  apply obl_det
  case hrun =>
    intro D y wz hW hD R hR
    have HRR := Lib.hid hR
    clear hR
    have HW := Lib.hid hW
    clear hW hD
    go_wp2
    exact HRR.out _ HW.out
  case hnp => rfl
  case hv => first | exact ⟨_, fun _ => rfl⟩ | exact ⟨undef, fun _ => rfl⟩
  apply obl_nil
  intro D y w8 hall hW
  have C8 := Lib.hid hW
  clear hW hall C6 HSC HSH
  by_cases hlt : kh < kc
  · have hr := HE.out
    rw [if_pos hlt] at hr
    obtain ⟨⟨rfl, rfl⟩, rfl⟩ : (r1 = h1 ∧ r2 = h2) ∧ r3 = l2 := by cases hr; exact ⟨⟨rfl, rfl⟩, rfl⟩
    clear hr HE
    go_wp2_with (first | (refine wpList_load_row rfl 127 _ rfl _ rfl _ _ _ _ (C8.out.get 4 rfl) Tryz.underlying127 rfl infoGT ?_) | (refine wpList_store_bs rfl 127 _ _ rfl C8.out 2 _ _ _ _ rfl rfl rfl infoGT rfl (by simp [Value.oneCell']) ?_; intro w9 hC; have C9 := Lib.hid hC; clear hC C8))
    exact bodyPost_ret (results_row_tmp (fn := Tryz.f64) rfl _ _ _ _ _ _ _ rfl rfl (C9.out.get 2 rfl) Tryz.underlying127 rfl infoGT) rfl ⟨rfl, C9.out.bel⟩
  · have hr := HE.out
    rw [if_neg hlt] at hr
    obtain ⟨⟨rfl, rfl⟩, rfl⟩ : (r1 = c1 ∧ r2 = c2) ∧ r3 = l1 := by cases hr; exact ⟨⟨rfl, rfl⟩, rfl⟩
    clear hr HE
    go_wp2_with (first | (refine wpList_load_row rfl 127 _ rfl _ rfl _ _ _ _ (C8.out.get 3 rfl) Tryz.underlying127 rfl infoGT ?_) | (refine wpList_store_bs rfl 127 _ _ rfl C8.out 2 _ _ _ _ rfl rfl rfl infoGT rfl (by simp [Value.oneCell']) ?_; intro w9 hC; have C9 := Lib.hid hC; clear hC C8))
    exact bodyPost_ret (results_row_tmp (fn := Tryz.f64) rfl _ _ _ _ _ _ _ rfl rfl (C9.out.get 2 rfl) Tryz.underlying127 rfl infoGT) rfl ⟨rfl, C9.out.bel⟩
set_option maxRecDepth 100000 in
set_option maxHeartbeats 8000000 in
theorem most_ok {s : DShop} (hs : DOk s) {d : DDip} (hd : DipOk s d) (v : Value) (w : World) (hv : DBathsIn w.heap.size w v s.baths) :
    Calls Tryz.prog 65 #[.agg (dshopC s v), .agg (dipC d)] w fun e w' => e = .returned (.tuple #[.agg #[.int .i64 (mostV s d).1.1, .int .i64 (mostV s d).1.2], .int .i64 (mostV s d).2]) ∧ Below w.heap.size w w' := by
  have hwi := warm_in hs hd
  obtain ⟨va, vc, rfl, -, -⟩ := sl_shape hv
  have HV := Lib.hid hv
  have hgc := grow_bound hs hd (warm := (warmOf s d).1) (by omega)
  have hgh := grow_bound hs hd (warm := (warmOf s d).2) (by omega)
  have HCO := fun v w h => Lib.hid (cold_ok hs hd v w h)
  have HHO := fun v w h => Lib.hid (hot_ok hs hd v w h)
  have HSC := fun w => Lib.hid (skew_ok (coldV s d) (by unfold coldV; omega) w)
  have HSH := fun w => Lib.hid (skew_ok (hotV s d) (by unfold hotV; omega) w)
  have HE : Hid (mostV s d = if skewG (coldV s d) < skewG (hotV s d) then (hotV s d, (warmOf s d).2) else (coldV s d, (warmOf s d).1)) := rfl
  clear hgc hgh hwi hs hd hv
  generalize mostV s d = R at *
  generalize coldV s d = C at *
  generalize hotV s d = H at *
  generalize warmOf s d = wm at *
  obtain ⟨c1, c2⟩ := C
  obtain ⟨h1, h2⟩ := H
  obtain ⟨l1, l2⟩ := wm
  obtain ⟨⟨r1, r2⟩, r3⟩ := R
  have C3 : Hid (Bs w [(w.heap.size, .cells (dshopC s (.slice va s.baths.length vc)) 106), (w.heap.size + 1, .cells (dipC d) 54), (w.heap.size + 2, .cells #[.int .i64 0, .int .i64 0] 127)] _) := Lib.hid ((((Bs.nil w).push _ rfl (.cells (dshopC s (.slice va s.baths.length vc)) 106)).push (w.heap.size + 1) (by simp) (.cells (dipC d) 54)).push (w.heap.size + 2) (by simp) (.cells #[.int .i64 0, .int .i64 0] 127))
  simp only at HSC HSH HE HCO HHO
  obtain ⟨kc, HKC⟩ : ∃ z, Hid (skewG (c1, c2) = z) := ⟨_, rfl⟩
  obtain ⟨kh, HKH⟩ : ∃ z, Hid (skewG (h1, h2) = z) := ⟨_, rfl⟩
  rw [HKC.out] at HSC HE
  rw [HKH.out] at HSH HE
  go_enter Tryz.func65, Tryz.ntmps65
  go_wp2_with (first | (refine wpList_load_row rfl 106 _ rfl _ rfl _ _ _ _ (C3.out.get 0 rfl) Tryz.underlying106 rfl infoDsh ?_) | (refine wpList_load_row rfl 54 _ rfl _ rfl _ _ _ _ (C3.out.get 1 rfl) Tryz.underlying54 rfl infoDD ?_))
  refine (HCO _ _ ((HV.out.below C3.out.bel).mono C3.out.bel.size)).out.mono ?_
  rintro e w1 ⟨rfl, hb⟩
  have C4 := Lib.hid (C3.out.call hb)
  clear hb C3 HCO
  have CP := Lib.hid (C4.out.push _ rfl (.cells #[.int .i64 0, .int .i64 0] 127))
  go_wp2_with (first | (refine wpList_store_bs rfl 127 _ _ rfl CP.out 3 _ _ _ _ rfl rfl rfl infoGT rfl (by simp [Value.oneCell']) ?_; intro wa hC; have C5 : Hid (Bs w [(w.heap.size, .cells (dshopC s (.slice va s.baths.length vc)) 106), (w.heap.size + 1, .cells (dipC d) 54), (w.heap.size + 2, .cells #[.int .i64 0, .int .i64 0] 127), (w1.heap.size, .cells #[.int .i64 c1, .int .i64 c2] 127)] wa) := hC; clear hC CP C4) | (refine wpList_load_row rfl 106 _ rfl _ rfl _ _ _ _ (C5.out.get 0 rfl) Tryz.underlying106 rfl infoDsh ?_) | (refine wpList_load_row rfl 54 _ rfl _ rfl _ _ _ _ (C5.out.get 1 rfl) Tryz.underlying54 rfl infoDD ?_))
  refine (HHO _ _ ((HV.out.below C5.out.bel).mono C5.out.bel.size)).out.mono ?_
  rintro e w2 ⟨rfl, hb⟩
  have C4 := Lib.hid (C5.out.call hb)
  clear hb C5 HHO
  have CP := Lib.hid (C4.out.push _ rfl (.cells #[.int .i64 0, .int .i64 0] 127))
  go_upto_region 3 with (refine wpList_store_bs rfl 127 _ _ rfl CP.out 4 _ _ _ _ rfl rfl rfl infoGT rfl (by simp [Value.oneCell']) ?_; intro wb hC; have C6 : Hid (Bs w [(w.heap.size, .cells (dshopC s (.slice va s.baths.length vc)) 106), (w.heap.size + 1, .cells (dipC d) 54), (w.heap.size + 2, .cells #[.int .i64 0, .int .i64 0] 127), (w1.heap.size, .cells #[.int .i64 c1, .int .i64 c2] 127), (w2.heap.size, .cells #[.int .i64 h1, .int .i64 h2] 127)] wb) := hC; clear hC CP C4)
  refine wp_region_inv0 (by kernel_rfl) (by kernel_rfl) (fun D w' => Bs w [(w.heap.size, .cells (dshopC s (.slice va s.baths.length vc)) 106), (w.heap.size + 1, .cells (dipC d) 54), (w.heap.size + 2, .cells #[.int .i64 0, .int .i64 0] 127), (w1.heap.size, .cells #[.int .i64 c1, .int .i64 c2] 127), (w2.heap.size, .cells #[.int .i64 h1, .int .i64 h2] 127)] w') C6.out.drew ?_
  apply obl_det
  case hrun =>
    intro D y wz hW hD R hR
    have HRR := Lib.hid hR
    clear hR
    have HW := Lib.hid hW
    have h1 := HW.out.get 4 rfl
    clear hW hD
    refine wpList_load_row rfl 127 _ rfl _ rfl _ _ _ _ h1 Tryz.underlying127 rfl infoGT ?_
    go_simp
    exact HRR.out _ HW.out
  case hnp => rfl
  case hv => first | exact ⟨_, fun _ => rfl⟩ | exact ⟨undef, fun _ => rfl⟩
  apply obl_det
  case hrun =>
    intro D y wz hW hD R hR
    have HRR := Lib.hid hR
    clear hR
    have HW := Lib.hid hW
    clear hW hD
    go_wp2_with fail
    refine ((HSH _).out).mono ?_
    rintro e w' ⟨rfl, hb⟩
    have HB2 := Lib.hid (HW.out.call hb)
    clear hb
    go_wp2_with fail
    exact HRR.out _ HB2.out
  case hnp => rfl
  case hv => first | exact ⟨_, fun _ => rfl⟩ | exact ⟨undef, fun _ => rfl⟩
  apply obl_det
  case hrun =>
    intro D y wz hW hD R hR
    have HRR := Lib.hid hR
    clear hR
    have HW := Lib.hid hW
    have h1 := HW.out.get 3 rfl
    clear hW hD
    refine wpList_load_row rfl 127 _ rfl _ rfl _ _ _ _ h1 Tryz.underlying127 rfl infoGT ?_
    go_simp
    exact HRR.out _ HW.out
  case hnp => rfl
  case hv => first | exact ⟨_, fun _ => rfl⟩ | exact ⟨undef, fun _ => rfl⟩
  apply obl_det
  case hrun =>
    intro D y wz hW hD R hR
    have HRR := Lib.hid hR
    clear hR
    have HW := Lib.hid hW
    clear hW hD
    go_wp2_with fail
    refine ((HSC _).out).mono ?_
    rintro e w' ⟨rfl, hb⟩
    have HB2 := Lib.hid (HW.out.call hb)
    clear hb
    go_wp2_with fail
    exact HRR.out _ HB2.out
  case hnp => rfl
  case hv => first | exact ⟨_, fun _ => rfl⟩ | exact ⟨undef, fun _ => rfl⟩
  apply obl_det
  case hrun =>
    intro D y wz hW hD R hR
    have HRR := Lib.hid hR
    clear hR
    have HW := Lib.hid hW
    clear hW hD
    go_wp2
    exact HRR.out _ HW.out
  case hnp => rfl
  case hv => first | exact ⟨_, fun _ => rfl⟩ | exact ⟨undef, fun _ => rfl⟩
  apply obl_nil
  intro D y w8 hall hW
  have C8 := Lib.hid hW
  clear hW hall C6 HSC HSH
  by_cases hlt : kc < kh
  · have hr := HE.out
    rw [if_pos hlt] at hr
    obtain ⟨⟨rfl, rfl⟩, rfl⟩ : (r1 = h1 ∧ r2 = h2) ∧ r3 = l2 := by cases hr; exact ⟨⟨rfl, rfl⟩, rfl⟩
    clear hr HE
    go_wp2_with (first | (refine wpList_load_row rfl 127 _ rfl _ rfl _ _ _ _ (C8.out.get 4 rfl) Tryz.underlying127 rfl infoGT ?_) | (refine wpList_store_bs rfl 127 _ _ rfl C8.out 2 _ _ _ _ rfl rfl rfl infoGT rfl (by simp [Value.oneCell']) ?_; intro w9 hC; have C9 := Lib.hid hC; clear hC C8))
    exact bodyPost_ret (results_row_tmp (fn := Tryz.f65) rfl _ _ _ _ _ _ _ rfl rfl (C9.out.get 2 rfl) Tryz.underlying127 rfl infoGT) rfl ⟨rfl, C9.out.bel⟩
  · have hr := HE.out
    rw [if_neg hlt] at hr
    obtain ⟨⟨rfl, rfl⟩, rfl⟩ : (r1 = c1 ∧ r2 = c2) ∧ r3 = l1 := by cases hr; exact ⟨⟨rfl, rfl⟩, rfl⟩
    clear hr HE
    go_wp2_with (first | (refine wpList_load_row rfl 127 _ rfl _ rfl _ _ _ _ (C8.out.get 3 rfl) Tryz.underlying127 rfl infoGT ?_) | (refine wpList_store_bs rfl 127 _ _ rfl C8.out 2 _ _ _ _ rfl rfl rfl infoGT rfl (by simp [Value.oneCell']) ?_; intro w9 hC; have C9 := Lib.hid hC; clear hC C8))
    exact bodyPost_ret (results_row_tmp (fn := Tryz.f65) rfl _ _ _ _ _ _ _ rfl rfl (C9.out.get 2 rfl) Tryz.underlying127 rfl infoGT) rfl ⟨rfl, C9.out.bel⟩
set_option maxHeartbeats 8000000 in
theorem begin_ok {t : DTap} (ht : TapOk t) (w : World) : Calls Tryz.prog 49 #[.agg (tapC t)] w fun e w' => e = .returned (.agg (rngC (beginV t))) ∧ Below w.heap.size w w' := by
  have h1 := ht.wick
  have h2 := ht.top
  have h3 := ht.foot
  have hw : wrap64 (t.foot - t.top) = t.foot - t.top := wrapU (by omega)
  have C2 : Hid (Bs w [(w.heap.size, .cells (tapC t) 34), (w.heap.size + 1, .cells #[.int .i64 0, .int .i64 0, .int .i64 0, .int .i64 0, .int .i64 0, .int .i64 0] 95)] _) := Lib.hid (((Bs.nil w).push _ rfl (.cells (tapC t) 34)).push (w.heap.size + 1) (by simp) (.cells #[.int .i64 0, .int .i64 0, .int .i64 0, .int .i64 0, .int .i64 0, .int .i64 0] 95))
  have c1 := C2.out.cell 0 rfl 1
  have c2 := C2.out.cell 0 rfl 2
  clear h1 h2 h3 ht
  go_enter Tryz.func49, Tryz.ntmps49
  go_wp2_with (refine wpList_store_bs rfl 95 _ _ rfl C2.out 1 _ (rngC (beginV t)) _ _ rfl rfl rfl infoDR rfl (by simp [Value.oneCell']) ?_; intro w9 hC; have C9 := Lib.hid hC; clear hC C2)
  exact bodyPost_ret (results_cell_row (fn := Tryz.f49) rfl _ _ _ _ _ _ _ rfl (C9.out.get 1 rfl) Tryz.underlying95 rfl infoDR) rfl ⟨rfl, C9.out.bel⟩
end Go.Proofs.YtpkggjobdmchlaaGreatDoor
