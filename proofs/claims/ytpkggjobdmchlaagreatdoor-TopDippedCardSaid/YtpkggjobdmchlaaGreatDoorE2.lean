/- dip: how a dip grows. -/
import Derived.Deep.Cut
import Derived.Deep.CutBlock
import Derived.Lib.MinMax
import Derived.Test.YtpkggjobdmchlaaGreatDoorU1
import Derived.Test.YtpkggjobdmchlaaGreatDoorU6
namespace Go.Proofs.YtpkggjobdmchlaaGreatDoor
open Go.RowKit
theorem infoGT : (Tryz.prog.info? 127).map (·.size) = some 2 := by kernel_rfl
set_option maxHeartbeats 4000000 in
theorem coat_ok {s : DShop} (hs : DOk s) {over sec : Int} (ho : 0 ≤ over ∧ over ≤ 2000) (hsec : -600 ≤ sec ∧ sec ≤ 600) (v : Value) (sb ob : Nat) (w : World) (h1 : w.heap[sb]? = some (.cells (dshopC s v) 106)) (h2 : w.heap[ob]? = some (.cells #[.int .i64 over] 3)) :
    Calls Tryz.prog 87 #[.int .i64 sec, .pointer (some ⟨sb, 0, none⟩), .pointer (some ⟨ob, 0, none⟩)] w fun e w' => e = .returned (.int .i64 (coatV s over sec)) ∧ w = w' := by
  have hb := coat_bound hs ho hsec.2
  have hm := max0 (sec - s.hold) 600 (by have := hs.hold; omega) (by omega)
  have h3 := hs.thin
  have h4 := hs.coat
  have h5 := hs.hold
  have c0 := cell_of_row _ _ 0 _ _ _ h2
  have c1 := cell_of_row _ _ 1 _ _ _ h1
  have c2 := cell_of_row _ _ 2 _ _ _ h1
  have c3 := cell_of_row _ _ 3 _ _ _ h1
  have c4 := cell_of_row _ _ 4 _ _ _ h1
  have HV : Hid (coatV s over sec = s.coat - over * (s.thin + s.back * max 0 (sec - s.hold))) := rfl
  generalize coatV s over sec = R at *
  have w1 : wrap64 (sec - s.hold) = sec - s.hold := wrapU (by omega)
  generalize hM : max 0 (sec - s.hold) = m at *
  have w2 : wrap64 (s.back * m) = s.back * m := wrapU (by omega)
  have w3 : wrap64 (s.thin + s.back * m) = s.thin + s.back * m := wrapU (by omega)
  have w4 : wrap64 (over * (s.thin + s.back * m)) = over * (s.thin + s.back * m) := wrapU (by omega)
  have w5 : wrap64 (s.coat - over * (s.thin + s.back * m)) = s.coat - over * (s.thin + s.back * m) := wrapU (by omega)
  clear hb h3 h4 h5 h1 h2 hm
  go_enter Tryz.func87, Tryz.ntmps87
  go_wp2_with fail
  go_ret
  refine ⟨ret_int ?_, rfl⟩
  rw [HV.out]
  exact w5
set_option maxRecDepth 100000 in
set_option maxHeartbeats 16000000 in
theorem grow_ok {s : DShop} (hs : DOk s) {d : DDip} (hd : DipOk s d) {warm : Int} (hw : s.melt ≤ warm ∧ warm ≤ 2000) (v : Value) (hv : ∃ a n c, v = .slice a n c) (w : World) :
    Calls Tryz.prog 53 #[.agg (dshopC s v), .agg (dipC d), .int .i64 warm] w fun e w' => e = .returned (.agg #[.int .i64 (growV s d warm).1, .int .i64 (growV s d warm).2]) ∧ Below w.heap.size w w' := by
  obtain ⟨va, vn, vc, rfl⟩ := hv
  have h0 := hs.melt
  have h6 := hs.draw
  have h7 := hd.seconds
  have h8 := hd.pause
  have h9 := hs.set
  have hca := coat_bound hs (over := warm - s.melt) (sec := d.seconds) (by omega) hd.seconds.2
  have hcb := coat_bound hs (over := warm - s.melt) (sec := d.seconds - s.draw) (by omega) (by omega)
  have hrb := run_bound hs (d := d) hd.pause.1
  have HCA : ∀ w2, w2.heap[w.heap.size]? = some (.cells (dshopC s (.slice va vn vc)) 106) → w2.heap[w.heap.size + 3]? = some (.cells #[.int .i64 (warm - s.melt)] 3) → Hid (Calls Tryz.prog 87 #[.int .i64 d.seconds, .pointer (some ⟨w.heap.size, 0, none⟩), .pointer (some ⟨w.heap.size + 3, 0, none⟩)] w2 fun e w' => e = .returned (.int .i64 (coatV s (warm - s.melt) d.seconds)) ∧ w2 = w') := fun w2 h1 h2 => Lib.hid (coat_ok hs (by omega) (by omega) _ _ _ w2 h1 h2)
  have HCB : ∀ w2, w2.heap[w.heap.size]? = some (.cells (dshopC s (.slice va vn vc)) 106) → w2.heap[w.heap.size + 3]? = some (.cells #[.int .i64 (warm - s.melt)] 3) → Hid (Calls Tryz.prog 87 #[.int .i64 (wrap64 (d.seconds - s.draw)), .pointer (some ⟨w.heap.size, 0, none⟩), .pointer (some ⟨w.heap.size + 3, 0, none⟩)] w2 fun e w' => e = .returned (.int .i64 (coatV s (warm - s.melt) (d.seconds - s.draw))) ∧ w2 = w') := fun w2 h1 h2 => Lib.hid (by rw [show wrap64 (d.seconds - s.draw) = d.seconds - s.draw from wrapU (by omega)]; exact coat_ok hs (by omega) (by omega) _ _ _ w2 h1 h2)
  have HGV : Hid (growV s d warm = if d.turned then (2 * (coatV s (warm - s.melt) d.seconds + runV s d), 2 * (coatV s (warm - s.melt) (d.seconds - s.draw) - runV s d))
    else (2 * (coatV s (warm - s.melt) (d.seconds - s.draw) - runV s d), 2 * (coatV s (warm - s.melt) d.seconds + runV s d))) := rfl
  have HRV : Hid (runV s d = s.run * max 0 (s.set - d.pause)) := rfl
  have hwo : wrap64 (warm - s.melt) = warm - s.melt := wrapU (by omega)
  have hwp : wrap64 (s.set - d.pause) = s.set - d.pause := wrapU (by omega)
  have HWC : Hid (wrap64 (d.seconds - s.draw) = d.seconds - s.draw) := wrapU (by omega)
  generalize growV s d warm = GV at *
  generalize coatV s (warm - s.melt) d.seconds = A at *
  generalize coatV s (warm - s.melt) (d.seconds - s.draw) = B at *
  generalize hRV : runV s d = RV at *
  have HWA : Hid (wrap64 (A + RV) = A + RV) := wrapU (by omega)
  have HWB : Hid (wrap64 (2 * (A + RV)) = 2 * (A + RV)) := wrapU (by omega)
  have HWD : Hid (wrap64 (B - RV) = B - RV) := wrapU (by omega)
  have HWE : Hid (wrap64 (2 * (B - RV)) = 2 * (B - RV)) := wrapU (by omega)
  have hwr : wrap64 (s.run * max 0 (s.set - d.pause)) = RV := by rw [← HRV.out]; exact wrapU (by omega)
  clear hca hcb hrb h0 h6 h7 h8 h9 hRV hs hd hw
  obtain ⟨GV1, GV2⟩ := GV
  have C3 : Hid (Bs w [(w.heap.size, .cells (dshopC s (.slice va vn vc)) 106), (w.heap.size + 1, .cells (dipC d) 54), (w.heap.size + 2, .cells #[.int .i64 0, .int .i64 0] 127)] _) := Lib.hid ((((Bs.nil w).push _ rfl (.cells (dshopC s (.slice va vn vc)) 106)).push (w.heap.size + 1) (by simp) (.cells (dipC d) 54)).push (w.heap.size + 2) (by simp) (.cells #[.int .i64 0, .int .i64 0] 127))
  have c0 := C3.out.cell 0 rfl 0
  go_enter Tryz.func53, Tryz.ntmps53
  go_upto_region 1 with fail
  obtain ⟨w3, HW3⟩ : ∃ z, Hid ((((w.alloc (.cells (dshopC s (.slice va vn vc)) 106)).alloc (.cells (dipC d) 54)).alloc (.cells #[.int .i64 0, .int .i64 0] 127)) = z) := ⟨_, rfl⟩
  have HZ3 : Hid (w3.heap.size = w.heap.size + 3) := by unfold Hid; rw [← HW3.out]; simp
  rw [HW3.out] at C3 c0 ⊢
  have C4 : Hid (Bs w [(w.heap.size, .cells (dshopC s (.slice va vn vc)) 106), (w.heap.size + 1, .cells (dipC d) 54), (w.heap.size + 2, .cells #[.int .i64 0, .int .i64 0] 127), (w.heap.size + 3, .cells #[.int .i64 (warm - s.melt)] 3)] (w3.alloc (.cells #[.int .i64 (warm - s.melt)] 3))) := Lib.hid (C3.out.push (w.heap.size + 3) HZ3.out (.cells #[.int .i64 (warm - s.melt)] 3))
  have c7 := C4.out.cell 0 rfl 7
  have c6 := C4.out.cell 0 rfl 6
  have d2 := C4.out.cell 1 rfl 2
  go_upto_region 4 with fail
  clear c0 C3
  rw [HZ3.out]
  rw [hwr, hwp]
  try rw [hwo]
  clear c7 c6 d2 hwp hwr hwo
  refine wp_region_inv0 (by kernel_rfl) (by kernel_rfl) (fun D w' => Bs w [(w.heap.size, .cells (dshopC s (.slice va vn vc)) 106), (w.heap.size + 1, .cells (dipC d) 54), (w.heap.size + 2, .cells #[.int .i64 0, .int .i64 0] 127), (w.heap.size + 3, .cells #[.int .i64 (warm - s.melt)] 3)] w') C4.out.drew ?_
  iterate 3
    (apply obl_det
     case hrun =>
       intro D y wz hW hD R hR
       have HRR := Lib.hid hR
       clear hR
       have HW := Lib.hid hW
       have c5 := HW.out.cell 0 rfl 5
       have e1 := HW.out.cell 1 rfl 1
       have hwa := HWA.out
       have hwb := HWB.out
       have hwc := HWC.out
       have hwd := HWD.out
       have hwe := HWE.out
       clear hW hD
       go_wp2
       exact HRR.out _ HW.out
     case hnp => rfl
     case hv => first | exact ⟨_, fun _ => rfl⟩ | exact ⟨undef, fun _ => rfl⟩)
  apply obl_det
  case hrun =>
    intro D y wz hW hD R hR
    have HRR := Lib.hid hR
    clear hR
    have HW := Lib.hid hW
    clear hW hD
    go_wp2_with fail
    refine ((HCA _ (HW.out.get 0 rfl) (HW.out.get 3 rfl)).out).mono ?_
    rintro e w' ⟨rfl, rfl⟩
    go_wp2_with fail
    exact HRR.out _ HW.out
  case hnp => rfl
  case hv => first | exact ⟨_, fun _ => rfl⟩ | exact ⟨undef, fun _ => rfl⟩
  iterate 10
    (apply obl_det
     case hrun =>
       intro D y wz hW hD R hR
       have HRR := Lib.hid hR
       clear hR
       have HW := Lib.hid hW
       have c5 := HW.out.cell 0 rfl 5
       have e1 := HW.out.cell 1 rfl 1
       have hwa := HWA.out
       have hwb := HWB.out
       have hwc := HWC.out
       have hwd := HWD.out
       have hwe := HWE.out
       clear hW hD
       go_wp2
       exact HRR.out _ HW.out
     case hnp => rfl
     case hv => first | exact ⟨_, fun _ => rfl⟩ | exact ⟨undef, fun _ => rfl⟩)
  apply obl_det
  case hrun =>
    intro D y wz hW hD R hR
    have HRR := Lib.hid hR
    clear hR
    have HW := Lib.hid hW
    clear hW hD
    go_wp2_with fail
    refine ((HCB _ (HW.out.get 0 rfl) (HW.out.get 3 rfl)).out).mono ?_
    rintro e w' ⟨rfl, rfl⟩
    go_wp2_with fail
    exact HRR.out _ HW.out
  case hnp => rfl
  case hv => first | exact ⟨_, fun _ => rfl⟩ | exact ⟨undef, fun _ => rfl⟩
  iterate 5
    (apply obl_det
     case hrun =>
       intro D y wz hW hD R hR
       have HRR := Lib.hid hR
       clear hR
       have HW := Lib.hid hW
       have c5 := HW.out.cell 0 rfl 5
       have e1 := HW.out.cell 1 rfl 1
       have hwa := HWA.out
       have hwb := HWB.out
       have hwc := HWC.out
       have hwd := HWD.out
       have hwe := HWE.out
       clear hW hD
       go_wp2
       exact HRR.out _ HW.out
     case hnp => rfl
     case hv => first | exact ⟨_, fun _ => rfl⟩ | exact ⟨undef, fun _ => rfl⟩)
  apply obl_nil
  intro D y w8 hall hW
  have C8 := Lib.hid hW
  clear hW hall C4
  try rw [HWA.out]
  try rw [HWB.out]
  try rw [HWD.out]
  try rw [HWE.out]
  have e3 := C8.out.cell 1 rfl 3
  cases ht : d.turned with
  | true =>
    rw [ht] at HGV
    have hgv : GV1 = 2 * (A + RV) ∧ GV2 = 2 * (B - RV) := by have := HGV.out; simp at this; exact this
    have e3' : w8.cell? ⟨w.heap.size + 1, 3, none⟩ = some (.bool true) := by rw [e3]; show some (Value.bool d.turned) = _; rw [ht]
    clear e3 HGV
    go_wp2_with (refine wpList_store_bs rfl 127 _ _ rfl C8.out 2 _ _ _ _ rfl rfl rfl infoGT rfl (by simp [Value.oneCell']) ?_; intro w9 hC; have C9 := Lib.hid hC; clear hC C8)
    refine bodyPost_ret (results_cell_row (fn := Tryz.f53) rfl _ _ _ _ _ _ _ rfl (C9.out.get 2 rfl) Tryz.underlying127 rfl infoGT) rfl ⟨?_, C9.out.bel⟩
    rw [hgv.1, hgv.2]
  | false =>
    rw [ht] at HGV
    have hgv : GV1 = 2 * (B - RV) ∧ GV2 = 2 * (A + RV) := by have := HGV.out; simp at this; exact this
    have e3' : w8.cell? ⟨w.heap.size + 1, 3, none⟩ = some (.bool false) := by rw [e3]; show some (Value.bool d.turned) = _; rw [ht]
    clear e3 HGV
    go_wp2_with (refine wpList_store_bs rfl 127 _ _ rfl C8.out 2 _ _ _ _ rfl rfl rfl infoGT rfl (by simp [Value.oneCell']) ?_; intro w9 hC; have C9 := Lib.hid hC; clear hC C8)
    refine bodyPost_ret (results_cell_row (fn := Tryz.f53) rfl _ _ _ _ _ _ _ rfl (C9.out.get 2 rfl) Tryz.underlying127 rfl infoGT) rfl ⟨?_, C9.out.bel⟩
    rw [hgv.1, hgv.2]
end Go.Proofs.YtpkggjobdmchlaaGreatDoor
/- dip: cold, hot, least, most; begin. -/
namespace Go.Proofs.YtpkggjobdmchlaaGreatDoor
open Go.RowKit
theorem skew_ok (g : Int × Int) (h : (-30000000 ≤ g.1 ∧ g.1 ≤ 30000000) ∧ -30000000 ≤ g.2 ∧ g.2 ≤ 30000000) (w : World) : Calls Tryz.prog 86 #[.agg #[.int .i64 g.1, .int .i64 g.2]] w fun e w' => e = .returned (.int .i64 (skewG g)) ∧ Below w.heap.size w w' := by
  have hw : wrap64 (g.2 - g.1) = g.2 - g.1 := wrapU (by omega)
  have hb := (Below.refl w.heap.size w).alloc (Nat.le_refl _) (.cells #[.int .i64 g.1, .int .i64 g.2] 127)
  have HR : Hid (skewG g = g.2 - g.1) := rfl
  generalize skewG g = R at *
  go_enter Tryz.func86, Tryz.ntmps86
  go_wp2_with fail
  go_ret
  exact ⟨ret_int HR.out.symm, hb⟩
theorem warm_in {s : DShop} (hs : DOk s) {d : DDip} (hd : DipOk s d) : s.melt ≤ (warmOf s d).1 ∧ (warmOf s d).1 ≤ (warmOf s d).2 ∧ (warmOf s d).2 ≤ 2000 := hs.warm d.bath.toNat (by have := hd.bath; omega)
set_option maxHeartbeats 8000000 in
theorem cold_ok {s : DShop} (hs : DOk s) {d : DDip} (hd : DipOk s d) (v : Value) (w : World) (hv : DBathsIn w.heap.size w v s.baths) :
    Calls Tryz.prog 84 #[.agg (dshopC s v), .agg (dipC d)] w fun e w' => e = .returned (.tuple #[.agg #[.int .i64 (coldV s d).1, .int .i64 (coldV s d).2], .int .i64 (warmOf s d).1]) ∧ Below w.heap.size w w' := by
  have hwi := warm_in hs hd
  have hbd := hd.bath
  obtain ⟨va, vc, rfl, -, -⟩ := sl_shape hv
  have HGR := fun w => Lib.hid (grow_ok hs hd (warm := (warmOf s d).1) (by omega) (.slice va s.baths.length vc) ⟨_, _, _, rfl⟩ w)
  have HE : Hid (coldV s d = growV s d (warmOf s d).1) := rfl
  rw [HE.out]
  generalize growV s d (warmOf s d).1 = G at *
  obtain ⟨n, hn⟩ : ∃ n : Nat, d.bath = n := ⟨d.bath.toNat, by omega⟩
  have hil : n < s.baths.length := by omega
  have hii : (n : Int) < (s.baths.length : Int) := by omega
  have hwn : (warmOf s d).1 = (s.baths.getD n default).warm.1 := by unfold warmOf; rw [hn]; rfl
  obtain ⟨b, o, rfl, hbl, hx0, hsz, hx1, hx2⟩ := hv.at' hil
  have hx : w.cell? ⟨b, o + n * 3 + 1, none⟩ = some (.int .i64 (warmOf s d).1) := by rw [hwn]; exact hx1
  generalize (warmOf s d).1 = wm at *
  obtain ⟨bt, sec, pa, tu⟩ := d
  simp only at hn
  subst hn
  have C3 : Hid (Bs w [(w.heap.size, .cells (dshopC s (.slice (some ⟨b, o, none⟩) s.baths.length vc)) 106), (w.heap.size + 1, .cells (dipC ⟨n, sec, pa, tu⟩) 54), (w.heap.size + 2, .cells #[.int .i64 0, .int .i64 0] 127)] _) := Lib.hid ((((Bs.nil w).push _ rfl (.cells (dshopC s (.slice (some ⟨b, o, none⟩) s.baths.length vc)) 106)).push (w.heap.size + 1) (by simp) (.cells (dipC ⟨n, sec, pa, tu⟩) 54)).push (w.heap.size + 2) (by simp) (.cells #[.int .i64 0, .int .i64 0] 127))
  have c8 := C3.out.cell 0 rfl 8
  have d0 := C3.out.cell 1 rfl 0
  have hx' : World.cell? _ ⟨b, o + n * 3 + 1, none⟩ = some (.int .i64 wm) := (C3.out.bel.cell (p := ⟨b, o + n * 3 + 1, none⟩) hbl).trans hx
  clear hx0 hx1 hx2 hx hsz hbl hwi hwn hbd hs hd hv HE
  go_enter Tryz.func84, Tryz.ntmps84
  go_wp2_with (first | (refine wpList_load_row rfl 106 _ rfl _ rfl _ _ _ _ (C3.out.get 0 rfl) Tryz.underlying106 rfl infoDsh ?_) | (refine wpList_load_row rfl 54 _ rfl _ rfl _ _ _ _ (C3.out.get 1 rfl) Tryz.underlying54 rfl infoDD ?_))
  refine (HGR _).out.mono ?_
  rintro e w1 ⟨rfl, hb⟩
  have C4 := Lib.hid (C3.out.call hb)
  clear hb C3 c8 d0 hx'
  go_wp2_with (refine wpList_store_bs rfl 127 _ _ rfl C4.out 2 _ _ _ _ rfl rfl rfl infoGT rfl (by simp [Value.oneCell']) ?_; intro w9 hC; have C9 := Lib.hid hC; clear hC C4)
  exact bodyPost_ret (results_row_tmp (fn := Tryz.f84) rfl _ _ _ _ _ _ _ rfl rfl (C9.out.get 2 rfl) Tryz.underlying127 rfl infoGT) rfl ⟨rfl, C9.out.bel⟩
set_option maxHeartbeats 8000000 in
theorem hot_ok {s : DShop} (hs : DOk s) {d : DDip} (hd : DipOk s d) (v : Value) (w : World) (hv : DBathsIn w.heap.size w v s.baths) :
    Calls Tryz.prog 85 #[.agg (dshopC s v), .agg (dipC d)] w fun e w' => e = .returned (.tuple #[.agg #[.int .i64 (hotV s d).1, .int .i64 (hotV s d).2], .int .i64 (warmOf s d).2]) ∧ Below w.heap.size w w' := by
  have hwi := warm_in hs hd
  have hbd := hd.bath
  obtain ⟨va, vc, rfl, -, -⟩ := sl_shape hv
  have HGR := fun w => Lib.hid (grow_ok hs hd (warm := (warmOf s d).2) (by omega) (.slice va s.baths.length vc) ⟨_, _, _, rfl⟩ w)
  have HE : Hid (hotV s d = growV s d (warmOf s d).2) := rfl
  rw [HE.out]
  generalize growV s d (warmOf s d).2 = G at *
  obtain ⟨n, hn⟩ : ∃ n : Nat, d.bath = n := ⟨d.bath.toNat, by omega⟩
  have hil : n < s.baths.length := by omega
  have hii : (n : Int) < (s.baths.length : Int) := by omega
  have hwn : (warmOf s d).2 = (s.baths.getD n default).warm.2 := by unfold warmOf; rw [hn]; rfl
  obtain ⟨b, o, rfl, hbl, hx0, hsz, hx1, hx2⟩ := hv.at' hil
  have hx : w.cell? ⟨b, o + n * 3 + 2, none⟩ = some (.int .i64 (warmOf s d).2) := by rw [hwn]; exact hx2
  generalize (warmOf s d).2 = wm at *
  obtain ⟨bt, sec, pa, tu⟩ := d
  simp only at hn
  subst hn
  have C3 : Hid (Bs w [(w.heap.size, .cells (dshopC s (.slice (some ⟨b, o, none⟩) s.baths.length vc)) 106), (w.heap.size + 1, .cells (dipC ⟨n, sec, pa, tu⟩) 54), (w.heap.size + 2, .cells #[.int .i64 0, .int .i64 0] 127)] _) := Lib.hid ((((Bs.nil w).push _ rfl (.cells (dshopC s (.slice (some ⟨b, o, none⟩) s.baths.length vc)) 106)).push (w.heap.size + 1) (by simp) (.cells (dipC ⟨n, sec, pa, tu⟩) 54)).push (w.heap.size + 2) (by simp) (.cells #[.int .i64 0, .int .i64 0] 127))
  have c8 := C3.out.cell 0 rfl 8
  have d0 := C3.out.cell 1 rfl 0
  have hx' : World.cell? _ ⟨b, o + n * 3 + 1 + 1, none⟩ = some (.int .i64 wm) := (C3.out.bel.cell (p := ⟨b, o + n * 3 + 2, none⟩) hbl).trans hx
  clear hx0 hx1 hx2 hx hsz hbl hwi hwn hbd hs hd hv HE
  go_enter Tryz.func85, Tryz.ntmps85
  go_wp2_with (first | (refine wpList_load_row rfl 106 _ rfl _ rfl _ _ _ _ (C3.out.get 0 rfl) Tryz.underlying106 rfl infoDsh ?_) | (refine wpList_load_row rfl 54 _ rfl _ rfl _ _ _ _ (C3.out.get 1 rfl) Tryz.underlying54 rfl infoDD ?_))
  refine (HGR _).out.mono ?_
  rintro e w1 ⟨rfl, hb⟩
  have C4 := Lib.hid (C3.out.call hb)
  clear hb C3 c8 d0 hx'
  go_wp2_with (refine wpList_store_bs rfl 127 _ _ rfl C4.out 2 _ _ _ _ rfl rfl rfl infoGT rfl (by simp [Value.oneCell']) ?_; intro w9 hC; have C9 := Lib.hid hC; clear hC C4)
  exact bodyPost_ret (results_row_tmp (fn := Tryz.f85) rfl _ _ _ _ _ _ _ rfl rfl (C9.out.get 2 rfl) Tryz.underlying127 rfl infoGT) rfl ⟨rfl, C9.out.bel⟩
end Go.Proofs.YtpkggjobdmchlaaGreatDoor
