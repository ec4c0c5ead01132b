/- wick.Faults, Burn, Minutes. -/
import Derived.Lib.MinMax
import Derived.Test.YtpkggjobdmchlaaGreatDoorU9
namespace Go.Proofs.YtpkggjobdmchlaaGreatDoor
open Go.RowKit
theorem run_buildSp (a b : Int) (w : World) : (Instr.build 25 #[(0, .int .i64 a), (1, .int .i64 b)]).run Tryz.prog w = .ok (.agg #[.int .i64 a, .int .i64 b]) w := run_build w 25 _ _ (by kernel_rfl)
set_option maxRecDepth 100000 in
set_option maxHeartbeats 16000000 in
theorem Faults_ok {s : WShop} {c : Candle} (hs : WOk s c) (k : Nat) (hk : k < s.wicks.length) (vw vx : Value) (w : World) (hv : WShopAt w.heap.size w vw vx s) :
    Calls Tryz.prog 14 #[.agg (wshopC vw vx s), .int .i64 k, .agg (candC c)] w fun e w' => ∃ v, e = .returned (.tuple #[v, .int .i64 0]) ∧ IntsIn .i64 w'.heap.size w' v (faultsV s c k) ∧ Below w.heap.size w w' := by
  have HFA := fun vw vx g w h1 h2 => Lib.hid (faults_ok hs k hk vw vx g w h1 h2)
  obtain ⟨va, vc, rfl, hvl, -⟩ := sl_shape hv.1
  obtain ⟨xa, xc, rfl, hxl, -⟩ := sl_shape hv.2
  have HV := Lib.hid hv
  have HOP := fun vk w h1 h2 => Lib.hid (wopen_ok hs [(k : Int)] (by intro z hz; simp at hz; omega) (.slice va s.wicks.length vc) (.slice xa s.waxes.length xc) vk w h1 h2)
  have C0 : Hid (Bs w [(w.heap.size, .cells #[.slice va s.wicks.length vc, .slice xa s.waxes.length xc, .int .i64 s.flame.1, .int .i64 s.flame.2, .int .i64 s.pool.1, .int .i64 s.pool.2] 27), (w.heap.size + 1, .cells #[.int .i64 c.wax, .int .i64 c.dia, .int .i64 c.draught, .int .i64 c.cold.1, .int .i64 c.cold.2] 32), (w.heap.size + 1 + 1, .cells #[.int .i64 (k : Int)] 3)] _) := Lib.hid ((((Bs.nil w).push _ rfl (.cells #[.slice va s.wicks.length vc, .slice xa s.waxes.length xc, .int .i64 s.flame.1, .int .i64 s.flame.2, .int .i64 s.pool.1, .int .i64 s.pool.2] 27)).push (w.heap.size + 1) (by simp) (.cells #[.int .i64 c.wax, .int .i64 c.dia, .int .i64 c.draught, .int .i64 c.cold.1, .int .i64 c.cold.2] 32)).push (w.heap.size + 1 + 1) (by simp) (.cells #[.int .i64 (k : Int)] 3))
  have hc0 := C0.out.cell 0 rfl 0
  have hc1 := C0.out.cell 0 rfl 1
  have hc2 := C0.out.cell 0 rfl 2
  have hc3 := C0.out.cell 0 rfl 3
  have hc4 := C0.out.cell 0 rfl 4
  have hc5 := C0.out.cell 0 rfl 5
  have hk0 := C0.out.cell 1 rfl 0
  have hk1 := C0.out.cell 1 rfl 1
  have hk2 := C0.out.cell 1 rfl 2
  have hk3 := C0.out.cell 1 rfl 3
  have hk4 := C0.out.cell 1 rfl 4
  clear hs hv
  go_enter Tryz.func14, Tryz.ntmps14
  go_wp2_with fail
  refine (HOP _ _ ((HV.out.below C0.out.bel).mono C0.out.bel.size) (intsIn_blk (l := [(k : Int)]) (C0.out.get 2 rfl) rfl (by simp) rfl)).out.mono ?_
  rintro e w1 ⟨g, rfl, -, hg, hb⟩
  have C1 := Lib.hid (C0.out.call hb)
  have HG := Lib.hid hg
  clear hb hg C0 HOP hc0 hc1 hc2 hc3 hc4 hc5 hk0 hk1 hk2 hk3 hk4
  go_wp2_with fail
  refine (HFA (.slice va s.wicks.length vc) (.slice xa s.waxes.length xc) g _ ((HV.out.below C1.out.bel).mono C1.out.bel.size) HG.out).out.mono ?_
  rintro e w2 ⟨v, rfl, hi, hb⟩
  have C2 := Lib.hid (C1.out.call hb)
  have HI := Lib.hid hi
  clear hb hi C1 HFA HV
  obtain ⟨ra, rc, rfl, -⟩ := HI.out
  go_wp2_with fail
  go_ret2
  exact ⟨_, rfl, HI.out, C2.out.bel⟩
set_option maxRecDepth 100000 in
set_option maxHeartbeats 16000000 in
theorem Burn_ok {s : WShop} {c : Candle} (hs : WOk s c) (k : Nat) (hk : k < s.wicks.length) (vw vx : Value) (w : World) (hv : WShopAt w.heap.size w vw vx s) :
    Calls Tryz.prog 24 #[.agg (wshopC vw vx s), .int .i64 k, .agg (candC c)] w fun e w' => e = .returned (.tuple #[.agg (burnC (leastB s c k)), .agg (burnC (mostB s c k)), .int .i64 0]) ∧ Below w.heap.size w w' := by
  have HEN := fun vw vx g w h1 h2 => Lib.hid (ends_ok hs k hk vw vx g w h1 h2)
  obtain ⟨va, vc, rfl, hvl, -⟩ := sl_shape hv.1
  obtain ⟨xa, xc, rfl, hxl, -⟩ := sl_shape hv.2
  have HV := Lib.hid hv
  have HOP := fun vk w h1 h2 => Lib.hid (wopen_ok hs [(k : Int)] (by intro z hz; simp at hz; omega) (.slice va s.wicks.length vc) (.slice xa s.waxes.length xc) vk w h1 h2)
  have C0 : Hid (Bs w [(w.heap.size, .cells #[.slice va s.wicks.length vc, .slice xa s.waxes.length xc, .int .i64 s.flame.1, .int .i64 s.flame.2, .int .i64 s.pool.1, .int .i64 s.pool.2] 27), (w.heap.size + 1, .cells #[.int .i64 c.wax, .int .i64 c.dia, .int .i64 c.draught, .int .i64 c.cold.1, .int .i64 c.cold.2] 32), (w.heap.size + 1 + 1, .cells #[.int .i64 0, .int .i64 0, .int .i64 0] 66), (w.heap.size + 1 + 1 + 1, .cells #[.int .i64 0, .int .i64 0, .int .i64 0] 66), (w.heap.size + 1 + 1 + 1 + 1, .cells #[.int .i64 (k : Int)] 3)] _) := Lib.hid ((((((Bs.nil w).push _ rfl (.cells #[.slice va s.wicks.length vc, .slice xa s.waxes.length xc, .int .i64 s.flame.1, .int .i64 s.flame.2, .int .i64 s.pool.1, .int .i64 s.pool.2] 27)).push (w.heap.size + 1) (by simp) (.cells #[.int .i64 c.wax, .int .i64 c.dia, .int .i64 c.draught, .int .i64 c.cold.1, .int .i64 c.cold.2] 32)).push (w.heap.size + 1 + 1) (by simp) (.cells #[.int .i64 0, .int .i64 0, .int .i64 0] 66)).push (w.heap.size + 1 + 1 + 1) (by simp) (.cells #[.int .i64 0, .int .i64 0, .int .i64 0] 66)).push (w.heap.size + 1 + 1 + 1 + 1) (by simp) (.cells #[.int .i64 (k : Int)] 3))
  have hc0 := C0.out.cell 0 rfl 0
  have hc1 := C0.out.cell 0 rfl 1
  have hc2 := C0.out.cell 0 rfl 2
  have hc3 := C0.out.cell 0 rfl 3
  have hc4 := C0.out.cell 0 rfl 4
  have hc5 := C0.out.cell 0 rfl 5
  have hk0 := C0.out.cell 1 rfl 0
  have hk1 := C0.out.cell 1 rfl 1
  have hk2 := C0.out.cell 1 rfl 2
  have hk3 := C0.out.cell 1 rfl 3
  have hk4 := C0.out.cell 1 rfl 4
  clear hs hv
  go_enter Tryz.func24, Tryz.ntmps24
  go_wp2_with fail
  refine (HOP _ _ ((HV.out.below C0.out.bel).mono C0.out.bel.size) (intsIn_blk (l := [(k : Int)]) (C0.out.get 4 rfl) rfl (by simp) rfl)).out.mono ?_
  rintro e w1 ⟨g, rfl, -, hg, hb⟩
  have C1 := Lib.hid (C0.out.call hb)
  have HG := Lib.hid hg
  clear hb hg C0 HOP hc0 hc1 hc2 hc3 hc4 hc5 hk0 hk1 hk2 hk3 hk4
  go_wp2_with fail
  refine (HEN (.slice va s.wicks.length vc) (.slice xa s.waxes.length xc) g _ ((HV.out.below C1.out.bel).mono C1.out.bel.size) HG.out).out.mono ?_
  rintro e w2 ⟨rfl, hb⟩
  have C2 := Lib.hid (C1.out.call hb)
  clear hb C1 HEN HV
  go_wp2_with (first | (refine wpList_store_bs rfl 66 _ _ rfl C2.out 2 _ (burnC (leastB s c k)) _ _ rfl rfl rfl infoBurn rfl (by simp [Value.oneCell']) ?_; intro w3 hC3; have CQ : Hid (Bs w [(w.heap.size, .cells #[.slice va s.wicks.length vc, .slice xa s.waxes.length xc, .int .i64 s.flame.1, .int .i64 s.flame.2, .int .i64 s.pool.1, .int .i64 s.pool.2] 27), (w.heap.size + 1, .cells #[.int .i64 c.wax, .int .i64 c.dia, .int .i64 c.draught, .int .i64 c.cold.1, .int .i64 c.cold.2] 32), (w.heap.size + 1 + 1, .cells (burnC (leastB s c k)) 66), (w.heap.size + 1 + 1 + 1, .cells #[.int .i64 0, .int .i64 0, .int .i64 0] 66), (w.heap.size + 1 + 1 + 1 + 1, .cells #[.int .i64 (k : Int)] 3)] w3) := hC3; clear hC3 C2) | (refine wpList_store_bs rfl 66 _ _ rfl CQ.out 3 _ (burnC (mostB s c k)) _ _ rfl rfl rfl infoBurn rfl (by simp [Value.oneCell']) ?_; intro w4 hC4; have CR : Hid (Bs w [(w.heap.size, .cells #[.slice va s.wicks.length vc, .slice xa s.waxes.length xc, .int .i64 s.flame.1, .int .i64 s.flame.2, .int .i64 s.pool.1, .int .i64 s.pool.2] 27), (w.heap.size + 1, .cells #[.int .i64 c.wax, .int .i64 c.dia, .int .i64 c.draught, .int .i64 c.cold.1, .int .i64 c.cold.2] 32), (w.heap.size + 1 + 1, .cells (burnC (leastB s c k)) 66), (w.heap.size + 1 + 1 + 1, .cells (burnC (mostB s c k)) 66), (w.heap.size + 1 + 1 + 1 + 1, .cells #[.int .i64 (k : Int)] 3)] w4) := hC4; clear hC4 CQ))
  refine wp_region_inv0 (by kernel_rfl) (by kernel_rfl) (fun D w' => Bs w [(w.heap.size, .cells #[.slice va s.wicks.length vc, .slice xa s.waxes.length xc, .int .i64 s.flame.1, .int .i64 s.flame.2, .int .i64 s.pool.1, .int .i64 s.pool.2] 27), (w.heap.size + 1, .cells #[.int .i64 c.wax, .int .i64 c.dia, .int .i64 c.draught, .int .i64 c.cold.1, .int .i64 c.cold.2] 32), (w.heap.size + 1 + 1, .cells (burnC (leastB s c k)) 66), (w.heap.size + 1 + 1 + 1, .cells (burnC (mostB s c k)) 66), (w.heap.size + 1 + 1 + 1 + 1, .cells #[.int .i64 (k : Int)] 3)] w') CR.out.drew ?_
  apply obl_det
  case hrun =>
    intro D y wz hW hD R hR
    have HRR := Lib.hid hR
    clear hR
    have HW := Lib.hid hW
    have h1 := HW.out.get 2 rfl
    clear hW hD
    refine wpList_load_row rfl 66 _ rfl _ rfl _ _ _ _ h1 Tryz.underlying66 rfl infoBurn ?_
    go_simp
    exact HRR.out _ HW.out
  case hnp => rfl
  case hv => first | exact ⟨_, fun _ => rfl⟩ | exact ⟨undef, fun _ => rfl⟩
  apply obl_det
  case hrun =>
    intro D y wz hW hD R hR
    have HRR := Lib.hid hR
    clear hR
    have HW := Lib.hid hW
    have h1 := HW.out.get 3 rfl
    clear hW hD
    refine wpList_load_row rfl 66 _ rfl _ rfl _ _ _ _ h1 Tryz.underlying66 rfl infoBurn ?_
    go_simp
    exact HRR.out _ HW.out
  case hnp => rfl
  case hv => first | exact ⟨_, fun _ => rfl⟩ | exact ⟨undef, fun _ => rfl⟩
  apply obl_det
  case hrun =>
    intro D y wz hW hD R hR
    have HRR := Lib.hid hR
    clear hR
    have HW := Lib.hid hW
    clear hW hD
    refine wpList_store_bs rfl 66 _ _ rfl HW.out 2 _ (burnC (leastB s c k)) _ _ rfl rfl rfl infoBurn rfl (by simp [Value.oneCell']) ?_
    intro w5 hC5
    have HC5 := Lib.hid hC5
    clear hC5
    simp only [Act.put]
    go_simp
    exact HRR.out _ HC5.out
  case hnp => rfl
  case hv => first | exact ⟨_, fun _ => rfl⟩ | exact ⟨undef, fun _ => rfl⟩
  apply obl_det
  case hrun =>
    intro D y wz hW hD R hR
    have HRR := Lib.hid hR
    clear hR
    have HW := Lib.hid hW
    clear hW hD
    refine wpList_store_bs rfl 66 _ _ rfl HW.out 3 _ (burnC (mostB s c k)) _ _ rfl rfl rfl infoBurn rfl (by simp [Value.oneCell']) ?_
    intro w5 hC5
    have HC5 := Lib.hid hC5
    clear hC5
    simp only [Act.put]
    go_simp
    exact HRR.out _ HC5.out
  case hnp => rfl
  case hv => first | exact ⟨_, fun _ => rfl⟩ | exact ⟨undef, fun _ => rfl⟩
  apply obl_det
  case hrun =>
    intro D y wz hW hD R hR
    have HRR := Lib.hid hR
    clear hR
    have HW := Lib.hid hW
    clear hW hD
    go_wp2_with fail
    exact HRR.out _ HW.out
  case hnp => rfl
  case hv => first | exact ⟨_, fun _ => rfl⟩ | exact ⟨undef, fun _ => rfl⟩
  apply obl_nil
  intro D y wB hall hW
  have HT3 := Lib.hid hW
  clear hW hall CR
  go_wp2_with fail
  exact bodyPost_ret (results_row2_tmp (fn := Tryz.f24) rfl _ _ _ _ _ _ _ _ _ _ _ rfl rfl rfl (HT3.out.get 2 rfl) (HT3.out.get 3 rfl) Tryz.underlying66 Tryz.underlying66 rfl rfl infoBurn infoBurn) rfl ⟨rfl, HT3.out.bel⟩
theorem rate_pos {x : Wax} {c : Candle} {p : Int × Int} (h : BOk x c p) {t : WTru} (ht : trueW x c p t = true) : 1 ≤ (burnV x t).rate ∧ (burnV x t).rate ≤ 5700000000 := by
  obtain ⟨a1, a2, a3, -, -, -⟩ := drawn_bounds h ht
  have q1 := mulb (a := t.pull) (b := t.flow) (A := 1000) (B := 300) (by omega) (by omega)
  have q2 := mulb q1 (b := 100 + t.draught) (B := 190) (by omega)
  have r1 : 1 * 1 ≤ t.pull * t.flow := Int.mul_le_mul a1.1 a2.1 (by omega) (by omega)
  have r2 : 1 * 1 * 10 ≤ t.pull * t.flow * (100 + t.draught) := Int.mul_le_mul r1 a3.1 (by omega) (by omega)
  simp only [burnV]
  omega
set_option maxRecDepth 100000 in
set_option maxHeartbeats 16000000 in
theorem Minutes_ok {s : WShop} {c : Candle} (hs : WOk s c) (k : Nat) (hk : k < s.wicks.length) (n : Int) (hn : 1 ≤ n ∧ n ≤ 100000) (vw vx : Value) (w : World) (hv : WShopAt w.heap.size w vw vx s) :
    Calls Tryz.prog 28 #[.agg (wshopC vw vx s), .int .i64 k, .agg (candC c), .int .i64 n] w fun e w' => e = .returned (.tuple #[.agg #[.int .i64 (minutesV s c k n).1, .int .i64 (minutesV s c k n).2], .int .i64 0]) ∧ Below w.heap.size w w' := by
  have HEN := fun vw vx g w h1 h2 => Lib.hid (ends_ok hs k hk vw vx g w h1 h2)
  obtain ⟨hn0, hn1⟩ := hn
  obtain ⟨hl0, hl1⟩ : 1 ≤ (leastB s c k).rate ∧ (leastB s c k).rate ≤ 5700000000 := rate_pos (hs.bok hk) (hs.bok hk).least
  obtain ⟨hm0, hm1⟩ : 1 ≤ (mostB s c k).rate ∧ (mostB s c k).rate ≤ 5700000000 := rate_pos (hs.bok hk) (hs.bok hk).most
  obtain ⟨va, vc, rfl, hvl, -⟩ := sl_shape hv.1
  obtain ⟨xa, xc, rfl, hxl, -⟩ := sl_shape hv.2
  have HV := Lib.hid hv
  have HOP := fun vk w h1 h2 => Lib.hid (wopen_ok hs [(k : Int)] (by intro z hz; simp at hz; omega) (.slice va s.wicks.length vc) (.slice xa s.waxes.length xc) vk w h1 h2)
  have C0 : Hid (Bs w [(w.heap.size, .cells #[.slice va s.wicks.length vc, .slice xa s.waxes.length xc, .int .i64 s.flame.1, .int .i64 s.flame.2, .int .i64 s.pool.1, .int .i64 s.pool.2] 27), (w.heap.size + 1, .cells #[.int .i64 c.wax, .int .i64 c.dia, .int .i64 c.draught, .int .i64 c.cold.1, .int .i64 c.cold.2] 32), (w.heap.size + 1 + 1, .cells #[.int .i64 0, .int .i64 0] 25), (w.heap.size + 1 + 1 + 1, .cells #[.int .i64 (k : Int)] 3)] _) := Lib.hid (((((Bs.nil w).push _ rfl (.cells #[.slice va s.wicks.length vc, .slice xa s.waxes.length xc, .int .i64 s.flame.1, .int .i64 s.flame.2, .int .i64 s.pool.1, .int .i64 s.pool.2] 27)).push (w.heap.size + 1) (by simp) (.cells #[.int .i64 c.wax, .int .i64 c.dia, .int .i64 c.draught, .int .i64 c.cold.1, .int .i64 c.cold.2] 32)).push (w.heap.size + 1 + 1) (by simp) (.cells #[.int .i64 0, .int .i64 0] 25)).push (w.heap.size + 1 + 1 + 1) (by simp) (.cells #[.int .i64 (k : Int)] 3))
  have hc0 := C0.out.cell 0 rfl 0
  have hc1 := C0.out.cell 0 rfl 1
  have hc2 := C0.out.cell 0 rfl 2
  have hc3 := C0.out.cell 0 rfl 3
  have hc4 := C0.out.cell 0 rfl 4
  have hc5 := C0.out.cell 0 rfl 5
  have hk0 := C0.out.cell 1 rfl 0
  have hk1 := C0.out.cell 1 rfl 1
  have hk2 := C0.out.cell 1 rfl 2
  have hk3 := C0.out.cell 1 rfl 3
  have hk4 := C0.out.cell 1 rfl 4
  clear hs hv
  go_enter Tryz.func28, Tryz.ntmps28
  go_wp2_with fail
  refine (HOP _ _ ((HV.out.below C0.out.bel).mono C0.out.bel.size) (intsIn_blk (l := [(k : Int)]) (C0.out.get 3 rfl) rfl (by simp) rfl)).out.mono ?_
  rintro e w1 ⟨g, rfl, -, hg, hb⟩
  have C1 := Lib.hid (C0.out.call hb)
  have HG := Lib.hid hg
  clear hb hg C0 HOP hc0 hc1 hc2 hc3 hc4 hc5 hk0 hk1 hk2 hk3 hk4
  go_wp2_with fail
  refine (kout_row false 1 100000 [n] 1 rfl (by simp) (by rw [outB_one, outOne_ff]; omega) _ _ rfl _ (heap_alloc_new _ _)).mono ?_
  rintro e w2 ⟨rfl, hb⟩
  have C2 := Lib.hid ((C1.out.alloc _).call hb)
  have HG := Lib.hid (block_keep (block_keep HG.out ((Below.refl _ _).alloc (Nat.le_refl _) _)) hb)
  clear hb C1
  go_wp2_with fail
  refine (HEN (.slice va s.wicks.length vc) (.slice xa s.waxes.length xc) g _ ((HV.out.below C2.out.bel).mono C2.out.bel.size) HG.out).out.mono ?_
  rintro e w3 ⟨rfl, hb⟩
  have C3 := Lib.hid (C2.out.call hb)
  clear hb C2 HEN HV
  have CP := Lib.hid ((C3.out.push _ rfl (.cells #[.int .i64 0, .int .i64 0, .int .i64 0] 66)).push (w3.heap.size + 1) (by simp) (.cells #[.int .i64 0, .int .i64 0, .int .i64 0] 66))
  clear C3
  go_wp2_with (first | (refine wpList_store_bs rfl 66 _ _ rfl CP.out 4 _ (burnC (leastB s c k)) _ _ rfl rfl rfl infoBurn rfl (by simp [Value.oneCell']) ?_; intro w4 hC4; have CQ : Hid (Bs w [(w.heap.size, .cells #[.slice va s.wicks.length vc, .slice xa s.waxes.length xc, .int .i64 s.flame.1, .int .i64 s.flame.2, .int .i64 s.pool.1, .int .i64 s.pool.2] 27), (w.heap.size + 1, .cells #[.int .i64 c.wax, .int .i64 c.dia, .int .i64 c.draught, .int .i64 c.cold.1, .int .i64 c.cold.2] 32), (w.heap.size + 1 + 1, .cells #[.int .i64 0, .int .i64 0] 25), (w.heap.size + 1 + 1 + 1, .cells #[.int .i64 (k : Int)] 3), (w3.heap.size, .cells (burnC (leastB s c k)) 66), (w3.heap.size + 1, .cells #[.int .i64 0, .int .i64 0, .int .i64 0] 66)] w4) := hC4; clear hC4 CP) | (refine wpList_store_bs rfl 66 _ _ rfl CQ.out 5 _ (burnC (mostB s c k)) _ _ rfl rfl rfl infoBurn rfl (by simp [Value.oneCell']) ?_; intro w5 hC5; have CR : Hid (Bs w [(w.heap.size, .cells #[.slice va s.wicks.length vc, .slice xa s.waxes.length xc, .int .i64 s.flame.1, .int .i64 s.flame.2, .int .i64 s.pool.1, .int .i64 s.pool.2] 27), (w.heap.size + 1, .cells #[.int .i64 c.wax, .int .i64 c.dia, .int .i64 c.draught, .int .i64 c.cold.1, .int .i64 c.cold.2] 32), (w.heap.size + 1 + 1, .cells #[.int .i64 0, .int .i64 0] 25), (w.heap.size + 1 + 1 + 1, .cells #[.int .i64 (k : Int)] 3), (w3.heap.size, .cells (burnC (leastB s c k)) 66), (w3.heap.size + 1, .cells (burnC (mostB s c k)) 66)] w5) := hC5; clear hC5 CQ))
  refine wp_region_inv0 (by kernel_rfl) (by kernel_rfl) (fun D w' => Bs w [(w.heap.size, .cells #[.slice va s.wicks.length vc, .slice xa s.waxes.length xc, .int .i64 s.flame.1, .int .i64 s.flame.2, .int .i64 s.pool.1, .int .i64 s.pool.2] 27), (w.heap.size + 1, .cells #[.int .i64 c.wax, .int .i64 c.dia, .int .i64 c.draught, .int .i64 c.cold.1, .int .i64 c.cold.2] 32), (w.heap.size + 1 + 1, .cells (cond (D 13) #[.int .i64 (minutesV s c k n).1, .int .i64 (minutesV s c k n).2] #[.int .i64 0, .int .i64 0]) 25), (w.heap.size + 1 + 1 + 1, .cells #[.int .i64 (k : Int)] 3), (w3.heap.size, .cells (burnC (leastB s c k)) 66), (w3.heap.size + 1, .cells (burnC (mostB s c k)) 66)] w') CR.out.drew ?_
  apply obl_det
  case hrun =>
    intro D y wz hW hD R hR
    have HRR := Lib.hid hR
    clear hR
    have HW := Lib.hid hW
    clear hW hD
    go_wp2_with fail
    exact HRR.out _ HW.out
  case hnp => rfl
  case hv => first | exact ⟨_, fun _ => rfl⟩ | exact ⟨undef, fun _ => rfl⟩
  apply obl_det
  case hrun =>
    intro D y wz hW hD R hR
    have HRR := Lib.hid hR
    clear hR
    have HW := Lib.hid hW
    clear hW hD
    go_wp2_with fail
    exact HRR.out _ HW.out
  case hnp => rfl
  case hv => first | exact ⟨_, fun _ => rfl⟩ | exact ⟨undef, fun _ => rfl⟩
  apply obl_det
  case hrun =>
    intro D y wz hW hD R hR
    have HRR := Lib.hid hR
    clear hR
    have HW := Lib.hid hW
    have h1 := HW.out.cell 5 rfl 0
    clear hW hD
    go_wp2_with fail
    exact HRR.out _ HW.out
  case hnp => rfl
  case hv => first | exact ⟨_, fun _ => rfl⟩ | exact ⟨undef, fun _ => rfl⟩
  apply obl_det
  case hrun =>
    intro D y wz hW hD R hR
    have HRR := Lib.hid hR
    clear hR
    have HW := Lib.hid hW
    clear hW hD
    go_wp2_with fail
    exact HRR.out _ HW.out
  case hnp => rfl
  case hv => first | exact ⟨_, fun _ => rfl⟩ | exact ⟨undef, fun _ => rfl⟩
  apply obl_det
  case hrun =>
    intro D y wz hW hD R hR
    have HRR := Lib.hid hR
    clear hR
    have HW := Lib.hid hW
    clear hW hD
    go_wp2_with fail
    exact HRR.out _ HW.out
  case hnp => rfl
  case hv => first | exact ⟨_, fun _ => rfl⟩ | exact ⟨undef, fun _ => rfl⟩
  apply obl_det
  case hrun =>
    intro D y wz hW hD R hR
    have HRR := Lib.hid hR
    clear hR
    have HW := Lib.hid hW
    clear hW hD
    go_wp2_with fail
    exact HRR.out _ HW.out
  case hnp => rfl
  case hv => first | exact ⟨_, fun _ => rfl⟩ | exact ⟨undef, fun _ => rfl⟩
  apply obl_det
  case hrun =>
    intro D y wz hW hD R hR
    have HRR := Lib.hid hR
    clear hR
    have HW := Lib.hid hW
    have h1 := HW.out.cell 4 rfl 0
    clear hW hD
    go_wp2_with fail
    exact HRR.out _ HW.out
  case hnp => rfl
  case hv => first | exact ⟨_, fun _ => rfl⟩ | exact ⟨undef, fun _ => rfl⟩
  apply obl_det
  case hrun =>
    intro D y wz hW hD R hR
    have HRR := Lib.hid hR
    clear hR
    have HW := Lib.hid hW
    clear hW hD
    go_wp2_with fail
    exact HRR.out _ HW.out
  case hnp => rfl
  case hv => first | exact ⟨_, fun _ => rfl⟩ | exact ⟨undef, fun _ => rfl⟩
  apply obl_det
  case hrun =>
    intro D y wz hW hD R hR
    have HRR := Lib.hid hR
    clear hR
    have HW := Lib.hid hW
    clear hW hD
    go_wp2_with fail
    exact HRR.out _ HW.out
  case hnp => rfl
  case hv => first | exact ⟨_, fun _ => rfl⟩ | exact ⟨undef, fun _ => rfl⟩
  apply obl_det
  case hrun =>
    intro D y wz hW hD R hR
    have HRR := Lib.hid hR
    clear hR
    have HW := Lib.hid hW
    clear hW hD
    go_wp2_with fail
    exact HRR.out _ HW.out
  case hnp => rfl
  case hv => first | exact ⟨_, fun _ => rfl⟩ | exact ⟨undef, fun _ => rfl⟩
  apply obl_det
  case hrun =>
    intro D y wz hW hD R hR
    have HRR := Lib.hid hR
    clear hR
    have HW := Lib.hid hW
    have h1 := HW.out.cell 4 rfl 0
    clear hW hD
    go_wp2_with fail
    exact HRR.out _ HW.out
  case hnp => rfl
  case hv => first | exact ⟨_, fun _ => rfl⟩ | exact ⟨undef, fun _ => rfl⟩
  apply obl_det
  case hrun =>
    intro D y wz hW hD R hR
    have HRR := Lib.hid hR
    clear hR
    have HW := Lib.hid hW
    clear hW hD
    go_wp2_with fail
    exact HRR.out _ HW.out
  case hnp => rfl
  case hv => first | exact ⟨_, fun _ => rfl⟩ | exact ⟨undef, fun _ => rfl⟩
  apply obl_det
  case hrun =>
    intro D y wz hW hD R hR
    have HRR := Lib.hid hR
    clear hR
    have HW := Lib.hid hW
    clear hW hD
    refine wpList_bdU rfl 25 _ rfl _ (by simp only [List.map_toArray, List.map]; rfl) _ (run_buildSp ..) ?_
    exact HRR.out _ HW.out
  case hnp => rfl
  case hv => first | exact ⟨_, fun _ => rfl⟩ | exact ⟨undef, fun _ => rfl⟩
  apply obl_det
  case hrun =>
    intro D y wz hW hD R hR
    have HRR := Lib.hid hR
    clear hR
    have h0 : D 13 = false := hD.not
    rw [h0] at hW
    clear h0
    have HW := Lib.hid hW
    clear hW hD
    refine wpList_store_bs rfl 25 _ _ rfl HW.out 2 _ #[.int .i64 (minutesV s c k n).1, .int .i64 (minutesV s c k n).2] _ _ rfl rfl rfl infoSpan rfl (by simp [Value.oneCell']) ?_
    intro w6 hC6
    have HC6 := Lib.hid hC6
    clear hC6
    simp only [Act.put]
    go_simp
    exact HRR.out _ HC6.out
  case hnp => rfl
  case hv => first | exact ⟨_, fun _ => rfl⟩ | exact ⟨undef, fun _ => rfl⟩
  apply obl_det
  case hrun =>
    intro D y wz hW hD R hR
    have HRR := Lib.hid hR
    clear hR
    have HW := Lib.hid hW
    clear hW hD
    go_wp2_with fail
    exact HRR.out _ HW.out
  case hnp => rfl
  case hv => first | exact ⟨_, fun _ => rfl⟩ | exact ⟨undef, fun _ => rfl⟩
  apply obl_nil
  intro D y wB hall hW
  rw [hall 13 (by decide)] at hW
  have HT3 : Hid (Bs w [(w.heap.size, .cells #[.slice va s.wicks.length vc, .slice xa s.waxes.length xc, .int .i64 s.flame.1, .int .i64 s.flame.2, .int .i64 s.pool.1, .int .i64 s.pool.2] 27), (w.heap.size + 1, .cells #[.int .i64 c.wax, .int .i64 c.dia, .int .i64 c.draught, .int .i64 c.cold.1, .int .i64 c.cold.2] 32), (w.heap.size + 1 + 1, .cells #[.int .i64 (minutesV s c k n).1, .int .i64 (minutesV s c k n).2] 25), (w.heap.size + 1 + 1 + 1, .cells #[.int .i64 (k : Int)] 3), (w3.heap.size, .cells (burnC (leastB s c k)) 66), (w3.heap.size + 1, .cells (burnC (mostB s c k)) 66)] wB) := hW
  clear hW hall CR
  go_wp2_with fail
  exact bodyPost_ret (results_row_tmp (fn := Tryz.f28) rfl _ _ _ _ _ _ _ rfl rfl (HT3.out.get 2 rfl) Tryz.underlying25 rfl infoSpan) rfl ⟨rfl, HT3.out.bel⟩
end Go.Proofs.YtpkggjobdmchlaaGreatDoor
