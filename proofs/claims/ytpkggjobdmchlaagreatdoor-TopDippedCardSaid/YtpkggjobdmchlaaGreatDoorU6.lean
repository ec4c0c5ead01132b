/- wick.product, wick.burn. -/
import Derived.Test.YtpkggjobdmchlaaGreatDoorU5
namespace Go.Proofs.YtpkggjobdmchlaaGreatDoor
open Go.RowKit
theorem mulb {a b A B : Int} (h1 : 0 ≤ a ∧ a ≤ A) (h2 : 0 ≤ b ∧ b ≤ B) : 0 ≤ a * b ∧ a * b ≤ A * B := ⟨Int.mul_nonneg h1.1 h2.1, Int.mul_le_mul h1.2 h2.2 h2.1 (by omega)⟩
theorem wrapU {x : Int} (h : -1000000000000000000 ≤ x ∧ x ≤ 1000000000000000000) : wrap64 x = x := by unfold wrap64; omega
set_option maxRecDepth 100000 in
set_option maxHeartbeats 4000000 in
theorem product_ok (a b c d : Int) (ha : 0 ≤ a ∧ a ≤ 1000) (hb : 0 ≤ b ∧ b ≤ 300) (hc : 0 ≤ c ∧ c ≤ 190) (hd : 0 ≤ d ∧ d ≤ 2000) (w : World) :
    Calls Tryz.prog 94 #[.agg #[.int .i64 a, .int .i64 b, .int .i64 c, .int .i64 d]] w fun e w' => e = .returned (.int .i64 (a * b * c * d)) ∧ Below w.heap.size w w' := by
  obtain ⟨ha0, ha1⟩ := ha
  have m1 := mulb ⟨ha0, ha1⟩ hb
  have m2 := mulb m1 hc
  have m3 := mulb m2 hd
  have H1 := Lib.hid (wrapU (x := a * b) (by omega))
  have H2 := Lib.hid (wrapU (x := a * b * c) (by omega))
  have H3 := Lib.hid (wrapU (x := a * b * c * d) (by omega))
  have C0 : Hid (Bs w [(w.heap.size, .cells #[.int .i64 a, .int .i64 b, .int .i64 c, .int .i64 d] 178)] _) := Lib.hid ((Bs.nil w).push _ rfl (.cells #[.int .i64 a, .int .i64 b, .int .i64 c, .int .i64 d] 178))
  have hc0 := C0.out.cell 0 rfl 0
  have hc1 := C0.out.cell 0 rfl 1
  have hc2 := C0.out.cell 0 rfl 2
  have hc3 := C0.out.cell 0 rfl 3
  clear hb hc hd m1 m2 m3
  have i0 : ∀ w, (Instr.index 178 (.agg #[.int .i64 a, .int .i64 b, .int .i64 c, .int .i64 d]) (.int .i64 0)).run Tryz.prog w = .ok (.int .i64 a) w := fun _ => by kernel_rfl
  have i1 : ∀ w, (Instr.index 178 (.agg #[.int .i64 a, .int .i64 b, .int .i64 c, .int .i64 d]) (.int .i64 1)).run Tryz.prog w = .ok (.int .i64 b) w := fun _ => by kernel_rfl
  have i2 : ∀ w, (Instr.index 178 (.agg #[.int .i64 a, .int .i64 b, .int .i64 c, .int .i64 d]) (.int .i64 2)).run Tryz.prog w = .ok (.int .i64 c) w := fun _ => by kernel_rfl
  have i3 : ∀ w, (Instr.index 178 (.agg #[.int .i64 a, .int .i64 b, .int .i64 c, .int .i64 d]) (.int .i64 3)).run Tryz.prog w = .ok (.int .i64 d) w := fun _ => by kernel_rfl
  go_enter Tryz.func94, Tryz.ntmps94
  go_wp2_with fail
  clear hc0 hc1 hc2 hc3
  go_loopw [3, 7] (fun ac iv wr => Below w.heap.size w wr ∧ ((iv = .int .i64 0 ∧ ac = .int .i64 1) ∨ (iv = .int .i64 1 ∧ ac = .int .i64 a) ∨ (iv = .int .i64 2 ∧ ac = .int .i64 (a * b)) ∨ (iv = .int .i64 3 ∧ ac = .int .i64 (a * b * c)) ∨ (iv = .int .i64 4 ∧ ac = .int .i64 (a * b * c * d)))) (fun _ iv _ => 4 - (intOf iv).toNat)
  case atStart => exact ⟨C0.out.bel, .inl ⟨rfl, rfl⟩⟩
  case round =>
    obtain ⟨hbl, hq⟩ := hrel
    have HB := Lib.hid hbl
    clear hbl
    rcases hq with ⟨rfl, rfl⟩ | ⟨rfl, rfl⟩ | ⟨rfl, rfl⟩ | ⟨rfl, rfl⟩ | ⟨rfl, rfl⟩
    · go_wp2_with fail
      go_roundw
      case rel => exact ⟨HB.out, .inr (.inl ⟨rfl, by first | rfl | simp⟩)⟩
      case measure => simp [intOf]
    · go_wp2_with fail
      try rw [H1.out]
      go_roundw
      case rel => exact ⟨HB.out, .inr (.inr (.inl ⟨rfl, rfl⟩))⟩
      case measure => simp [intOf]
    · go_wp2_with fail
      try rw [H2.out]
      go_roundw
      case rel => exact ⟨HB.out, .inr (.inr (.inr (.inl ⟨rfl, rfl⟩)))⟩
      case measure => simp [intOf]
    · go_wp2_with fail
      try rw [H3.out]
      go_roundw
      case rel => exact ⟨HB.out, .inr (.inr (.inr (.inr ⟨rfl, rfl⟩)))⟩
      case measure => simp [intOf]
    · go_wp2_with fail
      go_ret
      exact ⟨rfl, HB.out⟩
theorem info3U : (Tryz.prog.info? 3).map (·.size) = some 1 := by kernel_rfl
theorem run_buildFac (a b c d : Int) (w : World) : (Instr.build 178 #[(0, .int .i64 a), (1, .int .i64 b), (2, .int .i64 c), (3, .int .i64 d)]).run Tryz.prog w = .ok (.agg #[.int .i64 a, .int .i64 b, .int .i64 c, .int .i64 d]) w := run_build w 178 _ _ (by kernel_rfl)
set_option maxRecDepth 100000 in
set_option maxHeartbeats 16000000 in
theorem burn_ok {s : WShop} {c : Candle} {x : Wax} {p : Int × Int} (hbo : BOk x c p) (t : WTru) (ht : trueW x c p t = true) (vw vx : Value) (g : Nat) (w : World) (hg : w.heap[g]? = some (.cells (opC vw vx s c x) 104)) :
    Calls Tryz.prog 61 #[.pointer (some ⟨g, 0, none⟩), .agg (wtruC t)] w fun e w' => e = .returned (.agg (burnC (burnV x t))) ∧ Below w.heap.size w w' := by
  have hmf : ∀ (fn : Fn) (first cap : Array Value) (w : World), (Instr.makeFunc fn first cap).run Tryz.prog w = .ok (.func fn first cap) w := fun _ _ _ _ => rfl
  have hbf := run_buildFac
  obtain ⟨⟨hp0, hp1⟩, ⟨hf0, hf1⟩, ⟨hd0, hd1⟩, ⟨hr0, hr1⟩, ⟨hs0, hs1⟩, ⟨hc0, hc1⟩⟩ := drawn_bounds hbo ht
  obtain ⟨hx0, hx1⟩ := hbo.chill
  clear hbo ht
  have HG := Lib.hid hg
  have HGL := Lib.hid (block_lt hg)
  have HP1 := fun w => Lib.hid (product_ok t.pull t.flow (100 + t.draught) 100 (by omega) (by omega) (by omega) (by omega) w)
  have HP2 := fun w => Lib.hid (product_ok t.pull t.flow (100 + t.draught) t.rise (by omega) (by omega) (by omega) (by omega) w)
  have HP3 := fun w => Lib.hid (product_ok t.pull t.flow (100 + t.draught) t.spread (by omega) (by omega) (by omega) (by omega) w)
  have mm := mulb (a := t.cold) (b := x.chill) (A := 300) (B := 50) (by omega) (by omega)
  have HMW := Lib.hid (wrapU (x := t.cold * x.chill) (by omega))
  have q1 := mulb (a := t.pull) (b := t.flow) (A := 1000) (B := 300) (by omega) (by omega)
  have q2 := mulb q1 (b := 100 + t.draught) (B := 190) (by omega)
  have q3 := mulb q2 (b := t.spread) (B := 2000) (by omega)
  have HV : Hid (burnC (burnV x t) = #[.int .i64 (t.pull * t.flow * (100 + t.draught) * 100), .int .i64 (t.pull * t.flow * (100 + t.draught) * t.rise), .int .i64 (t.pull * t.flow * (100 + t.draught) * t.spread - t.cold * x.chill * 1000000 / 10)]) := by
    unfold Hid burnC burnV
    simp only
    rw [show t.cold * x.chill * 1000000 / 10 = t.cold * x.chill * 100000 from by omega]
  clear q1 q2
  rw [HV.out]
  clear HV
  obtain ⟨M, hM⟩ : ∃ M, t.cold * x.chill = M := ⟨_, rfl⟩
  rw [hM] at HMW mm ⊢
  have HH := Lib.hid hM
  clear hM
  generalize t.pull * t.flow * (100 + t.draught) = PD at *
  obtain ⟨q30, q31⟩ := q3
  have q32 : PD * t.spread ≤ 114000000000 := by omega
  obtain ⟨m0, m1⟩ := mm
  have m2 : M ≤ 15000 := by omega
  clear q31 m1
  have C0 : Hid (Bs w [(w.heap.size, .cells #[.int .i64 t.pull, .int .i64 t.flow, .int .i64 t.rise, .int .i64 t.spread, .int .i64 t.draught, .int .i64 t.cold] 72), (w.heap.size + 1, .cells #[.int .i64 0, .int .i64 0, .int .i64 0] 66), (w.heap.size + 1 + 1, .cells #[.int .i64 0, .int .i64 0, .int .i64 0] 66)] _) := Lib.hid ((((Bs.nil w).push _ rfl (.cells #[.int .i64 t.pull, .int .i64 t.flow, .int .i64 t.rise, .int .i64 t.spread, .int .i64 t.draught, .int .i64 t.cold] 72)).push (w.heap.size + 1) (by simp) (.cells #[.int .i64 0, .int .i64 0, .int .i64 0] 66)).push (w.heap.size + 1 + 1) (by simp) (.cells #[.int .i64 0, .int .i64 0, .int .i64 0] 66))
  have C1 : Hid (Bs w [(w.heap.size, .cells #[.int .i64 t.pull, .int .i64 t.flow, .int .i64 t.rise, .int .i64 t.spread, .int .i64 t.draught, .int .i64 t.cold] 72), (w.heap.size + 1, .cells #[.int .i64 0, .int .i64 0, .int .i64 0] 66), (w.heap.size + 1 + 1, .cells #[.int .i64 0, .int .i64 0, .int .i64 0] 66), (w.heap.size + 1 + 1 + 1, .cells #[.int .i64 100, .int .i64 t.rise, .int .i64 t.spread] 3)] _) := Lib.hid (C0.out.push (w.heap.size + 1 + 1 + 1) (by simp) (.cells #[.int .i64 100, .int .i64 t.rise, .int .i64 t.spread] 3))
  have hb2 := C0.out.cell 0 rfl 2
  have hb3 := C0.out.cell 0 rfl 3
  clear hg
  go_enter Tryz.func61, Tryz.ntmps61
  go_wp2_with fail
  clear hb2 hb3 C0
  go_loopw [15] (fun iv wr => (iv = .int .i64 0 ∧ Bs w [(w.heap.size, .cells #[.int .i64 t.pull, .int .i64 t.flow, .int .i64 t.rise, .int .i64 t.spread, .int .i64 t.draught, .int .i64 t.cold] 72), (w.heap.size + 1, .cells #[.int .i64 0, .int .i64 0, .int .i64 0] 66), (w.heap.size + 1 + 1, .cells #[.int .i64 0, .int .i64 0, .int .i64 0] 66), (w.heap.size + 1 + 1 + 1, .cells #[.int .i64 100, .int .i64 t.rise, .int .i64 t.spread] 3)] wr) ∨ (iv = .int .i64 1 ∧ Bs w [(w.heap.size, .cells #[.int .i64 t.pull, .int .i64 t.flow, .int .i64 t.rise, .int .i64 t.spread, .int .i64 t.draught, .int .i64 t.cold] 72), (w.heap.size + 1, .cells #[.int .i64 0, .int .i64 0, .int .i64 0] 66), (w.heap.size + 1 + 1, .cells #[.int .i64 (PD * 100), .int .i64 0, .int .i64 0] 66), (w.heap.size + 1 + 1 + 1, .cells #[.int .i64 100, .int .i64 t.rise, .int .i64 t.spread] 3)] wr) ∨ (iv = .int .i64 2 ∧ Bs w [(w.heap.size, .cells #[.int .i64 t.pull, .int .i64 t.flow, .int .i64 t.rise, .int .i64 t.spread, .int .i64 t.draught, .int .i64 t.cold] 72), (w.heap.size + 1, .cells #[.int .i64 0, .int .i64 0, .int .i64 0] 66), (w.heap.size + 1 + 1, .cells #[.int .i64 (PD * 100), .int .i64 (PD * t.rise), .int .i64 0] 66), (w.heap.size + 1 + 1 + 1, .cells #[.int .i64 100, .int .i64 t.rise, .int .i64 t.spread] 3)] wr) ∨ (iv = .int .i64 3 ∧ Bs w [(w.heap.size, .cells #[.int .i64 t.pull, .int .i64 t.flow, .int .i64 t.rise, .int .i64 t.spread, .int .i64 t.draught, .int .i64 t.cold] 72), (w.heap.size + 1, .cells #[.int .i64 0, .int .i64 0, .int .i64 0] 66), (w.heap.size + 1 + 1, .cells #[.int .i64 (PD * 100), .int .i64 (PD * t.rise), .int .i64 (PD * t.spread - M * 1000000 / 10)] 66), (w.heap.size + 1 + 1 + 1, .cells #[.int .i64 100, .int .i64 t.rise, .int .i64 t.spread] 3)] wr)) (fun iv _ => 3 - (intOf iv).toNat)
  case atStart => exact .inl ⟨rfl, C1.out⟩
  case round =>
    clear C1
    rcases hrel with ⟨rfl, hq⟩ | ⟨rfl, hq⟩ | ⟨rfl, hq⟩ | ⟨rfl, hq⟩
    · have CI := Lib.hid hq
      clear hq
      have hk3_0 := CI.out.cell 3 rfl 0
      have hk0_0 := CI.out.cell 0 rfl 0
      have hk0_1 := CI.out.cell 0 rfl 1
      have hk0_4 := CI.out.cell 0 rfl 4
      go_wp2_with fail
      refine (HP1 _).out.mono ?_
      rintro e w1 ⟨rfl, hb⟩
      have C2 := Lib.hid (CI.out.call hb)
      clear hb CI hk3_0 hk0_0 hk0_1 hk0_4
      go_wp2_with (refine wpList_cell_bs rfl 3 _ _ rfl C2.out 2 _ 0 _ _ rfl rfl (.int .i64 (PD * 100)) rfl (by simp) rfl info3U ?_; intro w4 hC4; have C4 : Hid (Bs w [(w.heap.size, .cells #[.int .i64 t.pull, .int .i64 t.flow, .int .i64 t.rise, .int .i64 t.spread, .int .i64 t.draught, .int .i64 t.cold] 72), (w.heap.size + 1, .cells #[.int .i64 0, .int .i64 0, .int .i64 0] 66), (w.heap.size + 1 + 1, .cells #[.int .i64 (PD * 100), .int .i64 0, .int .i64 0] 66), (w.heap.size + 1 + 1 + 1, .cells #[.int .i64 100, .int .i64 t.rise, .int .i64 t.spread] 3)] w4) := hC4; clear hC4 C2)
      refine ⟨.inr (.inl ⟨rfl, C4.out⟩), ?_⟩
      simp [intOf]
    · have CI := Lib.hid hq
      clear hq
      have hk3_1 := CI.out.cell 3 rfl 1
      have hk0_0 := CI.out.cell 0 rfl 0
      have hk0_1 := CI.out.cell 0 rfl 1
      have hk0_4 := CI.out.cell 0 rfl 4
      go_wp2_with fail
      refine (HP2 _).out.mono ?_
      rintro e w1 ⟨rfl, hb⟩
      have C2 := Lib.hid (CI.out.call hb)
      clear hb CI hk3_1 hk0_0 hk0_1 hk0_4
      go_wp2_with (refine wpList_cell_bs rfl 3 _ _ rfl C2.out 2 _ 1 _ _ rfl rfl (.int .i64 (PD * t.rise)) rfl (by simp) rfl info3U ?_; intro w4 hC4; have C4 : Hid (Bs w [(w.heap.size, .cells #[.int .i64 t.pull, .int .i64 t.flow, .int .i64 t.rise, .int .i64 t.spread, .int .i64 t.draught, .int .i64 t.cold] 72), (w.heap.size + 1, .cells #[.int .i64 0, .int .i64 0, .int .i64 0] 66), (w.heap.size + 1 + 1, .cells #[.int .i64 (PD * 100), .int .i64 (PD * t.rise), .int .i64 0] 66), (w.heap.size + 1 + 1 + 1, .cells #[.int .i64 100, .int .i64 t.rise, .int .i64 t.spread] 3)] w4) := hC4; clear hC4 C2)
      refine ⟨.inr (.inr (.inl ⟨rfl, C4.out⟩)), ?_⟩
      simp [intOf]
    · have CI := Lib.hid hq
      clear hq
      have hk3_2 := CI.out.cell 3 rfl 2
      have hk0_0 := CI.out.cell 0 rfl 0
      have hk0_1 := CI.out.cell 0 rfl 1
      have hk0_4 := CI.out.cell 0 rfl 4
      go_wp2_with fail
      clear hk3_2 hk0_0 hk0_1 hk0_4
      refine wp_region_inv0 (by kernel_rfl) (by kernel_rfl) (fun D w' => Bs w [(w.heap.size, .cells #[.int .i64 t.pull, .int .i64 t.flow, .int .i64 t.rise, .int .i64 t.spread, .int .i64 t.draught, .int .i64 t.cold] 72), (w.heap.size + 1, .cells #[.int .i64 0, .int .i64 0, .int .i64 0] 66), (w.heap.size + 1 + 1, .cells (cond (D 14) #[.int .i64 (PD * 100), .int .i64 (PD * t.rise), .int .i64 (PD * t.spread - M * 1000000 / 10)] #[.int .i64 (PD * 100), .int .i64 (PD * t.rise), .int .i64 0]) 66), (w.heap.size + 1 + 1 + 1, .cells #[.int .i64 100, .int .i64 t.rise, .int .i64 t.spread] 3)] w') CI.out.drew ?_
      apply obl_det
      case hrun =>
        intro D y wz hW hD R hR
        have HRR := Lib.hid hR
        clear hR
        have HW := Lib.hid hW
        clear hW hD
        go_wp2_with fail
        exact HRR.out _ HW.out
      case hnp => rfl
      case hv => first | exact ⟨_, fun _ => rfl⟩ | exact ⟨undef, fun _ => rfl⟩
      apply obl_det
      case hrun =>
        intro D y wz hW hD R hR
        have HRR := Lib.hid hR
        clear hR
        have HW := Lib.hid hW
        clear hW hD
        go_wp2_with fail
        refine (HP3 _).out.mono ?_
        rintro e w1 ⟨rfl, hb⟩
        have HW2 := Lib.hid (HW.out.call hb)
        clear hb
        go_wp2_with fail
        exact HRR.out _ HW2.out
      case hnp => rfl
      case hv => first | exact ⟨_, fun _ => rfl⟩ | exact ⟨undef, fun _ => rfl⟩
      apply obl_det
      case hrun =>
        intro D y wz hW hD R hR
        have HRR := Lib.hid hR
        clear hR
        have HW := Lib.hid hW
        clear hW hD
        go_wp2_with fail
        exact HRR.out _ HW.out
      case hnp => rfl
      case hv => first | exact ⟨_, fun _ => rfl⟩ | exact ⟨undef, fun _ => rfl⟩
      apply obl_det
      case hrun =>
        intro D y wz hW hD R hR
        have HRR := Lib.hid hR
        clear hR
        have HW := Lib.hid hW
        have h1 := HW.out.cell 0 rfl 5
        clear hW hD
        go_wp2_with fail
        exact HRR.out _ HW.out
      case hnp => rfl
      case hv => first | exact ⟨_, fun _ => rfl⟩ | exact ⟨undef, fun _ => rfl⟩
      apply obl_det
      case hrun =>
        intro D y wz hW hD R hR
        have HRR := Lib.hid hR
        clear hR
        have HW := Lib.hid hW
        clear hW hD
        go_wp2_with fail
        exact HRR.out _ HW.out
      case hnp => rfl
      case hv => first | exact ⟨_, fun _ => rfl⟩ | exact ⟨undef, fun _ => rfl⟩
      apply obl_det
      case hrun =>
        intro D y wz hW hD R hR
        have HRR := Lib.hid hR
        clear hR
        have HW := Lib.hid hW
        clear hW hD
        go_wp2_with fail
        exact HRR.out _ HW.out
      case hnp => rfl
      case hv => first | exact ⟨_, fun _ => rfl⟩ | exact ⟨undef, fun _ => rfl⟩
      apply obl_det
      case hrun =>
        intro D y wz hW hD R hR
        have HRR := Lib.hid hR
        clear hR
        have HW := Lib.hid hW
        clear hW hD
        go_wp2_with fail
        exact HRR.out _ HW.out
      case hnp => rfl
      case hv => first | exact ⟨_, fun _ => rfl⟩ | exact ⟨undef, fun _ => rfl⟩
      apply obl_det
      case hrun =>
        intro D y wz hW hD R hR
        have HRR := Lib.hid hR
        clear hR
        have HW := Lib.hid hW
        clear hW hD
        go_wp2_with fail
        exact HRR.out _ HW.out
      case hnp => rfl
      case hv => first | exact ⟨_, fun _ => rfl⟩ | exact ⟨undef, fun _ => rfl⟩
      apply obl_det
      case hrun =>
        intro D y wz hW hD R hR
        have HRR := Lib.hid hR
        clear hR
        have HW := Lib.hid hW
        have hgg := block_keep HG.out HW.out.bel
        have h1 := cell_of_row _ _ 18 _ _ _ hgg
        clear hW hD
        go_wp2_with fail
        exact HRR.out _ HW.out
      case hnp => rfl
      case hv => first | exact ⟨_, fun _ => rfl⟩ | exact ⟨undef, fun _ => rfl⟩
      apply obl_det
      case hrun =>
        intro D y wz hW hD R hR
        have HRR := Lib.hid hR
        clear hR
        have HW := Lib.hid hW
        clear hW hD
        go_wp2_with fail
        rw [HH.out, HMW.out]
        exact HRR.out _ HW.out
      case hnp => rfl
      case hv => first | exact ⟨_, fun _ => rfl⟩ | exact ⟨undef, fun _ => rfl⟩
      apply obl_det
      case hrun =>
        intro D y wz hW hD R hR
        have HRR := Lib.hid hR
        clear hR
        have HW := Lib.hid hW
        clear hW hD
        go_wp2_with fail
        exact HRR.out _ HW.out
      case hnp => rfl
      case hv => first | exact ⟨_, fun _ => rfl⟩ | exact ⟨undef, fun _ => rfl⟩
      apply obl_det
      case hrun =>
        intro D y wz hW hD R hR
        have HRR := Lib.hid hR
        clear hR
        have HW := Lib.hid hW
        clear hW hD
        go_wp2_with fail
        exact HRR.out _ HW.out
      case hnp => rfl
      case hv => first | exact ⟨_, fun _ => rfl⟩ | exact ⟨undef, fun _ => rfl⟩
      apply obl_det
      case hrun =>
        intro D y wz hW hD R hR
        have HRR := Lib.hid hR
        clear hR
        have HW := Lib.hid hW
        clear hW hD
        go_wp2_with fail
        exact HRR.out _ HW.out
      case hnp => rfl
      case hv => first | exact ⟨_, fun _ => rfl⟩ | exact ⟨undef, fun _ => rfl⟩
      apply obl_det
      case hrun =>
        intro D y wz hW hD R hR
        have HRR := Lib.hid hR
        clear hR
        have HW := Lib.hid hW
        clear hW hD
        go_wp2_with fail
        exact HRR.out _ HW.out
      case hnp => rfl
      case hv => first | exact ⟨_, fun _ => rfl⟩ | exact ⟨undef, fun _ => rfl⟩
      apply obl_det
      case hrun =>
        intro D y wz hW hD R hR
        have HRR := Lib.hid hR
        clear hR
        have h0 : D 14 = false := hD.not
        rw [h0] at hW
        have HW := Lib.hid hW
        clear hW hD h0
        refine wpList_cell_bs rfl 3 _ _ rfl HW.out 2 _ 2 _ _ rfl rfl (.int .i64 (PD * t.spread - M * 1000000 / 10)) rfl (by simp) rfl info3U ?_
        intro w4 hC4
        have HC4 := Lib.hid hC4
        clear hC4
        simp only [Act.put]
        go_simp
        exact HRR.out _ HC4.out
      case hnp => rfl
      case hv => first | exact ⟨_, fun _ => rfl⟩ | exact ⟨undef, fun _ => rfl⟩
      apply obl_nil
      intro D y w8 hall hW
      rw [hall 14 (by decide)] at hW
      have C4 : Hid (Bs w [(w.heap.size, .cells #[.int .i64 t.pull, .int .i64 t.flow, .int .i64 t.rise, .int .i64 t.spread, .int .i64 t.draught, .int .i64 t.cold] 72), (w.heap.size + 1, .cells #[.int .i64 0, .int .i64 0, .int .i64 0] 66), (w.heap.size + 1 + 1, .cells #[.int .i64 (PD * 100), .int .i64 (PD * t.rise), .int .i64 (PD * t.spread - M * 1000000 / 10)] 66), (w.heap.size + 1 + 1 + 1, .cells #[.int .i64 100, .int .i64 t.rise, .int .i64 t.spread] 3)] w8) := hW
      clear hall hW CI
      go_wp2_with fail
      refine ⟨.inr (.inr (.inr ⟨rfl, C4.out⟩)), ?_⟩
      simp [intOf]
    · have CI := Lib.hid hq
      clear hq
      have hk0 := CI.out.cell 2 rfl 0
      have hk1 := CI.out.cell 2 rfl 1
      have hk2 := CI.out.cell 2 rfl 2
      go_wp2_with (refine wpList_store_bs rfl 66 _ _ rfl CI.out 1 _ #[.int .i64 (PD * 100), .int .i64 (PD * t.rise), .int .i64 (PD * t.spread - M * 1000000 / 10)] _ _ rfl rfl rfl infoBurn rfl (by simp [Value.oneCell']) ?_; intro w4 hC4; have C4 := Lib.hid hC4; clear hC4 CI hk0 hk1 hk2)
      simp only [Act.put]
      exact bodyPost_ret (results_cell_row (fn := Tryz.f61) rfl _ _ _ _ _ _ _ rfl (C4.out.get 1 rfl) Tryz.underlying66 rfl infoBurn) rfl ⟨rfl, C4.out.bel⟩
end Go.Proofs.YtpkggjobdmchlaaGreatDoor
