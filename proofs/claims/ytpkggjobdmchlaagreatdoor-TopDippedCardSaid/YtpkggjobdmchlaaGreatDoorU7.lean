/- wick.ends. -/
import Derived.Test.YtpkggjobdmchlaaGreatDoorU6
namespace Go.Proofs.YtpkggjobdmchlaaGreatDoor
open Go.RowKit
theorem stoodTru : Tryz.prog.stoodInHeld 72 = false := by kernel_rfl
theorem fieldsTru : Tryz.prog.underlying 72 = some (.struct (Tryz.prog.fieldsOf 72)) := by kernel_rfl
def truEq (a b : WTru) : Bool := a.pull == b.pull && (a.flow == b.flow && (a.rise == b.rise && (a.spread == b.spread && (a.draught == b.draught && a.cold == b.cold))))
theorem truEq_iff {a b : WTru} (h : truEq a b = true) : a = b := by
  unfold truEq at h
  simp only [Bool.and_eq_true, beq_iff_eq] at h
  obtain ⟨h1, h2, h3, h4, h5, h6⟩ := h
  cases a; cases b
  simp_all
set_option maxRecDepth 100000 in
theorem run_eql_tru (a b : WTru) (w : World) : (binOp .eql 72 (.agg #[.int .i64 a.pull, .int .i64 a.flow, .int .i64 a.rise, .int .i64 a.spread, .int .i64 a.draught, .int .i64 a.cold]) (.agg #[.int .i64 b.pull, .int .i64 b.flow, .int .i64 b.rise, .int .i64 b.spread, .int .i64 b.draught, .int .i64 b.cold])).run Tryz.prog w = .ok (.bool (truEq a b)) w := by
  rw [run_eql_struct, show (10000 : Nat) = 9999 + 1 from rfl, run_equalIn_agg w 9999 72 _ _ fieldsTru stoodTru]
  unfold truEq
  go_simp
  by_cases h1 : a.pull = b.pull <;> by_cases h2 : a.flow = b.flow <;> by_cases h3 : a.rise = b.rise <;> by_cases h4 : a.spread = b.spread <;> by_cases h5 : a.draught = b.draught <;> by_cases h6 : a.cold = b.cold <;> simp [h1, h2, h3, h4, h5, h6]
set_option maxRecDepth 100000 in
set_option maxHeartbeats 16000000 in
theorem ends_ok {s : WShop} {c : Candle} (hs : WOk s c) (k : Nat) (hk : k < s.wicks.length) (vw vx : Value) (g : Nat) (w : World) (hv : WShopAt w.heap.size w vw vx s) (hg : w.heap[g]? = some (.cells (opC vw vx s c (waxOf s c)) 104)) :
    Calls Tryz.prog 42 #[.pointer (some ⟨g, 0, none⟩), .int .i64 k] w fun e w' => e = .returned (.tuple #[.agg (burnC (leastB s c k)), .agg (burnC (mostB s c k))]) ∧ Below w.heap.size w w' := by
  have HG := Lib.hid hg
  have HBO := Lib.hid (hs.bok hk)
  have HT := fun w h1 h2 => Lib.hid (truths_ok (s := s) (c := c) k hk hs.draught (waxOf s c) vw vx g w h1 h2)
  have HB1 := fun w h => Lib.hid (burn_ok (s := s) HBO.out (leastT (waxOf s c) c (wpull s k)) HBO.out.least vw vx g w h)
  have HB2 := fun w h => Lib.hid (burn_ok (s := s) HBO.out (mostT (waxOf s c) c (wpull s k)) HBO.out.most vw vx g w h)
  have HEQ : Hid (leastT (waxOf s c) c (wpull s k) = mostT (waxOf s c) c (wpull s k) → mostB s c k = leastB s c k) := fun h => by unfold mostB leastB; rw [h]
  have HV := Lib.hid hv
  have C0 : Hid (Bs w [(w.heap.size, .cells #[.int .i64 0, .int .i64 0, .int .i64 0] 66), (w.heap.size + 1, .cells #[.int .i64 0, .int .i64 0, .int .i64 0] 66)] _) := Lib.hid (((Bs.nil w).push _ rfl (.cells #[.int .i64 0, .int .i64 0, .int .i64 0] 66)).push (w.heap.size + 1) (by simp) (.cells #[.int .i64 0, .int .i64 0, .int .i64 0] 66))
  clear hg hs hv hk
  go_enter Tryz.func42, Tryz.ntmps42
  go_wp2_with fail
  refine (HT _ ((HV.out.below C0.out.bel).mono C0.out.bel.size) (block_keep HG.out C0.out.bel)).out.mono ?_
  rintro e w1 ⟨rfl, hb⟩
  have C1 := Lib.hid (C0.out.call hb)
  clear hb C0 HT HV
  have CP := Lib.hid ((C1.out.push _ rfl (.cells #[.int .i64 0, .int .i64 0, .int .i64 0, .int .i64 0, .int .i64 0, .int .i64 0] 72)).push (w1.heap.size + 1) (by simp) (.cells #[.int .i64 0, .int .i64 0, .int .i64 0, .int .i64 0, .int .i64 0, .int .i64 0] 72))
  clear C1
  go_wp2_with (first | (refine wpList_store_bs rfl 72 _ _ rfl CP.out 2 _ #[.int .i64 (wpull s k).1, .int .i64 (waxOf s c).flow.1, .int .i64 (waxOf s c).rise.1, .int .i64 (waxOf s c).spread.1, .int .i64 (-c.draught), .int .i64 c.cold.2] _ _ rfl rfl rfl infoTru rfl (by simp [Value.oneCell']) ?_; intro w2 hC2; have CQ : Hid (Bs w [(w.heap.size, .cells #[.int .i64 0, .int .i64 0, .int .i64 0] 66), (w.heap.size + 1, .cells #[.int .i64 0, .int .i64 0, .int .i64 0] 66), (w1.heap.size, .cells #[.int .i64 (wpull s k).1, .int .i64 (waxOf s c).flow.1, .int .i64 (waxOf s c).rise.1, .int .i64 (waxOf s c).spread.1, .int .i64 (-c.draught), .int .i64 c.cold.2] 72), (w1.heap.size + 1, .cells #[.int .i64 0, .int .i64 0, .int .i64 0, .int .i64 0, .int .i64 0, .int .i64 0] 72)] w2) := hC2; clear hC2 CP) | (refine wpList_store_bs rfl 72 _ _ rfl CQ.out 3 _ #[.int .i64 (wpull s k).2, .int .i64 (waxOf s c).flow.2, .int .i64 (waxOf s c).rise.2, .int .i64 (waxOf s c).spread.2, .int .i64 c.draught, .int .i64 c.cold.1] _ _ rfl rfl rfl infoTru rfl (by simp [Value.oneCell']) ?_; intro w3 hC3; have CR : Hid (Bs w [(w.heap.size, .cells #[.int .i64 0, .int .i64 0, .int .i64 0] 66), (w.heap.size + 1, .cells #[.int .i64 0, .int .i64 0, .int .i64 0] 66), (w1.heap.size, .cells #[.int .i64 (wpull s k).1, .int .i64 (waxOf s c).flow.1, .int .i64 (waxOf s c).rise.1, .int .i64 (waxOf s c).spread.1, .int .i64 (-c.draught), .int .i64 c.cold.2] 72), (w1.heap.size + 1, .cells #[.int .i64 (wpull s k).2, .int .i64 (waxOf s c).flow.2, .int .i64 (waxOf s c).rise.2, .int .i64 (waxOf s c).spread.2, .int .i64 c.draught, .int .i64 c.cold.1] 72)] w3) := hC3; clear hC3 CQ; have hl0 := CR.out.cell 2 rfl 0; have hl1 := CR.out.cell 2 rfl 1; have hl2 := CR.out.cell 2 rfl 2; have hl3 := CR.out.cell 2 rfl 3; have hl4 := CR.out.cell 2 rfl 4; have hl5 := CR.out.cell 2 rfl 5))
  refine (HB1 _ (block_keep HG.out CR.out.bel)).out.mono ?_
  rintro e w4 ⟨rfl, hb⟩
  have CS := Lib.hid (CR.out.call hb)
  clear hb CR HB1 hl0 hl1 hl2 hl3 hl4 hl5
  obtain ⟨r, hr⟩ : ∃ r, truEq (leastT (waxOf s c) c (wpull s k)) (mostT (waxOf s c) c (wpull s k)) = r := ⟨_, rfl⟩
  have HQ : Hid (∀ w, (binOp .eql 72 (.agg #[.int .i64 (wpull s k).1, .int .i64 (waxOf s c).flow.1, .int .i64 (waxOf s c).rise.1, .int .i64 (waxOf s c).spread.1, .int .i64 (-c.draught), .int .i64 c.cold.2]) (.agg #[.int .i64 (wpull s k).2, .int .i64 (waxOf s c).flow.2, .int .i64 (waxOf s c).rise.2, .int .i64 (waxOf s c).spread.2, .int .i64 c.draught, .int .i64 c.cold.1])).run Tryz.prog w = .ok (.bool r) w) := fun w => by rw [← hr]; exact run_eql_tru (leastT (waxOf s c) c (wpull s k)) (mostT (waxOf s c) c (wpull s k)) w
  have HTE : Hid (r = true → mostB s c k = leastB s c k) := fun h => HEQ.out (truEq_iff (hr.trans h))
  clear HEQ hr
  have hq := HQ.out
  clear HQ
  cases r
  · go_wp2_with (first | (refine wpList_store_bs rfl 66 _ _ rfl CS.out 0 _ (burnC (leastB s c k)) _ _ rfl rfl rfl infoBurn rfl (by simp [Value.oneCell']) ?_; intro w5 hC5; have CU : Hid (Bs w [(w.heap.size, .cells (burnC (leastB s c k)) 66), (w.heap.size + 1, .cells #[.int .i64 0, .int .i64 0, .int .i64 0] 66), (w1.heap.size, .cells #[.int .i64 (wpull s k).1, .int .i64 (waxOf s c).flow.1, .int .i64 (waxOf s c).rise.1, .int .i64 (waxOf s c).spread.1, .int .i64 (-c.draught), .int .i64 c.cold.2] 72), (w1.heap.size + 1, .cells #[.int .i64 (wpull s k).2, .int .i64 (waxOf s c).flow.2, .int .i64 (waxOf s c).rise.2, .int .i64 (waxOf s c).spread.2, .int .i64 c.draught, .int .i64 c.cold.1] 72)] w5) := hC5; clear hC5 CS) | (refine wpList_load_row rfl 72 _ rfl _ rfl _ _ _ _ (CU.out.get 2 rfl) Tryz.underlying72 rfl infoTru ?_) | (refine wpList_load_row rfl 72 _ rfl _ rfl _ _ _ _ (CU.out.get 3 rfl) Tryz.underlying72 rfl infoTru ?_) | fail)
    try clear hl0 hl1 hl2 hl3 hl4 hl5
    try clear hq
    try clear HTE
    refine wp_region_inv0 (by kernel_rfl) (by kernel_rfl) (fun D w' => Bs w [(w.heap.size, .cells (burnC (leastB s c k)) 66), (w.heap.size + 1, .cells (cond (D 5) (burnC (mostB s c k)) #[.int .i64 0, .int .i64 0, .int .i64 0]) 66), (w1.heap.size, .cells #[.int .i64 (wpull s k).1, .int .i64 (waxOf s c).flow.1, .int .i64 (waxOf s c).rise.1, .int .i64 (waxOf s c).spread.1, .int .i64 (-c.draught), .int .i64 c.cold.2] 72), (w1.heap.size + 1, .cells #[.int .i64 (wpull s k).2, .int .i64 (waxOf s c).flow.2, .int .i64 (waxOf s c).rise.2, .int .i64 (waxOf s c).spread.2, .int .i64 c.draught, .int .i64 c.cold.1] 72)] w') CU.out.drew ?_
    apply obl_det
    case hrun =>
      intro D y wz hW hD R hR
      have HRR := Lib.hid hR
      clear hR
      have HW := Lib.hid hW
      have h1 := HW.out.get 0 rfl
      clear hW hD
      refine wpList_load_row rfl 66 _ rfl _ rfl _ _ _ _ h1 Tryz.underlying66 rfl infoBurn ?_
      go_simp
      exact HRR.out _ HW.out
    case hnp => rfl
    case hv => first | exact ⟨_, fun _ => rfl⟩ | exact ⟨undef, fun _ => rfl⟩
    apply obl_det
    case hrun =>
      intro D y wz hW hD R hR
      have HRR := Lib.hid hR
      clear hR
      have HW := Lib.hid hW
      clear hW hD
      go_wp2_with fail
      exact HRR.out _ HW.out
    case hnp => rfl
    case hv => first | exact ⟨_, fun _ => rfl⟩ | exact ⟨undef, fun _ => rfl⟩
    apply obl_det
    case hrun =>
      intro D y wz hW hD R hR
      have HRR := Lib.hid hR
      clear hR
      have HW := Lib.hid hW
      have h1 := HW.out.get 3 rfl
      clear hW hD
      refine wpList_load_row rfl 72 _ rfl _ rfl _ _ _ _ h1 Tryz.underlying72 rfl infoTru ?_
      go_simp
      exact HRR.out _ HW.out
    case hnp => rfl
    case hv => first | exact ⟨_, fun _ => rfl⟩ | exact ⟨undef, fun _ => rfl⟩
    apply obl_det
    case hrun =>
      intro D y wz hW hD R hR
      have HRR := Lib.hid hR
      clear hR
      have HW := Lib.hid hW
      clear hW hD
      go_wp2_with fail
      refine (HB2 _ (block_keep HG.out HW.out.bel)).out.mono ?_
      rintro e w6 ⟨rfl, hb⟩
      have HW2 := Lib.hid (HW.out.call hb)
      clear hb
      go_wp2_with fail
      exact HRR.out _ HW2.out
    case hnp => rfl
    case hv => first | exact ⟨_, fun _ => rfl⟩ | exact ⟨undef, fun _ => rfl⟩
    apply obl_det
    case hrun =>
      intro D y wz hW hD R hR
      have HRR := Lib.hid hR
      clear hR
      have HW := Lib.hid hW
      clear hW hD
      refine wpList_store_bs rfl 66 _ _ rfl HW.out 0 _ (burnC (leastB s c k)) _ _ rfl rfl rfl infoBurn rfl (by simp [Value.oneCell']) ?_
      intro w4' hC4
      have HC4 := Lib.hid hC4
      clear hC4
      simp only [Act.put]
      go_simp
      exact HRR.out _ HC4.out
    case hnp => rfl
    case hv => first | exact ⟨_, fun _ => rfl⟩ | exact ⟨undef, fun _ => rfl⟩
    apply obl_det
    case hrun =>
      intro D y wz hW hD R hR
      have HRR := Lib.hid hR
      clear hR
      have h0 : D 5 = false := hD.not
      rw [h0] at hW
      clear h0
      have HW := Lib.hid hW
      clear hW hD
      refine wpList_store_bs rfl 66 _ _ rfl HW.out 1 _ (burnC (mostB s c k)) _ _ rfl rfl rfl infoBurn rfl (by simp [Value.oneCell']) ?_
      intro w4' hC4
      have HC4 := Lib.hid hC4
      clear hC4
      simp only [Act.put]
      go_simp
      exact HRR.out _ HC4.out
    case hnp => rfl
    case hv => first | exact ⟨_, fun _ => rfl⟩ | exact ⟨undef, fun _ => rfl⟩
    apply obl_nil
    intro D y wB hall hW
    rw [hall 5 (by decide)] at hW
    have HT3 : Hid (Bs w [(w.heap.size, .cells (burnC (leastB s c k)) 66), (w.heap.size + 1, .cells (burnC (mostB s c k)) 66), (w1.heap.size, .cells #[.int .i64 (wpull s k).1, .int .i64 (waxOf s c).flow.1, .int .i64 (waxOf s c).rise.1, .int .i64 (waxOf s c).spread.1, .int .i64 (-c.draught), .int .i64 c.cold.2] 72), (w1.heap.size + 1, .cells #[.int .i64 (wpull s k).2, .int .i64 (waxOf s c).flow.2, .int .i64 (waxOf s c).rise.2, .int .i64 (waxOf s c).spread.2, .int .i64 c.draught, .int .i64 c.cold.1] 72)] wB) := hW
    clear hW hall CU
    go_wp2_with fail
    exact bodyPost_ret (results_row2 (fn := Tryz.f42) rfl _ _ _ _ _ _ _ _ _ _ rfl rfl (HT3.out.get 0 rfl) (HT3.out.get 1 rfl) Tryz.underlying66 Tryz.underlying66 rfl rfl infoBurn infoBurn) rfl ⟨rfl, HT3.out.bel⟩
  · have HTQ := Lib.hid (HTE.out rfl)
    clear HTE
    go_wp2_with (first | (refine wpList_store_bs rfl 66 _ _ rfl CS.out 0 _ (burnC (leastB s c k)) _ _ rfl rfl rfl infoBurn rfl (by simp [Value.oneCell']) ?_; intro w5 hC5; have CU : Hid (Bs w [(w.heap.size, .cells (burnC (leastB s c k)) 66), (w.heap.size + 1, .cells #[.int .i64 0, .int .i64 0, .int .i64 0] 66), (w1.heap.size, .cells #[.int .i64 (wpull s k).1, .int .i64 (waxOf s c).flow.1, .int .i64 (waxOf s c).rise.1, .int .i64 (waxOf s c).spread.1, .int .i64 (-c.draught), .int .i64 c.cold.2] 72), (w1.heap.size + 1, .cells #[.int .i64 (wpull s k).2, .int .i64 (waxOf s c).flow.2, .int .i64 (waxOf s c).rise.2, .int .i64 (waxOf s c).spread.2, .int .i64 c.draught, .int .i64 c.cold.1] 72)] w5) := hC5; clear hC5 CS) | (refine wpList_load_row rfl 72 _ rfl _ rfl _ _ _ _ (CU.out.get 2 rfl) Tryz.underlying72 rfl infoTru ?_) | (refine wpList_load_row rfl 72 _ rfl _ rfl _ _ _ _ (CU.out.get 3 rfl) Tryz.underlying72 rfl infoTru ?_) | (refine wpList_load_row rfl 66 _ rfl _ rfl _ _ _ _ (CU.out.get 0 rfl) Tryz.underlying66 rfl infoBurn ?_) | (refine wpList_store_bs rfl 66 _ _ rfl CU.out 0 _ (burnC (leastB s c k)) _ _ rfl rfl rfl infoBurn rfl (by simp [Value.oneCell']) ?_; intro w6 hC6; have CV : Hid (Bs w [(w.heap.size, .cells (burnC (leastB s c k)) 66), (w.heap.size + 1, .cells #[.int .i64 0, .int .i64 0, .int .i64 0] 66), (w1.heap.size, .cells #[.int .i64 (wpull s k).1, .int .i64 (waxOf s c).flow.1, .int .i64 (waxOf s c).rise.1, .int .i64 (waxOf s c).spread.1, .int .i64 (-c.draught), .int .i64 c.cold.2] 72), (w1.heap.size + 1, .cells #[.int .i64 (wpull s k).2, .int .i64 (waxOf s c).flow.2, .int .i64 (waxOf s c).rise.2, .int .i64 (waxOf s c).spread.2, .int .i64 c.draught, .int .i64 c.cold.1] 72)] w6) := hC6; clear hC6 CU) | (refine wpList_store_bs rfl 66 _ _ rfl CV.out 1 _ (burnC (leastB s c k)) _ _ rfl rfl rfl infoBurn rfl (by simp [Value.oneCell']) ?_; intro w7 hC7; have CW : Hid (Bs w [(w.heap.size, .cells (burnC (leastB s c k)) 66), (w.heap.size + 1, .cells (burnC (leastB s c k)) 66), (w1.heap.size, .cells #[.int .i64 (wpull s k).1, .int .i64 (waxOf s c).flow.1, .int .i64 (waxOf s c).rise.1, .int .i64 (waxOf s c).spread.1, .int .i64 (-c.draught), .int .i64 c.cold.2] 72), (w1.heap.size + 1, .cells #[.int .i64 (wpull s k).2, .int .i64 (waxOf s c).flow.2, .int .i64 (waxOf s c).rise.2, .int .i64 (waxOf s c).spread.2, .int .i64 c.draught, .int .i64 c.cold.1] 72)] w7) := hC7; clear hC7 CV) | fail)
    rw [HTQ.out]
    simp only [Act.put]
    exact bodyPost_ret (results_row2 (fn := Tryz.f42) rfl _ _ _ _ _ _ _ _ _ _ rfl rfl (CW.out.get 0 rfl) (CW.out.get 1 rfl) Tryz.underlying66 Tryz.underlying66 rfl rfl infoBurn infoBurn) rfl ⟨rfl, CW.out.bel⟩
end Go.Proofs.YtpkggjobdmchlaaGreatDoor
/- wick.At. -/
namespace Go.Proofs.YtpkggjobdmchlaaGreatDoor
open Go.RowKit
theorem intsIn_blk {w : World} {g n : Nat} {l : List Int} {cs : Array Value} (h : w.heap[g]? = some (.cells cs 3)) (hcs : cs = ints l) (hl : l.length ≤ 1000) (hn : l.length = n) : IntsIn .i64 w.heap.size w (.slice (some ⟨g, 0, none⟩) n n) l := by
  subst hn hcs
  refine ⟨_, _, rfl, by omega, .inr ⟨g, 0, rfl, block_lt h, fun i hi => ?_⟩⟩
  rw [cell_of_row w g _ _ _ _ h, Nat.zero_add, ints_get _ _ hi]
set_option maxRecDepth 100000 in
set_option maxHeartbeats 16000000 in
theorem at_ok {s : WShop} {c : Candle} (hs : WOk s c) (k : Nat) (hk : k < s.wicks.length) (t : WTru) (ht : trueW (waxOf s c) c (wpull s k) t = true) (vw vx : Value) (w : World) (hv : WShopAt w.heap.size w vw vx s) :
    Calls Tryz.prog 21 #[.agg (wshopC vw vx s), .int .i64 k, .agg (candC c), .agg (wtruC t)] w fun e w' => e = .returned (.tuple #[.agg (burnC (burnV (waxOf s c) t)), .int .i64 0]) ∧ Below w.heap.size w w' := by
  obtain ⟨va, vc, rfl, hvl, -⟩ := sl_shape hv.1
  obtain ⟨xa, xc, rfl, hxl, -⟩ := sl_shape hv.2
  have HBO := Lib.hid (hs.bok hk)
  obtain ⟨⟨tp0, tp1⟩, ⟨tf0, tf1⟩, ⟨tr0, tr1⟩, ⟨ts0, ts1⟩, ⟨td0, td1⟩, ⟨tc0, tc1⟩⟩ := trueW_iff.1 ht
  have HT := fun g w h1 h2 => Lib.hid (truths_ok (s := s) (c := c) k hk hs.draught (waxOf s c) (.slice va s.wicks.length vc) (.slice xa s.waxes.length xc) g w h1 h2)
  have HB1 := fun g w h => Lib.hid (burn_ok (s := s) HBO.out t ht (.slice va s.wicks.length vc) (.slice xa s.waxes.length xc) g w h)
  have HOP := fun vk w h1 h2 => Lib.hid (wopen_ok hs [(k : Int)] (by intro z hz; simp at hz; omega) (.slice va s.wicks.length vc) (.slice xa s.waxes.length xc) vk w h1 h2)
  have HV := Lib.hid hv
  have C0 : Hid (Bs w [(w.heap.size, .cells #[.slice va s.wicks.length vc, .slice xa s.waxes.length xc, .int .i64 s.flame.1, .int .i64 s.flame.2, .int .i64 s.pool.1, .int .i64 s.pool.2] 27), (w.heap.size + 1, .cells #[.int .i64 c.wax, .int .i64 c.dia, .int .i64 c.draught, .int .i64 c.cold.1, .int .i64 c.cold.2] 32), (w.heap.size + 1 + 1, .cells #[.int .i64 t.pull, .int .i64 t.flow, .int .i64 t.rise, .int .i64 t.spread, .int .i64 t.draught, .int .i64 t.cold] 72), (w.heap.size + 1 + 1 + 1, .cells #[.int .i64 0, .int .i64 0, .int .i64 0] 66), (w.heap.size + 1 + 1 + 1 + 1, .cells #[.int .i64 (k : Int)] 3)] _) := Lib.hid ((((((Bs.nil w).push _ rfl (.cells #[.slice va s.wicks.length vc, .slice xa s.waxes.length xc, .int .i64 s.flame.1, .int .i64 s.flame.2, .int .i64 s.pool.1, .int .i64 s.pool.2] 27)).push (w.heap.size + 1) (by simp) (.cells #[.int .i64 c.wax, .int .i64 c.dia, .int .i64 c.draught, .int .i64 c.cold.1, .int .i64 c.cold.2] 32)).push (w.heap.size + 1 + 1) (by simp) (.cells #[.int .i64 t.pull, .int .i64 t.flow, .int .i64 t.rise, .int .i64 t.spread, .int .i64 t.draught, .int .i64 t.cold] 72)).push (w.heap.size + 1 + 1 + 1) (by simp) (.cells #[.int .i64 0, .int .i64 0, .int .i64 0] 66)).push (w.heap.size + 1 + 1 + 1 + 1) (by simp) (.cells #[.int .i64 (k : Int)] 3))
  have hc0 := C0.out.cell 0 rfl 0
  have hc1 := C0.out.cell 0 rfl 1
  have hc2 := C0.out.cell 0 rfl 2
  have hc3 := C0.out.cell 0 rfl 3
  have hc4 := C0.out.cell 0 rfl 4
  have hc5 := C0.out.cell 0 rfl 5
  have hk0 := C0.out.cell 1 rfl 0
  have hk1 := C0.out.cell 1 rfl 1
  have hk2 := C0.out.cell 1 rfl 2
  have hk3 := C0.out.cell 1 rfl 3
  have hk4 := C0.out.cell 1 rfl 4
  clear hs hv hk ht
  go_enter Tryz.func21, Tryz.ntmps21
  go_wp2_with fail
  refine (HOP _ _ ((HV.out.below C0.out.bel).mono C0.out.bel.size) (intsIn_blk (l := [(k : Int)]) (C0.out.get 4 rfl) rfl (by simp) rfl)).out.mono ?_
  rintro e w1 ⟨g, rfl, -, hg, hb⟩
  have C1 := Lib.hid (C0.out.call hb)
  have HG := Lib.hid hg
  clear hb hg C0 HOP hc0 hc1 hc2 hc3 hc4 hc5 hk0 hk1 hk2 hk3 hk4
  go_wp2_with fail
  refine (HT g _ ((HV.out.below C1.out.bel).mono C1.out.bel.size) HG.out).out.mono ?_
  rintro e w2 ⟨rfl, hb⟩
  have C2 := Lib.hid (C1.out.call hb)
  have HG := Lib.hid (block_keep HG.out hb)
  clear hb C1 HT HV
  have CP := Lib.hid ((C2.out.push _ rfl (.cells #[.int .i64 0, .int .i64 0, .int .i64 0, .int .i64 0, .int .i64 0, .int .i64 0] 72)).push (w2.heap.size + 1) (by simp) (.cells #[.int .i64 0, .int .i64 0, .int .i64 0, .int .i64 0, .int .i64 0, .int .i64 0] 72))
  have HG2 : Hid (((w2.alloc (.cells #[.int .i64 0, .int .i64 0, .int .i64 0, .int .i64 0, .int .i64 0, .int .i64 0] 72)).alloc (.cells #[.int .i64 0, .int .i64 0, .int .i64 0, .int .i64 0, .int .i64 0, .int .i64 0] 72)).heap[g]? = some (.cells (opC (.slice va s.wicks.length vc) (.slice xa s.waxes.length xc) s c (waxOf s c)) 104)) := block_keep HG.out (((Below.refl _ _).alloc (Nat.le_refl _) _).alloc (by simp) _)
  have HGL := Lib.hid (block_lt HG.out)
  clear C2 HG
  go_wp2_with (first | (refine wpList_store_bu rfl 72 _ _ rfl CP.out 5 _ #[.int .i64 (wpull s k).1, .int .i64 (waxOf s c).flow.1, .int .i64 (waxOf s c).rise.1, .int .i64 (waxOf s c).spread.1, .int .i64 (-c.draught), .int .i64 c.cold.2] _ _ rfl rfl rfl infoTru rfl (by simp [Value.oneCell']) ?_; intro w3 hC3 hU3; have CQ : Hid (Bs w [(w.heap.size, .cells #[.slice va s.wicks.length vc, .slice xa s.waxes.length xc, .int .i64 s.flame.1, .int .i64 s.flame.2, .int .i64 s.pool.1, .int .i64 s.pool.2] 27), (w.heap.size + 1, .cells #[.int .i64 c.wax, .int .i64 c.dia, .int .i64 c.draught, .int .i64 c.cold.1, .int .i64 c.cold.2] 32), (w.heap.size + 1 + 1, .cells #[.int .i64 t.pull, .int .i64 t.flow, .int .i64 t.rise, .int .i64 t.spread, .int .i64 t.draught, .int .i64 t.cold] 72), (w.heap.size + 1 + 1 + 1, .cells #[.int .i64 0, .int .i64 0, .int .i64 0] 66), (w.heap.size + 1 + 1 + 1 + 1, .cells #[.int .i64 (k : Int)] 3), (w2.heap.size, .cells #[.int .i64 (wpull s k).1, .int .i64 (waxOf s c).flow.1, .int .i64 (waxOf s c).rise.1, .int .i64 (waxOf s c).spread.1, .int .i64 (-c.draught), .int .i64 c.cold.2] 72), (w2.heap.size + 1, .cells #[.int .i64 0, .int .i64 0, .int .i64 0, .int .i64 0, .int .i64 0, .int .i64 0] 72)] w3) := hC3; have HG3 := Lib.hid ((hU3 g (Nat.ne_of_lt HGL.out)).trans HG2.out); clear hC3 hU3 CP HG2) | (refine wpList_store_bu rfl 72 _ _ rfl CQ.out 6 _ #[.int .i64 (wpull s k).2, .int .i64 (waxOf s c).flow.2, .int .i64 (waxOf s c).rise.2, .int .i64 (waxOf s c).spread.2, .int .i64 c.draught, .int .i64 c.cold.1] _ _ rfl rfl rfl infoTru rfl (by simp [Value.oneCell']) ?_; intro w4 hC4 hU4; have CR : Hid (Bs w [(w.heap.size, .cells #[.slice va s.wicks.length vc, .slice xa s.waxes.length xc, .int .i64 s.flame.1, .int .i64 s.flame.2, .int .i64 s.pool.1, .int .i64 s.pool.2] 27), (w.heap.size + 1, .cells #[.int .i64 c.wax, .int .i64 c.dia, .int .i64 c.draught, .int .i64 c.cold.1, .int .i64 c.cold.2] 32), (w.heap.size + 1 + 1, .cells #[.int .i64 t.pull, .int .i64 t.flow, .int .i64 t.rise, .int .i64 t.spread, .int .i64 t.draught, .int .i64 t.cold] 72), (w.heap.size + 1 + 1 + 1, .cells #[.int .i64 0, .int .i64 0, .int .i64 0] 66), (w.heap.size + 1 + 1 + 1 + 1, .cells #[.int .i64 (k : Int)] 3), (w2.heap.size, .cells #[.int .i64 (wpull s k).1, .int .i64 (waxOf s c).flow.1, .int .i64 (waxOf s c).rise.1, .int .i64 (waxOf s c).spread.1, .int .i64 (-c.draught), .int .i64 c.cold.2] 72), (w2.heap.size + 1, .cells #[.int .i64 (wpull s k).2, .int .i64 (waxOf s c).flow.2, .int .i64 (waxOf s c).rise.2, .int .i64 (waxOf s c).spread.2, .int .i64 c.draught, .int .i64 c.cold.1] 72)] w4) := hC4; have HG4 := Lib.hid ((hU4 g (by have := HGL.out; omega)).trans HG3.out); clear hC4 hU4 CQ HG3; have ha0 := CR.out.cell 5 rfl 0; have hb0 := CR.out.cell 6 rfl 0; have ht0 := CR.out.cell 2 rfl 0))
  refine (kout_row false _ _ [t.pull] 1 rfl (by simp) (by rw [outB_one, outOne_ff]; omega) _ _ rfl _ (heap_alloc_new _ _)).mono ?_
  rintro e w5 ⟨rfl, hb⟩
  have D0 := Lib.hid ((CR.out.alloc _).call hb)
  have HH0 := Lib.hid (block_keep (block_keep HG4.out ((Below.refl _ _).alloc (Nat.le_refl _) _)) hb)
  clear hb CR HG4 ha0 hb0 ht0
  have ha1 := D0.out.cell 5 rfl 1
  have hb1 := D0.out.cell 6 rfl 1
  have ht1 := D0.out.cell 2 rfl 1
  go_wp2_with fail
  refine (kout_row false _ _ [t.flow] 1 rfl (by simp) (by rw [outB_one, outOne_ff]; omega) _ _ rfl _ (heap_alloc_new _ _)).mono ?_
  rintro e w5 ⟨rfl, hb⟩
  have D1 := Lib.hid ((D0.out.alloc _).call hb)
  have HH1 := Lib.hid (block_keep (block_keep HH0.out ((Below.refl _ _).alloc (Nat.le_refl _) _)) hb)
  clear hb D0 HH0 ha1 hb1 ht1
  have ha2 := D1.out.cell 5 rfl 2
  have hb2 := D1.out.cell 6 rfl 2
  have ht2 := D1.out.cell 2 rfl 2
  go_wp2_with fail
  refine (kout_row false _ _ [t.rise] 1 rfl (by simp) (by rw [outB_one, outOne_ff]; omega) _ _ rfl _ (heap_alloc_new _ _)).mono ?_
  rintro e w5 ⟨rfl, hb⟩
  have D2 := Lib.hid ((D1.out.alloc _).call hb)
  have HH2 := Lib.hid (block_keep (block_keep HH1.out ((Below.refl _ _).alloc (Nat.le_refl _) _)) hb)
  clear hb D1 HH1 ha2 hb2 ht2
  have ha3 := D2.out.cell 5 rfl 3
  have hb3 := D2.out.cell 6 rfl 3
  have ht3 := D2.out.cell 2 rfl 3
  go_wp2_with fail
  refine (kout_row false _ _ [t.spread] 1 rfl (by simp) (by rw [outB_one, outOne_ff]; omega) _ _ rfl _ (heap_alloc_new _ _)).mono ?_
  rintro e w5 ⟨rfl, hb⟩
  have D3 := Lib.hid ((D2.out.alloc _).call hb)
  have HH3 := Lib.hid (block_keep (block_keep HH2.out ((Below.refl _ _).alloc (Nat.le_refl _) _)) hb)
  clear hb D2 HH2 ha3 hb3 ht3
  have ha4 := D3.out.cell 5 rfl 4
  have hb4 := D3.out.cell 6 rfl 4
  have ht4 := D3.out.cell 2 rfl 4
  go_wp2_with fail
  refine (kout_row false _ _ [t.draught] 1 rfl (by simp) (by rw [outB_one, outOne_ff]; omega) _ _ rfl _ (heap_alloc_new _ _)).mono ?_
  rintro e w5 ⟨rfl, hb⟩
  have D4 := Lib.hid ((D3.out.alloc _).call hb)
  have HH4 := Lib.hid (block_keep (block_keep HH3.out ((Below.refl _ _).alloc (Nat.le_refl _) _)) hb)
  clear hb D3 HH3 ha4 hb4 ht4
  have ha5 := D4.out.cell 5 rfl 5
  have hb5 := D4.out.cell 6 rfl 5
  have ht5 := D4.out.cell 2 rfl 5
  go_wp2_with fail
  refine (kout_row false _ _ [t.cold] 1 rfl (by simp) (by rw [outB_one, outOne_ff]; omega) _ _ rfl _ (heap_alloc_new _ _)).mono ?_
  rintro e w5 ⟨rfl, hb⟩
  have D5 := Lib.hid ((D4.out.alloc _).call hb)
  have HH5 := Lib.hid (block_keep (block_keep HH4.out ((Below.refl _ _).alloc (Nat.le_refl _) _)) hb)
  clear hb D4 HH4 ha5 hb5 ht5
  have ht0 := D5.out.cell 2 rfl 0
  have ht1 := D5.out.cell 2 rfl 1
  have ht2 := D5.out.cell 2 rfl 2
  have ht3 := D5.out.cell 2 rfl 3
  have ht4 := D5.out.cell 2 rfl 4
  have ht5 := D5.out.cell 2 rfl 5
  go_wp2_with fail
  refine (HB1 g _ HH5.out).out.mono ?_
  rintro e w6 ⟨rfl, hb⟩
  have CY := Lib.hid (D5.out.call hb)
  clear hb D5 ht0 ht1 ht2 ht3 ht4 ht5
  go_wp2_with (refine wpList_store_bs rfl 66 _ _ rfl CY.out 3 _ (burnC (burnV (waxOf s c) t)) _ _ rfl rfl rfl infoBurn rfl (by simp [Value.oneCell']) ?_; intro w7 hC7; have CZ := Lib.hid hC7; clear hC7 CY)
  exact bodyPost_ret (results_row_tmp (fn := Tryz.f21) rfl _ _ _ _ _ _ _ rfl rfl (CZ.out.get 3 rfl) Tryz.underlying66 rfl infoBurn) rfl ⟨rfl, CZ.out.bel⟩
end Go.Proofs.YtpkggjobdmchlaaGreatDoor
