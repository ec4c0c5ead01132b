/- wick.ends. -/
import Derived.Test.YteebihcdgpfldaaGreatU6
namespace Go.Proofs.YteebihcdgpfldaaGreat
open Go.RowKit
theorem stoodTru : Tryz.prog.stoodInHeld 63 = false := by kernel_rfl
theorem fieldsTru : Tryz.prog.underlying 63 = some (.struct (Tryz.prog.fieldsOf 63)) := by kernel_rfl
def truEq (a b : WTru) : Bool := a.pull == b.pull && (a.flow == b.flow && (a.rise == b.rise && (a.spread == b.spread && (a.draught == b.draught && a.cold == b.cold))))
theorem truEq_iff {a b : WTru} (h : truEq a b = true) : a = b := by
 unfold truEq at h
 simp only [Bool.and_eq_true, beq_iff_eq] at h
 obtain ⟨h1, h2, h3, h4, h5, h6⟩ := h
 cases a; cases b
 simp_all
set_option maxRecDepth 100000 in
theorem run_eql_tru (a b : WTru) (w : World) : (binOp .eql 63 (.agg #[.int .i64 a.pull, .int .i64 a.flow, .int .i64 a.rise, .int .i64 a.spread, .int .i64 a.draught, .int .i64 a.cold]) (.agg #[.int .i64 b.pull, .int .i64 b.flow, .int .i64 b.rise, .int .i64 b.spread, .int .i64 b.draught, .int .i64 b.cold])).run Tryz.prog w = .ok (.bool (truEq a b)) w := by
 rw [run_eql_struct, show (10000 : Nat) = 9999 + 1 from rfl, run_equalIn_agg w 9999 63 _ _ fieldsTru stoodTru]
 unfold truEq
 go_simp
 by_cases h1 : a.pull = b.pull <;> by_cases h2 : a.flow = b.flow <;> by_cases h3 : a.rise = b.rise <;> by_cases h4 : a.spread = b.spread <;> by_cases h5 : a.draught = b.draught <;> by_cases h6 : a.cold = b.cold <;> simp [h1, h2, h3, h4, h5, h6]
set_option maxRecDepth 100000 in
set_option maxHeartbeats 16000000 in
theorem ends_ok {s : WShop} {c : Candle} (hs : WOk s c) (k : Nat) (hk : k < s.wicks.length) (vw vx : Value) (g : Nat) (w : World) (hv : WShopAt w.heap.size w vw vx s) (hg : w.heap[g]? = some (.cells (opC vw vx s c (waxOf s c)) 152)) :
 Calls Tryz.prog 67 #[.pointer (some ⟨g, 0, none⟩), .int .i64 k] w fun e w' => e = .returned (.tuple #[.agg (burnC (leastB s c k)), .agg (burnC (mostB s c k))]) ∧ Below w.heap.size w w' := by
 have HG := Lib.hid hg
 have HBO := Lib.hid (hs.bok hk)
 have HT := fun w h1 h2 => Lib.hid (truths_ok (s := s) (c := c) k hk hs.draught (waxOf s c) vw vx g w h1 h2)
 have HB1 := fun w h => Lib.hid (burn_ok (s := s) HBO.out (leastT (waxOf s c) c (wpull s k)) HBO.out.least vw vx g w h)
 have HB2 := fun w h => Lib.hid (burn_ok (s := s) HBO.out (mostT (waxOf s c) c (wpull s k)) HBO.out.most vw vx g w h)
 have HEQ : Hid (leastT (waxOf s c) c (wpull s k) = mostT (waxOf s c) c (wpull s k) → mostB s c k = leastB s c k) := fun h => by unfold mostB leastB; rw [h]
 have HV := Lib.hid hv
 have C0 : Hid (Bs w [(w.heap.size, .cells #[.int .i64 0, .int .i64 0, .int .i64 0] 70), (w.heap.size + 1, .cells #[.int .i64 0, .int .i64 0, .int .i64 0] 70)] _) := Lib.hid (((Bs.nil w).push _ rfl (.cells #[.int .i64 0, .int .i64 0, .int .i64 0] 70)).push (w.heap.size + 1) (by simp) (.cells #[.int .i64 0, .int .i64 0, .int .i64 0] 70))
 clear hg hs hv hk
 go_enter Tryz.func67, Tryz.ntmps67
 go_wp2_with fail
 refine (HT _ ((HV.out.below C0.out.bel).mono C0.out.bel.size) (block_keep HG.out C0.out.bel)).out.mono ?_
 rintro e w1 ⟨rfl, hb⟩
 have C1 := Lib.hid (C0.out.call hb)
 clear hb C0 HT HV
 have CP := Lib.hid ((C1.out.push _ rfl (.cells #[.int .i64 0, .int .i64 0, .int .i64 0, .int .i64 0, .int .i64 0, .int .i64 0] 63)).push (w1.heap.size + 1) (by simp) (.cells #[.int .i64 0, .int .i64 0, .int .i64 0, .int .i64 0, .int .i64 0, .int .i64 0] 63))
 clear C1
 go_wp2_with (first | (refine wpList_store_bs rfl 63 _ _ rfl CP.out 2 _ #[.int .i64 (wpull s k).1, .int .i64 (waxOf s c).flow.1, .int .i64 (waxOf s c).rise.1, .int .i64 (waxOf s c).spread.1, .int .i64 (-c.draught), .int .i64 c.cold.2] _ _ rfl rfl rfl infoTru rfl (by simp [Value.oneCell']) ?_; intro w2 hC2; have CQ : Hid (Bs w [(w.heap.size, .cells #[.int .i64 0, .int .i64 0, .int .i64 0] 70), (w.heap.size + 1, .cells #[.int .i64 0, .int .i64 0, .int .i64 0] 70), (w1.heap.size, .cells #[.int .i64 (wpull s k).1, .int .i64 (waxOf s c).flow.1, .int .i64 (waxOf s c).rise.1, .int .i64 (waxOf s c).spread.1, .int .i64 (-c.draught), .int .i64 c.cold.2] 63), (w1.heap.size + 1, .cells #[.int .i64 0, .int .i64 0, .int .i64 0, .int .i64 0, .int .i64 0, .int .i64 0] 63)] w2) := hC2; clear hC2 CP) | (refine wpList_store_bs rfl 63 _ _ rfl CQ.out 3 _ #[.int .i64 (wpull s k).2, .int .i64 (waxOf s c).flow.2, .int .i64 (waxOf s c).rise.2, .int .i64 (waxOf s c).spread.2, .int .i64 c.draught, .int .i64 c.cold.1] _ _ rfl rfl rfl infoTru rfl (by simp [Value.oneCell']) ?_; intro w3 hC3; have CR : Hid (Bs w [(w.heap.size, .cells #[.int .i64 0, .int .i64 0, .int .i64 0] 70), (w.heap.size + 1, .cells #[.int .i64 0, .int .i64 0, .int .i64 0] 70), (w1.heap.size, .cells #[.int .i64 (wpull s k).1, .int .i64 (waxOf s c).flow.1, .int .i64 (waxOf s c).rise.1, .int .i64 (waxOf s c).spread.1, .int .i64 (-c.draught), .int .i64 c.cold.2] 63), (w1.heap.size + 1, .cells #[.int .i64 (wpull s k).2, .int .i64 (waxOf s c).flow.2, .int .i64 (waxOf s c).rise.2, .int .i64 (waxOf s c).spread.2, .int .i64 c.draught, .int .i64 c.cold.1] 63)] w3) := hC3; clear hC3 CQ; have hl0 := CR.out.cell 2 rfl 0; have hl1 := CR.out.cell 2 rfl 1; have hl2 := CR.out.cell 2 rfl 2; have hl3 := CR.out.cell 2 rfl 3; have hl4 := CR.out.cell 2 rfl 4; have hl5 := CR.out.cell 2 rfl 5))
 refine (HB1 _ (block_keep HG.out CR.out.bel)).out.mono ?_
 rintro e w4 ⟨rfl, hb⟩
 have CS := Lib.hid (CR.out.call hb)
 clear hb CR HB1 hl0 hl1 hl2 hl3 hl4 hl5
 obtain ⟨r, hr⟩ : ∃ r, truEq (leastT (waxOf s c) c (wpull s k)) (mostT (waxOf s c) c (wpull s k)) = r := ⟨_, rfl⟩
 have HQ : Hid (∀ w, (binOp .eql 63 (.agg #[.int .i64 (wpull s k).1, .int .i64 (waxOf s c).flow.1, .int .i64 (waxOf s c).rise.1, .int .i64 (waxOf s c).spread.1, .int .i64 (-c.draught), .int .i64 c.cold.2]) (.agg #[.int .i64 (wpull s k).2, .int .i64 (waxOf s c).flow.2, .int .i64 (waxOf s c).rise.2, .int .i64 (waxOf s c).spread.2, .int .i64 c.draught, .int .i64 c.cold.1])).run Tryz.prog w = .ok (.bool r) w) := fun w => by rw [← hr]; exact run_eql_tru (leastT (waxOf s c) c (wpull s k)) (mostT (waxOf s c) c (wpull s k)) w
 have HTE : Hid (r = true → mostB s c k = leastB s c k) := fun h => HEQ.out (truEq_iff (hr.trans h))
 clear HEQ hr
 have hq := HQ.out
 clear HQ
 cases r
 ·go_wp2_with (first | (refine wpList_store_bs rfl 70 _ _ rfl CS.out 0 _ (burnC (leastB s c k)) _ _ rfl rfl rfl infoBurn rfl (by simp [Value.oneCell']) ?_; intro w5 hC5; have CU : Hid (Bs w [(w.heap.size, .cells (burnC (leastB s c k)) 70), (w.heap.size + 1, .cells #[.int .i64 0, .int .i64 0, .int .i64 0] 70), (w1.heap.size, .cells #[.int .i64 (wpull s k).1, .int .i64 (waxOf s c).flow.1, .int .i64 (waxOf s c).rise.1, .int .i64 (waxOf s c).spread.1, .int .i64 (-c.draught), .int .i64 c.cold.2] 63), (w1.heap.size + 1, .cells #[.int .i64 (wpull s k).2, .int .i64 (waxOf s c).flow.2, .int .i64 (waxOf s c).rise.2, .int .i64 (waxOf s c).spread.2, .int .i64 c.draught, .int .i64 c.cold.1] 63)] w5) := hC5; clear hC5 CS) | (refine wpList_load_row rfl 63 _ rfl _ rfl _ _ _ _ (CU.out.get 2 rfl) Tryz.underlying63 rfl infoTru ?_) | (refine wpList_load_row rfl 63 _ rfl _ rfl _ _ _ _ (CU.out.get 3 rfl) Tryz.underlying63 rfl infoTru ?_) | fail)
  try clear hl0 hl1 hl2 hl3 hl4 hl5
  try clear hq
  try clear HTE
  refine wp_region_inv0 (by kernel_rfl) (by kernel_rfl) (fun D w' => Bs w [(w.heap.size, .cells (burnC (leastB s c k)) 70), (w.heap.size + 1, .cells (cond (D 5) (burnC (mostB s c k)) #[.int .i64 0, .int .i64 0, .int .i64 0]) 70), (w1.heap.size, .cells #[.int .i64 (wpull s k).1, .int .i64 (waxOf s c).flow.1, .int .i64 (waxOf s c).rise.1, .int .i64 (waxOf s c).spread.1, .int .i64 (-c.draught), .int .i64 c.cold.2] 63), (w1.heap.size + 1, .cells #[.int .i64 (wpull s k).2, .int .i64 (waxOf s c).flow.2, .int .i64 (waxOf s c).rise.2, .int .i64 (waxOf s c).spread.2, .int .i64 c.draught, .int .i64 c.cold.1] 63)] w') CU.out.drew ?_
  apply obl_det
  case hrun =>
   intro D y wz hW hD R hR
   have HRR := Lib.hid hR
   clear hR
   have HW := Lib.hid hW
   have h1 := HW.out.get 0 rfl
   clear hW hD
   refine wpList_load_row rfl 70 _ rfl _ rfl _ _ _ _ h1 Tryz.underlying70 rfl infoBurn ?_
   go_simp
   exact HRR.out _ HW.out
  case hnp => rfl
  case hv => first | exact ⟨_, fun _ => rfl⟩ | exact ⟨undef, fun _ => rfl⟩
  apply obl_det
  case hrun =>
   intro D y wz hW hD R hR
   have HRR := Lib.hid hR
   clear hR
   have HW := Lib.hid hW
   clear hW hD
   go_wp2_with fail
   exact HRR.out _ HW.out
  case hnp => rfl
  case hv => first | exact ⟨_, fun _ => rfl⟩ | exact ⟨undef, fun _ => rfl⟩
  apply obl_det
  case hrun =>
   intro D y wz hW hD R hR
   have HRR := Lib.hid hR
   clear hR
   have HW := Lib.hid hW
   have h1 := HW.out.get 3 rfl
   clear hW hD
   refine wpList_load_row rfl 63 _ rfl _ rfl _ _ _ _ h1 Tryz.underlying63 rfl infoTru ?_
   go_simp
   exact HRR.out _ HW.out
  case hnp => rfl
  case hv => first | exact ⟨_, fun _ => rfl⟩ | exact ⟨undef, fun _ => rfl⟩
  apply obl_det
  case hrun =>
   intro D y wz hW hD R hR
   have HRR := Lib.hid hR
   clear hR
   have HW := Lib.hid hW
   clear hW hD
   go_wp2_with fail
   refine (HB2 _ (block_keep HG.out HW.out.bel)).out.mono ?_
   rintro e w6 ⟨rfl, hb⟩
   have HW2 := Lib.hid (HW.out.call hb)
   clear hb
   go_wp2_with fail
   exact HRR.out _ HW2.out
  case hnp => rfl
  case hv => first | exact ⟨_, fun _ => rfl⟩ | exact ⟨undef, fun _ => rfl⟩
  apply obl_det
  case hrun =>
   intro D y wz hW hD R hR
   have HRR := Lib.hid hR
   clear hR
   have HW := Lib.hid hW
   clear hW hD
   refine wpList_store_bs rfl 70 _ _ rfl HW.out 0 _ (burnC (leastB s c k)) _ _ rfl rfl rfl infoBurn rfl (by simp [Value.oneCell']) ?_
   intro w4' hC4
   have HC4 := Lib.hid hC4
   clear hC4
   simp only [Act.put]
   go_simp
   exact HRR.out _ HC4.out
  case hnp => rfl
  case hv => first | exact ⟨_, fun _ => rfl⟩ | exact ⟨undef, fun _ => rfl⟩
  apply obl_det
  case hrun =>
   intro D y wz hW hD R hR
   have HRR := Lib.hid hR
   clear hR
   have h0 : D 5 = false := hD.not
   rw [h0] at hW
   clear h0
   have HW := Lib.hid hW
   clear hW hD
   refine wpList_store_bs rfl 70 _ _ rfl HW.out 1 _ (burnC (mostB s c k)) _ _ rfl rfl rfl infoBurn rfl (by simp [Value.oneCell']) ?_
   intro w4' hC4
   have HC4 := Lib.hid hC4
   clear hC4
   simp only [Act.put]
   go_simp
   exact HRR.out _ HC4.out
  case hnp => rfl
  case hv => first | exact ⟨_, fun _ => rfl⟩ | exact ⟨undef, fun _ => rfl⟩
  apply obl_nil
  intro D y wB hall hW
  rw [hall 5 (by decide)] at hW
  have HT3 : Hid (Bs w [(w.heap.size, .cells (burnC (leastB s c k)) 70), (w.heap.size + 1, .cells (burnC (mostB s c k)) 70), (w1.heap.size, .cells #[.int .i64 (wpull s k).1, .int .i64 (waxOf s c).flow.1, .int .i64 (waxOf s c).rise.1, .int .i64 (waxOf s c).spread.1, .int .i64 (-c.draught), .int .i64 c.cold.2] 63), (w1.heap.size + 1, .cells #[.int .i64 (wpull s k).2, .int .i64 (waxOf s c).flow.2, .int .i64 (waxOf s c).rise.2, .int .i64 (waxOf s c).spread.2, .int .i64 c.draught, .int .i64 c.cold.1] 63)] wB) := hW
  clear hW hall CU
  go_wp2_with fail
  exact bodyPost_ret (results_row2 (fn := Tryz.f67) rfl _ _ _ _ _ _ _ _ _ _ rfl rfl (HT3.out.get 0 rfl) (HT3.out.get 1 rfl) Tryz.underlying70 Tryz.underlying70 rfl rfl infoBurn infoBurn) rfl ⟨rfl, HT3.out.bel⟩
 ·have HTQ := Lib.hid (HTE.out rfl)
  clear HTE
  go_wp2_with (first | (refine wpList_store_bs rfl 70 _ _ rfl CS.out 0 _ (burnC (leastB s c k)) _ _ rfl rfl rfl infoBurn rfl (by simp [Value.oneCell']) ?_; intro w5 hC5; have CU : Hid (Bs w [(w.heap.size, .cells (burnC (leastB s c k)) 70), (w.heap.size + 1, .cells #[.int .i64 0, .int .i64 0, .int .i64 0] 70), (w1.heap.size, .cells #[.int .i64 (wpull s k).1, .int .i64 (waxOf s c).flow.1, .int .i64 (waxOf s c).rise.1, .int .i64 (waxOf s c).spread.1, .int .i64 (-c.draught), .int .i64 c.cold.2] 63), (w1.heap.size + 1, .cells #[.int .i64 (wpull s k).2, .int .i64 (waxOf s c).flow.2, .int .i64 (waxOf s c).rise.2, .int .i64 (waxOf s c).spread.2, .int .i64 c.draught, .int .i64 c.cold.1] 63)] w5) := hC5; clear hC5 CS) | (refine wpList_load_row rfl 63 _ rfl _ rfl _ _ _ _ (CU.out.get 2 rfl) Tryz.underlying63 rfl infoTru ?_) | (refine wpList_load_row rfl 63 _ rfl _ rfl _ _ _ _ (CU.out.get 3 rfl) Tryz.underlying63 rfl infoTru ?_) | (refine wpList_load_row rfl 70 _ rfl _ rfl _ _ _ _ (CU.out.get 0 rfl) Tryz.underlying70 rfl infoBurn ?_) | (refine wpList_store_bs rfl 70 _ _ rfl CU.out 0 _ (burnC (leastB s c k)) _ _ rfl rfl rfl infoBurn rfl (by simp [Value.oneCell']) ?_; intro w6 hC6; have CV : Hid (Bs w [(w.heap.size, .cells (burnC (leastB s c k)) 70), (w.heap.size + 1, .cells #[.int .i64 0, .int .i64 0, .int .i64 0] 70), (w1.heap.size, .cells #[.int .i64 (wpull s k).1, .int .i64 (waxOf s c).flow.1, .int .i64 (waxOf s c).rise.1, .int .i64 (waxOf s c).spread.1, .int .i64 (-c.draught), .int .i64 c.cold.2] 63), (w1.heap.size + 1, .cells #[.int .i64 (wpull s k).2, .int .i64 (waxOf s c).flow.2, .int .i64 (waxOf s c).rise.2, .int .i64 (waxOf s c).spread.2, .int .i64 c.draught, .int .i64 c.cold.1] 63)] w6) := hC6; clear hC6 CU) | (refine wpList_store_bs rfl 70 _ _ rfl CV.out 1 _ (burnC (leastB s c k)) _ _ rfl rfl rfl infoBurn rfl (by simp [Value.oneCell']) ?_; intro w7 hC7; have CW : Hid (Bs w [(w.heap.size, .cells (burnC (leastB s c k)) 70), (w.heap.size + 1, .cells (burnC (leastB s c k)) 70), (w1.heap.size, .cells #[.int .i64 (wpull s k).1, .int .i64 (waxOf s c).flow.1, .int .i64 (waxOf s c).rise.1, .int .i64 (waxOf s c).spread.1, .int .i64 (-c.draught), .int .i64 c.cold.2] 63), (w1.heap.size + 1, .cells #[.int .i64 (wpull s k).2, .int .i64 (waxOf s c).flow.2, .int .i64 (waxOf s c).rise.2, .int .i64 (waxOf s c).spread.2, .int .i64 c.draught, .int .i64 c.cold.1] 63)] w7) := hC7; clear hC7 CV) | fail)
  rw [HTQ.out]
  simp only [Act.put]
  exact bodyPost_ret (results_row2 (fn := Tryz.f67) rfl _ _ _ _ _ _ _ _ _ _ rfl rfl (CW.out.get 0 rfl) (CW.out.get 1 rfl) Tryz.underlying70 Tryz.underlying70 rfl rfl infoBurn infoBurn) rfl ⟨rfl, CW.out.bel⟩
end Go.Proofs.YteebihcdgpfldaaGreat
