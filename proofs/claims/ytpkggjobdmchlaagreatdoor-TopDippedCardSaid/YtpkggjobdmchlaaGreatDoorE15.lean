/- dip.Fewest: its closure's walk. -/
import Derived.RangeFuncNested
import Derived.RangeFuncBound
import Derived.RangeFuncCalls
import Derived.RangeFuncLeaves
import Derived.Shelf.Abstract
import Derived.Shelf.RegionOpen
import Derived.OwnWalkIn
import Derived.TacticsInMore
import Derived.LoopNIn
import Derived.LoopIn
import Derived.Test.YtpkggjobdmchlaaGreatDoorE13
namespace Go.Proofs.YtpkggjobdmchlaaGreatDoor
open Go.RowKit Go.Shelf
attribute [local go_sem] Oper.semAt_some
set_option maxRecDepth 100000 in
set_option maxHeartbeats 16000000 in
theorem try_step {q : TQ} (hq : q.Ok) (l : Nat) (ih : ∀ l', l = l' + 1 → TryC q l') : TryC q l := by
  intro c lf pre n w hlf hc hpl hn hS hM hB
  obtain ⟨c0, c1, c2, c3, c4, rfl⟩ := cnt_five hc
  have HWF := Lib.hid (cnt_I64 hc hlf)
  have HBD := Lib.hid (stOf_bound hq.s hq.ks hq.t hc)
  have HRR : ∃ r, Hid (stOf q [c0, c1, c2, c3, c4] = r) := ⟨_, rfl⟩
  obtain ⟨r, HRR⟩ := HRR
  rw [HRR.out] at HBD
  have HS := Lib.hid hS
  have HM := Lib.hid hM
  have HB := Lib.hid hB
  have HLF := Lib.hid hlf
  have HC := Lib.hid hc
  have HPL := Lib.hid hpl
  have HN := Lib.hid hn
  have HQ := Lib.hid hq
  have HIH := Lib.hid ih
  have HLvb : Hid (q.vb < w.heap.size) := block_lt hS.vb
  have HLtb : Hid (q.tb < w.heap.size) := block_lt hS.tb
  have HLwb : Hid (q.wb < w.heap.size) := block_lt hS.wb
  have HLnb : Hid (q.nb < w.heap.size) := block_lt hS.nb
  have HLkb : Hid (q.kb < w.heap.size) := block_lt hS.kb
  have HLfb : Hid (q.fb < w.heap.size) := block_lt hS.fb
  have HLxb : Hid (q.xb < w.heap.size) := block_lt hS.xb
  have HLbb : Hid (q.bb < w.heap.size) := by obtain ⟨v, h1, h2⟩ := hB; exact block_lt h1
  have HLMb : Hid (q.Mb < w.heap.size) := hM.lt
  have HQB : Hid (q.Bq ≤ w.heap.size) := Nat.le_trans (Nat.le_trans hq.vb.1 (Nat.le_of_lt hq.vb.2)) hS.sz
  clear hS hM hB hlf hc hpl hn ih hq
  show Calls Tryz.prog 46 #[.agg #[.int .i64 c0, .int .i64 c1, .int .i64 c2, .int .i64 c3, .int .i64 c4], .agg (rngC (stOf q [c0, c1, c2, c3, c4])), .int .i64 lf, .pointer (some ⟨q.vb, 0, none⟩), .pointer (some ⟨q.tb, 0, none⟩), .pointer (some ⟨q.wb, 0, none⟩), .pointer (some ⟨q.nb, 0, none⟩), .pointer (some ⟨q.kb, 0, none⟩), .pointer (some ⟨q.bb, 0, none⟩), .pointer (some ⟨q.fb, 0, none⟩), .pointer (some ⟨q.xb, 0, none⟩)] w _
  rw [HRR.out]
  obtain ⟨⟨t1, t2⟩, ⟨f1, f2⟩, ⟨k1, k2⟩⟩ := r
  have C0 : Hid (Bs w [(w.heap.size, .cells #[.int .i64 c0, .int .i64 c1, .int .i64 c2, .int .i64 c3, .int .i64 c4] 114), (w.heap.size + 1, .cells #[.int .i64 t1, .int .i64 t2, .int .i64 f1, .int .i64 f2, .int .i64 k1, .int .i64 k2] 95), (w.heap.size + 2, .cells #[.int .i64 lf] 3), (w.heap.size + 3, .cells #[.bool false] 4)] _) := Lib.hid (((((Bs.nil w).push _ rfl (.cells #[.int .i64 c0, .int .i64 c1, .int .i64 c2, .int .i64 c3, .int .i64 c4] 114)).push (w.heap.size + 1) (by simp) (.cells #[.int .i64 t1, .int .i64 t2, .int .i64 f1, .int .i64 f2, .int .i64 k1, .int .i64 k2] 95)).push (w.heap.size + 2) (by simp) (.cells #[.int .i64 lf] 3)).push (w.heap.size + 3) (by simp) (.cells #[.bool false] 4))
  have C1 : Hid (Bs w [(w.heap.size, .cells #[.int .i64 c0, .int .i64 c1, .int .i64 c2, .int .i64 c3, .int .i64 c4] 114), (w.heap.size + 1, .cells #[.int .i64 t1, .int .i64 t2, .int .i64 f1, .int .i64 f2, .int .i64 k1, .int .i64 k2] 95), (w.heap.size + 2, .cells #[.int .i64 lf] 3), (w.heap.size + 3, .cells #[.bool false] 4), (w.heap.size + 4, .cells #[.int .i64 0, .int .i64 0, .int .i64 0, .int .i64 0, .int .i64 0, .int .i64 0] 116)] _) := Lib.hid (C0.out.push (w.heap.size + 4) (by simp) (.cells #[.int .i64 0, .int .i64 0, .int .i64 0, .int .i64 0, .int .i64 0, .int .i64 0] 116))
  have c_2 := C0.out.cell 2 rfl 0
  have infoTRs : (Tryz.prog.info? 116).map (·.size) = some 6 := by kernel_rfl
  have HITR := Lib.hid infoTRs
  clear infoTRs
  have infoB1 : (Tryz.prog.info? 4).map (·.size) = some 1 := by kernel_rfl
  refine (callsIn_wide (n := 40)).1 ?_
  refine callsIn_of_wp_marks Tryz.func46 rfl trivial ?_ rfl
  simp only [Tryz.ntmps46, List.size_toArray, List.length_cons, List.length_nil, Nat.reduceAdd, Nat.reduceSub, Array.replicate_succ, Array.replicate_zero, List.push_toArray, List.append_toArray, List.nil_append, List.cons_append]
  refine wpIn_wide.2 ?_
  go_upto_region 2 with (first | (refine wpList_load_row rfl 114 _ rfl _ rfl _ _ _ _ (C0.out.get 0 rfl) Tryz.underlying114 rfl infoCT ?_) | (refine wpList_store_bs rfl 116 _ _ rfl C1.out 4 _ #[.int .i64 c0, .int .i64 c1, .int .i64 c2, .int .i64 c3, .int .i64 c4, .int .i64 lf] _ _ rfl rfl rfl HITR.out rfl (by simp [Value.oneCell']) ?_; intro w5 hC; have C5 : Hid (Bs w [(w.heap.size, .cells #[.int .i64 c0, .int .i64 c1, .int .i64 c2, .int .i64 c3, .int .i64 c4] 114), (w.heap.size + 1, .cells #[.int .i64 t1, .int .i64 t2, .int .i64 f1, .int .i64 f2, .int .i64 k1, .int .i64 k2] 95), (w.heap.size + 2, .cells #[.int .i64 lf] 3), (w.heap.size + 3, .cells #[.bool false] 4), (w.heap.size + 4, .cells #[.int .i64 c0, .int .i64 c1, .int .i64 c2, .int .i64 c3, .int .i64 c4, .int .i64 lf] 116)] w5) := hC; clear hC C1 C0 c_2))
  have HM5 := Lib.hid (HM.out.keep (C5.out.bel.block _ HLMb.out))
  obtain ⟨v, hlk, hvb⟩ := HM5.out.look [c0, c1, c2, c3, c4] lf rfl HWF.out
  have hlk2 : (Instr.lookup 111 (.map (some q.Mb)) (.agg #[.int .i64 c0, .int .i64 c1, .int .i64 c2, .int .i64 c3, .int .i64 c4, .int .i64 lf]) false).run Tryz.prog w5 = .ok (.int .i64 v) w5 := hlk
  have HVB := Lib.hid hvb
  have HW5 := Lib.hid C5.out.bel
  have HTK5 : Hid (TK q w w5) := TK.below HW5.out HQB.out HLbb.out
  have HB5 : Hid (BestAt q w5 pre) := HB.out.keep (fun k cs t h => block_keep h HW5.out)
  clear hlk hvb
  have c_10 := C5.out.cell 1 rfl 0
  have c_12 := C5.out.cell 1 rfl 2
  have c_vb0 := (C5.out.bel.cell (p := ⟨q.vb, 0, none⟩) HLvb.out).trans (cell_of_row _ _ 0 _ _ _ HS.out.vb)
  have c_tb0 := (C5.out.bel.cell (p := ⟨q.tb, 0, none⟩) HLtb.out).trans (cell_of_row _ _ 0 _ _ _ HS.out.tb)
  have c_00 := C5.out.cell 0 rfl 0
  have c_01 := C5.out.cell 0 rfl 1
  have c_02 := C5.out.cell 0 rfl 2
  have c_03 := C5.out.cell 0 rfl 3
  have c_04 := C5.out.cell 0 rfl 4
  by_cases hv : 0 < v
  · have HNO : Hid (firstP q l [c0, c1, c2, c3, c4] (stOf q [c0, c1, c2, c3, c4]) = none) := by
      have h := HVB.out hv
      unfold Hid
      exact h [c0, c1, c2, c3, c4] l (by rw [HLF.out])
    iterate 4 go_step
    refine wpList_load_row rfl 116 _ rfl _ rfl _ _ _ _ (C5.out.get 4 rfl) Tryz.underlying116 rfl HITR.out ?_
    go_upto_region 3 with fail
    go_wp2_with (refine wpList_cell_bs rfl 4 _ _ rfl C5.out 3 _ 0 _ _ rfl rfl (.bool false) rfl (by simp) rfl infoB1 ?_; intro w6 hC; have C6 := Lib.hid hC; clear hC C5 c_00 c_01 c_02 c_03 c_04 c_10 c_12 c_vb0 c_tb0)
    have HW6 := Lib.hid C6.out.bel
    show LeavesInM _ _ _ _ _ _ [] _ _
    exact leaves_now (results_cellB rfl _ _ (w.heap.size + 3) false rfl (C6.out.cell 3 rfl 0)) (TryR.mk false (TryPost.none HNO.out (TK.below HW6.out HQB.out HLbb.out) ((HM.out.keep (HW6.out.block _ HLMb.out)).mono (by omega)) (HB.out.keep (fun k cs t h => block_keep h HW6.out))))
  have hmm : min t1 f1 < q.t.wick ∨ ¬ min t1 f1 < q.t.wick := by omega
  rcases hmm with hl | hl
  · have hlo := lostB_true HQ.out.t HRR.out.symm hl
    have HNO : Hid (firstP q l [c0, c1, c2, c3, c4] (stOf q [c0, c1, c2, c3, c4]) = none) := by unfold Hid; rw [HRR.out]; exact firstP_lost hlo.2 l
    have hne : decide ([c0, c1, c2, c3, c4] = zeroC) = false := by simpa using hlo.1
    have hzc : ∀ w, (Op.equalIn 10000 114 (.agg #[.int .i64 c0, .int .i64 c1, .int .i64 c2, .int .i64 c3, .int .i64 c4]) (.agg #[.int .i64 0, .int .i64 0, .int .i64 0, .int .i64 0, .int .i64 0])).run Tryz.prog w = .ok false w := fun w => by
      have h := run_equal5 [c0, c1, c2, c3, c4] zeroC rfl rfl w
      rw [all5 _ _ rfl rfl, hne] at h
      exact h
    clear hlo hne
    iterate 4 go_step
    refine wpList_load_row rfl 116 _ rfl _ rfl _ _ _ _ (C5.out.get 4 rfl) Tryz.underlying116 rfl HITR.out ?_
    go_upto_region 3 with fail
    go_wp2_with (refine wpList_cell_bs rfl 4 _ _ rfl C5.out 3 _ 0 _ _ rfl rfl (.bool false) rfl (by simp) rfl infoB1 ?_; intro w6 hC; have C6 := Lib.hid hC; clear hC C5 c_00 c_01 c_02 c_03 c_04 c_10 c_12 c_vb0 c_tb0)
    have HW6 := Lib.hid C6.out.bel
    show LeavesInM _ _ _ _ _ _ [] _ _
    exact leaves_now (results_cellB rfl _ _ (w.heap.size + 3) false rfl (C6.out.cell 3 rfl 0)) (TryR.mk false (TryPost.none HNO.out (TK.below HW6.out HQB.out HLbb.out) ((HM.out.keep (HW6.out.block _ HLMb.out)).mono (by omega)) (HB.out.keep (fun k cs t h => block_keep h HW6.out))))
  have HLO : Hid (lostB q [c0, c1, c2, c3, c4] ⟨(t1, t2), (f1, f2), (k1, k2)⟩ = false) := lostB_false hl
  iterate 4 go_step
  refine wpList_load_row rfl 116 _ rfl _ rfl _ _ _ _ (C5.out.get 4 rfl) Tryz.underlying116 rfl HITR.out ?_
  go_upto_region 4 with fail
  clear hlk2 hl hv c_00 c_01 c_02 c_03 c_04 c_10 c_12 c_vb0 c_tb0
  have c_2 := C5.out.cell 2 rfl 0
  by_cases hz : l = 0
  · subst hz
    have hb0 : (lf == 0) = true := by have := HLF.out; simpa using this
    go_upto_region 5 with fail
    clear hb0
    have HFP : Hid (firstP q 0 [c0, c1, c2, c3, c4] (stOf q [c0, c1, c2, c3, c4]) = if wishB q ⟨(t1, t2), (f1, f2), (k1, k2)⟩ = true then some [] else none) := by
      unfold Hid; rw [HRR.out, firstP, HLO.out]; rfl
    have HWI : Hid (wishB q ⟨(t1, t2), (f1, f2), (k1, k2)⟩ = (!outB q.lo q.hi [t1, t2, f1, f2] && !outB (-q.bound) q.bound [k1, k2])) := rfl
    obtain ⟨r1, HR1⟩ : ∃ r, Hid (outB q.lo q.hi [t1, t2, f1, f2] = r) := ⟨_, rfl⟩
    obtain ⟨r2, HR2⟩ : ∃ r, Hid (outB (-q.bound) q.bound [k1, k2] = r) := ⟨_, rfl⟩
    rw [HR1.out, HR2.out] at HWI
    rw [HWI.out] at HFP
    have HBN := Lib.hid HQ.out.bound
    have HNG : Hid (wrap64 (-q.bound) = -q.bound) := by have := HBN.out; unfold Hid wrap64; omega
    have c_10 := C5.out.cell 1 rfl 0
    have c_11 := C5.out.cell 1 rfl 1
    have c_12 := C5.out.cell 1 rfl 2
    have c_13 := C5.out.cell 1 rfl 3
    have c_wb0 := (C5.out.bel.cell (p := ⟨q.wb, 0, none⟩) HLwb.out).trans (cell_of_row _ _ 0 _ _ _ HS.out.wb)
    have c_wb1 := (C5.out.bel.cell (p := ⟨q.wb, 1, none⟩) HLwb.out).trans (cell_of_row _ _ 1 _ _ _ HS.out.wb)
    go_wp2_with fail
    refine (dout_row r1 q.lo q.hi [t1, t2, f1, f2] 4 rfl (by simp) HR1.out _ _ rfl _ (heap_alloc_new _ _)).mono ?_
    rintro e w6 ⟨rfl, hb⟩
    have C6 := Lib.hid ((C5.out.alloc _).call hb)
    clear hb C5 c_2 c_10 c_11 c_12 c_13 c_wb0 c_wb1
    cases r1 with
    | true =>
      have HNO : Hid (firstP q 0 [c0, c1, c2, c3, c4] (stOf q [c0, c1, c2, c3, c4]) = none) := by unfold Hid; rw [HFP.out]; rfl
      go_wp2_with (first | go_skip | (refine wpList_cell_bs rfl 4 _ _ rfl C6.out 3 _ 0 _ _ rfl rfl (.bool false) rfl (by simp) rfl infoB1 ?_; intro w6 hC; have C7 := Lib.hid hC; clear hC C6 ))
      have HW6 := Lib.hid C7.out.bel
      show LeavesInM _ _ _ _ _ _ [] _ _
      exact leaves_now (results_cellB rfl _ _ (w.heap.size + 3) false rfl (C7.out.cell 3 rfl 0)) (TryR.mk false (TryPost.none HNO.out (TK.below HW6.out HQB.out HLbb.out) ((HM.out.keep (HW6.out.block _ HLMb.out)).mono (by omega)) (HB.out.keep (fun k cs t h => block_keep h HW6.out))))
    | false =>
      have c_14 := C6.out.cell 1 rfl 4
      have c_15 := C6.out.cell 1 rfl 5
      have c_nb0 := (C6.out.bel.cell (p := ⟨q.nb, 0, none⟩) HLnb.out).trans (cell_of_row _ _ 0 _ _ _ HS.out.nb)
      go_wp2_with fail
      rw [HNG.out]
      refine (dout_row r2 (-q.bound) q.bound [k1, k2] 2 rfl (by simp) HR2.out _ _ rfl _ (heap_alloc_new _ _)).mono ?_
      rintro e w8 ⟨rfl, hb⟩
      have C8 := Lib.hid ((C6.out.alloc _).call hb)
      clear hb C6 c_14 c_15 c_nb0
      cases r2 with
      | true =>
        have HNO : Hid (firstP q 0 [c0, c1, c2, c3, c4] (stOf q [c0, c1, c2, c3, c4]) = none) := by unfold Hid; rw [HFP.out]; rfl
        go_wp2_with (first | go_skip | (refine wpList_cell_bs rfl 4 _ _ rfl C8.out 3 _ 0 _ _ rfl rfl (.bool false) rfl (by simp) rfl infoB1 ?_; intro w6 hC; have C9 := Lib.hid hC; clear hC C8 ))
        have HW6 := Lib.hid C9.out.bel
        show LeavesInM _ _ _ _ _ _ [] _ _
        exact leaves_now (results_cellB rfl _ _ (w.heap.size + 3) false rfl (C9.out.cell 3 rfl 0)) (TryR.mk false (TryPost.none HNO.out (TK.below HW6.out HQB.out HLbb.out) ((HM.out.keep (HW6.out.block _ HLMb.out)).mono (by omega)) (HB.out.keep (fun k cs t h => block_keep h HW6.out))))
      | false =>
        have HYES : Hid (firstP q 0 [c0, c1, c2, c3, c4] (stOf q [c0, c1, c2, c3, c4]) = some []) := by unfold Hid; rw [HFP.out]; rfl
        go_wp2_with (first | go_skip | (refine wpList_cell_bs rfl 4 _ _ rfl C8.out 3 _ 0 _ _ rfl rfl (.bool true) rfl (by simp) rfl infoB1 ?_; intro w6 hC; have C9 := Lib.hid hC; clear hC C8 ))
        have HW6 := Lib.hid C9.out.bel
        show LeavesInM _ _ _ _ _ _ [] _ _
        refine leaves_now (results_cellB rfl _ _ (w.heap.size + 3) true rfl (C9.out.cell 3 rfl 0)) (TryR.mk true ⟨TK.below HW6.out HQB.out HLbb.out, (HM.out.keep (HW6.out.block _ HLMb.out)).mono (by omega), by rw [HYES.out]; rfl, ?_⟩)
        rw [HYES.out]
        simpa using HB.out.keep (fun k cs t h => block_keep h HW6.out)
  obtain ⟨l', rfl⟩ : ∃ l', l = l' + 1 := ⟨l - 1, by omega⟩
  have HTR := Lib.hid (HIH.out l' rfl)
  have hb0 : (lf == 0) = false := by have := HLF.out; simp; omega
  obtain ⟨ka, kc, hkv, -, -⟩ := sl_shape HQ.out.kv
  have HKV := Lib.hid hkv
  clear hz hkv
  have c_kb0 : w5.cell? ⟨q.kb, 0, none⟩ = some (.slice ka q.ks.length kc) := by
    rw [← HKV.out]
    exact (C5.out.bel.cell (p := ⟨q.kb, 0, none⟩) HLkb.out).trans (cell_of_row _ _ 0 _ _ _ HS.out.kb)
  go_upto_region 6 with fail
  clear hb0
  go_wp2_with (refine wpList_load_row rfl 114 _ rfl _ rfl _ _ _ _ (C5.out.get 0 rfl) Tryz.underlying114 rfl infoCT ?_)
  refine (with_any [c0, c1, c2, c3, c4] q.ks.length _).mono ?_
  rintro e w7 ⟨rfl, hw7⟩
  have HZ5 : Hid (w.heap.size + 5 ≤ w5.heap.size) := C5.out.lt 4 rfl
  have C7 : Hid (Bs w [(w.heap.size, .cells #[.int .i64 c0, .int .i64 c1, .int .i64 c2, .int .i64 c3, .int .i64 c4] 114), (w.heap.size + 1, .cells #[.int .i64 t1, .int .i64 t2, .int .i64 f1, .int .i64 f2, .int .i64 k1, .int .i64 k2] 95), (w.heap.size + 2, .cells #[.int .i64 lf] 3), (w.heap.size + 3, .cells #[.bool false] 4), (w.heap.size + 4, .cells #[.int .i64 c0, .int .i64 c1, .int .i64 c2, .int .i64 c3, .int .i64 c4, .int .i64 lf] 116), (w5.heap.size, .cells #[.int .i64 c0, .int .i64 c1, .int .i64 c2, .int .i64 c3, .int .i64 c4] 114), (w5.heap.size + 1, .cells #[.int .i64 q.ks.length] 3)] w7) := by
    rw [hw7]
    exact (C5.out.push _ rfl (.cells #[.int .i64 c0, .int .i64 c1, .int .i64 c2, .int .i64 c3, .int .i64 c4] 114)).push (w5.heap.size + 1) (by simp) (.cells #[.int .i64 q.ks.length] 3)
  have HZ7 : Hid (w7.heap.size = w5.heap.size + 2) := by unfold Hid; rw [hw7]; simp
  clear hw7 C5 c_2 c_kb0
  go_wp2_with fail
  have HK5 := Lib.hid HQ.out.n5
  have HCN : ∀ k, 0 ≤ ([c0, c1, c2, c3, c4] : List Int).getD k 0 ∧ ([c0, c1, c2, c3, c4] : List Int).getD k 0 ≤ 1000 := fun k => by have := HC.out.c k; omega
  have HGV := Lib.hid (with_gives [c0, c1, c2, c3, c4] rfl HCN q.ks.length HK5.out 39 (w5.heap.size + 1) w5.heap.size q.Bq w7 (C7.out.get 6 rfl) (C7.out.get 5 rfl) (Nat.le_trans HQB.out C7.out.bel.size))
  have HSZ : Hid (q.Ob ≤ w.heap.size) := HS.out.sz
  have HI0 : Hid (LI q w [c0, c1, c2, c3, c4] l' lf #[.int .i64 t1, .int .i64 t2, .int .i64 f1, .int .i64 f2, .int .i64 k1, .int .i64 k2] pre n w5.heap.size [] w7) :=
    ⟨TK.below C7.out.bel HQB.out HLbb.out, C7.out.get 1 rfl, C7.out.get 2 rfl, C7.out.get 3 rfl, C7.out.get 4 rfl, C7.out.get 5 rfl, C7.out.get 6 rfl, fun k h1 h2 h3 => by
      have h4 := (HB.out.back (back_below HLbb.out C7.out.bel h3)).2.1
      omega, ⟨HZ5.out, by rw [HZ7.out]; exact Nat.le_refl _⟩, (HM.out.keep (C7.out.bel.block _ HLMb.out)).mono (by omega), HB.out.keep (fun k cs t h => block_keep h C7.out.bel), by simp⟩
  clear HCN C7
  have HLbb7 : Hid (q.bb < w7.heap.size) := HI0.out.bb HQ.out HSZ.out
  have HMb7 : Hid (q.Mb < w7.heap.size) := HI0.out.memo.lt
  have HIL : Hid (∀ k, (ints (incr [c0, c1, c2, c3, c4] k)).size = 5) := fun k => by rw [ints_sizeC, incr_len]; rfl
  refine (wpIn_wide (n := 40)).1 ?_
  refine wpIn_range_stab (α := KindI q.ks.length) rfl (by omega) (gf := 83) (lb := #[.pointer (some ⟨(w5.heap.size + 1), 0, none⟩), .pointer (some ⟨w5.heap.size, 0, none⟩)]) rfl trivial (enters_of Tryz.func83 (by kernel_rfl) rfl) HGV.out
    (fun h k => SuK.t h k) (SuK.turn (by have := HQB.out; have := HZ5.out; have := HZ7.out; omega) (by have := HZ7.out; omega) (by have := HZ7.out; omega)) (fun _ => rfl)
    (fun xs W => LI q w [c0, c1, c2, c3, c4] l' lf #[.int .i64 t1, .int .i64 t2, .int .i64 f1, .int .i64 f2, .int .i64 k1, .int .i64 k2] pre n w5.heap.size xs W) (fun c xs W => c = .ret ∧ LX q w [c0, c1, c2, c3, c4] l' pre n xs W) (fun xs => LI.stab HQ.out HSZ.out) (fun c xs W W' h hb => ⟨h.1, LX.stab HQ.out HSZ.out W W' h.2 hb⟩) (fun xs => LI.turn HQ.out HSZ.out (by have := HZ7.out; omega)) (fun c xs W lp o o' hB h hl hc => ⟨h.1, LX.turn HQ.out HSZ.out (by have := HZ7.out; have := HZ5.out; omega) W lp o o' hB h.2 hl hc⟩) HI0.out
    (fun x a' W => ∃ b17 : Nat, a' = { tmps := #[.agg #[.int .i64 c0, .int .i64 c1, .int .i64 c2, .int .i64 c3, .int .i64 c4], .agg (rngC ⟨(t1, t2), (f1, f2), (k1, k2)⟩), .int .i64 lf, .pointer (some ⟨q.vb, 0, none⟩), .pointer (some ⟨q.tb, 0, none⟩), .pointer (some ⟨q.wb, 0, none⟩), .pointer (some ⟨q.nb, 0, none⟩), .pointer (some ⟨q.kb, 0, none⟩), .pointer (some ⟨q.bb, 0, none⟩), .pointer (some ⟨q.fb, 0, none⟩), .pointer (some ⟨q.xb, 0, none⟩), .pointer (some ⟨w.heap.size, 0, none⟩), .pointer (some ⟨w.heap.size + 1, 0, none⟩), .pointer (some ⟨w.heap.size + 1 + 1, 0, none⟩), .pointer (some ⟨w.heap.size + 1 + 1 + 1, 0, none⟩), .pointer (some ⟨w.heap.size + 1 + 1 + 1 + 1, 0, none⟩), .int .i64 x.1, .pointer (some ⟨b17, 0, none⟩), .agg #[.int .i64 c0, .int .i64 c1, .int .i64 c2, .int .i64 c3, .int .i64 c4], .int .i64 lf, .agg #[.int .i64 c0, .int .i64 c1, .int .i64 c2, .int .i64 c3, .int .i64 c4, .int .i64 lf], .map (some q.Mb), .agg #[.int .i64 c0, .int .i64 c1, .int .i64 c2, .int .i64 c3, .int .i64 c4, .int .i64 lf], .int .i64 v, .bool false, .bool false, .pointer (some ⟨w.heap.size + 1, 0, none⟩), .pointer (some ⟨w.heap.size + 1, 0, none⟩), .int .i64 t1, .pointer (some ⟨w.heap.size + 1, 2, none⟩), .pointer (some ⟨w.heap.size + 1, 2, none⟩), .int .i64 f1, .int .i64 (min t1 f1), .pointer (some ⟨q.tb, 0, none⟩), .int .i64 q.t.wick, .bool false, .bool false, undef, undef, undef, .bool false, .bool false, .int .i64 lf, .bool false, undef, undef, undef, undef, undef, undef, undef, undef, undef, undef, undef, undef, undef, undef, undef, undef, undef, undef, undef, undef, undef, undef, undef, undef, undef, undef, undef, undef, undef, undef, undef, undef, undef, .agg #[.int .i64 c0, .int .i64 c1, .int .i64 c2, .int .i64 c3, .int .i64 c4], .slice ka q.ks.length kc, .int .i64 q.ks.length, .func (.func 83) #[] #[.pointer (some ⟨(w5.heap.size + 1), 0, none⟩), .pointer (some ⟨w5.heap.size, 0, none⟩)], .int .i64 x.1, .agg (ints (incr [c0, c1, c2, c3, c4] x.1)), undef, undef, undef, undef, undef, undef, undef, undef, undef, undef, undef, undef, undef, undef, undef, undef, undef, undef, undef, undef, undef, undef, undef, undef, undef, undef, undef], defers := [] } ∧ W.heap[b17]? = some (.cells (ints (incr [c0, c1, c2, c3, c4] x.1)) 114) ∧ w7.heap.size ≤ b17 ∧ ¬ Back q.bb W b17) (fun x a' W lp o o' h hlp ho hc => ?ax) ?assign ?body ?done ?stop
  case ax =>
    obtain ⟨b17, e1, e2, e3, e4⟩ := h
    exact ⟨b17, e1, cells_put ho hc e2, e3, fun hk => e4 (back_put (by have := HLbb7.out; omega) hk)⟩
  case assign =>
    intro lp xs x W K hI hszV hK
    have HK := Lib.hid hK
    have HI := Lib.hid hI
    have HSV := Lib.hid hszV
    clear hK hI hszV
    have CP := Lib.hid ((Bs.nil W).push _ rfl (.cells #[.int .i64 0, .int .i64 0, .int .i64 0, .int .i64 0, .int .i64 0] 114))
    gi_wp2_with (refine wpListIn_store_bs rfl 114 _ _ rfl CP.out 0 _ (ints (incr [c0, c1, c2, c3, c4] x.1)) _ _ rfl rfl rfl (by rw [HIL.out]; exact infoCT) (by rw [HIL.out]; rfl) (by simp [ints, Value.oneCell']) ?_; intro w9 hC; have C9 := Lib.hid hC; clear hC CP)
    refine HK.out _ _ ⟨C9.out.bel.size, fun k o _ hk _ => block_keep hk C9.out.bel⟩ (SuK.below (by have := HQB.out; have := HZ5.out; have := HZ7.out; have := HSV.out; omega) (by have := HZ7.out; have := HSV.out; omega) (by have := HZ7.out; have := HSV.out; omega) C9.out.bel) (LI.stab HQ.out HSZ.out _ _ HI.out C9.out.bel) ⟨W.heap.size, rfl, C9.out.get 0 rfl, HSV.out, fun hk => ?_⟩
    have h4 := (HI.out.best.back (back_below (HI.out.bb HQ.out HSZ.out) C9.out.bel hk)).2.1
    omega
  case body =>
    rintro lp xs x a' W hszW hI ⟨b17, rfl, h17, hge, hnb⟩ hlen
    have HI := Lib.hid hI
    have H17 := Lib.hid h17
    have HGE := Lib.hid hge
    have HNB := Lib.hid hnb
    have HSW := Lib.hid hszW
    obtain ⟨bv, hbx, hrow⟩ := hI.best
    obtain ⟨ra, rc, rfl⟩ := ownsRow_slice hrow
    have HBX := Lib.hid hbx
    have HR := Lib.hid hrow
    obtain ⟨i0, hi0, hz0, hz1, hz2⟩ := info3'
    have HA0 := Lib.hid hi0
    have HA1 := Lib.hid hz0
    have HA2 := Lib.hid hz1
    have HA3 := Lib.hid hz2
    have infoINS1 : (Tryz.prog.info? 49).map (·.size) = some 1 := by kernel_rfl
    have c_bb := cell_of_row _ _ 0 _ _ _ hbx
    have hpl10 : pre.length ≤ 10 := by have := HPL.out; omega
    have hobW : q.Ob ≤ W.heap.size := by have := HSZ.out; have := HI.out.tk.size; omega
    have hbbW : q.bb < W.heap.size := HI.out.bb HQ.out HSZ.out
    clear hI h17 hge hnb hbx hrow hi0 hz0 hz1 hz2 hszW
    iterate 13 gi_step
    refine wpListIn_append_own_at (o := ⟨some 86, _, _, _, _, _⟩) (w := W.alloc (.cells #[.int .i64 x.1] 3)) rfl _ _ 49 rfl q.Ob 3 i0 (.int .i64 0) 1 8 Tryz.underlying49 HA0.out HA1.out HA2.out HA3.out rfl (by decide) (.slice ra pre.length rc) pre.length (kInts pre) ?_ ?_ ⟨W.heap.size, 0, none⟩ 1 1 [.int .i64 x.1] ?_ ?_ ?_ ?_ ?_ ?_ ?_ ?_; (exact rfl); (exact HR.out.alloc _); (exact rfl); (exact rfl); (exact cell_news _ _ _ _ (heap_alloc_new _ _)); (exact one_int _); (unfold maxLen; omega); omega; (simp; omega); intro v' w8 hown hgrow _ hat; obtain ⟨ra', rc', rfl⟩ := ownsRow_slice hown; have HO8 := Lib.hid hown; have HG8 := Lib.hid hgrow; have HAT := Lib.hid hat; have HC8 : Hid (w8.heap[q.bb]? = some (.cells #[.slice ra pre.length rc] 49)) := (hgrow.block q.bb (by simp; omega) (fun e => by have := (HR.out.lt _ e.symm).1; have := HQ.out.bb; omega)).trans (block_keep HBX.out ((Below.refl _ _).alloc (Nat.le_refl _) _)); clear hown hgrow hat c_bb
    refine wpListIn_cell_but (o := ⟨none, .store 49 (.tmp 8) (.tmp 86), _, _, _, _⟩) rfl 49 _ _ rfl q.bb 0 _ _ HC8.out rfl (.slice ra' (pre.length + 1) rc') rfl (by simp) rfl infoINS1 ?_; intro w9 hg9 hb9; have HG9 := Lib.hid hg9; have HB9 := Lib.hid hb9; clear hg9 hb9
    gi_wp2_with fail
    clear hpl10
    have hWA : Below W.heap.size W (W.alloc (.cells #[.int .i64 x.1] 3)) := (Below.refl _ _).alloc (Nat.le_refl _) _
    have HBQ : Hid (q.Bq ≤ W.heap.size) := by have h1 := HQ.out.bb; unfold Hid; omega
    have HT9 : Hid (TK q W w9) := (TK.below hWA HBQ.out hbbW).t (TK.grow HQ.out (block_keep HBX.out hWA) (HR.out.alloc _) (by simp; omega) HG8.out HAT.out HB9.out HG9.out)
    have HB9b : Hid (BestAt q w9 (pre ++ [x.1])) := ⟨_, HG9.out, by
      have h := ownsRow.but HO8.out HB9.out HC8.out (by decide)
      rw [kInts_snoc, List.length_append]
      exact h⟩
    have HM9 : Hid (Memo (BadK q) q.Mb (n + xs.length * cost q.ks.length l') w9) := by
      have hm := HI.out.memo
      have hml := hm.lt
      refine hm.keep ((HB9.out.block _ ?_ HQ.out.nm).trans ((HG8.out.block _ (by simp; omega) (fun e => by have := (HR.out.lt _ e.symm).1; have := HQ.out.Mb; omega)).trans (hWA.block _ hml)))
      have := HG8.out.size
      simp at this
      omega
    have HS9 : Hid (TryS q w9) := TryS.keep HQ.out HS.out HB.out (HI.out.tk.t HT9.out)
    have HKEEP : Hid (∀ k cs t, w.heap.size ≤ k → k < w5.heap.size + 2 → W.heap[k]? = some (.cells cs t) → w9.heap[k]? = some (.cells cs t) ∧ ¬ Back q.bb w9 k) := by
      intro k cs t h1 h2 h3
      refine ⟨HT9.out.cells k cs t (by have := HQ.out.bb; have := HSZ.out; omega) (HI.out.nb k h1 h2) h3, fun hk => ?_⟩
      rcases HT9.out.back k hk with h4 | h4
      · exact HI.out.nb k h1 h2 h4
      · have := block_lt h3; omega
    have H17b : Hid (w9.heap[b17]? = some (.cells (ints (incr [c0, c1, c2, c3, c4] x.1)) 114) ∧ ¬ Back q.bb w9 b17) := by
      refine ⟨HT9.out.cells _ _ _ (by have := HLbb7.out; have := HGE.out; omega) HNB.out H17.out, fun hk => ?_⟩
      rcases HT9.out.back _ hk with h4 | h4
      · exact HNB.out h4
      · have := block_lt H17.out; omega
    clear hWA HG8 HAT HO8 HC8 HB9 HG9 H17 HNB HBX HA0 HA1 HA2 HA3
    have HXK : Hid (x.1 < q.ks.length) := x.2
    have HKVV : DipsIn q.Bq q.w0 (.slice ka q.ks.length kc) q.ks := by rw [← HKV.out]; exact HQ.out.kv
    obtain ⟨b, o, he, hbl, hx0, hx1, hx2, hx3⟩ := HKVV.at' x.2
    subst he
    have HD0 : Hid (∀ wz, TryS q wz → wz.cell? ⟨b, o + x.1 * 4, none⟩ = some (.int .i64 (q.ks.getD x.1 default).bath) ∧ wz.cell? ⟨b, o + x.1 * 4 + 1, none⟩ = some (.int .i64 (q.ks.getD x.1 default).seconds) ∧ wz.cell? ⟨b, o + x.1 * 4 + 2, none⟩ = some (.int .i64 (q.ks.getD x.1 default).pause) ∧ wz.cell? ⟨b, o + x.1 * 4 + 3, none⟩ = some (.bool (q.ks.getD x.1 default).turned)) := fun wz hs =>
      ⟨(hs.bel.cell (p := ⟨b, o + x.1 * 4, none⟩) hbl).trans hx0, (hs.bel.cell (p := ⟨b, o + x.1 * 4 + 1, none⟩) hbl).trans hx1, (hs.bel.cell (p := ⟨b, o + x.1 * 4 + 2, none⟩) hbl).trans hx2, (hs.bel.cell (p := ⟨b, o + x.1 * 4 + 3, none⟩) hbl).trans hx3⟩
    clear HKVV hbl hx0 hx1 hx2 hx3
    have HDK : Hid (DipOk q.s (q.ks.getD x.1 default)) := HQ.out.ks _ (by rw [List.getD_eq_getElem?_getD, List.getElem?_eq_getElem x.2]; exact List.getElem_mem x.2)
    have HX5 : Hid (x.1 < 5) := by have h1 := x.2; have h2 := HK5.out; unfold Hid; omega
    have HSR0 : Hid (stOf q (incr [c0, c1, c2, c3, c4] x.1) = afterV q.s ⟨(t1, t2), (f1, f2), (k1, k2)⟩ (q.ks.getD x.1 default)) := by unfold Hid; rw [stOf_incr q rfl HX5.out, HRR.out]
    obtain ⟨SR, HSR⟩ : ∃ z, Hid (stOf q (incr [c0, c1, c2, c3, c4] x.1) = z) := ⟨_, rfl⟩
    rw [HSR.out] at HSR0
    have HAF : ∀ (W2 : World), DBathsIn W2.heap.size W2 q.v q.s.baths → Hid (Calls Tryz.prog 48 #[.agg (dshopC q.s q.v), .agg (rngC ⟨(t1, t2), (f1, f2), (k1, k2)⟩), .agg (dipC (q.ks.getD x.1 default))] W2 fun e w' => e = .returned (.agg (rngC SR)) ∧ Below W2.heap.size W2 w') := fun W2 hv => by
      rw [HSR0.out]
      exact Lib.hid (after_ok HQ.out.s HDK.out (by have h := HBD.out; unfold RngB at h ⊢; simp only at h ⊢; omega) q.v W2 hv)
    have HLM : Hid (wrap64 (lf - 1) = (l' : Int)) := by have h1 := HLF.out; have h2 := HC.out.n; unfold Hid wrap64; omega
    have HNL : Hid (n + xs.length * cost q.ks.length l' + cost q.ks.length l' ≤ 1000000000) := by
      have h1 := HN.out
      rw [cost] at h1
      have h2 := Nat.mul_le_mul_right (cost q.ks.length l') (show xs.length + 1 ≤ q.ks.length from hlen)
      rw [Nat.add_mul, Nat.one_mul] at h2
      unfold Hid
      omega
    obtain ⟨N1, HN1⟩ : ∃ z, Hid (n + xs.length * cost q.ks.length l' = z) := ⟨_, rfl⟩
    rw [HN1.out] at HNL
    clear hlen
    have HTX : ∀ (wz : World), TryS q wz → Memo (BadK q) q.Mb N1 wz → BestAt q wz (pre ++ [x.1]) → Hid (Calls Tryz.prog 46 #[.agg (ints (incr [c0, c1, c2, c3, c4] x.1)), .agg (rngC SR), .int .i64 (l' : Int), .pointer (some ⟨q.vb, 0, none⟩), .pointer (some ⟨q.tb, 0, none⟩), .pointer (some ⟨q.wb, 0, none⟩), .pointer (some ⟨q.nb, 0, none⟩), .pointer (some ⟨q.kb, 0, none⟩), .pointer (some ⟨q.bb, 0, none⟩), .pointer (some ⟨q.fb, 0, none⟩), .pointer (some ⟨q.xb, 0, none⟩)] wz (TryR q (incr [c0, c1, c2, c3, c4] x.1) l' (pre ++ [x.1]) (N1 + cost q.ks.length l') wz)) := fun wz h1 h2 h3 => by
      rw [← HSR.out]
      exact Lib.hid (HTR.out (incr [c0, c1, c2, c3, c4] x.1) l' (pre ++ [x.1]) N1 wz rfl (HC.out.incr HX5.out) (by have := HPL.out; simp; omega) HNL.out h1 h2 h3)
    obtain ⟨rb, HRB⟩ : ∃ r, Hid ((kindP q l' [c0, c1, c2, c3, c4] x.1).isSome = r) := ⟨_, rfl⟩
    rw [HN1.out] at HM9
    have HC1 : Hid (w9.heap[w.heap.size + 1]? = some (.cells #[.int .i64 t1, .int .i64 t2, .int .i64 f1, .int .i64 f2, .int .i64 k1, .int .i64 k2] 95) ∧ ¬ Back q.bb w9 (w.heap.size + 1)) := HKEEP.out _ _ _ (by omega) (by have := HZ5.out; omega) HI.out.b1
    have HC2 : Hid (w9.heap[w.heap.size + 2]? = some (.cells #[.int .i64 lf] 3) ∧ ¬ Back q.bb w9 (w.heap.size + 2)) := HKEEP.out _ _ _ (by omega) (by have := HZ5.out; omega) HI.out.b2
    have HC3 : Hid (w9.heap[w.heap.size + 3]? = some (.cells #[.bool false] 4) ∧ ¬ Back q.bb w9 (w.heap.size + 3)) := HKEEP.out _ _ _ (by omega) (by have := HZ5.out; omega) HI.out.b3
    have HNB17 : Hid (b17 ≠ q.bb) := by have := HLbb7.out; have := HGE.out; unfold Hid; omega
    have HNBO : Hid (q.bb < w.heap.size) := HLbb.out
    have HB9l : Hid (q.bb < w9.heap.size) := Nat.lt_of_lt_of_le hbbW HT9.out.size
    have HQ9 : Hid (q.Bq ≤ w9.heap.size) := Nat.le_trans HBQ.out HT9.out.size
    have hxk : (x.1 : Int) < (q.ks.length : Int) := by have := HXK.out; omega
    clear hobW hbbW
    refine wpIn_region_inv0 (by kernel_rfl) (by kernel_rfl) (fun D w' => R10 q w9 (N1 + cost q.ks.length l') ((pre ++ [x.1]) ++ (kindP q l' [c0, c1, c2, c3, c4] x.1).getD []) (D 11) w') (R10.start HB9l.out HQ9.out (Below.refl _ _).drew) ?_
    apply obl_detIn
    case hrun =>
      intro D y wz hW hD R hR
      have HRR := Lib.hid hR
      clear hR
      have HW := Lib.hid hW
      have S := TryS.keep HQ.out HS9.out HB9b.out HW.out.tk
      have c_f := cell_of_row _ _ 0 _ _ _ S.fb
      clear S
      clear hW hD
      gi_wp2_with fail
      exact HRR.out _ HW.out
    case hnp => rfl
    case hv => first | exact ⟨_, fun _ => rfl⟩ | exact ⟨undef, fun _ => rfl⟩
    apply obl_detIn
    case hrun =>
      intro D y wz hW hD R hR
      have HRR := Lib.hid hR
      clear hR
      have HW := Lib.hid hW
      have h1 := HW.out.tk.cells _ _ _ HNB17.out H17b.out.2 H17b.out.1
      clear hW hD
      refine wpListIn_load_row rfl 114 _ rfl _ rfl _ _ _ _ h1 Tryz.underlying114 rfl (by rw [HIL.out]; exact infoCT) ?_
      gi_wp2_with fail
      exact HRR.out _ HW.out
    case hnp => rfl
    case hv => first | exact ⟨_, fun _ => rfl⟩ | exact ⟨undef, fun _ => rfl⟩
    apply obl_detIn
    case hrun =>
      intro D y wz hW hD R hR
      have HRR := Lib.hid hR
      clear hR
      have HW := Lib.hid hW
      have S := TryS.keep HQ.out HS9.out HB9b.out HW.out.tk
      have h1 := S.xb
      clear S
      clear hW hD
      refine wpListIn_load_row rfl 106 _ rfl _ rfl _ _ _ _ h1 Tryz.underlying106 rfl infoDsh ?_
      gi_wp2_with fail
      exact HRR.out _ HW.out
    case hnp => rfl
    case hv => first | exact ⟨_, fun _ => rfl⟩ | exact ⟨undef, fun _ => rfl⟩
    apply obl_detIn
    case hrun =>
      intro D y wz hW hD R hR
      have HRR := Lib.hid hR
      clear hR
      have HW := Lib.hid hW
      have h1 := HW.out.tk.cells _ _ _ (by have := HNBO.out; omega) HC1.out.2 HC1.out.1
      clear hW hD
      refine wpListIn_load_row rfl 95 _ rfl _ rfl _ _ _ _ h1 Tryz.underlying95 rfl infoDR ?_
      gi_wp2_with fail
      exact HRR.out _ HW.out
    case hnp => rfl
    case hv => first | exact ⟨_, fun _ => rfl⟩ | exact ⟨undef, fun _ => rfl⟩
    apply obl_detIn
    case hrun =>
      intro D y wz hW hD R hR
      have HRR := Lib.hid hR
      clear hR
      have HW := Lib.hid hW
      have S := TryS.keep HQ.out HS9.out HB9b.out HW.out.tk
      have c_k : wz.cell? ⟨q.kb, 0, none⟩ = some (.slice (some ⟨b, o, none⟩) q.ks.length kc) := by rw [← HKV.out]; exact cell_of_row _ _ 0 _ _ _ S.kb
      clear S
      clear hW hD
      gi_wp2_with fail
      exact HRR.out _ HW.out
    case hnp => rfl
    case hv => first | exact ⟨_, fun _ => rfl⟩ | exact ⟨undef, fun _ => rfl⟩
    iterate 2
      (apply obl_detIn
       case hrun =>
         intro D y wz hW hD R hR
         have HRR := Lib.hid hR
         clear hR
         have HW := Lib.hid hW
         clear hW hD
         gi_wp2_with fail
         exact HRR.out _ HW.out
       case hnp => rfl
       case hv => first | exact ⟨_, fun _ => rfl⟩ | exact ⟨undef, fun _ => rfl⟩)
    apply obl_detIn
    case hrun =>
      intro D y wz hW hD R hR
      have HRR := Lib.hid hR
      clear hR
      have HW := Lib.hid hW
      have S := TryS.keep HQ.out HS9.out HB9b.out HW.out.tk
      obtain ⟨d0, d1, d2, d3⟩ := HD0.out wz S
      clear S
      clear hW hD
      gi_wp2_with fail
      exact HRR.out _ HW.out
    case hnp => rfl
    case hv => first | exact ⟨_, fun _ => rfl⟩ | exact ⟨undef, fun _ => rfl⟩
    apply obl_detIn
    case hrun =>
      intro D y wz hW hD R hR
      have HRR := Lib.hid hR
      clear hR
      have HW := Lib.hid hW
      clear hW hD
      have S := Lib.hid (TryS.keep HQ.out HS9.out HB9b.out HW.out.tk)
      gi_wp2_with fail
      refine ⟨trivial, (callsIn_wide.2 (HAF _ ((HQ.out.v.below S.out.bel).mono (Nat.le_trans HQ9.out HW.out.tk.size))).out).mono ?_⟩
      rintro e w' ⟨rfl, hb⟩
      have HB2 := Lib.hid (HW.out.next HB9l.out HQ9.out hb)
      clear hb S
      gi_wp2_with fail
      exact HRR.out _ HB2.out
    case hnp => rfl
    case hv => first | exact ⟨_, fun _ => rfl⟩ | exact ⟨undef, fun _ => rfl⟩
    apply obl_detIn
    case hrun =>
      intro D y wz hW hD R hR
      have HRR := Lib.hid hR
      clear hR
      have HW := Lib.hid hW
      have c_l := cell_of_row _ _ 0 _ _ _ (HW.out.tk.cells _ _ _ (by have := HNBO.out; omega) HC2.out.2 HC2.out.1)
      clear hW hD
      gi_wp2_with fail
      exact HRR.out _ HW.out
    case hnp => rfl
    case hv => first | exact ⟨_, fun _ => rfl⟩ | exact ⟨undef, fun _ => rfl⟩
    apply obl_detIn
    case hrun =>
      intro D y wz hW hD R hR
      have HRR := Lib.hid hR
      clear hR
      have HW := Lib.hid hW
      clear hW hD
      gi_wp2_with fail
      rw [HLM.out]
      exact HRR.out _ HW.out
    case hnp => rfl
    case hv => first | exact ⟨_, fun _ => rfl⟩ | exact ⟨undef, fun _ => rfl⟩
    apply obl_detIn
    case hrun =>
      intro D y wz hW hD R hR
      have HRR := Lib.hid hR
      clear hR
      have h11 : D 11 = false := hD.not
      have HNO := Lib.hid (hW.no h11)
      clear h11
      have HW := Lib.hid hW
      clear hW hD
      have S := Lib.hid (TryS.keep HQ.out HS9.out HB9b.out HW.out.tk)
      gi_wp2_with fail
      refine ⟨trivial, (callsIn_wide.2 (HTX wz S.out (HM9.out.keep (HNO.out.block _ HM9.out.lt)) (HB9b.out.keep (fun k cs t h => block_keep h HNO.out))).out).mono ?_⟩
      rintro e w' ⟨b', rfl, htk, hme, hbb, hbe⟩
      have HB2 : Hid (R10 q w9 (N1 + cost q.ks.length l') ((pre ++ [x.1]) ++ (kindP q l' [c0, c1, c2, c3, c4] x.1).getD []) true w') := ⟨HW.out.tk.t htk, (fun e => by cases e), fun _ => ⟨hme, hbe⟩⟩
      have hrb : b' = rb := hbb.trans HRB.out
      subst hrb
      clear hbb hbe hme htk S
      gi_wp2_with fail
      exact HRR.out _ HB2.out
    case hnp => rfl
    case hv => first | exact ⟨_, fun _ => rfl⟩ | exact ⟨undef, fun _ => rfl⟩
    apply obl_nilIn
    intro D y w8 hall hW
    have h11 := hall 11 (by decide)
    rw [h11] at hW
    have HW8 := Lib.hid hW
    clear hW hall h11
    have HLN : Hid (N1 + cost q.ks.length l' = n + (xs ++ [x]).length * cost q.ks.length l') := by unfold Hid; rw [← HN1.out, List.length_append, List.length_singleton, Nat.add_mul, Nat.one_mul]; omega
    have HTW : Hid (TK q W w8) := HT9.out.t HW8.out.tk
    have HNK3 : Hid (¬ Back q.bb w8 (w.heap.size + 3)) := fun hk => by
      rcases HW8.out.tk.back _ hk with h4 | h4
      · exact HC3.out.2 h4
      · have := block_lt HC3.out.1; omega
    cases rb with
    | true =>
      have HC3b : Hid (w8.heap[w.heap.size + 3]? = some (.cells #[.bool false] 4)) := HW8.out.tk.cells _ _ _ (by have := HNBO.out; omega) HC3.out.2 HC3.out.1
      gi_wp2_with (refine wpListIn_cell_but rfl 4 _ _ rfl (w.heap.size + 3) 0 _ _ HC3b.out rfl (.bool true) rfl (by simp) rfl infoB1 ?_; intro w10 hg hb; have HG10 := Lib.hid hg; have HB10 := Lib.hid hb; clear hg hb)
      try simp only [Exit.inBlock]
      obtain ⟨p, hp⟩ := Option.isSome_iff_exists.1 HRB.out
      obtain ⟨hme, hbe⟩ := HW8.out.yes rfl
      have hz7 := HZ7.out
      have hz5 := HZ5.out
      refine ⟨⟨Nat.le_trans HTW.out.size HB10.out.size, fun k ob h1 h2 h3 => ?_⟩, rfl, TK.own HQ.out (HI.out.tk.t HTW.out) HSZ.out (by omega) HC3b.out HB10.out, HG10.out, ?_, xs, x, p, rfl, HI.out.vain, hp, ?_⟩
      · have h4 := HTW.out.nons k ob (by have := HMb7.out; have := HQ.out.Mb; have := HSZ.out; omega) h2 h3
        exact (HB10.out.block k (block_lt h4) (by omega)).trans h4
      · rw [← HLN.out]
        exact hme.keep (HB10.out.block _ hme.lt (by have := HQ.out.Mb; have := HSZ.out; omega))
      · rw [hp] at hbe
        have h5 := hbe.but HB10.out (by have := HNBO.out; omega) HNK3.out
        simpa using h5
    | false =>
      have hno : kindP q l' [c0, c1, c2, c3, c4] x.1 = none := by have h := HRB.out; simpa using h
      obtain ⟨hme, hbe⟩ := HW8.out.yes rfl
      rw [hno] at hbe
      simp only [Option.getD_none, List.append_nil] at hbe
      obtain ⟨bv, hbx, hrow⟩ := hbe
      rw [List.length_append, List.length_singleton, kInts_snoc] at hrow
      obtain ⟨g, rc2, cur, rfl, -, -, hle, -, -⟩ := own_some hrow (by omega)
      have HME := Lib.hid hme
      have HBX := Lib.hid hbx
      have HRW := Lib.hid hrow
      have HNK := Lib.hid hno
      have c_bb := cell_of_row _ _ 0 _ _ _ hbx
      have hwp : wrap64 (pre.length : Int) = (pre.length : Int) := wrapU (by have := HPL.out; omega)
      have hrc2 : (pre.length : Int) ≤ (rc2 : Int) := by omega
      have hp0 : (0 : Int) ≤ (pre.length : Int) := by omega
      have hrz : ¬ rc2 = 0 := by omega
      have hfz := frozen_of_row w8 q.bb 0 _ _ HBX.out
      clear hme hbx hrow hno hle
      gi_wp2_with fail
      generalize hw10 : w8.setCell ⟨q.bb, 0, none⟩ (.slice (some ⟨g, 0, none⟩) pre.length rc2) = w10
      have HG10 : w10.heap[q.bb]? = some (.cells #[.slice (some ⟨g, 0, none⟩) pre.length rc2] 49) := by rw [← hw10]; exact heap_setCell_same w8 q.bb 0 _ _ _ HBX.out
      have HB10 : But q.bb w8 w10 := by rw [← hw10]; exact But.setCell q.bb 0 w8 _
      clear hw10 c_bb hwp hrc2 hp0 hrz hfz
      have hobW : q.Ob ≤ w8.heap.size := by have h1 := HSZ.out; have h2 := HI.out.tk.size; have h3 := HTW.out.size; omega
      have htk : TK q W w10 := HTW.out.t (TK.set (v' := .slice (some ⟨g, 0, none⟩) pre.length rc2) HQ.out HBX.out HRW.out hobW rfl HB10 HG10)
      have hbest : BestAt q w10 pre := ⟨_, HG10, ownsRow.but (ownsRow_pop HRW.out (kInts_length pre)) HB10 HBX.out (by decide)⟩
      have hz7 := HZ7.out
      have hz5 := HZ5.out
      try simp only [Exit.inBlock]
      refine ⟨⟨htk.size, fun k ob h1 h2 h3 => htk.nons k ob (by have := HMb7.out; have := HQ.out.Mb; have := HSZ.out; omega) h2 h3⟩, HI.out.suk HQ.out HSZ.out htk, HI.out.step HQ.out HSZ.out htk x ?_ hbest HNK.out⟩
      rw [← HLN.out]
      exact HME.out.keep (HB10.block _ HME.out.lt HQ.out.nm)
  case stop =>
    rintro D c xs W hD hSp ⟨rfl, hX⟩ hDW
    have HX := Lib.hid hX
    have HD := Lib.hid hD
    have HSP := Lib.hid hSp
    have HDW := Lib.hid hDW
    clear hD hSp hX hDW
    gi_wp2_with fail
    refine leaves_marks (B := w7.heap.size) ⟨⟨D, rfl, HD.out, HDW.out, by simp⟩, trivial⟩ (fun w' hck => ?_)
    obtain ⟨ys, x, p, e1, e2, e3, e4⟩ := HX.out.found
    have hsp := HSP.out
    rw [e1] at hsp
    have hfp := kinds_some hsp e2 e3
    rw [← firstP_kind rfl HK5.out (by rw [HRR.out]; exact HLO.out)] at hfp
    have hz7 := HZ7.out
    have hz5 := HZ5.out
    have hbv : ∃ v, W.heap[q.bb]? = some (.cells #[v] 49) := by obtain ⟨v, h1, -⟩ := e4; exact ⟨v, h1⟩
    have hxl : xs.length ≤ q.ks.length := by
      have h1 := congrArg List.length e1
      have h2 : x.1 = ys.length := by
        rw [List.map_append, List.length_append, List.length_singleton, List.range_succ] at hsp
        simpa using (List.append_inj' hsp rfl).2
      have h3 := x.2
      simp at h1
      omega
    have hcl := Nat.mul_le_mul_right (cost q.ks.length l') hxl
    refine leaves_now (results_cellB rfl _ _ (w.heap.size + 3) true rfl (cell_of_row _ _ 0 _ _ _ (hck.cells _ _ _ _ HX.out.b3))) (TryR.mk true ⟨HX.out.tk.leave HQ.out (by omega) HSZ.out hbv hck, (HX.out.memo.keep (hck.bel.block _ HMb7.out)).mono (by rw [cost]; omega), by rw [hfp]; rfl, ?_⟩)
    rw [hfp]
    exact e4.keep (fun k cs t h => hck.cells _ _ _ _ h)
  case done =>
    intro Dm xs W hD hS hI hDW
    have HI := Lib.hid hI
    have HD := Lib.hid hD
    have HDW := Lib.hid hDW
    have hfp := kinds_none hS hI.vain
    rw [← firstP_kind rfl HK5.out (by rw [HRR.out]; exact HLO.out)] at hfp
    have HFP := Lib.hid hfp
    have HXL : Hid (xs.length = q.ks.length) := by have := congrArg List.length hS; unfold Hid; simpa using this
    have hbad : BadK q (.agg (ints ([c0, c1, c2, c3, c4] ++ [lf]))) := by rw [HLF.out]; exact badK_of hfp
    have hMV : Memo (BadK q) q.Mb (n + xs.length * cost q.ks.length l') W.drew := hI.memo.keep rfl
    have HCO : Hid (n + xs.length * cost q.ks.length l' + 1 = n + cost q.ks.length (l' + 1)) := by unfold Hid; rw [cost, HXL.out]; omega
    obtain ⟨v0, st, es1, clock1, hE, hm1, ⟨hl0, hl1⟩, hS2⟩ := hMV.entry (by have h1 := HN.out; have h2 := HCO.out; unfold maxLen; omega) [c0, c1, c2, c3, c4] lf rfl HWF.out hbad
    obtain ⟨om, hom1, hom2⟩ := hMV.obj
    obtain ⟨w3, hst, hm3, ⟨o3, ho3, hw3⟩⟩ := hS2 (ChangeMaps.setBlock W.drew q.Mb (.map es1 clock1)) (wrap64 (v0 + 1)) (heap_setB hom1 _)
    have HE : Hid ((Instr.mapEntry 111 (.map (some q.Mb)) (.agg #[.int .i64 c0, .int .i64 c1, .int .i64 c2, .int .i64 c3, .int .i64 c4, .int .i64 lf])).run Tryz.prog W.drew = .ok (.tuple #[.int .i64 v0, goInt st]) (ChangeMaps.setBlock W.drew q.Mb (.map es1 clock1))) := hE
    have HL0 : Hid ((Instr.lookup 111 (.map (some q.Mb)) (.agg #[.int .i64 c0, .int .i64 c1, .int .i64 c2, .int .i64 c3, .int .i64 c4, .int .i64 lf]) false).run Tryz.prog W.drew = .ok (.int .i64 v0) W.drew) := hl0
    have HL1 : Hid ((Instr.lookup 111 (.map (some q.Mb)) (.agg #[.int .i64 c0, .int .i64 c1, .int .i64 c2, .int .i64 c3, .int .i64 c4, .int .i64 lf]) false).run Tryz.prog (ChangeMaps.setBlock W.drew q.Mb (.map es1 clock1)) = .ok (.int .i64 v0) (ChangeMaps.setBlock W.drew q.Mb (.map es1 clock1))) := hl1
    have HST := Lib.hid hst
    have HM3 := Lib.hid hm3
    have HOM := Lib.hid hom1
    have HOC := Lib.hid hom2
    have hvb := hI.tk.cells _ _ _ HQ.out.ne.1 (fun hk => by have h1 := (HB.out.back hk).1; have h2 := HQ.out.vb.2; omega) HS.out.vb
    have HVBX : Hid (W.heap[q.vb]? = some (.cells #[.map (some q.Mb)] 111)) := hvb
    have HVM : Hid (q.vb ≠ q.Mb) := fun e => by
      rw [e] at hvb
      rw [show W.drew.heap = W.heap from rfl] at hom1
      rw [hvb] at hom1
      cases hom1
      simp [Obj.isCells] at hom2
    have HW3 : Hid (w3 = ChangeMaps.setBlock (ChangeMaps.setBlock W.drew q.Mb (.map es1 clock1)) q.Mb o3) := hw3
    have hb4 := hI.b4
    have HB4 : Hid (W.heap[w.heap.size + 4]? = some (.cells #[.int .i64 c0, .int .i64 c1, .int .i64 c2, .int .i64 c3, .int .i64 c4, .int .i64 lf] 116)) := hb4
    clear hD hS hI hDW hfp hbad hMV hE hl0 hl1 hS2 hom1 hom2 hst hm3 hvb hb4 hm1 hw3
    try simp only [Exit.inBlock]
    go_upto_region 13 with fail
    obtain ⟨V1, HV1⟩ : ∃ z, Hid (ChangeMaps.setBlock W.drew q.Mb (.map es1 clock1) = z) := ⟨_, rfl⟩
    rw [HV1.out] at HE HL1 HST HW3
    obtain ⟨V, HV⟩ : ∃ z, Hid (W.drew = z) := ⟨_, rfl⟩
    rw [HV.out] at HE HL0
    refine wp_region_inv0 (by kernel_rfl) (by kernel_rfl) (fun D w' => w' = bif D 6 then w3 else bif D 4 then V1 else V) HV.out ?_
    apply obl_det
    case hrun =>
      intro D y wz hW hD R hR
      have HRR := Lib.hid hR
      clear hR
      have h4 : D 4 = false := hD.post _ 4 rfl (by kernel_rfl)
      have h6 : D 6 = false := hD.post _ 6 rfl (by kernel_rfl)
      have hz : wz = V := by rw [hW, h6, h4]; rfl
      clear h4 h6
      have HW := Lib.hid hW
      have c_v : wz.cell? ⟨q.vb, 0, none⟩ = some (.map (some q.Mb)) := by rw [hz, ← HV.out]; exact cell_of_row W _ 0 _ _ _ HVBX.out
      clear hz
      clear hW hD
      go_wp2_with fail
      exact HRR.out _ HW.out
    case hnp => rfl
    case hv => first | exact ⟨_, fun _ => rfl⟩ | exact ⟨undef, fun _ => rfl⟩
    apply obl_det
    case hrun =>
      intro D y wz hW hD R hR
      have HRR := Lib.hid hR
      clear hR
      have h4 : D 4 = false := hD.post _ 4 rfl (by kernel_rfl)
      have h6 : D 6 = false := hD.post _ 6 rfl (by kernel_rfl)
      have hz : wz = V := by rw [hW, h6, h4]; rfl
      clear h4 h6
      have HW := Lib.hid hW
      have h1 : wz.heap[w.heap.size + 4]? = some (.cells #[.int .i64 c0, .int .i64 c1, .int .i64 c2, .int .i64 c3, .int .i64 c4, .int .i64 lf] 116) := by rw [hz, ← HV.out]; exact HB4.out
      clear hz
      clear hW hD
      refine wpList_load_row rfl 116 _ rfl _ rfl _ _ _ _ h1 Tryz.underlying116 rfl HITR.out ?_
      go_wp2_with fail
      exact HRR.out _ HW.out
    case hnp => rfl
    case hv => first | exact ⟨_, fun _ => rfl⟩ | exact ⟨undef, fun _ => rfl⟩
    apply obl_det
    case hrun =>
      intro D y wz hW hD R hR
      have HRR := Lib.hid hR
      clear hR
      have h6 : D 6 = false := hD.post _ 6 rfl (by kernel_rfl)
      have hlk : (Instr.lookup 111 (.map (some q.Mb)) (.agg #[.int .i64 c0, .int .i64 c1, .int .i64 c2, .int .i64 c3, .int .i64 c4, .int .i64 lf]) false).run Tryz.prog wz = .ok (.int .i64 v0) wz := by
        rw [hW, h6]
        cases D 4 with
        | true => exact HL1.out
        | false => exact HL0.out
      clear h6
      have HW := Lib.hid hW
      clear hW hD
      go_wp2_with fail
      exact HRR.out _ HW.out
    case hnp => rfl
    case hv => first | exact ⟨_, fun _ => rfl⟩ | exact ⟨undef, fun _ => rfl⟩
    apply obl_det
    case hrun =>
      intro D y wz hW hD R hR
      have HRR := Lib.hid hR
      clear hR
      have HW := Lib.hid hW
      clear hW hD
      go_wp2_with fail
      exact HRR.out _ HW.out
    case hnp => rfl
    case hv => first | exact ⟨_, fun _ => rfl⟩ | exact ⟨undef, fun _ => rfl⟩
    apply obl_det
    case hrun =>
      intro D y wz hW hD R hR
      have HRR := Lib.hid hR
      clear hR
      have h4 : D 4 = false := hD.not
      have h6 : D 6 = false := hD.post _ 6 rfl (by kernel_rfl)
      have hz : wz = V := by rw [hW, h6, h4]; rfl
      subst hz
      have H6 := Lib.hid h6
      clear h4 h6
      have HW := Lib.hid hW
      clear hW hD
      refine wpList_mapEntry_m rfl _ _ 111 rfl _ HE.out ?_
      go_wp2_with fail
      refine HRR.out _ ?_
      show V1 = bif D 6 then w3 else V1
      rw [H6.out]
      rfl
    case hnp => rfl
    case hv => first | exact ⟨_, fun _ => rfl⟩ | exact ⟨undef, fun _ => rfl⟩
    apply obl_det
    case hrun =>
      intro D y wz hW hD R hR
      have HRR := Lib.hid hR
      clear hR
      have HW := Lib.hid hW
      clear hW hD
      go_wp2_with fail
      exact HRR.out _ HW.out
    case hnp => rfl
    case hv => first | exact ⟨_, fun _ => rfl⟩ | exact ⟨undef, fun _ => rfl⟩
    apply obl_det
    case hrun =>
      intro D y wz hW hD R hR
      have HRR := Lib.hid hR
      clear hR
      have h4 : D 4 = true := hD.pre _ 4 rfl (by kernel_rfl)
      have h6 : D 6 = false := hD.not
      have hz : wz = V1 := by rw [hW, h6, h4]; rfl
      subst hz
      clear h4 h6
      have HW := Lib.hid hW
      clear hW hD
      refine wpList_entryStore_m rfl _ _ _ 111 rfl HST.out ?_
      go_wp2_with fail
      exact HRR.out _ rfl
    case hnp => rfl
    case hv => first | exact ⟨_, fun _ => rfl⟩ | exact ⟨undef, fun _ => rfl⟩
    apply obl_nil
    intro D y w8 hall hW
    have h6 := hall 6 (by decide)
    rw [h6] at hW
    have hw8 : w8 = w3 := hW
    subst hw8
    clear hW hall h6
    have hz7 := HZ7.out
    have hz5 := HZ5.out
    have hmb := HQ.out.Mb
    have hsz := HSZ.out
    have hnm := HQ.out.nm
    have hbbl := HQ.out.bb
    have HOM1 : Hid (V1.heap[q.Mb]? = some (.map es1 clock1)) := by rw [← HV1.out]; exact heap_setB HOM.out _
    have HC0 : Hid (∀ (k : Nat) (cs : Array Value) (t : TypeId), W.heap[k]? = some (.cells cs t) → w8.heap[k]? = some (.cells cs t)) := fun k cs t h => by
      rw [HW3.out]
      refine setB_cells HOM1.out rfl ?_
      rw [← HV1.out]
      exact setB_cells HOM.out HOC.out h
    have HOT : Hid (∀ k, k ≠ q.Mb → w8.heap[k]? = W.heap[k]?) := fun k h => by
      rw [HW3.out, setB_other h, ← HV1.out, setB_other h]
      rfl
    have HTV : Hid (TK q w V) := by
      rw [← HV.out]
      exact HI.out.tk.t (TK.below (Below.refl _ _).drew (by have := HI.out.tk.size; have := HQB.out; omega) (HI.out.bb HQ.out HSZ.out))
    have hsv : q.Ob ≤ V.heap.size := by have := HTV.out.size; omega
    have HT1 : Hid (TK q V V1) := by rw [← HV1.out, HV.out]; exact TK.map HQ.out (by rw [← HV.out]; exact HOM.out) HOC.out hsv
    have HT3 : Hid (TK q V1 w8) := by
      have h1 := HT1.out.size
      rw [HW3.out]
      exact TK.map HQ.out HOM1.out rfl (by omega)
    have HTA : Hid (TK q w w8) := HTV.out.t (HT1.out.t HT3.out)
    have HBA : Hid (BestAt q w8 pre) := HI.out.best.keep HC0.out
    have HB3 : Hid (w8.heap[w.heap.size + 3]? = some (.cells #[.bool false] 4)) := HC0.out _ _ _ HI.out.b3
    have HNK3 : Hid (¬ Back q.bb w8 (w.heap.size + 3)) := fun hk => by
      obtain ⟨v, h1, h2⟩ := hk
      exact HI.out.nb _ (by omega) (by omega) ⟨v, (HOT.out _ hnm.symm).symm.trans h1, h2⟩
    clear HE HL0 HL1 HST HW3 HV HV1 HTV HT1 HT3 HOM1 hsv
    go_wp2_with (refine wpList_cell_but rfl 4 _ _ rfl (w.heap.size + 3) 0 _ _ HB3.out rfl (.bool false) rfl (by simp) rfl infoB1 ?_; intro w10 hg hb; have HG10 := Lib.hid hg; have HB10 := Lib.hid hb; clear hg hb)
    have hdw : w10.heap[Dm]? = some (.deferred (some [])) := by
      have h1 := HD.out
      have h2 := (HOT.out Dm (by have := HMb7.out; omega)).trans HDW.out
      exact (HB10.out.block _ (block_lt h2) (by omega)).trans h2
    refine leaves_marks (B := w7.heap.size) ⟨⟨Dm, rfl, HD.out, hdw, by simp⟩, trivial⟩ (fun w' hck => ?_)
    have htk : TK q w w10 := TK.own HQ.out HTA.out HSZ.out (by omega) HB3.out HB10.out
    have hbest : BestAt q w10 pre := HBA.out.but HB10.out (by omega) HNK3.out
    have hbv : ∃ v, w10.heap[q.bb]? = some (.cells #[v] 49) := by obtain ⟨v, h1, -⟩ := hbest; exact ⟨v, h1⟩
    have hm10 := HM3.out.keep (HB10.out.block _ HM3.out.lt (by omega))
    refine leaves_now (results_cellB rfl _ _ (w.heap.size + 3) false rfl (cell_of_row _ _ 0 _ _ _ (hck.cells _ _ _ _ HG10.out))) (TryR.mk false (TryPost.none HFP.out (htk.leave HQ.out (by omega) HSZ.out hbv hck) ((hm10.keep (hck.bel.block _ HMb7.out)).mono (by rw [HCO.out]; exact Nat.le_refl _)) (hbest.keep (fun k cs t h => hck.cells _ _ _ _ h))))
/-- The search, for each number of dips that are left. -/
theorem try_any {q : TQ} (hq : q.Ok) : ∀ l, TryC q l
  | 0 => try_step hq 0 (fun l' h => by omega)
  | l + 1 => try_step hq (l + 1) (fun l' h => by
    obtain rfl : l = l' := by omega
    exact try_any hq l)
end Go.Proofs.YtpkggjobdmchlaaGreatDoor
