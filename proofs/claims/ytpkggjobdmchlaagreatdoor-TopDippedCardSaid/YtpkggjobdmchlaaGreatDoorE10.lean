/- dip: counts.with. -/
import Derived.RangeFuncNested
import Derived.RangeFuncBound
import Derived.RangeFuncCalls
import Derived.RangeFuncLeaves
import Derived.Shelf.Abstract
import Derived.Shelf.RegionOpen
import Derived.OwnWalkIn
import Derived.TacticsInMore
import Derived.LoopNIn
import Derived.LoopIn
import Derived.Deep.Cut
import Derived.Deep.CutBlock
import Derived.Test.YtpkggjobdmchlaaGreatDoorE6
import Derived.Test.YtpkggjobdmchlaaGreatDoorG2
namespace Go.Proofs.YtpkggjobdmchlaaGreatDoor
open Go.RowKit Go.Shelf
attribute [local go_sem] Oper.semAt_some
/-- One more of a kind. -/
def incr (cl : List Int) (k : Nat) : List Int := cl.set k (cl.getD k 0 + 1)
theorem incr_len (cl : List Int) (k : Nat) : (incr cl k).length = cl.length := by unfold incr; simp
abbrev KindI (K : Nat) := {k : Nat // k < K}
theorem infoCT : (Tryz.prog.info? 114).map (·.size) = some 5 := by kernel_rfl
theorem roundIn_wide {m m' l f : Nat} {tmps : Array Value} {assign body : Code} {w : World} {R : Ending → World → Prop} (h : RoundIn Fence.wide m Tryz.prog l f tmps assign body w R) : RoundIn Fence.wide m' Tryz.prog l f tmps assign body w R :=
  ⟨h.1, fun c cs _ => h.2 c cs (room_wide _)⟩
theorem ints_sizeC (l : List Int) : (ints l).size = l.length := by simp [ints]
theorem ints_setC (cl : List Int) (k : Nat) (x : Int) : (ints cl).setIfInBounds k (.int .i64 x) = ints (cl.set k x) := by
  unfold ints
  apply Array.ext'
  simp [List.map_set]
theorem with_any (cl : List Int) (K : Int) (w : World) : Calls Tryz.prog 47 #[.agg (ints cl), .int .i64 K] w fun e w' => e = .returned (.func (.func 83) #[] #[.pointer (some ⟨(w.heap.size + 1), 0, none⟩), .pointer (some ⟨w.heap.size, 0, none⟩)]) ∧ w' = (w.alloc (.cells (ints cl) 114)).alloc (.cells #[.int .i64 K] 3) := by
  go_enter Tryz.func47, Tryz.ntmps47
  go_wp2
  go_ret
  exact ⟨rfl, rfl⟩
def upI (K : Nat) : Nat → List (KindI K)
  | 0 => []
  | k + 1 => if h : k < K then upI K k ++ [⟨k, h⟩] else upI K k
theorem upI_map (K : Nat) : ∀ k, k ≤ K → (upI K k).map Subtype.val = List.range k
  | 0, _ => rfl
  | k + 1, hk => by rw [upI, dif_pos (by omega), List.map_append, upI_map K k (by omega), List.range_succ]; rfl
theorem upI_len (K : Nat) (k : Nat) (hk : k ≤ K) : (upI K k).length = k := by have := congrArg List.length (upI_map K k hk); simpa using this
set_option maxRecDepth 100000 in
set_option maxHeartbeats 16000000 in
theorem with_gives (cl : List Int) (hcl : cl.length = 5) (hcb : ∀ k, 0 ≤ cl.getD k 0 ∧ cl.getD k 0 ≤ 1000) (K : Nat) (hK : K ≤ 5) (n : Nat) (kb cb Bq : Nat) (w : World) (h1 : w.heap[kb]? = some (.cells #[.int .i64 K] 3)) (h2 : w.heap[cb]? = some (.cells (ints cl) 114)) (hq : Bq ≤ w.heap.size) :
    IterGives2 Fence.wide n Tryz.prog 83 #[.pointer (some ⟨kb, 0, none⟩), .pointer (some ⟨cb, 0, none⟩)] (fun x : KindI K => #[.int .i64 x.1, .agg (ints (incr cl x.1))]) (SuK Bq cb kb) (fun xs => xs.map Subtype.val = List.range K) (fun pre => pre.map Subtype.val = List.range pre.length) K w := by
  intro lp J Jx W hWb hJ hJx hY h0
  have HY := Lib.hid hY
  have HJ := Lib.hid hJ
  have HKB := Lib.hid (block_keep h1 hWb)
  have HCB := Lib.hid (block_keep h2 hWb)
  have hqW : Bq ≤ W.heap.size := Nat.le_trans hq hWb.size
  have HJ0 := Lib.hid h0
  have HLI := Lib.hid (ints_get cl)
  have hsz5 : (ints cl).size = 5 := by rw [ints_sizeC, hcl]
  have HS5 := Lib.hid hsz5
  have HCBD := Lib.hid hcb
  have HCL := Lib.hid hcl
  clear hY hJ hJx h1 h2 hWb h0 hcb hcl hsz5
  have c_k := cell_of_row _ _ 0 _ _ _ HKB.out
  refine callsIn_of_wp Tryz.func83 rfl trivial ?_ rfl
  simp only [Tryz.ntmps83, List.size_toArray, List.length_cons, List.length_nil, Nat.reduceAdd, Nat.reduceSub, Array.replicate_succ, Array.replicate_zero, List.push_toArray, List.append_toArray, List.nil_append, List.cons_append]
  refine wpIn_wide.2 ?_
  go_wp2_with fail
  clear c_k
  go_loopw [7] (fun iv wr => ∃ k : Nat, iv = .int .i64 k ∧ k ≤ K ∧ J (upI K k) wr ∧ SuK Bq cb kb W wr) (fun iv _ => K - (intOf iv).toNat)
  case atStart => exact ⟨0, rfl, by omega, HJ0.out, SuK.refl _ _ _ _⟩
  case round =>
    clear HJ0
    obtain ⟨k, rfl, hk, hj, hkk⟩ := hrel
    have HJK := Lib.hid hj
    have HKK := Lib.hid hkk
    clear hj hkk
    by_cases hkl : k < K
    · have hki : (k : Int) < (K : Int) := by omega
      have hk5 : k < 5 := by omega
      have hk5i : (k : Int) < 5 := by omega
      have HG := Lib.hid (HKK.out.g.trans HCB.out)
      have HUP : Hid (upI K (k + 1) = upI K k ++ [⟨k, hkl⟩]) := by unfold Hid; rw [upI, dif_pos hkl]
      have hv := HCBD.out k
      obtain ⟨v, HV⟩ : ∃ v, Hid (cl.getD k 0 = v) := ⟨_, rfl⟩
      rw [HV.out] at hv
      have hwv : wrap64 (v + 1) = v + 1 := wrapU (by omega)
      have HWV := Lib.hid hwv
      clear hwv
      have HIN : Hid (ints (incr cl k) = (ints cl).setIfInBounds k (.int .i64 (v + 1))) := by unfold Hid incr; rw [HV.out, ints_setC]
      have hce : (ints cl)[k]? = some (.int .i64 v) := by rw [HLI.out k (by rw [HCL.out]; exact hk5), HV.out]
      have HCE := Lib.hid hce
      clear hce hv
      have CP := Lib.hid ((Bs.nil wr).push _ rfl (.cells #[.int .i64 0, .int .i64 0, .int .i64 0, .int .i64 0, .int .i64 0] 114))
      go_upto_region 5 with (first | (refine wpList_load_row rfl 114 _ rfl _ rfl _ _ _ _ HG.out Tryz.underlying114 rfl (by rw [HS5.out]; exact infoCT) ?_) | (refine wpList_store_bs rfl 114 _ _ rfl CP.out 0 _ (ints cl) _ _ rfl rfl rfl (by rw [HS5.out]; exact infoCT) (by rw [HS5.out]; rfl) (by simp [ints, Value.oneCell']) ?_; intro w5 hC; have C5 : Hid (Bs wr [(wr.heap.size, .cells (ints cl) 114)] w5) := hC; clear hC CP; have hce : w5.cell? ⟨wr.heap.size, k, none⟩ = some (.int .i64 v) := (C5.out.cell 0 rfl k).trans HCE.out) | (refine wpList_cell_bs rfl 3 _ _ rfl C5.out 0 _ k _ _ rfl rfl (.int .i64 (v + 1)) (by go_simp; rw [HWV.out]) (by rw [HS5.out]; exact hk5) rfl infoInt1 ?_; intro w6 hC; have C6 : Hid (Bs wr [(wr.heap.size, .cells (ints (incr cl k)) 114)] w6) := (by rw [HIN.out]; exact hC); clear hC C5 hce))
      have HB6 : Hid (Below wr.heap.size wr w6) := C6.out.bel
      have HJ6 := Lib.hid (HJ.out _ _ _ HJK.out HB6.out)
      have HK6 := Lib.hid (HKK.out.t (SuK.below (Nat.le_trans hqW HKK.out.size) (Nat.lt_of_lt_of_le (block_lt HCB.out) HKK.out.size) (Nat.lt_of_lt_of_le (block_lt HKB.out) HKK.out.size) HB6.out))
      have HYX := Lib.hid (HY.out (upI K k) ⟨k, hkl⟩ w6 HJ6.out (by rw [upI_len K k hk]; omega) HK6.out.size)
      obtain ⟨fn, tmps, assign, body, hy, hR⟩ := HYX.out
      have hR2 := roundIn_wide (m' := n + 5 - 1) hR
      refine (wpIn_wide (n := n + 5)).1 ?_
      gi_wp2_with (refine wpListIn_load_row rfl 114 _ rfl _ rfl _ _ _ _ (C6.out.get 0 rfl) Tryz.underlying114 rfl (by rw [ints_sizeC, incr_len, HCL.out]; exact infoCT) ?_)
      refine hR2.mono ?_
      rintro e W3 (⟨rfl, hj3, hk3⟩ | ⟨rfl, hj3⟩)
      · have HJ3 : Hid (J (upI K (k + 1)) W3) := by rw [HUP.out]; exact hj3
        have HK3 := Lib.hid (HK6.out.t hk3)
        clear hj3 hk3 hy hR hR2 HYX C6 HJ6 HK6
        gi_wp2_with fail
        go_wp2_with fail
        refine ⟨⟨k + 1, by push_cast; rfl, by omega, HJ3.out, HK3.out⟩, ?_⟩
        simp [intOf]; omega
      · have HJ3 : Hid (Jx (upI K (k + 1)) W3) := by rw [HUP.out]; exact hj3
        clear hj3 hy hR hR2 HYX C6 HJ6 HK6
        gi_wp2_with fail
        go_wp2_with fail
        refine bodyPost_ret (results_none rfl _ _ _) rfl ?_
        exact ⟨⟨_, rfl⟩, .inr ⟨_, by rw [upI_map K (k + 1) (by omega), upI_len K (k + 1) (by omega)], HJ3.out⟩⟩
    · obtain rfl : k = K := by omega
      go_wp2_with fail
      go_end0
      exact ⟨⟨_, rfl⟩, .inl ⟨_, upI_map k k (Nat.le_refl _), HJK.out⟩⟩
end Go.Proofs.YtpkggjobdmchlaaGreatDoor
