/- wick.suiting, Suits. -/
import Derived.RangeFuncNested
import Derived.RangeFuncBound
import Derived.RangeFuncCalls
import Derived.RangeFuncLeaves
import Derived.Shelf.Abstract
import Derived.Shelf.RegionOpen
import Derived.OwnWalkIn
import Derived.TacticsInMore
import Derived.LoopNIn
import Derived.LoopIn
import Derived.Test.YteebihcdgpfldaaGreatU12
namespace Go.Proofs.YteebihcdgpfldaaGreat
open Go.RowKit Go.Shelf
attribute [local go_sem] Oper.semAt_some
/-- What a round keeps: what the iterator reads. -/
structure SuK (Bq g b : Nat) (W W' : World) : Prop where
 size : W.heap.size ≤ W'.heap.size
 bel : Below Bq W W'
 g : W'.heap[g]? = W.heap[g]?
 b : W'.heap[b]? = W.heap[b]?
theorem SuK.refl (Bq g b : Nat) (W : World) : SuK Bq g b W W := ⟨Nat.le_refl _, Below.refl _ _, rfl, rfl⟩
theorem SuK.t {Bq g b : Nat} {X Y Z : World} (h : SuK Bq g b X Y) (k : SuK Bq g b Y Z) : SuK Bq g b X Z := ⟨Nat.le_trans h.size k.size, h.bel.trans k.bel, k.g.trans h.g, k.b.trans h.b⟩
theorem SuK.turn {B Bq g b : Nat} (hq : Bq ≤ B) (hg : g < B) (hb : b < B) (W : World) (l : Nat) (o o' : Obj) (hl : B ≤ l) (_h : W.heap[l]? = some o) (_hc : o.isCells = false) : SuK Bq g b W (W.putObj l o') :=
 ⟨by simp [World.putObj], ⟨rfl, rfl, rfl, by simp [World.putObj], fun k hk => World.putObj_heap_other (by omega)⟩, World.putObj_heap_other (by omega), World.putObj_heap_other (by omega)⟩
theorem SuK.below {Bq g b : Nat} {W W' : World} (hq : Bq ≤ W.heap.size) (hg : g < W.heap.size) (hb : b < W.heap.size) (h : Below W.heap.size W W') : SuK Bq g b W W' := ⟨h.size, h.mono hq, h.block _ hg, h.block _ hb⟩
def suitF (s : WShop) (c : Candle) (i : Nat) : List Nat := (List.range i).filter (suitsB s c)
theorem suitF_succ (s : WShop) (c : Candle) (i : Nat) : suitF s c (i + 1) = if suitsB s c i = true then suitF s c i ++ [i] else suitF s c i := by
 unfold suitF
 rw [List.range_succ, List.filter_append]
 simp only [List.filter_cons, List.filter_nil]
 split <;> simp
theorem suitF_length (s : WShop) (c : Candle) (i : Nat) : (suitF s c i).length ≤ i := by
 have := List.length_filter_le (suitsB s c) (List.range i)
 simpa [suitF] using this
theorem suiting_any (g : Nat) (w : World) : Calls Tryz.prog 69 #[.pointer (some ⟨g, 0, none⟩)] w fun e w' => e = .returned (.func (.func 98) #[] #[.pointer (some ⟨w.heap.size, 0, none⟩)]) ∧ w' = w.alloc (.cells #[.pointer (some ⟨g, 0, none⟩)] 119) := by
 go_enter Tryz.func69, Tryz.ntmps69
 go_wp2
 go_ret
 exact ⟨rfl, rfl⟩
set_option maxRecDepth 100000 in
set_option maxHeartbeats 8000000 in
theorem suit1_gives {α : Type} (encs : α → Array Value) (day : Nat → α) {s : WShop} {c : Candle} (hs : WOk s c) (hen : ∀ i, i < s.wicks.length → encs (day i) = #[.int .i64 i]) (n : Nat) (hn : 1 ≤ n) (va : Option Addr) (vc : Nat) (vx : Value) (g b Bq : Nat) (w : World) (hb : w.heap[b]? = some (.cells #[.pointer (some ⟨g, 0, none⟩)] 119)) (hg : w.heap[g]? = some (.cells (opC (.slice va s.wicks.length vc) vx s c (waxOf s c)) 152)) (hv : WShopAt Bq w (.slice va s.wicks.length vc) vx s) (hq : Bq ≤ w.heap.size) :
 IterGives2 Fence.wide n Tryz.prog 98 #[.pointer (some ⟨b, 0, none⟩)] encs (SuK Bq g b) (fun xs => xs = (suitF s c s.wicks.length).map day) (fun _ => True) 12 w := by
 intro lp J Jx W hWb hJ hJx hY h0
 have HY := Lib.hid hY
 have HEN := Lib.hid hen
 clear hen
 have HJ := Lib.hid hJ
 have HBW := Lib.hid (block_keep hb hWb)
 have HGW := Lib.hid (block_keep hg hWb)
 have HV := Lib.hid (hv.below (hWb.mono hq))
 have hqW : Bq ≤ W.heap.size := Nat.le_trans hq hWb.size
 have HFA := fun k hk vw vx g w h1 h2 => Lib.hid (faults_ok (s := s) (c := c) hs k hk vw vx g w h1 h2)
 have hn12 := hs.nw12
 have HJ0 := Lib.hid h0
 have hgl := block_lt HGW.out
 have hbl := block_lt HBW.out
 have c0 := cell_of_row _ _ 0 _ _ _ HBW.out
 have c1 := cell_of_row _ _ 0 _ _ _ HGW.out
 clear hY hJ hJx hb hg hWb h0 hv hs
 obtain ⟨nt, HNT⟩ : ∃ k, Hid (s.wicks.length = k) := ⟨_, rfl⟩
 rw [HNT.out] at hn12 HFA HGW c1 HEN ⊢
 refine callsIn_of_wp Tryz.func98 rfl trivial ?_ rfl
 simp only [Tryz.ntmps98, List.size_toArray, List.length_cons, List.length_nil, Nat.reduceAdd, Nat.reduceSub, Array.replicate_succ, Array.replicate_zero, List.push_toArray, List.append_toArray, List.nil_append, List.cons_append]
 gi_wp2_with fail
 clear c0 c1
 gi_loopw [10] (fun iv wr => ∃ i : Nat, i ≤ nt ∧ iv = .int .i64 i ∧ J ((suitF s c i).map day) wr ∧ SuK Bq g b W wr) (fun iv _ => nt - (intOf iv).toNat)
 case atStart => exact ⟨0, by omega, rfl, HJ0.out, SuK.refl _ _ _ _⟩
 case round =>
  obtain ⟨i, hi, rfl, hJi, hki⟩ := hrel
  have HJI := Lib.hid hJi
  have HKI := Lib.hid hki
  clear hJi hki
  by_cases hlt : i < nt
  ·have hilt : (i : Int) < (nt : Int) := by omega
   have c0 := cell_of_row _ _ 0 _ _ _ (HKI.out.b.trans HBW.out)
   have HFS := Lib.hid (suitF_succ s c i)
   have hfl := Nat.lt_of_le_of_lt (suitF_length s c i) (show i < 12 by omega)
   gi_wp2_with fail
   refine ⟨trivial, (callsIn_wide.2 (HFA i hlt (.slice va nt vc) vx g wr (by rw [← HNT.out]; exact (HV.out.below HKI.out.bel).mono (Nat.le_trans hqW HKI.out.size)) (HKI.out.g.trans HGW.out)).out).mono ?_⟩
   rintro e w3 ⟨v, rfl, hiv, hbw⟩
   have HJ3 := Lib.hid (HJ.out _ _ _ HJI.out hbw)
   have HK3 := Lib.hid (HKI.out.t (SuK.below (Nat.le_trans hqW HKI.out.size) (Nat.lt_of_lt_of_le hgl HKI.out.size) (Nat.lt_of_lt_of_le hbl HKI.out.size) hbw))
   obtain ⟨ra, rc, rfl, -⟩ := hiv
   have hyx := HY.out _ (day i) _ HJ3.out (by rw [List.length_map]; exact hfl) HK3.out.size
   rw [HEN.out i hlt] at hyx
   have HSU : Hid (suitsB s c i = decide ((faultsV s c i).length = 0)) := by unfold Hid suitsB; cases faultsV s c i <;> simp
   generalize (faultsV s c i).length = nf at *
   clear hbw c0 HJI HKI
   by_cases h0 : nf = 0
   ·subst h0
    rw [if_pos (by rw [HSU.out]; simp)] at HFS
    obtain ⟨fn, tmps, assign, body, hy, hR⟩ := hyx
    gi_wp2_with fail
    refine hR.mono ?_
    rintro e W3 (⟨rfl, hJ4, hk4⟩ | ⟨rfl, hJx4⟩)
    ·have HJ4 : Hid (J ((suitF s c (i + 1)).map day) W3) := by rw [HFS.out, List.map_append]; exact hJ4
     have HK4 := Lib.hid (HK3.out.t hk4)
     clear hJ4 hk4 hy hR
     gi_wp2_with fail
     go_roundw
     case rel => exact ⟨i + 1, by omega, by simp, HJ4.out, HK4.out⟩
     case measure => simp [intOf]; omega
    ·gi_wp2_with fail
     refine bodyPost_ret (results_none rfl _ _ _) rfl ?_
     exact ⟨⟨_, rfl⟩, .inr ⟨_, trivial, hJx4⟩⟩
   ·rw [if_neg (by rw [HSU.out]; simpa using h0)] at HFS
    have hq0 : ((nf : Int) == 0) = false := by simp; omega
    clear hyx
    gi_wp2_with fail
    refine ⟨fun f hf => (by cases hf), ?_⟩
    apply_assumption
    gi_wp2_with fail
    go_roundw
    case rel => exact ⟨i + 1, by omega, by simp, by rw [HFS.out]; exact HJ3.out, HK3.out⟩
    case measure => simp [intOf]; omega
  ·obtain rfl : i = nt := by omega
   gi_wp2_with fail
   go_end0
   exact ⟨⟨_, rfl⟩, .inl ⟨_, by rw [← HNT.out], HJI.out⟩⟩
end Go.Proofs.YteebihcdgpfldaaGreat
