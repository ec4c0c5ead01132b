/- blend.fitting: the iterator's contract. -/
import Derived.Deep.Cut
import Derived.Deep.CutBlock
import Derived.Test.YtohglbfeahofhaaGreatD19
namespace Go.Proofs.YtohglbfeahofhaaGreat
open Go.RowKit
theorem made_three (w : World) : (Instr.makeSlice 30 (.int .i64 3) (.int .i64 3)).run Tryz.prog w = .ok (.slice (some ⟨w.heap.size, 0, none⟩) 3 3) (w.alloc (.cells (ints [0, 0, 0]) 3)) := by
  obtain ⟨i, h1, h2, h3, h4⟩ := info3'
  have := run_make w 30 3 i (.int .i64 0) Tryz.underlying30 h1 h2 .i64 .i64 3 3 (by omega) (by omega) (by omega) (by omega)
  have e : madeCells (Value.int .i64 0).cells (Int.toNat 3 * 1) = ints [0, 0, 0] := by kernel_rfl
  rw [this, h3, e]
  rfl
theorem infoINS : (Tryz.prog.info? 30).map (·.size) = some 1 := by kernel_rfl
theorem infoFBT : (Tryz.prog.info? 155).map (·.size) = some 1 := by kernel_rfl
theorem fitting_any (a : Option Addr) (cap pb : Nat) (w : World) : Calls Tryz.prog 55 #[.slice a 3 cap, .agg (wishC (.slice (some ⟨pb, 0, none⟩) 3 3))] w fun e w' => e = .returned (.func (.func 90) #[] #[.pointer (some ⟨w.heap.size, 0, none⟩), .pointer (some ⟨w.heap.size + 1, 0, none⟩)]) ∧ w' = (w.alloc (.cells #[.slice a 3 cap] 22)).alloc (.cells (wishC (.slice (some ⟨pb, 0, none⟩) 3 3)) 70) := by
  go_enter Tryz.func55, Tryz.ntmps55
  go_wp2
  go_ret
  exact ⟨rfl, rfl⟩
set_option maxRecDepth 100000 in
set_option maxHeartbeats 16000000 in
theorem fit_gives (n Bq lb wb pb : Nat) (G : Nat → Prop) (a : Option Addr) (cap : Nat) (w : World) (hl : w.heap[lb]? = some (.cells #[.slice a 3 cap] 22)) (hw : w.heap[wb]? = some (.cells (wishC (.slice (some ⟨pb, 0, none⟩) 3 3)) 70))
    (hq : Bq ≤ w.heap.size) (gl : ¬ G lb) (gw : ¬ G wb) (gy : ∀ k, w.heap.size ≤ k → ¬ G k) (hv : BWaxesIn Bq w (.slice a 3 cap) exL) (hp : SpansIn Bq w (.slice (some ⟨pb, 0, none⟩) 3 3) exW) :
    IterGives3 Fence.wide n Tryz.prog 90 #[.pointer (some ⟨lb, 0, none⟩), .pointer (some ⟨wb, 0, none⟩)] 3 (fun x : Rec => ints x.1) (fun r (_ : Rec) => #[.slice (some ⟨r, 0, none⟩) 3 3]) (FitK Bq G) (fun xs => xs.map Subtype.val = fitL) (fun _ => True) 100 w := by
  intro lp J Jx W hWb hJ hJx hY h0
  have X : FX n Bq lb wb lp pb G a cap W (J (W.heap.size + 1)) (Jx (W.heap.size + 1)) :=
    ⟨Nat.le_trans hq hWb.size, Nat.lt_of_lt_of_le (block_lt hl) hWb.size, Nat.lt_of_lt_of_le (block_lt hw) hWb.size, gl, gw, fun k hk => gy k (Nat.le_trans hWb.size hk), hv.below (hWb.mono hq), hp.below (hWb.mono hq),
      fun s => hJ _ s (by omega), fun pre x W1 h1 h2 h3 h4 => hY _ pre x W1 (by omega) h1 h2 h3 h4⟩
  have HX := Lib.hid X
  have HLB := Lib.hid (block_keep hl hWb)
  have HWB := Lib.hid (block_keep hw hWb)
  have HJ := Lib.hid (hJ (W.heap.size + 1) [] (by omega))
  have HJ0 := Lib.hid (h0 (W.heap.size + 1) (by omega))
  have C4 : Hid (Bs W [(W.heap.size, .cells #[.func (.yield lp) #[] #[]] 131), (W.heap.size + 1, .cells (ints [0, 0, 0]) 3), (W.heap.size + 2, .cells #[.slice none 0 0] 30)] _) := Lib.hid ((((Bs.nil W).push _ rfl (.cells #[.func (.yield lp) #[] #[]] 131)).push (W.heap.size + 1) (by simp) (.cells (ints [0, 0, 0]) 3)).push (W.heap.size + 2) (by simp) (.cells #[.slice none 0 0] 30))
  have hmk := made_three
  have hc0 := (((Bs.nil W).push _ rfl (.cells #[.func (.yield lp) #[] #[]] 131)).bel.cell (p := ⟨lb, 0, none⟩) (block_lt HLB.out)).trans (cell_of_row _ _ 0 _ _ _ HLB.out)
  clear hl hw hq gl gw gy hv hp hWb hJ hJx hY h0 X
  refine callsIn_wide.2 ?_
  show Calls Tryz.prog 90 #[.func (.yield lp) #[] #[], .pointer (some ⟨lb, 0, none⟩), .pointer (some ⟨wb, 0, none⟩)] W _
  go_enter Tryz.func90, Tryz.ntmps90
  go_wp2_with (first | (refine wpList_cell_bz rfl 30 _ _ rfl C4.out 2 _ 0 _ _ rfl rfl _ rfl (by simp) rfl infoINS ?_; intro w5 hC hz; have C5 : Hid (Bs W [(W.heap.size, .cells #[.func (.yield lp) #[] #[]] 131), (W.heap.size + 1, .cells (ints [0, 0, 0]) 3), (W.heap.size + 2, .cells #[.slice (some ⟨W.heap.size + 1, 0, none⟩) 3 3] 30)] w5) := hC; have HSZ : Hid (w5.heap.size = W.heap.size + 3) := hz.trans (by simp); clear hC C4 hc0 hz; have C6 : Hid (Bs W [(W.heap.size, .cells #[.func (.yield lp) #[] #[]] 131), (W.heap.size + 1, .cells (ints [0, 0, 0]) 3), (W.heap.size + 2, .cells #[.slice (some ⟨W.heap.size + 1, 0, none⟩) 3 3] 30), (W.heap.size + 3, .cells #[.nilFunc] 155)] _) := Lib.hid (C5.out.push (W.heap.size + 3) HSZ.out (.cells #[.nilFunc] 155))) | (refine wpList_cell_bs rfl 155 _ _ rfl C6.out 3 _ 0 _ _ rfl (by go_simp; rw [HSZ.out]) _ rfl (by simp) rfl infoFBT ?_; intro w7 hC; have C7 : Hid (Bs W [(W.heap.size, .cells #[.func (.yield lp) #[] #[]] 131), (W.heap.size + 1, .cells (ints [0, 0, 0]) 3), (W.heap.size + 2, .cells #[.slice (some ⟨W.heap.size + 1, 0, none⟩) 3 3] 30), (W.heap.size + 3, .cells #[.func (.func 91) #[] #[.pointer (some ⟨lb, 0, none⟩), .pointer (some ⟨(W.heap.size + 2), 0, none⟩), .pointer (some ⟨wb, 0, none⟩), .pointer (some ⟨W.heap.size, 0, none⟩), .pointer (some ⟨(W.heap.size + 3), 0, none⟩)]] 155)] w7) := (by rw [HSZ.out] at hC; exact hC); clear hC C5 C6; have c_f : w7.cell? ⟨w5.heap.size, 0, none⟩ = some (.func (.func 91) #[] #[.pointer (some ⟨lb, 0, none⟩), .pointer (some ⟨(W.heap.size + 2), 0, none⟩), .pointer (some ⟨wb, 0, none⟩), .pointer (some ⟨W.heap.size, 0, none⟩), .pointer (some ⟨(W.heap.size + 3), 0, none⟩)]) := (by rw [HSZ.out]; exact C7.out.cell 3 rfl 0)))
  have HS : FSt Bq lb wb W.heap.size lp pb a cap W w7 := ⟨C7.out.bel.mono HX.out.q, C7.out.lt 3 rfl, block_keep HLB.out C7.out.bel, block_keep HWB.out C7.out.bel, C7.out.get 0 rfl, C7.out.get 2 rfl, C7.out.get 3 rfl⟩
  have HJ1 := HJ.out _ _ HJ0.out (But.of C7.out.bel)
  refine (fill0_ok HX.out 20 rfl [] rfl w7 HS ⟨_, _, _, C7.out.get 1 rfl⟩ HJ1).mono ?_
  rintro e V2 (⟨rfl, hs2, ⟨x, hx, hr2⟩, hj2⟩ | ⟨rfl, hj2⟩)
  · have HJ2 := Lib.hid hj2
    clear hs2 hx hr2 hj2 c_f HS HJ1 C7
    go_wp2_with fail
    go_end0
    exact ⟨⟨_, rfl⟩, .inl ⟨_, _, by omega, outer_all, HJ2.out⟩⟩
  · have HJ2 := Lib.hid hj2
    clear hj2 c_f HS HJ1 C7
    go_wp2_with fail
    go_end0
    obtain ⟨pre', h⟩ := HJ2.out
    exact ⟨⟨_, rfl⟩, .inr ⟨_, _, by omega, trivial, h⟩⟩
end Go.Proofs.YtohglbfeahofhaaGreat
