/- blend.fitting: what its closures do, at the example. -/
import Derived.RangeFuncNested
import Derived.RangeFuncBound
import Derived.RangeFuncCalls
import Derived.RangeFuncLeaves
import Derived.Shelf.Abstract
import Derived.Shelf.RegionOpen
import Derived.OwnWalkIn
import Derived.TacticsInMore
import Derived.LoopNIn
import Derived.LoopIn
import Derived.Lib.MinMax
import Derived.Deep.Cut
import Derived.Deep.CutBlock
import Derived.Test.YtohglbfeahofhaaGreatD17
import Derived.Test.YtohglbfeahofhaaGreatIT3
namespace Go.Proofs.YtohglbfeahofhaaGreat
open Go.RowKit Go.Shelf
attribute [local go_sem] Oper.semAt_some
def fitL : List (List Int) := [[4, 15, 1], [5, 14, 1], [5, 15, 0]]
abbrev Rec := {x : List Int // x ∈ fitL}
def cR (i k : Nat) : List Int := [4 + (i : Int), (k : Int), 16 - (i : Int) - (k : Int)]
theorem cand_all : ((List.range 2).all fun i => (List.range (17 - i)).all fun k => (whyV (cR i k) == 0) == decide (cR i k ∈ fitL)) = true := by kernel_rfl
theorem cand_ok {i k : Nat} (hi : i < 2) (hk : k < 17 - i) : whyV (cR i k) = 0 ↔ cR i k ∈ fitL := by
  have h := List.all_eq_true.1 (List.all_eq_true.1 cand_all i (List.mem_range.2 hi)) k (List.mem_range.2 hk)
  rw [beq_iff_eq] at h
  by_cases hm : cR i k ∈ fitL
  · rw [decide_eq_true hm, beq_iff_eq] at h
    exact ⟨fun _ => hm, fun _ => h⟩
  · rw [decide_eq_false hm, beq_eq_false_iff_ne] at h
    exact ⟨fun h' => absurd h' h, fun h' => absurd h' hm⟩
theorem cR_R3 {i k : Nat} (hi : i < 2) (hk : k < 17 - i) : R3 (cR i k) := ⟨rfl, fun j hj => by
  have h3 : j = 0 ∨ j = 1 ∨ j = 2 := by omega
  rcases h3 with rfl | rfl | rfl <;> simp [cR] <;> omega⟩
def leafL (r : List Int) : List Rec := if h : r ∈ fitL then [⟨r, h⟩] else []
theorem leafL_len (r : List Int) : (leafL r).length ≤ 1 := by unfold leafL; split <;> simp
def innerTo (i k : Nat) : List Rec := (List.range k).flatMap fun b => leafL (cR i b)
theorem innerTo_succ (i k : Nat) : innerTo i (k + 1) = innerTo i k ++ leafL (cR i k) := by
  unfold innerTo
  rw [List.range_succ, List.flatMap_append]
  simp
theorem innerTo_len (i : Nat) : ∀ k, (innerTo i k).length ≤ k
  | 0 => by simp [innerTo]
  | k + 1 => by rw [innerTo_succ, List.length_append]; have := innerTo_len i k; have := leafL_len (cR i k); omega
def outerTo (j : Nat) : List Rec := (List.range j).flatMap fun i => innerTo i (17 - i)
theorem outerTo_succ (j : Nat) : outerTo (j + 1) = outerTo j ++ innerTo j (17 - j) := by
  unfold outerTo
  rw [List.range_succ, List.flatMap_append]
  simp
theorem outerTo_len : ∀ j, (outerTo j).length ≤ 17 * j
  | 0 => by simp [outerTo]
  | j + 1 => by rw [outerTo_succ, List.length_append]; have := outerTo_len j; have := innerTo_len j (17 - j); omega
theorem outer_all : (outerTo 2).map Subtype.val = fitL := by kernel_rfl
/-- What a round keeps: all cells but the caller's own boxes. -/
structure FitK (Bq : Nat) (G : Nat → Prop) (W W' : World) : Prop where
  size : W.heap.size ≤ W'.heap.size
  bel : Below Bq W W'
  cells : ∀ k cs t, ¬ G k → W.heap[k]? = some (.cells cs t) → W'.heap[k]? = some (.cells cs t)
theorem FitK.refl (Bq : Nat) (G : Nat → Prop) (W : World) : FitK Bq G W W := ⟨Nat.le_refl _, Below.refl _ _, fun _ _ _ _ h => h⟩
theorem FitK.t {Bq : Nat} {G : Nat → Prop} {X Y Z : World} (h : FitK Bq G X Y) (k : FitK Bq G Y Z) : FitK Bq G X Z := ⟨Nat.le_trans h.size k.size, h.bel.trans k.bel, fun i cs t hg hi => k.cells i cs t hg (h.cells i cs t hg hi)⟩
theorem FitK.turn {B Bq : Nat} {G : Nat → Prop} (hq : Bq ≤ B) (W : World) (l : Nat) (o o' : Obj) (hl : B ≤ l) (h : W.heap[l]? = some o) (hc : o.isCells = false) : FitK Bq G W (W.putObj l o') :=
  ⟨by simp [World.putObj], ⟨rfl, rfl, rfl, by simp [World.putObj], fun k hk => World.putObj_heap_other (by omega)⟩, fun k cs t _ hk => by
    by_cases e : k = l
    · subst e
      rw [hk] at h
      cases h
      simp [Obj.isCells] at hc
    · exact (World.putObj_heap_other e).trans hk⟩
/-- The iterator's state. -/
structure FSt (Bq lb wb Y lp pb : Nat) (a : Option Addr) (cap : Nat) (W V : World) : Prop where
  bel : Below Bq W V
  sz : Y + 4 ≤ V.heap.size
  l : V.heap[lb]? = some (.cells #[.slice a 3 cap] 22)
  w : V.heap[wb]? = some (.cells (wishC (.slice (some ⟨pb, 0, none⟩) 3 3)) 70)
  y : V.heap[Y]? = some (.cells #[.func (.yield lp) #[] #[]] 131)
  r : V.heap[Y + 2]? = some (.cells #[.slice (some ⟨Y + 1, 0, none⟩) 3 3] 30)
  f : V.heap[Y + 3]? = some (.cells #[.func (.func 91) #[] #[.pointer (some ⟨lb, 0, none⟩), .pointer (some ⟨(Y + 2), 0, none⟩), .pointer (some ⟨wb, 0, none⟩), .pointer (some ⟨Y, 0, none⟩), .pointer (some ⟨(Y + 3), 0, none⟩)]] 155)
section
variable {Bq lb wb Y lp pb : Nat} {a : Option Addr} {cap : Nat} {W V V' : World} {G : Nat → Prop}
theorem FSt.but (h : FSt Bq lb wb Y lp pb a cap W V) (h1 : lb < Y) (h2 : wb < Y) (h3 : Bq ≤ Y) (hb : But (Y + 1) V V') : FSt Bq lb wb Y lp pb a cap W V' := by
  have hs := h.sz
  have k := fun {b : Nat} {o : Obj} (e : b ≠ Y + 1) (hh : V.heap[b]? = some o) => (hb.block b (block_lt hh) e).trans hh
  exact ⟨h.bel.trans (hb.below (by omega) (by omega)), Nat.le_trans hs hb.size, k (by omega) h.l, k (by omega) h.w, k (by omega) h.y, k (by omega) h.r, k (by omega) h.f⟩
theorem FSt.kp (h : FSt Bq lb wb Y lp pb a cap W V) (g1 : ¬ G lb) (g2 : ¬ G wb) (g3 : ∀ k, Y ≤ k → ¬ G k) (hk : FitK Bq G V V') : FSt Bq lb wb Y lp pb a cap W V' :=
  ⟨h.bel.trans hk.bel, Nat.le_trans h.sz hk.size, hk.cells _ _ _ g1 h.l, hk.cells _ _ _ g2 h.w, hk.cells _ _ _ (g3 _ (by omega)) h.y, hk.cells _ _ _ (g3 _ (by omega)) h.r, hk.cells _ _ _ (g3 _ (by omega)) h.f⟩
end
/-- What the iterator is given. -/
structure FX (n Bq lb wb lp pb : Nat) (G : Nat → Prop) (a : Option Addr) (cap : Nat) (W : World) (J Jx : List Rec → World → Prop) : Prop where
  q : Bq ≤ W.heap.size
  l : lb < W.heap.size
  w : wb < W.heap.size
  gl : ¬ G lb
  gw : ¬ G wb
  gy : ∀ k, W.heap.size ≤ k → ¬ G k
  hv : BWaxesIn Bq W (.slice a 3 cap) exL
  hp : SpansIn Bq W (.slice (some ⟨pb, 0, none⟩) 3 3) exW
  hj : ∀ s, StabR (W.heap.size + 1) (J s)
  hy : ∀ pre (x : Rec) W1, J pre W1 → pre.length < 100 → W.heap.size ≤ W1.heap.size → W1.heap[W.heap.size + 1]? = some (.cells (ints x.1) 3) → YieldAt Fence.wide (n - 1) Tryz.prog lp #[.slice (some ⟨W.heap.size + 1, 0, none⟩) 3 3] W1 fun e W' =>
    (e = .returned (.bool true) ∧ J (pre ++ [x]) W' ∧ FitK Bq G W1 W') ∨ (e = .returned (.bool false) ∧ Jx (pre ++ [x]) W')
/-- What one call of fill leaves. -/
def FPost (Bq lb wb lp pb : Nat) (a : Option Addr) (cap : Nat) (W : World) (J Jx : List Rec → World → Prop) (row : List Int → Prop) (out : List Rec) : Ending → World → Prop := fun e V' =>
  (e = .returned (.bool true) ∧ FSt Bq lb wb W.heap.size lp pb a cap W V' ∧ (∃ x, row x ∧ V'.heap[W.heap.size + 1]? = some (.cells (ints x) 3)) ∧ J out V') ∨ (e = .returned (.bool false) ∧ ∃ pre', Jx pre' V')
theorem roundIn_any {m m' l f : Nat} {tmps : Array Value} {assign body : Code} {w : World} {R : Ending → World → Prop} (h : RoundIn Fence.wide m Tryz.prog l f tmps assign body w R) : RoundIn Fence.wide m' Tryz.prog l f tmps assign body w R :=
  ⟨h.1, fun c cs _ => h.2 c cs (room_wide _)⟩
theorem wish_cells {Bq : Nat} {W V : World} {pb : Nat} (hp : SpansIn Bq W (.slice (some ⟨pb, 0, none⟩) 3 3) exW) (hb : Below Bq W V) : ∀ i, i < 3 → V.cell? ⟨pb, i * 2, none⟩ = some (.int .i64 (exW.getD i default).1) ∧ V.cell? ⟨pb, i * 2 + 1, none⟩ = some (.int .i64 (exW.getD i default).2) := by
  intro i hi
  obtain ⟨b, o, he, hbl, hx1, hx2⟩ : ∃ b o, some (⟨pb, 0, none⟩ : Addr) = some ⟨b, o, none⟩ ∧ b < Bq ∧ W.cell? ⟨b, o + i * 2, none⟩ = some (.int .i64 (exW.getD i default).1) ∧ W.cell? ⟨b, o + i * 2 + 1, none⟩ = some (.int .i64 (exW.getD i default).2) := hp.at' (i := i) hi
  cases he
  rw [Nat.zero_add] at hx1 hx2
  exact ⟨(hb.cell (p := ⟨pb, _, none⟩) hbl).trans hx1, (hb.cell (p := ⟨pb, _, none⟩) hbl).trans hx2⟩
section
variable {n Bq lb wb lp pb : Nat} {G : Nat → Prop} {a : Option Addr} {cap : Nat} {W : World} {J Jx : List Rec → World → Prop}
set_option maxRecDepth 100000 in
set_option maxHeartbeats 16000000 in
theorem leaf_ok (X : FX n Bq lb wb lp pb G a cap W J Jx) (i k : Nat) (hi : i < 2) (hk : k < 17 - i) (c0 left : Int) (hl : left = 16 - (i : Int) - (k : Int)) (pre : List Rec) (hpre : pre.length < 100) (V : World) (hS : FSt Bq lb wb W.heap.size lp pb a cap W V) (hrow : V.heap[W.heap.size + 1]? = some (.cells (ints [4 + (i : Int), (k : Int), c0]) 3)) (hJ : J pre V) :
    Calls Tryz.prog 91 #[.int .i64 2, .int .i64 left, .pointer (some ⟨lb, 0, none⟩), .pointer (some ⟨(W.heap.size + 2), 0, none⟩), .pointer (some ⟨wb, 0, none⟩), .pointer (some ⟨W.heap.size, 0, none⟩), .pointer (some ⟨(W.heap.size + 3), 0, none⟩)] V (FPost Bq lb wb lp pb a cap W J Jx (fun x => ∃ c, x = [4 + (i : Int), (k : Int), c]) (pre ++ leafL (cR i k))) := by
  have HX := Lib.hid X
  have HS := Lib.hid hS
  have HRW := Lib.hid hrow
  have HJ := Lib.hid hJ
  have HCR : Hid (cR i k = [4 + (i : Int), (k : Int), left]) := by unfold Hid; rw [hl]; rfl
  have HC := Lib.hid (cand_ok hi hk)
  have HWY := fun v rv w h1 h2 h3 => Lib.hid (why_ok (cR_R3 hi hk) v rv pb w h1 h2 h3)
  have HLV : Hid (leafL (cR i k) = if h : cR i k ∈ fitL then [⟨cR i k, h⟩] else []) := rfl
  have HPRE := Lib.hid hpre
  generalize (4 + (i : Int)) = A at *
  generalize ((k : Nat) : Int) = B at *
  generalize cR i k = r at *
  clear hS hrow hJ X hl hi hk hpre
  have c_l := cell_of_row _ _ 0 _ _ _ HS.out.l
  have c_r := cell_of_row _ _ 0 _ _ _ HS.out.r
  have hq23 : ((3 : Int) - 1 == 2) = true := rfl
  refine (callsIn_wide (n := 5)).1 ?_
  refine callsIn_of_wp Tryz.func91 rfl trivial ?_ rfl
  simp only [Tryz.ntmps91, List.size_toArray, List.length_cons, List.length_nil, Nat.reduceAdd, Nat.reduceSub, Array.replicate_succ, Array.replicate_zero, List.push_toArray, List.append_toArray, List.nil_append, List.cons_append]
  refine wpIn_wide.2 ?_
  go_upto_region 3 with (refine wpList_cell_but rfl 3 _ _ rfl (W.heap.size + 1) 2 _ _ HRW.out rfl _ rfl (by simp [ints]) rfl info3s ?_; intro V1 hg hb1; have HR1 : Hid (V1.heap[W.heap.size + 1]? = some (.cells (ints r) 3)) := (by rw [HCR.out]; exact hg); have HS1 := Lib.hid (HS.out.but HX.out.l HX.out.w HX.out.q hb1); have HJ1 := Lib.hid (HX.out.hj _ _ _ HJ.out hb1); clear hg hb1 c_l c_r HS HRW HJ)
  have c_l := cell_of_row _ _ 0 _ _ _ HS1.out.l
  have c_r := cell_of_row _ _ 0 _ _ _ HS1.out.r
  have hqV : Bq ≤ V1.heap.size := Nat.le_trans (Nat.le_trans HX.out.q (by omega)) HS1.out.sz
  refine (wpIn_wide (n := n + 5)).1 ?_
  gi_wp2_with (refine wpListIn_load_row rfl 70 _ rfl _ rfl _ _ _ _ HS1.out.w Tryz.underlying70 rfl infoWish ?_)
  refine ⟨trivial, (callsIn_wide.2 (HWY _ _ _ ((HX.out.hv.below HS1.out.bel).mono hqV) (intsIn_blk HR1.out rfl (by rw [HCR.out]; simp) (by rw [HCR.out]; rfl)) ((HX.out.hp.below HS1.out.bel).mono hqV)).out).mono ?_⟩
  rintro e V2 ⟨rfl, hb2⟩
  have hbk := fun {b : Nat} {o : Obj} (hh : V1.heap[b]? = some o) => block_keep hh hb2
  have hs2 : FSt Bq lb wb W.heap.size lp pb a cap W V2 := ⟨HS1.out.bel.trans (hb2.mono hqV), Nat.le_trans HS1.out.sz hb2.size, hbk HS1.out.l, hbk HS1.out.w, hbk HS1.out.y, hbk HS1.out.r, hbk HS1.out.f⟩
  have HS2 := Lib.hid hs2
  have HR2 := Lib.hid (hbk HR1.out)
  have HJ2 := Lib.hid (HX.out.hj _ _ _ HJ1.out (But.of hb2))
  clear hs2 hbk hb2 c_l c_r HS1 HR1 HJ1 HWY hqV
  by_cases hw0 : whyV r = 0
  · have hm := HC.out.1 hw0
    have HYX := Lib.hid (HX.out.hy pre ⟨r, hm⟩ V2 HJ2.out HPRE.out (Nat.le_trans (by omega) HS2.out.sz) HR2.out)
    have HLE : Hid (leafL r = [⟨r, hm⟩]) := by rw [HLV.out, dif_pos hm]; rfl
    have hq : ((whyV r) != 0) = false := by rw [hw0]; rfl
    have c_y := cell_of_row _ _ 0 _ _ _ HS2.out.y
    have c_r := cell_of_row _ _ 0 _ _ _ HS2.out.r
    clear HC hw0
    generalize whyV r = wv at *
    obtain ⟨fn, tmps, assign, body, hy, hR⟩ := HYX.out
    have hR2 := roundIn_any (m' := n + 5 - 1) hR
    gi_wp2_with fail
    refine hR2.mono ?_
    rintro e W3 (⟨rfl, hJ3, hk3⟩ | ⟨rfl, hJ3⟩)
    · have HJ3 := Lib.hid hJ3
      have HS3 := Lib.hid (HS2.out.kp HX.out.gl HX.out.gw HX.out.gy hk3)
      have HR3 := Lib.hid (hk3.cells _ _ _ (HX.out.gy _ (by omega)) HR2.out)
      clear hJ3 hk3 hy hR hR2 HYX c_y c_r
      gi_wp2_with fail
      go_wp2_with fail
      go_ret
      exact .inl ⟨rfl, HS3.out, ⟨r, ⟨left, HCR.out⟩, HR3.out⟩, by rw [HLE.out]; exact HJ3.out⟩
    · have HJ3 := Lib.hid hJ3
      clear hJ3 hy hR hR2 HYX c_y c_r
      gi_wp2_with fail
      go_wp2_with fail
      go_ret
      exact .inr ⟨rfl, _, HJ3.out⟩
  · have hm : ¬ r ∈ fitL := fun h => hw0 (HC.out.2 h)
    have HLE : Hid (leafL r = []) := by rw [HLV.out, dif_neg hm]; rfl
    have hq : ((whyV r) != 0) = true := by rw [bne_iff_ne]; exact hw0
    clear HC hw0 hm
    generalize whyV r = wv at *
    gi_wp2_with fail
    refine ⟨fun f hf => (by cases hf), ?_⟩
    gi_wp2_with fail
    go_wp2_with fail
    go_ret
    exact .inl ⟨rfl, HS2.out, ⟨r, ⟨left, HCR.out⟩, HR2.out⟩, by rw [HLE.out, List.append_nil]; exact HJ2.out⟩
end
end Go.Proofs.YtohglbfeahofhaaGreat
