/- store.Risks. -/
import Derived.Test.YtddapabmfecidaaW16
import Derived.Test.YtddapabmfecidaaRowIn
namespace Go.Proofs.Ytddapabmfecidaa
open Go.RowKit Go.Shelf
attribute [local go_sem] Oper.semAt_some

theorem Below.others {W W' : World} (h : Below W.heap.size W W') : KeepsOthers W W' := ⟨h.size, fun _ _ hk _ => block_keep hk h⟩
theorem KeepsOthers.setRow {W W1 : World} (h : KeepsOthers W W1) {X : Nat} {old : Array Value} {t : TypeId} (hr : W1.heap[X]? = some (.cells old t)) (cs : Array Value) : KeepsOthers W (W1.setRow X cs) :=
  ⟨by simpa using h.size, fun k o hk ho => by
    have h1 := h.same k o hk ho
    rw [setRow_other W1 X k cs (by rintro rfl; rw [hr] at h1; cases h1; simp [Obj.isCells] at ho)]
    exact h1⟩

/-- What Risks counts: the most hot days, the hot days now, the jumps. -/
def riskStep (s : Sea) (x : Int × Int × List Int) (p : DayW) : Int × Int × List Int := (max x.1 (s.hotN p.1.2 x.2.1), s.hotN p.1.2 x.2.1, s.jumpN p.1.2 x.2.2)
def riskTo (s : Sea) (pre : List DayW) : Int × Int × List Int := pre.foldl (riskStep s) (0, 0, List.replicate 61 0)
theorem riskTo_snoc (s : Sea) (pre : List DayW) (p : DayW) : riskTo s (pre ++ [p]) = riskStep s (riskTo s pre) p := by simp [riskTo]
structure RiskOk (x : Int × Int × List Int) (n : Nat) : Prop where
  m0 : 0 ≤ x.1
  m1 : x.1 ≤ n
  n0 : 0 ≤ x.2.1
  n1 : x.2.1 ≤ n
  len : x.2.2.length = 61
  small : Small n x.2.2
theorem RiskOk.step (s : Sea) {x : Int × Int × List Int} {n : Nat} (h : RiskOk x n) (p : DayW) : RiskOk (riskStep s x p) (n + 1) := by
  have hb := s.hotN_bound p.1.2 _ _ h.n0 h.n1
  have h1 := h.m0
  have h2 := h.m1
  refine ⟨?_, ?_, hb.1, ?_, s.jumpN_len _ _, nextTo_small h.small (by omega) _ _ _⟩
  all_goals unfold riskStep
  all_goals simp only
  all_goals omega
theorem riskFold_ok (s : Sea) (pre : List DayW) : ∀ (x : Int × Int × List Int) (n : Nat), RiskOk x n → RiskOk (pre.foldl (riskStep s) x) (n + pre.length) := by
  induction pre with
  | nil => intro x n h; exact h
  | cons p pre ih =>
    intro x n h
    have := ih _ _ (h.step s p)
    rw [List.foldl_cons, List.length_cons, show n + (pre.length + 1) = n + 1 + pre.length by omega]
    exact this
theorem riskTo_ok (s : Sea) (pre : List DayW) : RiskOk (riskTo s pre) pre.length := by
  have := riskFold_ok s pre (0, 0, List.replicate 61 0) 0 ⟨by decide, by decide, by decide, by decide, by decide, small_zero⟩
  rwa [Nat.zero_add] at this
def riskV (s : Sea) (way : List Int) : Int × Int × Int := if openE s way = 0 then ((riskTo s (upD s way way.length)).1, maxTo (riskTo s (upD s way way.length)).2.2 61 - 1, 0) else (0, 0, openE s way)

theorem wpIn_world {P : Program} {Fe : Fence} {n : Nat} {c : Code} {Q : Exit → Act → World → Prop} {a : Act} {w : World} (S : World → Prop) (h : S w) (k : ∀ w', S w' → c.wpIn Fe n P Q a w') : c.wpIn Fe n P Q a w := k w h
theorem five_allocs (w : World) (a b c d e : Obj) : ((((((w.alloc a).alloc b).alloc c).alloc d).alloc e).heap[w.heap.size]? = some a ∧ (((((w.alloc a).alloc b).alloc c).alloc d).alloc e).heap[w.heap.size + 1]? = some b) ∧ (((((w.alloc a).alloc b).alloc c).alloc d).alloc e).heap[w.heap.size + 1 + 1]? = some c ∧
    (((((w.alloc a).alloc b).alloc c).alloc d).alloc e).heap[w.heap.size + 1 + 1 + 1]? = some d ∧ (((((w.alloc a).alloc b).alloc c).alloc d).alloc e).heap[w.heap.size + 1 + 1 + 1 + 1]? = some e ∧ (((((w.alloc a).alloc b).alloc c).alloc d).alloc e).heap.size = w.heap.size + 5 := by
  have k : ∀ {x : World} {i : Nat} {o : Obj} (p : Obj), x.heap[i]? = some o → (x.alloc p).heap[i]? = some o := fun {x} {i} {o} p h => (Below.heap_alloc x p i (block_lt h)).trans h
  have a1 := heap_alloc_new w a
  have b1 := heap_alloc_new (w.alloc a) b
  have c1 := heap_alloc_new ((w.alloc a).alloc b) c
  have d1 := heap_alloc_new (((w.alloc a).alloc b).alloc c) d
  have e1 := heap_alloc_new ((((w.alloc a).alloc b).alloc c).alloc d) e
  simp only [World.size_alloc] at b1 c1 d1 e1
  exact ⟨⟨k e (k d (k c (k b a1))), k e (k d (k c b1))⟩, k e (k d c1), k e d1, e1, by simp only [World.size_alloc]⟩

theorem setCell_row {w : World} {b : Nat} {v u : Value} {t : TypeId} (h : w.heap[b]? = some (.cells #[v] t)) : (w.setCell ⟨b, 0, none⟩ u).heap[b]? = some (.cells #[u] t) := by
  simp only [World.setCell, Array.getElem?_modify, if_true, h]; simp
/-- The blocks of Risks. -/
structure RI (w : World) (b4 b7 b8 b9 bs : Nat) (S : Array Value) (x : Int × Int × List Int) (W : World) : Prop where
  r4 : W.heap[b4]? = some (.cells #[.int .i64 x.1] 3)
  r7 : W.heap[b7]? = some (.cells S 75)
  r8 : W.heap[b8]? = some (.cells (ints x.2.2) 93)
  r9 : W.heap[b9]? = some (.cells #[.int .i64 x.2.1] 3)
  rs : W.heap[bs]? = some (.cells S 75)
  bel : Below w.heap.size w W
theorem RI.call {w : World} {b4 b7 b8 b9 bs : Nat} {S : Array Value} {x : Int × Int × List Int} {W W' : World} (h : RI w b4 b7 b8 b9 bs S x W) (hb : Below W.heap.size W W') : RI w b4 b7 b8 b9 bs S x W' :=
  ⟨block_keep h.r4 hb, block_keep h.r7 hb, block_keep h.r8 hb, block_keep h.r9 hb, block_keep h.rs hb, h.bel.trans (hb.mono h.bel.size)⟩
theorem RI.alloc {w : World} {b4 b7 b8 b9 bs : Nat} {S : Array Value} {x : Int × Int × List Int} {W : World} (h : RI w b4 b7 b8 b9 bs S x W) (o : Obj) : RI w b4 b7 b8 b9 bs S x (W.alloc o) :=
  h.call ((Below.refl _ W).alloc (Nat.le_refl _) o)
theorem RI.set4 {w : World} {b4 b7 b8 b9 bs : Nat} {S : Array Value} {x : Int × Int × List Int} {m : Int} {W : World} (h : RI w b4 b7 b8 b9 bs S x W) (h7 : b7 ≠ b4) (h8 : b8 ≠ b4) (h9 : b9 ≠ b4) (hs : bs ≠ b4) (hw : w.heap.size ≤ b4) :
    RI w b4 b7 b8 b9 bs S (m, x.2) (W.setCell ⟨b4, 0, none⟩ (.int .i64 m)) :=
  ⟨setCell_row h.r4, (heap_setCell_other _ _ _ _ h7).trans h.r7, (heap_setCell_other _ _ _ _ h8).trans h.r8, (heap_setCell_other _ _ _ _ h9).trans h.r9, (heap_setCell_other _ _ _ _ hs).trans h.rs, h.bel.setCell (p := ⟨b4, 0, none⟩) hw _⟩
theorem RI.set9 {w : World} {b4 b7 b8 b9 bs : Nat} {S : Array Value} {x : Int × Int × List Int} {m : Int} {W : World} (h : RI w b4 b7 b8 b9 bs S x W) (h4 : b4 ≠ b9) (h7 : b7 ≠ b9) (h8 : b8 ≠ b9) (hs : bs ≠ b9) (hw : w.heap.size ≤ b9) :
    RI w b4 b7 b8 b9 bs S (x.1, m, x.2.2) (W.setCell ⟨b9, 0, none⟩ (.int .i64 m)) :=
  ⟨(heap_setCell_other _ _ _ _ h4).trans h.r4, (heap_setCell_other _ _ _ _ h7).trans h.r7, (heap_setCell_other _ _ _ _ h8).trans h.r8, setCell_row h.r9, (heap_setCell_other _ _ _ _ hs).trans h.rs, h.bel.setCell (p := ⟨b9, 0, none⟩) hw _⟩
theorem RI.set8 {w : World} {b4 b7 b8 b9 bs : Nat} {S : Array Value} {x : Int × Int × List Int} {j : List Int} {W : World} (h : RI w b4 b7 b8 b9 bs S x W) (h4 : b4 ≠ b8) (h7 : b7 ≠ b8) (h9 : b9 ≠ b8) (hs : bs ≠ b8) (hw : w.heap.size ≤ b8) :
    RI w b4 b7 b8 b9 bs S (x.1, x.2.1, j) (W.setRow b8 (ints j)) :=
  ⟨(setRow_other W _ _ _ h4).trans h.r4, (setRow_other W _ _ _ h7).trans h.r7, setRow_heap _ _ _ _ _ _ h.r8, (setRow_other W _ _ _ h9).trans h.r9, (setRow_other W _ _ _ hs).trans h.rs, below_setRow h.bel hw _⟩
theorem RI.own {w : World} {b4 b7 b8 b9 bs : Nat} {S : Array Value} {B : Nat} (hB : w.heap.size ≤ B) (s : Sea) : OwnFrom B (fun (pre : List DayW) W => RI w b4 b7 b8 b9 bs S (riskTo s pre) W) := by
  intro pre X Y row hs hg hr
  have row_kept : ∀ {b : Nat} {cs : Array Value} {t : TypeId}, X.heap[b]? = some (.cells cs t) → Y.heap[b]? = some (.cells cs t) := by
    intro b cs t h
    refine (hg.block b (block_lt h) ?_).trans h
    intro e
    obtain ⟨_, o, ho, hc⟩ := hr b e.symm
    rw [h] at ho; cases ho; simp [Obj.isCells] at hc
  exact ⟨row_kept hs.r4, row_kept hs.r7, row_kept hs.r8, row_kept hs.r9, row_kept hs.rs, ownFrom_below (β := Unit) (Nat.le_refl _) hB () X Y row hs.bel hg hr⟩

/-- The worlds of a round's body. -/
structure BI (w W : World) (b4 b7 b8 b9 bs Bx : Nat) (S : Array Value) (sp : Int × Int) (x : Int × Int × List Int) (W' : World) : Prop where
  ri : RI w b4 b7 b8 b9 bs S x W'
  ko : KeepsOthers W W'
  bw : Below w.heap.size W W'
  bx : W'.heap[Bx]? = some (.cells #[.int .i64 sp.1, .int .i64 sp.2] 53)
theorem BI.call {w W : World} {b4 b7 b8 b9 bs Bx : Nat} {S : Array Value} {sp : Int × Int} {x : Int × Int × List Int} {W' W'' : World} (h : BI w W b4 b7 b8 b9 bs Bx S sp x W') (hb : Below W'.heap.size W' W'') : BI w W b4 b7 b8 b9 bs Bx S sp x W'' :=
  ⟨h.ri.call hb, h.ko.trans (Below.others hb), h.bw.trans (hb.mono h.ri.bel.size), block_keep h.bx hb⟩
theorem BI.set4 {w W : World} {b4 b7 b8 b9 bs Bx : Nat} {S : Array Value} {sp : Int × Int} {x : Int × Int × List Int} {m : Int} {W' : World} (h : BI w W b4 b7 b8 b9 bs Bx S sp x W') (h7 : b7 ≠ b4) (h8 : b8 ≠ b4) (h9 : b9 ≠ b4) (hs : bs ≠ b4) (hx : Bx ≠ b4) (hw : w.heap.size ≤ b4) :
    BI w W b4 b7 b8 b9 bs Bx S sp (m, x.2) (W'.setCell ⟨b4, 0, none⟩ (.int .i64 m)) :=
  ⟨h.ri.set4 h7 h8 h9 hs hw, h.ko.trans (KeepsOthers.setCell _ _ _), h.bw.setCell (p := ⟨b4, 0, none⟩) hw _, (heap_setCell_other _ _ _ _ hx).trans h.bx⟩
theorem BI.set9 {w W : World} {b4 b7 b8 b9 bs Bx : Nat} {S : Array Value} {sp : Int × Int} {x : Int × Int × List Int} {m : Int} {W' : World} (h : BI w W b4 b7 b8 b9 bs Bx S sp x W') (h4 : b4 ≠ b9) (h7 : b7 ≠ b9) (h8 : b8 ≠ b9) (hs : bs ≠ b9) (hx : Bx ≠ b9) (hw : w.heap.size ≤ b9) :
    BI w W b4 b7 b8 b9 bs Bx S sp (x.1, m, x.2.2) (W'.setCell ⟨b9, 0, none⟩ (.int .i64 m)) :=
  ⟨h.ri.set9 h4 h7 h8 hs hw, h.ko.trans (KeepsOthers.setCell _ _ _), h.bw.setCell (p := ⟨b9, 0, none⟩) hw _, (heap_setCell_other _ _ _ _ hx).trans h.bx⟩
theorem BI.set8 {w W : World} {b4 b7 b8 b9 bs Bx : Nat} {S : Array Value} {sp : Int × Int} {x : Int × Int × List Int} {j : List Int} {W' : World} (h : BI w W b4 b7 b8 b9 bs Bx S sp x W') (h4 : b4 ≠ b8) (h7 : b7 ≠ b8) (h9 : b9 ≠ b8) (hs : bs ≠ b8) (hx : Bx ≠ b8) (hw : w.heap.size ≤ b8) :
    BI w W b4 b7 b8 b9 bs Bx S sp (x.1, x.2.1, j) (W'.setRow b8 (ints j)) :=
  ⟨h.ri.set8 h4 h7 h9 hs hw, KeepsOthers.setRow h.ko h.ri.r8 _, below_setRow h.bw hw _, (setRow_other W' _ _ _ hx).trans h.bx⟩

theorem results_cell_tmp2 {fn : Func} {p u v : Tmp} {ty : TypeId} (h : fn.results = #[.cell p ty, .tmp u, .tmp v]) (tmps : Array Value) (P : Program) (w : World) :
    (results fn tmps).run P w =
      ((asAddr (tmps.getD p undef)).run P w).andThen fun a w₁ => ((loadVar ty a).run P w₁).andThen fun x w₂ => .ok (.tuple #[x, tmps.getD u undef, tmps.getD v undef]) w₂ := by
  simp only [results, h]
  simp [Sem.run_bind, Result.andThen]

set_option maxRecDepth 100000 in
set_option maxHeartbeats 4000000 in
theorem risks_any (s : Sea) (vs wv : Value) (way : List Int) (w : World) (hv : StosIn w.heap.size w vs s.stores) (hw : IntsIn .i64 w.heap.size w wv way) :
    Calls Try.prog 16 #[.agg #[.int .i64 s.bend, .int .i64 s.days, .int .i64 s.jump, .int .i64 s.times, .int .i64 s.move, vs], wv] w
      fun e w' => e = .returned (.tuple #[.int .i64 (riskV s way).1, .int .i64 (riskV s way).2.1, .int .i64 (riskV s way).2.2]) ∧ Below w.heap.size w w' := by
  have HV := Lib.hid hv
  have HWV := Lib.hid hw
  obtain ⟨a, c, rfl, hll, hlc, hvv⟩ := hv
  obtain ⟨aw, cw, rfl, hwl, hwv⟩ := hw
  clear hwv hvv
  obtain ⟨e, he⟩ : ∃ e, openE s way = e := ⟨_, rfl⟩
  have HE := Lib.hid he
  clear he
  have C0 : Hid (Below w.heap.size w ((w.alloc (.cells #[.int .i64 s.bend, .int .i64 s.days, .int .i64 s.jump, .int .i64 s.times, .int .i64 s.move, .slice a s.stores.length c] 31)).alloc (.cells #[.int .i64 0] 3))) := ((Below.refl _ _).alloc (Nat.le_refl _) _).alloc (by simp) _
  have R4 : Hid (((w.alloc (.cells #[.int .i64 s.bend, .int .i64 s.days, .int .i64 s.jump, .int .i64 s.times, .int .i64 s.move, .slice a s.stores.length c] 31)).alloc (.cells #[.int .i64 0] 3)).heap[w.heap.size + 1]? = some (.cells #[.int .i64 0] 3)) := heap_alloc2_new _ _ _
  by_cases hz : e = 0
  · subst hz
    have HG := Lib.hid (good_of_ok (openE_ok HE.out).1)
    have HW := Lib.hid (way_ok (openE_ok HE.out).2)
    have HC : Hid (riskV s way = ((riskTo s (upD s way way.length)).1, maxTo (riskTo s (upD s way way.length)).2.2 61 - 1, 0)) := by unfold Hid riskV; rw [if_pos HE.out]
    refine (callsIn_wide (n := 3)).1 ?_
    refine callsIn_of_wp_marks Try.func16 rfl trivial ?_ rfl
    simp only [Try.ntmps16, List.size_toArray, List.length_cons, List.length_nil, Nat.reduceAdd, Nat.reduceSub, Array.replicate_succ, Array.replicate_zero, List.push_toArray, List.append_toArray, List.nil_append, List.cons_append]
    gi_wp2_with fail
    refine ⟨trivial, (callsIn_wide.2 (open_any s _ _ way _ ((HV.out.below C0.out).mono C0.out.size) ((HWV.out.below C0.out).mono C0.out.size))).mono ?_⟩
    rintro e' w1 ⟨rfl, hbw⟩
    have C1 := Lib.hid (C0.out.trans (hbw.mono C0.out.size))
    have R41 := Lib.hid (block_keep R4.out hbw)
    clear hbw
    rw [HE.out]
    gi_wp2_with fail
    refine ⟨trivial, (callsIn_wide.2 (along_any s _ _ _ _ _)).mono ?_⟩
    rintro e' w2 ⟨rfl, rfl⟩
    gi_wp2_with fail
    refine wpIn_world (fun W0 => RI w (w.heap.size + 1) w1.heap.size (w1.heap.size + 1) (w1.heap.size + 1 + 1) (w1.heap.size + 1 + 1 + 1) #[.int .i64 s.bend, .int .i64 s.days, .int .i64 s.jump, .int .i64 s.times, .int .i64 s.move, .slice a s.stores.length c] (riskTo s []) W0 ∧ W0.heap[w1.heap.size + 1 + 1 + 1]? = some (.cells #[.int .i64 s.bend, .int .i64 s.days, .int .i64 s.jump, .int .i64 s.times, .int .i64 s.move, .slice a s.stores.length c] 75) ∧ W0.heap[w1.heap.size + 1 + 1 + 1 + 1]? = some (.cells #[.slice aw way.length cw] 33) ∧ W0.heap.size = w1.heap.size + 5) ?_ ?_
    · have h5 := five_allocs w1 (.cells #[.int .i64 s.bend, .int .i64 s.days, .int .i64 s.jump, .int .i64 s.times, .int .i64 s.move, .slice a s.stores.length c] 75) (.cells (ints (List.replicate 61 0)) 93) (.cells #[.int .i64 0] 3) (.cells #[.int .i64 s.bend, .int .i64 s.days, .int .i64 s.jump, .int .i64 s.times, .int .i64 s.move, .slice a s.stores.length c] 75) (.cells #[.slice aw way.length cw] 33)
      have hb5 := (((((Below.refl w1.heap.size w1).alloc (Nat.le_refl _) (.cells #[.int .i64 s.bend, .int .i64 s.days, .int .i64 s.jump, .int .i64 s.times, .int .i64 s.move, .slice a s.stores.length c] 75)).alloc (by simp) (.cells (ints (List.replicate 61 0)) 93)).alloc (by simp; omega) (.cells #[.int .i64 0] 3)).alloc (by simp; omega) (.cells #[.int .i64 s.bend, .int .i64 s.days, .int .i64 s.jump, .int .i64 s.times, .int .i64 s.move, .slice a s.stores.length c] 75)).alloc (by simp; omega) (.cells #[.slice aw way.length cw] 33)
      exact ⟨⟨block_keep R41.out hb5, h5.1.1, h5.1.2, h5.2.1, h5.2.2.1, C1.out.trans (hb5.mono C1.out.size)⟩, h5.2.2.1, h5.2.2.2.1, h5.2.2.2.2⟩
    rintro W0 ⟨hRI, hbs, hbw, hsz⟩
    have HRI := Lib.hid hRI
    have HBS := Lib.hid hbs
    have HBW := Lib.hid hbw
    have hM : w.heap.size + 1 < w1.heap.size := block_lt R41.out
    have hbel := hRI.bel
    clear hRI hbs hbw
    refine wpIn_rangeFunc_ownH rfl (by omega) (gf := 48) (lb := #[.pointer (some ⟨w1.heap.size + 1 + 1 + 1 + 1, 0, none⟩), .pointer (some ⟨w1.heap.size + 1 + 1 + 1, 0, none⟩)]) rfl trivial (enters_of Try.func48 (by kernel_rfl) rfl)
      (along_stops Fence.wide 2 trivial rfl (by omega) (w1.heap.size + 1 + 1 + 1 + 1) (w1.heap.size + 1 + 1 + 1) w.heap.size s way _ _ HG.out HW.out.2.1 HW.out.2.2 W0 (by omega) (by omega) (cell_of_row W0 _ 0 _ _ _ HBW.out) HBS.out (HV.out.below hbel) (HWV.out.below hbel))
      (fun h k => AlK.t h k) (AlK.b (by omega) (by omega)) (Below.refl _ _) (fun _ => rfl)
      (fun pre W => RI w (w.heap.size + 1) w1.heap.size (w1.heap.size + 1) (w1.heap.size + 1 + 1) (w1.heap.size + 1 + 1 + 1) #[.int .i64 s.bend, .int .i64 s.days, .int .i64 s.jump, .int .i64 s.times, .int .i64 s.move, .slice a s.stores.length c] (riskTo s pre) W) (fun _ _ _ => False)
      (RI.own (by omega) s) (fun _ _ _ _ _ hs _ _ => hs) HRI.out
      (fun x a' W => ∃ Bx, w1.heap.size + 1 + 1 + 1 < Bx ∧ W.heap[Bx]? = some (.cells #[.int .i64 x.1.2.1, .int .i64 x.1.2.2] 53) ∧ a' = { tmps := #[.agg #[.int .i64 s.bend, .int .i64 s.days, .int .i64 s.jump, .int .i64 s.times, .int .i64 s.move, .slice a s.stores.length c], .slice aw way.length cw, .pointer (some ⟨w.heap.size, 0, none⟩), undef, .pointer (some ⟨w.heap.size + 1, 0, none⟩), .int .i64 0, .int .i64 0, .pointer (some ⟨w1.heap.size, 0, none⟩), .pointer (some ⟨w1.heap.size + 1, 0, none⟩), .pointer (some ⟨w1.heap.size + 1 + 1, 0, none⟩), undef, .pointer (some ⟨Bx, 0, none⟩), .tuple #[.agg #[.int .i64 s.bend, .int .i64 s.days, .int .i64 s.jump, .int .i64 s.times, .int .i64 s.move, .slice a s.stores.length c], .int .i64 0], .agg #[.int .i64 s.bend, .int .i64 s.days, .int .i64 s.jump, .int .i64 s.times, .int .i64 s.move, .slice a s.stores.length c], .slice aw way.length cw, .tuple #[.agg #[.int .i64 s.bend, .int .i64 s.days, .int .i64 s.jump, .int .i64 s.times, .int .i64 s.move, .slice a s.stores.length c], .int .i64 0], .agg #[.int .i64 s.bend, .int .i64 s.days, .int .i64 s.jump, .int .i64 s.times, .int .i64 s.move, .slice a s.stores.length c], .int .i64 0, .int .i64 0, .bool false, undef, .agg #[.int .i64 s.bend, .int .i64 s.days, .int .i64 s.jump, .int .i64 s.times, .int .i64 s.move, .slice a s.stores.length c], .slice aw way.length cw, .func (.func 48) #[] #[.pointer (some ⟨w1.heap.size + 1 + 1 + 1 + 1, 0, none⟩), .pointer (some ⟨w1.heap.size + 1 + 1 + 1, 0, none⟩)], .int .i64 (x.1.1 : Int), .agg #[.int .i64 x.1.2.1, .int .i64 x.1.2.2], undef, undef, undef, undef, undef, undef, undef, undef, undef, undef, undef, undef, undef, undef, undef, undef, undef, undef], defers := [] })
      (fun x a' _ X Y row hs hg hr => by
        obtain ⟨Bx, h1, h2, h3⟩ := hs
        refine ⟨Bx, h1, (hg.block Bx (block_lt h2) ?_).trans h2, h3⟩
        intro e
        obtain ⟨_, o, ho, hc⟩ := hr Bx e.symm
        rw [h2] at ho; cases ho; simp [Obj.isCells] at hc)
      ?assign ?body ?done ?stop
    case assign =>
      rintro l pre x W K hI hK
      simp only [encD]
      gi_wp2
      exact hK _ _ ((KeepsOthers.alloc _ _).from _) ⟨(Below.refl _ W).alloc hI.bel.size _, (Below.heap_alloc W _ _ (block_lt hI.rs))⟩ (hI.alloc _) ⟨W.heap.size, block_lt hI.rs, World.alloc_heap_new W _, rfl⟩
    case body =>
      rintro l pre x a' W hl ⟨r, hr⟩ hI ⟨Bx, hBx, hbx, rfl⟩ hlt
      have HI := Lib.hid hI
      have HBX := Lib.hid hbx
      clear hI hbx
      obtain ⟨⟨xd, sp⟩, hxok⟩ := x
      simp only at hBx HBX ⊢
      have hXok := hxok
      simp only at hXok
      have HOK := Lib.hid (riskTo_ok s pre)
      have HSN : riskTo s (pre ++ [⟨(xd, sp), hxok⟩]) = riskStep s (riskTo s pre) ⟨(xd, sp), hxok⟩ := riskTo_snoc s pre _
      have hway : way.length ≤ 8 := by have h1 := HW.out.2.1; have h2 := HG.out.len.2; omega
      have HSNH := Lib.hid HSN
      clear HSN
      have HPL : Hid (pre.length ≤ 8) := by unfold Hid; omega
      clear hlt hway
      generalize hx0 : riskTo s pre = x0 at *
      clear hx0
      have HST : Hid (riskStep s x0 ⟨(xd, sp), hxok⟩ = (max x0.1 (s.hotN sp x0.2.1), s.hotN sp x0.2.1, s.jumpN sp x0.2.2)) := rfl
      have B0 : Hid (BI w W (w.heap.size + 1) w1.heap.size (w1.heap.size + 1) (w1.heap.size + 1 + 1) (w1.heap.size + 1 + 1 + 1) Bx #[.int .i64 s.bend, .int .i64 s.days, .int .i64 s.jump, .int .i64 s.times, .int .i64 s.move, .slice a s.stores.length c] sp x0 W) := ⟨HI.out, KeepsOthers.refl _, Below.refl _ _, HBX.out⟩
      have hn1 : 1 ≤ 3 - 1 - 1 := by omega
      obtain ⟨lo, hi⟩ := sp
      gi_wp2_with fail
      refine wpIn_region_inv0 (by kernel_rfl) (by kernel_rfl) (fun D W' => BI w W (w.heap.size + 1) w1.heap.size (w1.heap.size + 1) (w1.heap.size + 1 + 1) (w1.heap.size + 1 + 1 + 1) Bx #[.int .i64 s.bend, .int .i64 s.days, .int .i64 s.jump, .int .i64 s.times, .int .i64 s.move, .slice a s.stores.length c] (lo, hi) (x0.1, (if D 12 then s.hotN (lo, hi) x0.2.1 else x0.2.1), (if D 13 then s.jumpN (lo, hi) x0.2.2 else x0.2.2)) W') (B0.out.call (Below.refl _ W).drew) ?_
      iterate 3
        (apply obl_detIn
         case hrun =>
           intro D' y wz hW hD R hR
           have HRR := Lib.hid hR
           clear hR hD
           have HW := Lib.hid hW
           have c7 := fun i => cell_of_row wz _ i _ _ _ hW.ri.r7
           clear hW
           gi_wp2
           exact HRR.out _ HW.out
         case hnp => rfl
         case hv => first | exact ⟨_, fun _ => rfl⟩ | exact ⟨undef, fun _ => rfl⟩)
      apply obl_detIn
      case hrun =>
        intro D' y wz hW hD R hR
        have hd := hD.post _ 12 rfl (by kernel_rfl)
        have HRR := Lib.hid hR
        clear hR hD
        have HW := Lib.hid hW
        have c9 := cell_of_row wz _ 0 _ _ _ hW.ri.r9
        rw [hd] at c9
        clear hW hd
        gi_wp2
        exact HRR.out _ HW.out
      case hnp => rfl
      case hv => first | exact ⟨_, fun _ => rfl⟩ | exact ⟨undef, fun _ => rfl⟩
      apply obl_detIn
      case hrun =>
        intro D' y wz hW hD R hR
        have HRR := Lib.hid hR
        clear hR hD
        have HW := Lib.hid hW
        have cx := fun i => cell_of_row wz _ i _ _ _ hW.bx
        clear hW
        gi_wp2
        exact HRR.out _ HW.out
      case hnp => rfl
      case hv => first | exact ⟨_, fun _ => rfl⟩ | exact ⟨undef, fun _ => rfl⟩
      apply obl_detIn
      case hrun =>
        intro D' y wz hW hD R hR
        have HRR := Lib.hid hR
        have HW := Lib.hid hW
        clear hR hD hW
        gi_wp2_with (refine ⟨trivial, ?_⟩; gi_at_call 36; refine (CallsIn.inRound l (callsIn_wide.2 (hot_any s.bend s.days s.jump s.times x0.2.1 lo hi _ HOK.out.n0 (by have h1 := HOK.out.n1; have h2 := HPL.out; omega)))).mono ?_; rintro e w' ⟨rfl, hbw⟩)
        exact HRR.out _ (HW.out.call hbw)
      case hnp => rfl
      case hv => first | exact ⟨_, fun _ => rfl⟩ | exact ⟨undef, fun _ => rfl⟩
      apply obl_detIn
      case hrun =>
        intro D' y wz hW hD R hR
        have hd := hD.post _ 13 rfl (by kernel_rfl)
        have HRR := Lib.hid hR
        clear hR hD
        have HW := Lib.hid hW
        have r8 := hW.ri.r8
        rw [hd] at r8
        have HR8 := Lib.hid r8
        clear hW hd r8
        gi_wp2_with (refine wpListIn_load_row rfl 93 _ rfl _ rfl _ _ _ _ HR8.out Try.underlying93 rfl (by rw [ints_size]; show _ = some (x0.2.2).length; rw [HOK.out.len]; exact info93) ?_)
        exact HRR.out _ HW.out
      case hnp => rfl
      case hv => first | exact ⟨_, fun _ => rfl⟩ | exact ⟨undef, fun _ => rfl⟩
      apply obl_detIn
      case hrun =>
        intro D' y wz hW hD R hR
        have HRR := Lib.hid hR
        clear hR hD
        have HW := Lib.hid hW
        have c7 := fun i => cell_of_row wz _ i _ _ _ hW.ri.r7
        clear hW
        gi_wp2
        exact HRR.out _ HW.out
      case hnp => rfl
      case hv => first | exact ⟨_, fun _ => rfl⟩ | exact ⟨undef, fun _ => rfl⟩
      apply obl_detIn
      case hrun =>
        intro D' y wz hW hD R hR
        have HRR := Lib.hid hR
        clear hR hD
        have HW := Lib.hid hW
        have c7 := fun i => cell_of_row wz _ i _ _ _ hW.ri.r7
        clear hW
        gi_wp2
        exact HRR.out _ HW.out
      case hnp => rfl
      case hv => first | exact ⟨_, fun _ => rfl⟩ | exact ⟨undef, fun _ => rfl⟩
      apply obl_detIn
      case hrun =>
        intro D' y wz hW hD R hR
        have HRR := Lib.hid hR
        clear hR hD
        have HW := Lib.hid hW
        have c7 := fun i => cell_of_row wz _ i _ _ _ hW.ri.r7
        clear hW
        gi_wp2
        exact HRR.out _ HW.out
      case hnp => rfl
      case hv => first | exact ⟨_, fun _ => rfl⟩ | exact ⟨undef, fun _ => rfl⟩
      apply obl_detIn
      case hrun =>
        intro D' y wz hW hD R hR
        have HRR := Lib.hid hR
        clear hR hD
        have HW := Lib.hid hW
        have cx := fun i => cell_of_row wz _ i _ _ _ hW.bx
        clear hW
        gi_wp2
        exact HRR.out _ HW.out
      case hnp => rfl
      case hv => first | exact ⟨_, fun _ => rfl⟩ | exact ⟨undef, fun _ => rfl⟩
      apply obl_detIn
      case hrun =>
        intro D' y wz hW hD R hR
        have HRR := Lib.hid hR
        have HW := Lib.hid hW
        clear hR hD hW
        gi_wp2_with (refine ⟨trivial, ?_⟩; gi_at_call 37; refine (CallsIn.inRound l (callsIn_wide.2 (next_any x0.2.2 HOK.out.len s.bend s.days s.jump s.times lo hi _ hXok.1 hXok.2.2.1 hXok.2.1 (fun k => ⟨(HOK.out.small k).1, by have h1 := (HOK.out.small k).2; have h2 := HPL.out; omega⟩)))).mono ?_; rintro e w' ⟨rfl, hbw⟩)
        exact HRR.out _ (HW.out.call hbw)
      case hnp => rfl
      case hv => first | exact ⟨_, fun _ => rfl⟩ | exact ⟨undef, fun _ => rfl⟩
      apply obl_detIn
      case hrun =>
        intro D' y wz hW hD R hR
        have HRR := Lib.hid hR
        have HW := Lib.hid hW
        clear hR hD
        have c9 := cell_of_row wz _ 0 _ _ _ hW.ri.r9
        have f9 := frozen_of_row wz _ 0 _ _ hW.ri.r9
        clear hW
        gi_wp2
        exact HRR.out _ (HW.out.set9 (by omega) (by omega) (by omega) (by omega) (by omega) (by omega))
      case hnp => rfl
      case hv => first | exact ⟨_, fun _ => rfl⟩ | exact ⟨undef, fun _ => rfl⟩
      apply obl_detIn
      case hrun =>
        intro D' y wz hW hD R hR
        have HRR := Lib.hid hR
        have HW := Lib.hid hW
        clear hR hD hW
        gi_wp2_with (refine wpListIn_store_row rfl 93 _ _ rfl _ (ints (nextTo s.jump lo (hi + 1) x0.2.2)) rfl rfl _ _ HW.out.ri.r8 (by rw [ints_size, nextTo_len]; exact info93) (by have h1 := HOK.out.len; have h2 := nextTo_len s.jump lo (hi + 1) x0.2.2; simp only [ints_size]; split <;> simp [*, Sea.jumpN]) (ints_oneCell _) ?_)
        exact HRR.out _ (HW.out.set8 (by omega) (by omega) (by omega) (by omega) (by omega) (by omega))
      case hnp => rfl
      case hv => first | exact ⟨_, fun _ => rfl⟩ | exact ⟨undef, fun _ => rfl⟩
      apply obl_nilIn
      intro D' y w8 hall hW
      have hd12 := hall 12 (by decide)
      have hd13 := hall 13 (by decide)
      simp only [hd12, hd13, if_true] at hW
      have HW8 := Lib.hid hW
      clear hall hd12 hd13
      simp only [Exit.then]
      have c4 := cell_of_row w8 _ 0 _ _ _ hW.ri.r4
      have f4 := frozen_of_row w8 _ 0 _ _ hW.ri.r4
      have c9 := cell_of_row w8 _ 0 _ _ _ hW.ri.r9
      clear hW
      gi_wp2
      all_goals
        (have H4 := HW8.out.set4 (m := max x0.1 (s.hotN (lo, hi) x0.2.1)) (by omega) (by omega) (by omega) (by omega) (by omega) (by omega)
         first
           | (rw [show max x0.1 (s.hotN (lo, hi) x0.2.1) = x0.1 by omega] at H4; exact ⟨H4.ko.from _, ⟨H4.bw, H4.ri.rs.trans HI.out.rs.symm⟩, by dsimp only; rw [HSNH.out, HST.out, show max x0.1 (s.hotN (lo, hi) x0.2.1) = x0.1 by omega]; exact H4.ri⟩)
           | (rw [show max x0.1 (s.hotN (lo, hi) x0.2.1) = s.hotN (lo, hi) x0.2.1 by omega] at H4; exact ⟨H4.ko.from _, ⟨H4.bw, H4.ri.rs.trans HI.out.rs.symm⟩, by dsimp only; rw [HSNH.out, HST.out, show max x0.1 (s.hotN (lo, hi) x0.2.1) = s.hotN (lo, hi) x0.2.1 by omega]; exact H4.ri⟩))
    case done =>
      rintro D ys W hD rfl hI hK
      have HI := Lib.hid hI
      have HK := Lib.hid hK
      clear hI hK
      have HOK := Lib.hid (riskTo_ok s (upD s way way.length))
      rw [upD_length] at HOK
      have HSM : Hid ((way.length : Int) ≤ 1000) := by have h1 := HW.out.2.1; have h2 := HG.out.len.2; unfold Hid; omega
      generalize hx : riskTo s (upD s way way.length) = x at *
      clear hx
      gi_wp2_with fail
      refine wpIn_region_inv0 (by kernel_rfl) (by kernel_rfl) (fun _ W' => RI w (w.heap.size + 1) w1.heap.size (w1.heap.size + 1) (w1.heap.size + 1 + 1) (w1.heap.size + 1 + 1 + 1) #[.int .i64 s.bend, .int .i64 s.days, .int .i64 s.jump, .int .i64 s.times, .int .i64 s.move, .slice a s.stores.length c] x W' ∧ W'.heap[D]? = some (.deferred (some []))) ⟨HI.out.call (Below.refl _ W).drew, HK.out⟩ ?_
      iterate 1
        (apply obl_detIn
         case hrun =>
           intro D' y wz hW hD R hR
           have HRR := Lib.hid hR
           clear hR hD
           have HW := Lib.hid hW
           have c4 := cell_of_row wz _ 0 _ _ _ hW.1.r4
           clear hW
           gi_wp2
           exact HRR.out _ HW.out
         case hnp => rfl
         case hv => first | exact ⟨_, fun _ => rfl⟩ | exact ⟨undef, fun _ => rfl⟩)
      apply obl_detIn
      case hrun =>
        intro D' y wz hW hD R hR
        have HRR := Lib.hid hR
        have HW := Lib.hid hW
        clear hR hD hW
        gi_wp2_with (refine wpListIn_load_row rfl 93 _ rfl _ rfl _ _ _ _ HW.out.1.r8 Try.underlying93 rfl (by rw [ints_size, HOK.out.len]; exact info93) ?_)
        exact HRR.out _ HW.out
      case hnp => rfl
      case hv => first | exact ⟨_, fun _ => rfl⟩ | exact ⟨undef, fun _ => rfl⟩
      apply obl_detIn
      case hrun =>
        intro D' y wz hW hD R hR
        have HRR := Lib.hid hR
        have HW := Lib.hid hW
        clear hR hD hW
        gi_wp2_with (refine ⟨trivial, ?_⟩; gi_at_call 38; refine (callsIn_wide.2 (most_any _ HOK.out.len _ _ HOK.out.small HSM.out)).mono ?_; rintro e w' ⟨rfl, hbw⟩)
        exact HRR.out _ ⟨HW.out.1.call hbw, block_keep HW.out.2 hbw⟩
      case hnp => rfl
      case hv => first | exact ⟨_, fun _ => rfl⟩ | exact ⟨undef, fun _ => rfl⟩
      -- op 3: store b4
      apply obl_detIn
      case hrun =>
        intro D' y wz hW hD R hR
        have HRR := Lib.hid hR
        have HW := Lib.hid hW
        clear hR hD
        have c4 := cell_of_row wz _ 0 _ _ _ hW.1.r4
        have f4 := frozen_of_row wz _ 0 _ _ hW.1.r4
        clear hW
        gi_wp2
        exact HRR.out _ ⟨HW.out.1.set4 (by omega) (by omega) (by omega) (by omega) (by omega), by rw [heap_setCell_other _ _ _ _ (show D ≠ w.heap.size + 1 by omega)]; exact HW.out.2⟩
      case hnp => rfl
      case hv => first | exact ⟨_, fun _ => rfl⟩ | exact ⟨undef, fun _ => rfl⟩
      iterate 2
        (apply obl_detIn
         case hrun =>
           intro D' y wz hW hD R hR
           have HRR := Lib.hid hR
           have HW := Lib.hid hW
           clear hR hD hW
           gi_wp2
           exact HRR.out _ HW.out
         case hnp => rfl
         case hv => first | exact ⟨_, fun _ => rfl⟩ | exact ⟨undef, fun _ => rfl⟩)
      apply obl_nilIn
      intro D' y w8 hall hW
      have HW8 := Lib.hid hW
      clear hW hall
      simp only [Exit.then]
      gi_wp2
      refine ⟨by simp, .inl ⟨_, _, rfl, run_takeDeferred HW8.out.2, ?_⟩⟩
      have hD8 : D < w8.heap.size := block_lt HW8.out.2
      have hcz : (w8.putObj D (.deferred none)).cell? ⟨w.heap.size + 1, 0, none⟩ = some (.int .i64 x.1) := by
        have hrr : (w8.putObj D (.deferred none)).heap[w.heap.size + 1]? = some (.cells #[.int .i64 x.1] 3) := (Array.getElem?_setIfInBounds_ne (show D ≠ w.heap.size + 1 by omega)).trans HW8.out.1.r4
        exact cell_of_row _ _ 0 _ _ _ hrr
      simp only [LeavesInM, LeavesIn]
      refine ⟨.tuple #[.int .i64 x.1, .int .i64 (maxTo x.2.2 61 - 1), .int .i64 0], by rw [results_cell_tmp2 (fn := Try.f16) rfl]; simp [asAddr, go_sem, hcz], by rw [HC.out], HW8.out.1.bel.trans (belowK_b (Nat.le_trans (by omega) hbel.size) w8 D _ _ (by omega) HW8.out.2 rfl rfl)⟩
    case stop =>
      rintro D c pre W _ _ h _
      exact h.elim
  · have HC : Hid (riskV s way = (0, 0, e)) := by unfold Hid riskV; rw [HE.out, if_neg hz]
    go_enter Try.func16, Try.ntmps16
    go_wp2_with fail
    refine (open_any s _ _ way _ ((HV.out.below C0.out).mono C0.out.size) ((HWV.out.below C0.out).mono C0.out.size)).mono ?_
    rintro e' w1 ⟨rfl, hbw⟩
    have C1 := Lib.hid (C0.out.trans (hbw.mono C0.out.size))
    have R41 := Lib.hid (block_keep R4.out hbw)
    clear hbw
    rw [HE.out]
    have hzz : (e != 0) = true := by simpa using hz
    clear hz
    have c4 := cell_of_row w1 _ 0 _ _ _ R41.out
    have f4 := frozen_of_row w1 _ 0 _ _ R41.out
    have hsz1 : w.heap.size + 1 < w1.heap.size := block_lt R41.out
    go_wp2_with fail
    refine bodyPost_ret (v := .tuple #[.int .i64 0, .int .i64 0, .int .i64 e]) ?_ rfl ⟨by rw [HC.out], ?_⟩
    · rw [results_cell_tmp2 (fn := Try.f16) rfl]
      have hcz : (w1.setCell ⟨w.heap.size + 1, 0, none⟩ (.int .i64 0)).cell? ⟨w.heap.size + 1, 0, none⟩ = some (.int .i64 0) := World.cell?_setCell_same' _ _ _ (by rw [c4]; rfl)
      have hcF := fun o => (World.cell?_alloc_past (w := w1.setCell ⟨w.heap.size + 1, 0, none⟩ (.int .i64 0)) o (w.heap.size + 1) 0 (by simpa [World.setCell] using hsz1)).trans hcz
      simp [asAddr, go_sem, hcF]
    · exact (C1.out.setCell (p := ⟨w.heap.size + 1, 0, none⟩) (by simp) _).alloc (by simpa using C1.out.size) _
end Go.Proofs.Ytddapabmfecidaa
