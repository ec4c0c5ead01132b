/- dip: bounds of what a taper can be. -/
import Derived.Test.YtpkggjobdmchlaaGreatDoorE12
import Derived.Deep.Cut
import Derived.Deep.CutBlock
import Derived.Lib.MinMax
import Derived.RangeFuncLeaves
import Derived.Test.YtpkggjobdmchlaaGreatDoorK2
namespace Go.Proofs.YtpkggjobdmchlaaGreatDoor
open Go.RowKit
theorem grow_b0 {s : DShop} (hs : DOk s) {d : DDip} (h1 : d.seconds ≤ 600) (h2 : 0 ≤ d.pause) {warm : Int} (hw : s.melt ≤ warm ∧ warm ≤ 2000) : (-25000000 ≤ (growV s d warm).1 ∧ (growV s d warm).1 ≤ 25000000) ∧ -25000000 ≤ (growV s d warm).2 ∧ (growV s d warm).2 ≤ 25000000 := by
  have h0 := hs.melt
  have c1 := coat_bound hs (over := warm - s.melt) (sec := d.seconds) (by omega) h1
  have c2 := coat_bound hs (over := warm - s.melt) (sec := d.seconds - s.draw) (by omega) (by have := hs.draw; omega)
  have h3 := run_bound hs (d := d) h2
  unfold growV
  split <;> simp only <;> omega
/-- What a kind is that is not there. -/
theorem kind_b {s : DShop} (hs : DOk s) {ks : List DDip} (hk : ∀ d ∈ ks, DipOk s d) (k : Nat) : (ks.getD k default).seconds ≤ 600 ∧ 0 ≤ (ks.getD k default).pause ∧ s.melt ≤ (warmOf s (ks.getD k default)).1 ∧ (warmOf s (ks.getD k default)).1 ≤ (warmOf s (ks.getD k default)).2 ∧ (warmOf s (ks.getD k default)).2 ≤ 2000 := by
  by_cases h : k < ks.length
  · have hd : DipOk s (ks.getD k default) := by
      apply hk
      rw [List.getD_eq_getElem?_getD, List.getElem?_eq_getElem h]
      exact List.getElem_mem h
    exact ⟨hd.seconds.2, hd.pause.1, hs.warm _ (by have := hd.bath; omega)⟩
  · have e : ks.getD k default = default := by rw [List.getD_eq_getElem?_getD, List.getElem?_eq_none (by omega)]; rfl
    rw [e]
    exact ⟨by decide, by decide, hs.warm 0 (by have := hs.n1; omega)⟩
theorem stOf_bound {q : TQ} (hs : DOk q.s) (hk : ∀ d ∈ q.ks, DipOk q.s d) (ht : TapOk q.t) {c : List Int} {l : Nat} (hc : CntB c l) : RngB 3000000000 (stOf q c) := by
  have g : ∀ k, ((-25000000 ≤ (coldV q.s (q.ks.getD k default)).1 ∧ (coldV q.s (q.ks.getD k default)).1 ≤ 25000000) ∧ -25000000 ≤ (coldV q.s (q.ks.getD k default)).2 ∧ (coldV q.s (q.ks.getD k default)).2 ≤ 25000000) ∧
      (-25000000 ≤ (hotV q.s (q.ks.getD k default)).1 ∧ (hotV q.s (q.ks.getD k default)).1 ≤ 25000000) ∧ -25000000 ≤ (hotV q.s (q.ks.getD k default)).2 ∧ (hotV q.s (q.ks.getD k default)).2 ≤ 25000000 := by
    intro k
    obtain ⟨h1, h2, h3, h4, h5⟩ := kind_b hs hk k
    exact ⟨grow_b0 hs h1 h2 (by omega), grow_b0 hs h1 h2 (by omega)⟩
  have b1 := lin_bound (f := fun d => (hotV q.s d).1) (ks := q.ks) hc (fun k _ => by have := g k; show _ ≤ (hotV q.s _).1 ∧ (hotV q.s _).1 ≤ _; omega)
  have b2 := lin_bound (f := fun d => (coldV q.s d).1) (ks := q.ks) hc (fun k _ => by have := g k; show _ ≤ (coldV q.s _).1 ∧ (coldV q.s _).1 ≤ _; omega)
  have b3 := lin_bound (f := fun d => (hotV q.s d).2) (ks := q.ks) hc (fun k _ => by have := g k; show _ ≤ (hotV q.s _).2 ∧ (hotV q.s _).2 ≤ _; omega)
  have b4 := lin_bound (f := fun d => (coldV q.s d).2) (ks := q.ks) hc (fun k _ => by have := g k; show _ ≤ (coldV q.s _).2 ∧ (coldV q.s _).2 ≤ _; omega)
  have sk : ∀ k, (-50000000 ≤ skewG (coldV q.s (q.ks.getD k default)) ∧ skewG (coldV q.s (q.ks.getD k default)) ≤ 50000000) ∧ -50000000 ≤ skewG (hotV q.s (q.ks.getD k default)) ∧ skewG (hotV q.s (q.ks.getD k default)) ≤ 50000000 := by
    intro k
    have := g k
    unfold skewG
    omega
  have b5 := lin_bound (f := fun d => skewG (leastV q.s d).1) (ks := q.ks) hc (fun k _ => by
    have := sk k
    show _ ≤ skewG (leastV q.s _).1 ∧ skewG (leastV q.s _).1 ≤ _
    unfold leastV
    split <;> simp only <;> omega)
  have b6 := lin_bound (f := fun d => skewG (mostV q.s d).1) (ks := q.ks) hc (fun k _ => by
    have := sk k
    show _ ≤ skewG (mostV q.s _).1 ∧ skewG (mostV q.s _).1 ≤ _
    unfold mostV
    split <;> simp only <;> omega)
  have h1 := ht.wick
  have h2 := ht.top
  have h3 := ht.foot
  unfold RngB stOf
  simp only
  omega
end Go.Proofs.YtpkggjobdmchlaaGreatDoor
/- dip.Fewest: its closure, up to the loop. -/
namespace Go.Proofs.YtpkggjobdmchlaaGreatDoor
open Go.RowKit
theorem infoI3 (w : World) : (Go.sizeOf 3).run Tryz.prog w = .ok 1 w := by
  cases hq : Tryz.prog.info? 3 with
  | none => have := (by kernel_rfl : (Tryz.prog.info? 3).map (·.size) = some 1); simp [hq] at this
  | some i => have := (by kernel_rfl : (Tryz.prog.info? 3).map (·.size) = some 1); simp [hq] at this; simp [Go.sizeOf, typeInfo, hq, this]
theorem part_i3 (cs : List Int) (t : Nat) (ht : t < cs.length) (w : World) : (part 3 (ints cs) (t * 1)).run Tryz.prog w = .ok (.int .i64 (cs.getD t 0)) w := by
  have hagg : (isAgg 3).run Tryz.prog w = .ok false w := by
    unfold isAgg; rw [Sem.run_bind, run_underlying Tryz.underlying3 w]; simp
  have e : (ints cs)[t]? = some (.int .i64 (cs.getD t 0)) := ints_get cs t ht
  unfold part
  simp only [Sem.run_bind, hagg, Result.andThen_ok, Bool.false_eq_true, if_false, Nat.mul_one]
  simp [e]
theorem run_eq3 (d : Nat) (a b : Int) (w : World) : (Op.equalIn (d + 2) 3 (.int .i64 a) (.int .i64 b)).run Tryz.prog w = .ok (a == b) w := by
  unfold Op.equalIn
  go_simp
theorem run_eqloop5 (d : Nat) (l m : List Int) (hl : l.length = 5) (hm : m.length = 5) (w : World) :
    ∀ (c s : Nat), s + c = 5 →
    (forIn (List.range' s c) ((none : Option Bool), ()) fun i __s => do
                let __do_lift ← part 3 (ints l) (i * 1)
                let __do_lift_1 ← part 3 (ints m) (i * 1)
                let __do_lift ← Op.equalIn (d + 2) 3 __do_lift __do_lift_1
                if (!__do_lift) = true then pure (ForInStep.done (some false, ()))
                  else pure (ForInStep.yield (none, ()))).run Tryz.prog w = .ok (if (List.range' s c).all (fun i => l.getD i 0 == m.getD i 0) then (none, ()) else (some false, ())) w
  | 0, s, h => by simp
  | c + 1, s, h => by
    have ih := run_eqloop5 d l m hl hm w c (s + 1) (by omega)
    rw [List.range'_succ, List.forIn_cons]
    simp only [Sem.run_bind, part_i3 l s (by omega) w, part_i3 m s (by omega) w, Result.andThen_ok, run_eq3]
    rw [List.all_cons]
    cases hh : (l.getD s 0 == m.getD s 0)
    · simp
    · simp only [Bool.not_true, Bool.false_eq_true, if_false, Sem.run_pure, Result.andThen_ok, Bool.true_and]
      exact ih
theorem run_equal5 (l m : List Int) (hl : l.length = 5) (hm : m.length = 5) (w : World) :
    (Op.equalIn 10000 114 (.agg (ints l)) (.agg (ints m))).run Tryz.prog w = .ok ((List.range' 0 5).all (fun i => l.getD i 0 == m.getD i 0)) w := by
  have key := run_eqloop5 9997 l m hl hm w 5 0 rfl
  rw [show (10000 : Nat) = 9999 + 1 from rfl, Op.equalIn]
  simp only [Sem.run_bind, run_underlying Tryz.underlying114, Result.andThen_ok, infoI3]
  rw [Std.Legacy.Range.forIn_eq_forIn_range']
  simp only [Std.Legacy.Range.size, Nat.sub_zero, Nat.add_one_sub_one, Nat.div_one]
  rw [key]
  cases (List.range' 0 5).all (fun i => l.getD i 0 == m.getD i 0) <;> simp
theorem all5 (l m : List Int) (hl : l.length = 5) (hm : m.length = 5) : (List.range' 0 5).all (fun i => l.getD i 0 == m.getD i 0) = decide (l = m) := by
  match l, m, hl, hm with
  | [a, b, c, d, e], [a', b', c', d', e'], _, _ => simp [List.range', Bool.decide_and]; rfl
theorem results_cellB {fn : Func} {p : Tmp} (h : fn.results = #[.cell p 4]) (tmps : Array Value) (w : World) (g : Nat) (b : Bool) (hp : tmps.getD p undef = .pointer (some ⟨g, 0, none⟩)) (hg : w.cell? ⟨g, 0, none⟩ = some (.bool b)) :
    (results fn tmps).run Tryz.prog w = .ok (.bool b) w := by
  have hp' : tmps[p]?.getD undef = .pointer (some ⟨g, 0, none⟩) := by simpa using hp
  have hagg : (isAgg 4).run Tryz.prog w = .ok false w := by
    unfold isAgg; rw [Sem.run_bind, run_underlying Tryz.underlying4 w]; simp
  simp [results, h, hp', asAddr, loadVar, hagg, hg, go_sem]
theorem leaves_now {F : Fence} {n : Nat} {P : Program} {fn : Func} {tmps : Array Value} {R : Ending → World → Prop} {w : World} {v : Value} (h : (results fn tmps).run P w = .ok v w) (hr : R (.returned v) w) : LeavesInM F n P fn tmps R [] .returning w := by
  simp only [LeavesInM, LeavesIn]
  exact ⟨_, h, hr⟩
theorem cnt_I64 {c : List Int} {l : Nat} {lf : Int} (hc : CntB c l) (hlf : lf = l) : I64 (c ++ [lf]) := by
  intro x hx
  refine WalkArith.wf_i64 ?_
  rcases List.mem_append.1 hx with h | h
  · obtain ⟨i, hi, rfl⟩ := List.getElem_of_mem h
    have h2 := hc.c i
    rw [List.getD_eq_getElem?_getD, List.getElem?_eq_getElem hi] at h2
    simp only [Option.getD_some] at h2
    omega
  · rw [List.mem_singleton] at h
    have := hc.n
    omega
theorem cnt_five {c : List Int} {l : Nat} (hc : CntB c l) : ∃ c0 c1 c2 c3 c4, c = [c0, c1, c2, c3, c4] := by
  match c, hc.len with
  | [a, b, c, d, e], _ => exact ⟨a, b, c, d, e, rfl⟩
def TryR (q : TQ) (c : List Int) (l : Nat) (pre : List Nat) (n : Nat) (V : World) : Ending → World → Prop := fun e w' => ∃ b : Bool, e = .returned (.bool b) ∧ TryPost q c l pre n V b w'
theorem TryR.mk {q : TQ} {c : List Int} {l : Nat} {pre : List Nat} {n : Nat} {V w' : World} (b : Bool) (h : TryPost q c l pre n V b w') : TryR q c l pre n V (.returned (.bool b)) w' := ⟨b, rfl, h⟩
/-- What the search is asked. -/
def TryC (q : TQ) (l : Nat) : Prop := ∀ (c : List Int) (lf : Int) (pre : List Nat) (n : Nat) (w : World), lf = (l : Int) → CntB c l → pre.length + l ≤ 10 → n + cost q.ks.length l ≤ 1000000000 → TryS q w → Memo (BadK q) q.Mb n w → BestAt q w pre →
  Calls Tryz.prog 46 #[.agg (ints c), .agg (rngC (stOf q c)), .int .i64 lf, .pointer (some ⟨q.vb, 0, none⟩), .pointer (some ⟨q.tb, 0, none⟩), .pointer (some ⟨q.wb, 0, none⟩), .pointer (some ⟨q.nb, 0, none⟩), .pointer (some ⟨q.kb, 0, none⟩), .pointer (some ⟨q.bb, 0, none⟩), .pointer (some ⟨q.fb, 0, none⟩), .pointer (some ⟨q.xb, 0, none⟩)] w (TryR q c l pre (n + cost q.ks.length l) w)
theorem lostB_true {q : TQ} {c : List Int} {r : DRng} (ht : TapOk q.t) (hr : r = stOf q c) (h : min r.top.1 r.foot.1 < q.t.wick) : c ≠ zeroC ∧ lostB q c r = true := by
  have hc : c ≠ zeroC := by
    rintro rfl
    rw [hr, stOf_zero] at h
    have h1 := ht.top
    have h2 := ht.foot
    unfold beginV at h
    simp only at h
    omega
  exact ⟨hc, by unfold lostB; simp [h, hc]⟩
theorem lostB_false {q : TQ} {c : List Int} {r : DRng} (h : ¬ min r.top.1 r.foot.1 < q.t.wick) : lostB q c r = false := by
  unfold lostB; rw [decide_eq_false h]; rfl
theorem firstP_lost {q : TQ} {c : List Int} {r : DRng} (h : lostB q c r = true) : ∀ l, firstP q l c r = none
  | 0 => by rw [firstP, if_pos h]
  | l + 1 => by rw [firstP, if_pos h]
theorem TryPost.none {q : TQ} {c : List Int} {l n : Nat} {pre : List Nat} {V W : World} (h : firstP q l c (stOf q c) = none) (h1 : TK q V W) (h2 : Memo (BadK q) q.Mb n W) (h3 : BestAt q W pre) : TryPost q c l pre n V false W := by
  refine ⟨h1, h2, by rw [h]; rfl, ?_⟩
  rw [h]
  simpa using h3
end Go.Proofs.YtpkggjobdmchlaaGreatDoor
/- dip.Fewest: what its closure's loop keeps. -/
namespace Go.Proofs.YtpkggjobdmchlaaGreatDoor
open Go.RowKit
theorem wpListIn_store_bs {P : Program} {ops : Array Oper} {rest : List Oper} {o : Oper} {a : Act} {w0 w : World} {Q : Exit → Act → World → Prop} {l : List (Nat × Obj)} {Fe : Fence} {n : Nat} (hgd : o.guard = none) (ty : TypeId) (x y : Operand) (ho : o.op = .store ty x y) (H : Bs w0 l w) (i g : Nat) (cells old : Array Value) (t : TypeId) (hi : l[i]? = some (g, .cells old t))
    (hx : a.eval x = .pointer (some ⟨g, 0, none⟩)) (hy : a.eval y = .agg cells) (hn : (P.info? ty).map (·.size) = some cells.size) (hold : old.size = cells.size) (h1 : cells.all (·.oneCell') = true)
    (h : ∀ w', Bs w0 (l.set i (g, .cells cells t)) w' → wpListIn Fe n P ops Q rest (a.put o.dst undef) w') : wpListIn Fe n P ops Q (o :: rest) a w :=
  wpListIn_plain hgd fun _ hK => by
    unfold Oper.wpIn
    refine And.intro (fun f hf => by simp [Oper.about, ho] at hf) ?_
    rw [Oper.semAt_plain Fe a.eval o (by simp [ho])]
    unfold execOp
    simp only [ho, hx, hy, Instr.storeAt, Instr.sureAddr, Sem.run_bind, Sem.run_pure, Result.andThen_ok, run_storeVar_row w g t ty old cells (H.get i hi) hn hold h1]
    exact hK _ _ (h _ (H.setRow i hi cells))
theorem wpList_cell_but {P : Program} {ops : Array Oper} {rest : List Oper} {o : Oper} {a : Act} {w : World} {Q : Exit → Act → World → Prop} (hgd : o.guard = none) (ty : TypeId) (x y : Operand) (ho : o.op = .store ty x y) (g j : Nat) (old : Array Value) (t : TypeId) (hi : w.heap[g]? = some (.cells old t))
    (hx : a.eval x = .pointer (some ⟨g, j, none⟩)) (v : Value) (hy : a.eval y = v) (hj : j < old.size) (h1 : v.oneCell' = true) (hn : (P.info? ty).map (·.size) = some 1)
    (h : ∀ w', w'.heap[g]? = some (.cells (old.setIfInBounds j v) t) → But g w w' → wpList P ops Q rest (a.put o.dst undef) w') : wpList P ops Q (o :: rest) a w :=
  wpList_plain hgd fun _ hK => by
    have hc : w.cell? ⟨g, j, none⟩ = some old[j] := by rw [cell_of_row w g j _ _ _ hi]; simp [hj]
    unfold Oper.wp execOp
    simp only [ho, hx, hy, Instr.storeAt, Instr.sureAddr, Sem.run_bind, Sem.run_pure, Result.andThen_ok, run_store_at w g j ty v _ h1 hc (frozen_of_row w g j _ _ hi) hn]
    exact hK _ _ (h _ (heap_setCell_same w g j old t v hi) (But.setCell g j w v))
/-- A block of its own is written. -/
theorem TK.own {q : TQ} {w W W' : World} (hq : q.Ok) (h : TK q w W) (hs : q.Ob ≤ w.heap.size) {b : Nat} (hb : w.heap.size ≤ b) {cs : Array Value} {t : TypeId} (_hc : W.heap[b]? = some (.cells cs t)) (hB : But b W W') : TK q w W' := by
  have h1 := hq.bb
  have h2 := hq.Mb
  have h3 := h.size
  refine ⟨Nat.le_trans h.size hB.size, h.bel.trans ⟨hB.os, hB.tape, hB.output, hB.size, fun k hk => hB.block k (by omega) (by omega)⟩, fun k cs t hne hnb hk => ?_, fun k o hne hk ho => ?_, fun k ⟨v, hv, e⟩ => h.back k ⟨v, (hB.block _ (by omega) (by omega)).symm.trans hv, e⟩⟩
  · have h4 := h.cells k cs t hne hnb hk
    have h5 := block_lt hk
    exact (hB.block k (block_lt h4) (by omega)).trans h4
  · have h4 := h.nons k o hne hk ho
    have h5 := block_lt hk
    exact (hB.block k (block_lt h4) (by omega)).trans h4
/-- What the further search answers for a kind. -/
def kindP (q : TQ) (l' : Nat) (c : List Int) (k : Nat) : Option (List Nat) := firstP q l' (incr c k) (stOf q (incr c k))
/-- What holds after some kinds that were tried in vain. -/
structure LI (q : TQ) (w : World) (c : List Int) (l' : Nat) (lf : Int) (rc : Array Value) (pre : List Nat) (n a5 : Nat) (xs : List (KindI q.ks.length)) (W : World) : Prop where
  tk : TK q w W
  b1 : W.heap[w.heap.size + 1]? = some (.cells rc 95)
  b2 : W.heap[w.heap.size + 2]? = some (.cells #[.int .i64 lf] 3)
  b3 : W.heap[w.heap.size + 3]? = some (.cells #[.bool false] 4)
  b4 : W.heap[w.heap.size + 4]? = some (.cells (ints (c ++ [lf])) 116)
  i1 : W.heap[a5]? = some (.cells (ints c) 114)
  i2 : W.heap[a5 + 1]? = some (.cells #[.int .i64 q.ks.length] 3)
  nb : ∀ k, w.heap.size ≤ k → k < a5 + 2 → ¬ Back q.bb W k
  sz : w.heap.size + 5 ≤ a5 ∧ a5 + 2 ≤ W.heap.size
  memo : Memo (BadK q) q.Mb (n + xs.length * cost q.ks.length l') W
  best : BestAt q W pre
  vain : ∀ x ∈ xs, kindP q l' c x.1 = none
/-- .. when a kind was found. -/
structure LX (q : TQ) (w : World) (c : List Int) (l' : Nat) (pre : List Nat) (n : Nat) (xs : List (KindI q.ks.length)) (W : World) : Prop where
  tk : TK q w W
  b3 : W.heap[w.heap.size + 3]? = some (.cells #[.bool true] 4)
  memo : Memo (BadK q) q.Mb (n + xs.length * cost q.ks.length l') W
  found : ∃ ys x p, xs = ys ++ [x] ∧ (∀ y ∈ ys, kindP q l' c y.1 = none) ∧ kindP q l' c x.1 = some p ∧ BestAt q W (pre ++ x.1 :: p)
section
variable {q : TQ} {w : World} {c : List Int} {l' : Nat} {lf : Int} {rc : Array Value} {pre : List Nat} {n a5 : Nat} {xs : List (KindI q.ks.length)}
theorem back_below {bb : Nat} {W W' : World} (hb : bb < W.heap.size) (h : Below W.heap.size W W') {k : Nat} (hk : Back bb W' k) : Back bb W k := by
  obtain ⟨v, h1, h2⟩ := hk
  exact ⟨v, (h.block _ hb).symm.trans h1, h2⟩
theorem LI.bb (hq : q.Ok) (hs : q.Ob ≤ w.heap.size) {W : World} (h : LI q w c l' lf rc pre n a5 xs W) : q.bb < W.heap.size := by
  have h1 := hq.bb
  have h2 := h.tk.size
  omega
theorem LI.stab (hq : q.Ok) (hs : q.Ob ≤ w.heap.size) : StabB (LI q w c l' lf rc pre n a5 xs) := by
  intro W W' h hb
  have hbb := h.bb hq hs
  have h1 := hq.bb
  have h2 := h.tk.size
  have hM := h.memo.lt
  refine ⟨h.tk.t (TK.below hb (by omega) hbb), block_keep h.b1 hb, block_keep h.b2 hb, block_keep h.b3 hb, block_keep h.b4 hb, block_keep h.i1 hb, block_keep h.i2 hb, fun k h3 h4 h5 => h.nb k h3 h4 (back_below hbb hb h5), ⟨h.sz.1, Nat.le_trans h.sz.2 hb.size⟩, h.memo.keep (hb.block _ hM), h.best.keep (fun k cs t hk => block_keep hk hb), h.vain⟩
theorem cells_put {W : World} {l : Nat} {o o' : Obj} (hl : W.heap[l]? = some o) (hc : o.isCells = false) {k : Nat} {cs : Array Value} {t : TypeId} (h : W.heap[k]? = some (.cells cs t)) : (W.putObj l o').heap[k]? = some (.cells cs t) := by
  by_cases e : k = l
  · subst e
    rw [h] at hl
    cases hl
    simp [Obj.isCells] at hc
  · exact (World.putObj_heap_other e).trans h
theorem back_put {bb : Nat} {W : World} {l : Nat} {o' : Obj} (hb : bb ≠ l) {k : Nat} (hk : Back bb (W.putObj l o') k) : Back bb W k := by
  obtain ⟨v, h1, h2⟩ := hk
  exact ⟨v, (World.putObj_heap_other hb).symm.trans h1, h2⟩
theorem LI.turn (hq : q.Ok) (hs : q.Ob ≤ w.heap.size) {B : Nat} (hB : a5 + 2 ≤ B) : Turny B (LI q w c l' lf rc pre n a5 xs) := by
  intro W l o o' hBl h hl hc
  have hbb := hq.bb
  have h2 := h.tk.size
  have h3 := h.sz
  have hm := hq.Mb
  refine ⟨h.tk.turn hq (by omega) hs, cells_put hl hc h.b1, cells_put hl hc h.b2, cells_put hl hc h.b3, cells_put hl hc h.b4, cells_put hl hc h.i1, cells_put hl hc h.i2, fun k h4 h5 h6 => h.nb k h4 h5 (back_put (by omega) h6), ⟨h.sz.1, by simp [World.putObj]; exact h.sz.2⟩, h.memo.keep (World.putObj_heap_other (by omega)), h.best.keep (fun k cs t hk => cells_put hl hc hk), h.vain⟩
theorem LX.stab (hq : q.Ok) (hs : q.Ob ≤ w.heap.size) : StabB (LX q w c l' pre n xs) := by
  intro W W' h hb
  have h1 := hq.bb
  have h2 := h.tk.size
  have hM := h.memo.lt
  obtain ⟨ys, x, p, e1, e2, e3, e4⟩ := h.found
  exact ⟨h.tk.t (TK.below hb (by omega) (by omega)), block_keep h.b3 hb, h.memo.keep (hb.block _ hM), ⟨ys, x, p, e1, e2, e3, e4.keep (fun k cs t hk => block_keep hk hb)⟩⟩
theorem LX.turn (hq : q.Ok) (hs : q.Ob ≤ w.heap.size) {B : Nat} (hB : w.heap.size ≤ B) : Turny B (LX q w c l' pre n xs) := by
  intro W l o o' hBl h hl hc
  have hbb := hq.bb
  have h2 := h.tk.size
  have hm := hq.Mb
  obtain ⟨ys, x, p, e1, e2, e3, e4⟩ := h.found
  exact ⟨h.tk.turn hq (by omega) hs, cells_put hl hc h.b3, h.memo.keep (World.putObj_heap_other (by omega)), ⟨ys, x, p, e1, e2, e3, e4.keep (fun k cs t hk => cells_put hl hc hk)⟩⟩
end
theorem LI.step {q : TQ} {w : World} {c : List Int} {l' : Nat} {lf : Int} {rc : Array Value} {pre : List Nat} {n a5 : Nat} {xs : List (KindI q.ks.length)} {W W' : World} (hq : q.Ok) (hs : q.Ob ≤ w.heap.size) (h : LI q w c l' lf rc pre n a5 xs W) (hk : TK q W W') (x : KindI q.ks.length)
    (hm : Memo (BadK q) q.Mb (n + (xs ++ [x]).length * cost q.ks.length l') W') (hb : BestAt q W' pre) (hx : kindP q l' c x.1 = none) : LI q w c l' lf rc pre n a5 (xs ++ [x]) W' := by
  have h1 := hq.bb
  have h2 := h.sz
  have go : ∀ (k : Nat) (cs : Array Value) (t : TypeId), w.heap.size ≤ k → k < a5 + 2 → W.heap[k]? = some (.cells cs t) → W'.heap[k]? = some (.cells cs t) := fun k cs t h3 h4 h5 => hk.cells k cs t (by omega) (h.nb k h3 h4) h5
  refine ⟨h.tk.t hk, go _ _ _ (by omega) (by omega) h.b1, go _ _ _ (by omega) (by omega) h.b2, go _ _ _ (by omega) (by omega) h.b3, go _ _ _ (by omega) (by omega) h.b4, go _ _ _ (by omega) (by omega) h.i1, go _ _ _ (by omega) (by omega) h.i2, fun k h3 h4 h5 => ?_, ⟨h.sz.1, Nat.le_trans h.sz.2 hk.size⟩, hm, hb, fun y hy => ?_⟩
  · rcases hk.back k h5 with h6 | h6
    · exact h.nb k h3 h4 h6
    · omega
  · rcases List.mem_append.1 hy with h3 | h3
    · exact h.vain y h3
    · rw [List.mem_singleton] at h3
      rw [h3]; exact hx
theorem LI.suk {q : TQ} {w : World} {c : List Int} {l' : Nat} {lf : Int} {rc : Array Value} {pre : List Nat} {n a5 : Nat} {xs : List (KindI q.ks.length)} {W W' : World} (hq : q.Ok) (hs : q.Ob ≤ w.heap.size) (h : LI q w c l' lf rc pre n a5 xs W) (hk : TK q W W') : SuK q.Bq a5 (a5 + 1) W W' := by
  have h1 := hq.bb
  have h2 := h.sz
  have go : ∀ (k : Nat) (cs : Array Value) (t : TypeId), w.heap.size ≤ k → k < a5 + 2 → W.heap[k]? = some (.cells cs t) → W'.heap[k]? = W.heap[k]? := fun k cs t h3 h4 h5 => (hk.cells k cs t (by omega) (h.nb k h3 h4) h5).trans h5.symm
  exact ⟨hk.size, hk.bel, go _ _ _ (by omega) (by omega) h.i1, go _ _ _ (by omega) (by omega) h.i2⟩
theorem BestAt.but {q : TQ} {W W' : World} {l : List Nat} {b : Nat} (h : BestAt q W l) (hB : But b W W') (hne : b ≠ q.bb) (hnb : ¬ Back q.bb W b) : BestAt q W' l := by
  obtain ⟨v, h1, h2⟩ := h
  refine ⟨v, (hB.block _ (block_lt h1) hne.symm).trans h1, h2.1, ?_⟩
  rcases h2.2 with h0 | ⟨g, cap, cur, rfl, h3, h4, h5⟩
  · exact .inl h0
  · refine .inr ⟨g, cap, cur, rfl, h3, (hB.block _ (block_lt h4) ?_).trans h4, h5⟩
    rintro rfl
    exact hnb ⟨_, h1, rfl⟩
theorem setB_other {w : World} {k b : Nat} {o : Obj} (h : k ≠ b) : (Go.ChangeMaps.setBlock w b o).heap[k]? = w.heap[k]? := by
  simp [Go.ChangeMaps.setBlock, h.symm]
theorem setB_cells {w : World} {b : Nat} {o o' : Obj} (hb : w.heap[b]? = some o) (hc : o.isCells = false) {k : Nat} {cs : Array Value} {t : TypeId} (h : w.heap[k]? = some (.cells cs t)) : (Go.ChangeMaps.setBlock w b o').heap[k]? = some (.cells cs t) := by
  have hk : k ≠ b := by
    rintro rfl
    rw [hb] at h
    cases h
    simp [Obj.isCells] at hc
  exact (setB_other hk).trans h
theorem setB_back {w : World} {bb b : Nat} {o : Obj} (h : bb ≠ b) {k : Nat} (hk : Back bb (Go.ChangeMaps.setBlock w b o) k) : Back bb w k := by
  obtain ⟨v, h1, h2⟩ := hk
  exact ⟨v, (setB_other h).symm.trans h1, h2⟩
theorem Memo.obj {Bad : Value → Prop} {M n : Nat} {w : World} (h : Memo Bad M n w) : ∃ o, w.heap[M]? = some o ∧ o.isCells = false := by
  obtain ⟨es, clock, h1, -⟩ := h
  exact ⟨_, h1, rfl⟩
/-- A round's region: the further search is called in it, last of all. -/
structure R10 (q : TQ) (w9 : World) (n2 : Nat) (pr : List Nat) (d : Bool) (w' : World) : Prop where
  tk : TK q w9 w'
  no : d = false → Below w9.heap.size w9 w'
  yes : d = true → Memo (BadK q) q.Mb n2 w' ∧ BestAt q w' pr
theorem R10.next {q : TQ} {w9 w' w'' : World} {n2 : Nat} {pr : List Nat} {d : Bool} (hb9 : q.bb < w9.heap.size) (hq9 : q.Bq ≤ w9.heap.size) (h : R10 q w9 n2 pr d w') (hb : Below w'.heap.size w' w'') : R10 q w9 n2 pr d w'' := by
  have h1 := h.tk.size
  refine ⟨h.tk.t (TK.below hb (by omega) (by omega)), fun e => (h.no e).trans (hb.mono h1), fun e => ?_⟩
  obtain ⟨h2, h3⟩ := h.yes e
  exact ⟨h2.keep (hb.block _ h2.lt), h3.keep (fun k cs t hk => block_keep hk hb)⟩
theorem R10.start {q : TQ} {w9 w' : World} {n2 : Nat} {pr : List Nat} (hb9 : q.bb < w9.heap.size) (hq9 : q.Bq ≤ w9.heap.size) (hb : Below w9.heap.size w9 w') : R10 q w9 n2 pr false w' := ⟨TK.below hb hq9 hb9, fun _ => hb, fun e => by cases e⟩
/-- What the search of a kind says of the whole. -/
theorem firstP_kind {q : TQ} {l' : Nat} {c : List Int} (hc : c.length = 5) (h5 : q.ks.length ≤ 5) (h : lostB q c (stOf q c) = false) : firstP q (l' + 1) c (stOf q c) = (List.range q.ks.length).findSome? fun k => (kindP q l' c k).map (k :: ·) := by
  rw [firstP, if_neg (by rw [h]; decide)]
  have : ∀ k ∈ List.range q.ks.length, ((firstP q l' (incr c k) (afterV q.s (stOf q c) (q.ks.getD k default))).map (k :: ·)) = (kindP q l' c k).map (k :: ·) := by
    intro k hk
    rw [List.mem_range] at hk
    unfold kindP
    rw [stOf_incr q hc (by omega)]
  generalize hf : (fun k => (firstP q l' (incr c k) (afterV q.s (stOf q c) (q.ks.getD k default))).map (k :: ·)) = f
  generalize hg : (fun k => (kindP q l' c k).map (k :: ·)) = g
  have h2 : ∀ k ∈ List.range q.ks.length, f k = g k := by rw [← hf, ← hg]; exact this
  generalize List.range q.ks.length = L at *
  clear hf hg this
  induction L with
  | nil => rfl
  | cons a L ih =>
    rw [List.findSome?_cons, List.findSome?_cons, h2 a (by simp), ih (fun k hk => h2 k (by simp [hk]))]
theorem kinds_none {K : Nat} {xs : List (KindI K)} (hx : xs.map Subtype.val = List.range K) {g : Nat → Option (List Nat)} (h : ∀ x ∈ xs, g x.1 = none) : (List.range K).findSome? (fun k => (g k).map (k :: ·)) = none := by
  refine range_none fun k hk => ?_
  have hm : k ∈ xs.map Subtype.val := by rw [hx]; exact List.mem_range.2 hk
  obtain ⟨x, hx1, rfl⟩ := List.mem_map.1 hm
  rw [h x hx1]; rfl
theorem kinds_some {K : Nat} {ys : List (KindI K)} {x : KindI K} (hx : (ys ++ [x]).map Subtype.val = List.range (ys ++ [x]).length) {g : Nat → Option (List Nat)} (h : ∀ y ∈ ys, g y.1 = none) {p : List Nat} (hp : g x.1 = some p) : (List.range K).findSome? (fun k => (g k).map (k :: ·)) = some (x.1 :: p) := by
  rw [List.map_append, List.length_append, List.length_singleton, List.range_succ] at hx
  have h1 := List.append_inj' hx rfl
  have h2 : x.1 = ys.length := by simpa using h1.2
  refine range_some (j := x.1) (fun k hk => ?_) (by rw [hp]; rfl) K x.2
  have hm : k ∈ ys.map Subtype.val := by rw [h1.1]; exact List.mem_range.2 (by omega)
  obtain ⟨y, hy1, rfl⟩ := List.mem_map.1 hm
  rw [h y hy1]; rfl
end Go.Proofs.YtpkggjobdmchlaaGreatDoor
/- dip plainly: a plan of Fewest, followed at any warmth. -/
namespace Go.Proofs.YtpkggjobdmchlaaGreatDoor
/-- The ends of a taper after a dip. -/
def stepF (s : DShop) (p : Int × Int) (d : DDip) (x : Int) : Int × Int := (p.1 + (growV s d x).1, p.2 + (growV s d x).2)
/-- .. after some dips. -/
def stF (s : DShop) (p : Int × Int) (plan : List DDip) (warm : List Int) : Nat → Int × Int
  | 0 => p
  | i + 1 => stepF s (stF s p plan warm i) (plan.getD i default) (warm.getD i 0)
theorem stF_cons (s : DShop) (p : Int × Int) (d : DDip) (ds : List DDip) (x : Int) (xs : List Int) : ∀ i, stF s p (d :: ds) (x :: xs) (i + 1) = stF s (stepF s p d x) ds xs i
  | 0 => rfl
  | i + 1 => by rw [stF, stF_cons s p d ds x xs i]; rfl
theorem coat_anti {s : DShop} (hs : DOk s) {a b : Int} (h : a ≤ b) (sec : Int) : coatV s b sec ≤ coatV s a sec := by
  have h1 := hs.thin
  have h2 := hs.back
  have h3 : 0 ≤ s.back * max 0 (sec - s.hold) := Int.mul_nonneg h2.1 (by omega)
  unfold coatV
  generalize s.back * max 0 (sec - s.hold) = m at *
  have h4 := Int.mul_le_mul_of_nonneg_right h (show 0 ≤ s.thin + m by omega)
  omega
theorem grow_between {s : DShop} (hs : DOk s) (d : DDip) {x : Int} (h1 : (warmOf s d).1 ≤ x) (h2 : x ≤ (warmOf s d).2) : ((hotV s d).1 ≤ (growV s d x).1 ∧ (growV s d x).1 ≤ (coldV s d).1) ∧ (hotV s d).2 ≤ (growV s d x).2 ∧ (growV s d x).2 ≤ (coldV s d).2 := by
  have a1 := coat_anti hs (show (warmOf s d).1 - s.melt ≤ x - s.melt by omega) d.seconds
  have a2 := coat_anti hs (show x - s.melt ≤ (warmOf s d).2 - s.melt by omega) d.seconds
  have a3 := coat_anti hs (show (warmOf s d).1 - s.melt ≤ x - s.melt by omega) (d.seconds - s.draw)
  have a4 := coat_anti hs (show x - s.melt ≤ (warmOf s d).2 - s.melt by omega) (d.seconds - s.draw)
  unfold hotV coldV growV
  split <;> simp only <;> omega
/-- A state is in a range. -/
def InR (p : Int × Int) (r : DRng) : Prop := (r.top.1 ≤ p.1 ∧ p.1 ≤ r.top.2) ∧ r.foot.1 ≤ p.2 ∧ p.2 ≤ r.foot.2
theorem InR.after {s : DShop} (hs : DOk s) {d : DDip} {x : Int} (h1 : (warmOf s d).1 ≤ x) (h2 : x ≤ (warmOf s d).2) {p : Int × Int} {r : DRng} (h : InR p r) : InR (stepF s p d x) (afterV s r d) := by
  have hb := grow_between hs d h1 h2
  unfold InR at *
  unfold stepF afterV
  simp only
  omega
theorem outB_all {lo hi : Int} {l : List Int} (h : outB lo hi l = false) : ∀ x ∈ l, lo ≤ x ∧ x ≤ hi := by
  intro x hx
  unfold outB at h
  rw [List.any_eq_false] at h
  have := h x hx
  simp only [Bool.not_eq_true] at this
  exact outOneF.1 this
/-- A state in a range in the wish. -/
theorem wish_in {q : TQ} {r : DRng} {p : Int × Int} (h : wishB q r = true) (hp : InR p r) : (q.lo ≤ p.1 ∧ p.1 ≤ q.hi) ∧ q.lo ≤ p.2 ∧ p.2 ≤ q.hi := by
  unfold wishB at h
  rw [Bool.and_eq_true] at h
  have h1 : outB q.lo q.hi [r.top.1, r.top.2, r.foot.1, r.foot.2] = false := by simpa using h.1
  have h2 := outB_all h1
  have a1 := h2 r.top.1 (by simp)
  have a2 := h2 r.top.2 (by simp)
  have a3 := h2 r.foot.1 (by simp)
  have a4 := h2 r.foot.2 (by simp)
  unfold InR at hp
  omega
theorem not_lost {q : TQ} {c : List Int} {r : DRng} {p : Int × Int} (hc : c ≠ zeroC) (h : lostB q c r = false) (hp : InR p r) : q.t.wick ≤ p.1 ∧ q.t.wick ≤ p.2 := by
  unfold lostB at h
  simp only [hc, decide_false, Bool.not_false, Bool.and_true, decide_eq_false_iff_not] at h
  unfold InR at hp
  omega
theorem incr_ne {c : List Int} {l : Nat} (hc : CntB c l) {k : Nat} (hk : k < 5) : incr c k ≠ zeroC := by
  intro h
  have h1 := incr_getD hc.len hk k
  rw [if_pos rfl, h] at h1
  have h2 : zeroC.getD k 0 = 0 := by rcases (by omega : k = 0 ∨ k = 1 ∨ k = 2 ∨ k = 3 ∨ k = 4) with rfl | rfl | rfl | rfl | rfl <;> rfl
  have h3 := hc.c k
  omega
/-- The kinds of a plan. -/
def planOf (q : TQ) (p : List Nat) : List DDip := p.map fun k => q.ks.getD k default
/-- The warmths are in the baths' ranges. -/
def WarmIn (s : DShop) (plan : List DDip) (warm : List Int) : Prop := ∀ i, i < plan.length → (warmOf s (plan.getD i default)).1 ≤ warm.getD i 0 ∧ warm.getD i 0 ≤ (warmOf s (plan.getD i default)).2
theorem path_ok {q : TQ} (hs : DOk q.s) (h5 : q.ks.length ≤ 5) : ∀ (l : Nat) (c : List Int) (r : DRng) (p : List Nat), CntB c l → firstP q l c r = some p → p.length = l ∧ (∀ k ∈ p, k < q.ks.length) ∧ lostB q c r = false ∧
    ∀ (warm : List Int) (a : Int × Int), warm.length = l → WarmIn q.s (planOf q p) warm → InR a r → (∀ i, 0 < i → i ≤ l → q.t.wick ≤ (stF q.s a (planOf q p) warm i).1 ∧ q.t.wick ≤ (stF q.s a (planOf q p) warm i).2) ∧
      (q.lo ≤ (stF q.s a (planOf q p) warm l).1 ∧ (stF q.s a (planOf q p) warm l).1 ≤ q.hi) ∧ q.lo ≤ (stF q.s a (planOf q p) warm l).2 ∧ (stF q.s a (planOf q p) warm l).2 ≤ q.hi
  | 0, c, r, p, hc, h => by
    rw [firstP] at h
    split at h
    · cases h
    rename_i h1
    split at h
    · rename_i h2
      cases h
      refine ⟨rfl, by simp, by simpa using h1, fun warm a _ _ ha => ⟨fun i h3 h4 => by omega, wish_in h2 ha⟩⟩
    · cases h
  | l + 1, c, r, p, hc, h => by
    rw [firstP] at h
    split at h
    · cases h
    rename_i h1
    obtain ⟨k, hk, hp⟩ := List.exists_of_findSome?_eq_some h
    rw [List.mem_range] at hk
    rw [Option.map_eq_some_iff] at hp
    obtain ⟨p', hp', rfl⟩ := hp
    obtain ⟨i1, i2, i3, i4⟩ := path_ok hs h5 l _ _ p' (hc.incr (by omega)) hp'
    refine ⟨by rw [List.length_cons, i1], ?_, by simpa using h1, ?_⟩
    · intro j hj
      rcases List.mem_cons.1 hj with rfl | hj
      · exact hk
      · exact i2 j hj
    · intro warm a hw hwi ha
      match warm, hw with
      | x :: xs, hw =>
      have hpl : planOf q (k :: p') = q.ks.getD k default :: planOf q p' := rfl
      rw [hpl] at hwi ⊢
      have hx := hwi 0 (by simp)
      have ha' := ha.after hs hx.1 hx.2
      obtain ⟨j1, j2⟩ := i4 xs (stepF q.s a (q.ks.getD k default) x) (by simpa using hw) (fun i hi => by simpa using hwi (i + 1) (by simpa using hi)) ha'
      refine ⟨fun i hi0 hil => ?_, ?_⟩
      · match i, hi0 with
        | 1, _ =>
          rw [stF_cons]
          exact not_lost (incr_ne hc (by omega)) i3 ha'
        | i + 2, _ =>
          rw [stF_cons]
          exact j1 (i + 1) (by omega) (by omega)
      · rw [stF_cons]
        exact j2
end Go.Proofs.YtpkggjobdmchlaaGreatDoor
