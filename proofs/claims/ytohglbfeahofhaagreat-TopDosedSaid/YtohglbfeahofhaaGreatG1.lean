/- What the walks of Top's laws share: rows, boxes, results, regions that call. -/
import Derived.Test.YtohglbfeahofhaaGreatK2
namespace Go.Proofs.YtohglbfeahofhaaGreat
open Go.RowKit
section
variable {P : Program}
theorem results_row2 {fn : Func} {p q : Tmp} {T1 T2 : TypeId} (h : fn.results = #[.cell p T1, .cell q T2]) (tmps : Array Value) (w : World) (g1 g2 : Nat) (t1 t2 : TypeId) (c1 c2 : Array Value) (d1 d2 : TypeDesc)
 (hp : tmps.getD p undef = .pointer (some ⟨g1, 0, none⟩)) (hq : tmps.getD q undef = .pointer (some ⟨g2, 0, none⟩)) (hg1 : w.heap[g1]? = some (.cells c1 t1)) (hg2 : w.heap[g2]? = some (.cells c2 t2))
 (hu1 : P.underlying T1 = some d1) (hu2 : P.underlying T2 = some d2) (hd1 : (match d1 with | .struct _ | .array _ _ => true | _ => false) = true) (hd2 : (match d2 with | .struct _ | .array _ _ => true | _ => false) = true)
 (hi1 : (P.info? T1).map (·.size) = some c1.size) (hi2 : (P.info? T2).map (·.size) = some c2.size) :
 (results fn tmps).run P w = .ok (.tuple #[.agg c1, .agg c2]) w := by
 have hp' : tmps[p]?.getD undef = .pointer (some ⟨g1, 0, none⟩) := by simpa using hp
 have hq' : tmps[q]?.getD undef = .pointer (some ⟨g2, 0, none⟩) := by simpa using hq
 simp [results, h, hp', hq', asAddr, run_loadVar_row w g1 t1 T1 c1 (0, 0) d1 hg1 hu1 hd1 hi1, run_loadVar_row w g2 t2 T2 c2 (0, 0) d2 hg2 hu2 hd2 hi2]
theorem results_row2_tmp {fn : Func} {p q u : Tmp} {T1 T2 : TypeId} (h : fn.results = #[.cell p T1, .cell q T2, .tmp u]) (tmps : Array Value) (w : World) (g1 g2 : Nat) (t1 t2 : TypeId) (c1 c2 : Array Value) (d1 d2 : TypeDesc) (v : Value)
 (hp : tmps.getD p undef = .pointer (some ⟨g1, 0, none⟩)) (hq : tmps.getD q undef = .pointer (some ⟨g2, 0, none⟩)) (hv : tmps.getD u undef = v) (hg1 : w.heap[g1]? = some (.cells c1 t1)) (hg2 : w.heap[g2]? = some (.cells c2 t2))
 (hu1 : P.underlying T1 = some d1) (hu2 : P.underlying T2 = some d2) (hd1 : (match d1 with | .struct _ | .array _ _ => true | _ => false) = true) (hd2 : (match d2 with | .struct _ | .array _ _ => true | _ => false) = true)
 (hi1 : (P.info? T1).map (·.size) = some c1.size) (hi2 : (P.info? T2).map (·.size) = some c2.size) :
 (results fn tmps).run P w = .ok (.tuple #[.agg c1, .agg c2, v]) w := by
 have hp' : tmps[p]?.getD undef = .pointer (some ⟨g1, 0, none⟩) := by simpa using hp
 have hq' : tmps[q]?.getD undef = .pointer (some ⟨g2, 0, none⟩) := by simpa using hq
 have hv' : tmps[u]?.getD undef = v := by simpa using hv
 simp [results, h, hp', hq', hv', asAddr, run_loadVar_row w g1 t1 T1 c1 (0, 0) d1 hg1 hu1 hd1 hi1, run_loadVar_row w g2 t2 T2 c2 (0, 0) d2 hg2 hu2 hd2 hi2]
theorem results_row_tmp {fn : Func} {p u : Tmp} {T1 : TypeId} (h : fn.results = #[.cell p T1, .tmp u]) (tmps : Array Value) (w : World) (g1 : Nat) (t1 : TypeId) (c1 : Array Value) (d1 : TypeDesc) (v : Value)
 (hp : tmps.getD p undef = .pointer (some ⟨g1, 0, none⟩)) (hv : tmps.getD u undef = v) (hg1 : w.heap[g1]? = some (.cells c1 t1))
 (hu1 : P.underlying T1 = some d1) (hd1 : (match d1 with | .struct _ | .array _ _ => true | _ => false) = true) (hi1 : (P.info? T1).map (·.size) = some c1.size) :
 (results fn tmps).run P w = .ok (.tuple #[.agg c1, v]) w := by
 have hp' : tmps[p]?.getD undef = .pointer (some ⟨g1, 0, none⟩) := by simpa using hp
 have hv' : tmps[u]?.getD undef = v := by simpa using hv
 simp [results, h, hp', hv', asAddr, run_loadVar_row w g1 t1 T1 c1 (0, 0) d1 hg1 hu1 hd1 hi1]
end
theorem Bs.snocU {w W : World} {l : List (Nat × Obj)} (h : Bs w l W) {b : Nat} {o : Obj} (hl : ∀ p ∈ l, p.1 < b) (hb : W.heap[b]? = some o) (hw : w.heap.size ≤ b) : Bs w (l ++ [(b, o)]) W := by
 refine ⟨?_, ?_, ?_, h.bel⟩
 ·intro p hp
  rcases List.mem_append.1 hp with hp | hp
  ·exact h.get' p hp
  ·simp only [List.mem_singleton] at hp
   subst hp
   exact hb
 ·rw [List.map_append, List.pairwise_append]
  refine ⟨h.inc, by simp, ?_⟩
  intro a ha b' hb'
  simp only [List.mem_map] at ha hb'
  obtain ⟨p, hp, rfl⟩ := ha
  obtain ⟨q, hq, rfl⟩ := hb'
  simp only [List.mem_singleton] at hq
  subst hq
  exact hl p hp
 ·intro p hp
  rcases List.mem_append.1 hp with hp | hp
  ·exact h.ge p hp
  ·simp only [List.mem_singleton] at hp
   subst hp
   exact hw
theorem wpList_valueU {P : Program} {ops : Array Oper} {rest : List Oper} {o : Oper} {a : Act} {w w' : World} {Q : Exit → Act → World → Prop} (hgd : o.guard = none) (v : Value)
 (hr : (execOp a.eval o).run P w = .ok (.value v) w') (h : wpList P ops Q rest (a.put o.dst v) w') : wpList P ops Q (o :: rest) a w :=
 wpList_plain hgd fun _ hK => by unfold Oper.wp; rw [hr]; exact hK _ _ h
theorem wpList_bdU {P : Program} {ops : Array Oper} {rest : List Oper} {o : Oper} {a : Act} {w : World} {Q : Exit → Act → World → Prop} (hgd : o.guard = none) (ty : TypeId) (parts : Array (Nat × Operand)) (ho : o.op = .build ty parts) (vs : Array (Nat × Value)) (hv : parts.map (fun (p : Nat × Operand) => (p.1, a.eval p.2)) = vs)
 (cells : Array Value) (hr : (Instr.build ty vs).run P w = .ok (.agg cells) w) (h : wpList P ops Q rest (a.put o.dst (.agg cells)) w) : wpList P ops Q (o :: rest) a w := by
 refine wpList_valueU hgd (.agg cells) ?_ h
 unfold execOp
 simp only [ho]
 rw [show (parts.map fun x => (x.1, a.eval x.2)) = vs from hv] 
 simp only [Sem.run_bind, hr, Result.andThen_ok, Sem.run_pure]
/-- A row is stored: what else lies stays. -/
theorem wpList_store_bu {P : Program} {ops : Array Oper} {rest : List Oper} {o : Oper} {a : Act} {w0 w : World} {Q : Exit → Act → World → Prop} {l : List (Nat × Obj)} (hgd : o.guard = none) (ty : TypeId) (x y : Operand) (ho : o.op = .store ty x y) (H : Bs w0 l w) (i g : Nat) (cells old : Array Value) (t : TypeId) (hi : l[i]? = some (g, .cells old t))
 (hx : a.eval x = .pointer (some ⟨g, 0, none⟩)) (hy : a.eval y = .agg cells) (hn : (P.info? ty).map (·.size) = some cells.size) (hold : old.size = cells.size) (h1 : cells.all (·.oneCell') = true)
 (h : ∀ w', Bs w0 (l.set i (g, .cells cells t)) w' → (∀ k, k ≠ g → w'.heap[k]? = w.heap[k]?) → wpList P ops Q rest (a.put o.dst undef) w') : wpList P ops Q (o :: rest) a w :=
 wpList_store_row hgd ty x y ho g cells hx hy t old (H.get i hi) hn hold h1 (h _ (H.setRow i hi cells) (fun k hk => setRow_other w g k cells hk))
theorem ptr_injU {g g' : Nat} (h : Value.pointer (some ⟨g, 0, none⟩) = .pointer (some ⟨g', 0, none⟩)) : g = g' := by cases h; rfl
/-- One cell is stored; the heap is as long as it was. -/
theorem wpList_cell_bz {P : Program} {ops : Array Oper} {rest : List Oper} {o : Oper} {a : Act} {w0 w : World} {Q : Exit → Act → World → Prop} {l : List (Nat × Obj)} (hgd : o.guard = none) (ty : TypeId) (x y : Operand) (ho : o.op = .store ty x y) (H : Bs w0 l w) (i g j : Nat) (old : Array Value) (t : TypeId) (hi : l[i]? = some (g, .cells old t))
 (hx : a.eval x = .pointer (some ⟨g, j, none⟩)) (v : Value) (hy : a.eval y = v) (hj : j < old.size) (h1 : v.oneCell' = true) (hn : (P.info? ty).map (·.size) = some 1)
 (h : ∀ w', Bs w0 (l.set i (g, .cells (old.setIfInBounds j v) t)) w' → w'.heap.size = w.heap.size → wpList P ops Q rest (a.put o.dst undef) w') : wpList P ops Q (o :: rest) a w :=
 wpList_plain hgd fun _ hK => by
  have hc : w.cell? ⟨g, j, none⟩ = some old[j] := by rw [H.cell i hi]; simp [hj]
  unfold Oper.wp execOp
  simp only [ho, hx, hy, Instr.storeAt, Instr.sureAddr, Sem.run_bind, Sem.run_pure, Result.andThen_ok, run_store_at w g j ty v _ h1 hc (H.free i hi j) hn]
  exact hK _ _ (h _ (H.setCell i hi j v) (by simp))
theorem but_below {B g : Nat} {W w w' : World} (hb : Below B W w) (hB : B ≤ w.heap.size) (hg : B ≤ g) (h : But g w w') : Below B W w' :=
 hb.trans ⟨h.os, h.tape, h.output, h.size, fun k hk => h.block k (by omega) (by omega)⟩
/-- Two boxes are laid and filled, in any order. -/
structure Tb2 (W0 : World) (z1 f1 : Array Value) (T1 : TypeId) (z2 f2 : Array Value) (T2 : TypeId) (d1 d2 s1 s2 : Bool) (y1 y2 : Value) (w : World) : Prop where
 bel : Below W0.heap.size W0 w
 p : d1 = true → ∃ g, y1 = .pointer (some ⟨g, 0, none⟩) ∧ W0.heap.size ≤ g ∧ w.heap[g]? = some (.cells (cond s1 f1 z1) T1)
 q : d2 = true → ∃ g, y2 = .pointer (some ⟨g, 0, none⟩) ∧ W0.heap.size ≤ g ∧ w.heap[g]? = some (.cells (cond s2 f2 z2) T2)
 pq : d1 = true → d2 = true → y1 ≠ y2
section
variable {W0 w w' : World} {z1 f1 z2 f2 : Array Value} {T1 T2 : TypeId} {d1 d2 s1 s2 : Bool} {y1 y2 : Value}
theorem Tb2.start (W0 : World) : Tb2 W0 z1 f1 T1 z2 f2 T2 false false false false y1 y2 W0.drew := ⟨(Below.refl _ _).drew, fun h => (by cases h), fun h => (by cases h), fun h => (by cases h)⟩
theorem Tb2.put1 (h : Tb2 W0 z1 f1 T1 z2 f2 T2 d1 d2 false s2 y1 y2 w) : Tb2 W0 z1 f1 T1 z2 f2 T2 true d2 false s2 (.pointer (some ⟨w.heap.size, 0, none⟩)) y2 (w.alloc (.cells z1 T1)) := by
 refine ⟨h.bel.alloc h.bel.size _, fun _ => ⟨_, rfl, h.bel.size, heap_alloc_new _ _⟩, fun e => ?_, fun _ e he => ?_⟩
 ·obtain ⟨g, e1, e2, e3⟩ := h.q e; exact ⟨g, e1, e2, block_keep e3 ((Below.refl _ _).alloc (Nat.le_refl _) _)⟩
 ·obtain ⟨g, e1, e2, e3⟩ := h.q e
  rw [e1] at he
  have := ptr_injU he
  have := block_lt e3
  omega
theorem Tb2.put2 (h : Tb2 W0 z1 f1 T1 z2 f2 T2 d1 d2 s1 false y1 y2 w) : Tb2 W0 z1 f1 T1 z2 f2 T2 d1 true s1 false y1 (.pointer (some ⟨w.heap.size, 0, none⟩)) (w.alloc (.cells z2 T2)) := by
 refine ⟨h.bel.alloc h.bel.size _, fun e => ?_, fun _ => ⟨_, rfl, h.bel.size, heap_alloc_new _ _⟩, fun e _ he => ?_⟩
 ·obtain ⟨g, e1, e2, e3⟩ := h.p e; exact ⟨g, e1, e2, block_keep e3 ((Below.refl _ _).alloc (Nat.le_refl _) _)⟩
 ·obtain ⟨g, e1, e2, e3⟩ := h.p e
  rw [e1] at he
  have := ptr_injU he
  have := block_lt e3
  omega
theorem Tb2.store1 (h : Tb2 W0 z1 f1 T1 z2 f2 T2 true true false s2 y1 y2 w) {g : Nat} (hp : y1 = .pointer (some ⟨g, 0, none⟩)) (hC : Bs W0 [(g, .cells f1 T1)] w') (hB : ∀ k, k ≠ g → w'.heap[k]? = w.heap[k]?) : Tb2 W0 z1 f1 T1 z2 f2 T2 true true true s2 y1 y2 w' := by
 refine ⟨hC.bel, fun _ => ⟨g, hp, hC.le 0 rfl, hC.get 0 rfl⟩, fun e => ?_, h.pq⟩
 obtain ⟨g', e1, e2, e3⟩ := h.q e
 refine ⟨g', e1, e2, (hB g' ?_).trans e3⟩
 rintro rfl
 exact h.pq rfl rfl (hp.trans e1.symm)
theorem Tb2.store2 (h : Tb2 W0 z1 f1 T1 z2 f2 T2 true true s1 false y1 y2 w) {g : Nat} (hp : y2 = .pointer (some ⟨g, 0, none⟩)) (hC : Bs W0 [(g, .cells f2 T2)] w') (hB : ∀ k, k ≠ g → w'.heap[k]? = w.heap[k]?) : Tb2 W0 z1 f1 T1 z2 f2 T2 true true s1 true y1 y2 w' := by
 refine ⟨hC.bel, fun e => ?_, fun _ => ⟨g, hp, hC.le 0 rfl, hC.get 0 rfl⟩, h.pq⟩
 obtain ⟨g', e1, e2, e3⟩ := h.p e
 refine ⟨g', e1, e2, (hB g' ?_).trans e3⟩
 rintro rfl
 exact h.pq rfl rfl (e1.trans hp.symm)
end
theorem mulb {a b A B : Int} (h1 : 0 ≤ a ∧ a ≤ A) (h2 : 0 ≤ b ∧ b ≤ B) : 0 ≤ a * b ∧ a * b ≤ A * B := ⟨Int.mul_nonneg h1.1 h2.1, Int.mul_le_mul h1.2 h2.2 h2.1 (by omega)⟩
theorem wrapU {x : Int} (h : -1000000000000000000 ≤ x ∧ x ≤ 1000000000000000000) : wrap64 x = x := by unfold wrap64; omega
theorem intsIn_blk {w : World} {g n : Nat} {l : List Int} {cs : Array Value} (h : w.heap[g]? = some (.cells cs 3)) (hcs : cs = ints l) (hl : l.length ≤ 1000) (hn : l.length = n) : IntsIn .i64 w.heap.size w (.slice (some ⟨g, 0, none⟩) n n) l := by
 subst hn hcs
 refine ⟨_, _, rfl, by omega, .inr ⟨g, 0, rfl, block_lt h, fun i hi => ?_⟩⟩
 rw [cell_of_row w g _ _ _ _ h, Nat.zero_add, ints_get _ _ hi]
theorem IntsIn.atU {q : IntKind} {B : Nat} {w : World} {a : Option Addr} {n c : Nat} {l : List Int} (h : IntsIn q B w (.slice a n c) l) {i : Nat} (hi : i < l.length) : ∃ b o, a = some ⟨b, o, none⟩ ∧ b < B ∧ w.cell? ⟨b, o + i, none⟩ = some (.int q (l.getD i 0)) := by
 obtain ⟨a', c', e, -, h⟩ := h
 cases e
 rcases h with rfl | ⟨b, o, rfl, hb, h⟩
 ·simp at hi
 ·exact ⟨b, o, rfl, hb, h i hi⟩
theorem allocU (w : World) (o : Obj) : Below w.heap.size w (w.alloc o) := (Below.refl _ _).alloc (Nat.le_refl _) o
theorem takeU_snoc {α : Type} (l : List α) (k : Nat) (hk : k < l.length) (d : α) : l.take (k + 1) = l.take k ++ [l.getD k d] := by
 rw [List.take_add_one, List.getElem?_eq_getElem hk]
 simp [List.getD, hk]
theorem one_strU (x : ByteArray) : ∀ u ∈ [Value.string x], u.oneCell' = true := fun u hu => by simp at hu; subst hu; rfl
theorem nextU_all {p : Nat → Prop} {k : Nat} (h : ∀ i, i < k → p i) (hk : p k) : ∀ i, i < k + 1 → p i := fun i hi => by
 by_cases h1 : i = k
 ·rw [h1]; exact hk
 ·exact h i (by omega)
theorem Bs.grownU {w0 w w' : World} {l : List (Nat × Obj)} {base sz n : Nat} {e : TypeId} {v : Value} {xs : List Value} (h : Bs w0 l w) (ho : w.ownsRow base e sz v n xs) (hg : w.grownBy w' v.ownBlock) (hb : w0.heap.size ≤ base) (hl : ∀ p ∈ l, ∃ cs t, p.2 = .cells cs t ∧ t ≠ e) : Bs w0 l w' := by
 refine ⟨fun p hp => ?_, h.inc, h.ge, h.bel.trans (grown_below ho hg hb h.bel.size)⟩
 obtain ⟨cs, t, e1, e2⟩ := hl p hp
 have h1 := h.get' p hp
 rw [e1] at h1 ⊢
 exact grown_keep ho hg h1 e2
theorem Bs.snocB {w W0 W : World} {l : List (Nat × Obj)} (h : Bs w l W0) (hb : Below W0.heap.size W0 W) {o : Obj} (hg : W.heap[W0.heap.size]? = some o) : Bs w (l ++ [(W0.heap.size, o)]) W :=
 (h.call hb).snocU (fun p hp => (Array.getElem?_eq_some_iff.1 (h.get' p hp)).1) hg h.bel.size
theorem Bs.snocB2 {w W0 W : World} {l : List (Nat × Obj)} (h : Bs w l W0) (hb : Below W0.heap.size W0 W) {o o' : Obj} (hg : W.heap[W0.heap.size]? = some o) (hg' : W.heap[W0.heap.size + 1]? = some o') : Bs w (l ++ [(W0.heap.size, o)] ++ [(W0.heap.size + 1, o')]) W :=
 (h.snocB hb hg).snocU (fun p hp => by
  rcases List.mem_append.1 hp with hp | hp
  ·exact Nat.lt_succ_of_lt (Array.getElem?_eq_some_iff.1 (h.get' p hp)).1
  ·simp only [List.mem_singleton] at hp
   subst hp
   exact Nat.lt_succ_self _) hg' (Nat.le_succ_of_le h.bel.size)
theorem addr_addU (b o j : Nat) : ((⟨b, o, none⟩ : Addr).add j) = ⟨b, o + j, none⟩ := by
 unfold Addr.add
 split
 ·rename_i h; subst h; rfl
 ·rfl
/-- A row of cells is stored in the middle of a block of the list. -/
theorem wpList_mid_bs {P : Program} {ops : Array Oper} {rest : List Oper} {o : Oper} {a : Act} {w0 w : World} {Q : Exit → Act → World → Prop} {l : List (Nat × Obj)} (hgd : o.guard = none) (ty : TypeId) (x y : Operand) (ho : o.op = .store ty x y) (H : Bs w0 l w) (i g off : Nat) (c0 c1 : Value) (old : Array Value) (t : TypeId)
 (hl : l[i]? = some (g, .cells old t)) (hx : a.eval x = .pointer (some ⟨g, off, none⟩)) (hy : a.eval y = .agg #[c0, c1]) (hi : (P.info? ty).map (·.size) = some 2) (hoff : off + 2 ≤ old.size) (h0 : c0.oneCell' = true) (h1 : c1.oneCell' = true)
 (h : ∀ w', Bs w0 (l.set i (g, .cells ((old.setIfInBounds off c0).setIfInBounds (off + 1) c1) t)) w' → wpList P ops Q rest (a.put o.dst undef) w') : wpList P ops Q (o :: rest) a w := by
 have hg := H.get i hl
 have e : old = (old.toList.take off ++ old.toList.drop off).toArray := by rw [List.take_append_drop, Array.toArray_toList]
 have hg2 : w.heap[g]? = some (.cells (old.toList.take off ++ old.toList.drop off).toArray t) := by rw [← e]; exact hg
 refine wpList_mid_but hgd ty x y ho g off #[c0, c1] (old.toList.take off) (old.toList.drop off) t hg2 (by rw [List.length_take, Array.length_toList]; omega) hx hy hi (by rw [List.length_drop, Array.length_toList]; simp; omega) (by simp [h0, h1]) ?_
 intro w' hw hb
 refine h w' ?_
 have e2 : (old.toList.take off ++ #[c0, c1].toList ++ (old.toList.drop off).drop #[c0, c1].size).toArray = (old.setIfInBounds off c0).setIfInBounds (off + 1) c1 := by
  apply Array.ext'
  apply List.ext_getElem?
  intro j
  simp only [Array.toList_setIfInBounds, List.getElem?_set, List.drop_drop]
  rcases Nat.lt_trichotomy j off with hj | rfl | hj
  ·rw [List.getElem?_append_left (by simp; omega), List.getElem?_append_left (by simp; omega), List.getElem?_take, if_pos hj, if_neg (by omega), if_neg (by omega)]
  ·rw [List.getElem?_append_left (by simp; omega), List.getElem?_append_right (by simp; omega)]
   rw [show j - (old.toList.take j).length = 0 by simp; omega, if_neg (by omega), if_pos rfl, if_pos (by simp; omega)]
   rfl
  ·by_cases hj2 : j = off + 1
   ·subst hj2
    rw [List.getElem?_append_left (by simp; omega), List.getElem?_append_right (by simp; omega)]
    rw [show off + 1 - (old.toList.take off).length = 1 by simp; omega, if_pos rfl, if_pos (by simp; omega)]
    rfl
   ·rw [List.getElem?_append_right (by simp; omega), if_neg (by omega), if_neg (by omega), List.getElem?_drop]
    congr 1
    simp
    omega
 rw [← e2]
 exact H.but i hl hb hw
theorem own_some {w : World} {base n sz : Nat} {e : TypeId} {v : Value} {xs : List Value} (h : w.ownsRow base e sz v n xs) (hn : 0 < n) : ∃ g cap cur, v = .slice (some ⟨g, 0, none⟩) n cap ∧ base ≤ g ∧ w.heap[g]? = some (.cells cur e) ∧ n ≤ cap ∧ cur.size = cap * sz ∧ ∀ j, j < n * sz → cur[j]? = xs[j]? := by
 obtain ⟨hxl, h⟩ := h
 rcases h with ⟨rfl, h0⟩ | ⟨g, cap, cur, rfl, hb, hg, hn, hm, hc, ht⟩
 ·omega
 ·refine ⟨g, cap, cur, rfl, hb, hg, hn, hc, fun j hj => ?_⟩
  have e : (cur.toList.take (n * sz))[j]? = xs[j]? := by rw [ht]
  rw [List.getElem?_take, if_pos hj] at e
  rw [← Array.getElem?_toList, e]
theorem own_empty {w : World} {base : Nat} (e : TypeId) (sz : Nat) (h : base ≤ w.heap.size) : (w.alloc (.cells #[] e)).ownsRow base e sz (.slice (some ⟨w.heap.size, 0, none⟩) 0 0) 0 [] :=
 ⟨by simp, .inr ⟨_, 0, #[], rfl, h, heap_alloc_new _ _, Nat.le_refl _, Nat.zero_le _, by simp, by simp⟩⟩
theorem infoSpan : (Tryz.prog.info? 41).map (·.size) = some 2 := by kernel_rfl
theorem SpansIn.cells {w : World} {g n : Nat} {l : List (Int × Int)} {cs : Array Value} (h : w.heap[g]? = some (.cells cs 41)) (hn : l.length = n) (hl : l.length ≤ 1000) (hc : ∀ i, i < l.length → cs[i * 2]? = some (.int .i64 (l.getD i default).1) ∧ cs[i * 2 + 1]? = some (.int .i64 (l.getD i default).2)) :
 SpansIn w.heap.size w (.slice (some ⟨g, 0, none⟩) n n) l := by
 subst hn
 refine ⟨_, _, rfl, by omega, by omega, .inr ⟨g, 0, rfl, block_lt h, fun i hi => ?_⟩⟩
 have h2 := hc i hi
 constructor
 ·rw [Nat.zero_add]
  exact (cell_of_row _ _ _ _ _ _ h).trans h2.1
 ·rw [Nat.zero_add]
  exact (cell_of_row _ _ _ _ _ _ h).trans h2.2
theorem ownsRow_strsU {w : World} {base : Nat} {v : Value} {l : List ByteArray} (h : w.ownsRow base 9 1 v l.length (l.map Value.string)) (hl : l.length ≤ 1000) : SlIn rdStr w.heap.size w v l := by
 obtain ⟨_, h⟩ := h
 rcases h with ⟨rfl, h0⟩ | ⟨g, cap, cur, rfl, hb, hg, hn, hm, hc, ht⟩
 ·have : l = [] := List.eq_nil_of_length_eq_zero h0
  subst this
  exact ⟨none, 0, rfl, by simp, by simp, .inl rfl⟩
 ·refine ⟨_, cap, rfl, by omega, hn, .inr ⟨g, 0, rfl, block_lt hg, fun i hi => ?_⟩⟩
  show w.cell? _ = _
  rw [cell_of_row w g _ _ _ _ hg, Nat.zero_add, rdStr, Nat.mul_one]
  have e : (cur.toList.take (l.length * 1))[i]? = (l.map Value.string)[i]? := by rw [ht]
  rw [List.getElem?_take, if_pos (by omega), List.getElem?_map, List.getElem?_eq_getElem hi] at e
  rw [← Array.getElem?_toList, e, List.getD_eq_getElem?_getD, List.getElem?_eq_getElem hi]; rfl
theorem info9U : ∃ i, Tryz.prog.info? 9 = some i ∧ i.zero = some (.string ByteArray.empty) ∧ i.size = 1 ∧ i.bytes = 16 := by
 obtain ⟨i, h1, h2⟩ := Option.map_eq_some_iff.1 (show (Tryz.prog.info? 9).map (fun i => (i.zero, i.size, i.bytes)) = some (some (.string ByteArray.empty), 1, 16) by kernel_rfl)
 simp only [Prod.mk.injEq] at h2
 exact ⟨i, h1, h2⟩
end Go.Proofs.YtohglbfeahofhaaGreat
