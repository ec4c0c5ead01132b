/- slices.Clone of numbers; what a range over fitting needs. -/
import Derived.Test.YtohglbfeahofhaaGreatD20
import Derived.Test.YtohglbfeahofhaaGreatK5
import Derived.Test.YtohglbfeahofhaaGreatK7
namespace Go.Proofs.YtohglbfeahofhaaGreat
open Go.RowKit
/-- Three numbers in a block that is not r. -/
structure RowAt (lo r : Nat) (W : World) (v : Value) (l : List Int) : Prop where
  at' : ∃ g c cs, v = .slice (some ⟨g, 0, none⟩) 3 c ∧ lo ≤ g ∧ g ≠ r ∧ W.heap[g]? = some (.cells cs 3) ∧ ∀ i, i < 3 → cs[i]? = some (.int .i64 (l.getD i 0))
section
variable {lo r : Nat} {W W' : World} {v : Value} {l : List Int}
theorem RowAt.cells (h : RowAt lo r W v l) (hb : ∀ k cs t, r ≠ k → lo ≤ k → W.heap[k]? = some (Obj.cells cs t) → W'.heap[k]? = some (Obj.cells cs t)) : RowAt lo r W' v l := by
  obtain ⟨g, c, cs, h1, h2, h3, h4, h5⟩ := h.at'
  exact ⟨g, c, cs, h1, h2, h3, hb _ _ _ (Ne.symm h3) h2 h4, h5⟩
theorem RowAt.but (h : RowAt lo r W v l) (hb : But r W W') : RowAt lo r W' v l := h.cells fun k _ _ hk _ hh => (hb.block k (block_lt hh) (Ne.symm hk)).trans hh
theorem RowAt.low {b : Nat} (h : RowAt lo r W v l) (hlt : b < lo) (hb : But b W W') : RowAt lo r W' v l := h.cells fun k _ _ _ hl hh => (hb.block k (block_lt hh) (by omega)).trans hh
theorem RowAt.below (h : RowAt lo r W v l) (hb : Below W.heap.size W W') : RowAt lo r W' v l := h.but (But.of hb)
theorem RowAt.lower {lo' : Nat} (h : RowAt lo r W v l) (hl : lo' ≤ lo) : RowAt lo' r W v l := by
  obtain ⟨g, c, cs, h1, h2, h3, h4, h5⟩ := h.at'
  exact ⟨g, c, cs, h1, Nat.le_trans hl h2, h3, h4, h5⟩
theorem RowAt.ints (h : RowAt lo r W v l) (hl : l.length = 3) : IntsIn .i64 W.heap.size W v l := by
  obtain ⟨g, c, cs, rfl, h2, h3, h4, h5⟩ := h.at'
  exact ⟨_, c, by rw [hl], by omega, .inr ⟨g, 0, rfl, block_lt h4, fun i hi => by rw [Nat.zero_add, cell_of_row _ _ _ _ _ _ h4]; exact h5 i (by omega)⟩⟩
end
set_option maxRecDepth 100000 in
set_option maxHeartbeats 4000000 in
theorem cloneI_ok (l : List Int) (hl : l.length = 3) (g c : Nat) (w : World) (hg : w.heap[g]? = some (.cells (ints l) 3)) :
    Calls Tryz.prog 56 #[.slice (some ⟨g, 0, none⟩) 3 c] w fun e w' => ∃ v, e = .returned v ∧ RowAt w.heap.size g w' v l ∧ Below w.heap.size w w' := by
  have HG := Lib.hid hg
  have HL := Lib.hid hl
  clear hg hl
  obtain ⟨i0, hi0, hz0, hz1, hz2⟩ := info3'
  have HI0 := Lib.hid hi0
  have HZ0 := Lib.hid hz0
  have HZ1 := Lib.hid hz1
  have HZ2 := Lib.hid hz2
  clear hi0 hz0 hz1 hz2
  have hnews : Hid (∀ j u, (l.map (Value.int .i64))[j]? = some u → (w.alloc (.cells #[] 3)).cell? ((⟨g, 0, none⟩ : Addr).add j) = some u) := by
    intro j u hj
    rw [addr_addU, Nat.zero_add]
    have hB := ((Below.refl w.heap.size w).alloc (Nat.le_refl _) (.cells #[] 3))
    rw [(hB.cell (p := ⟨g, j, none⟩) (block_lt HG.out)), cell_of_row _ _ _ _ _ _ HG.out]
    unfold ints
    rw [List.getElem?_toArray]
    exact hj
  have hnil := fun w : World => Lib.run_eql_slice_nil (P := Tryz.prog) w 30 3 (some ⟨g, 0, none⟩) 3 c 0 0 Tryz.underlying30
  simp only [Option.isNone] at hnil
  go_enter Tryz.func56, Tryz.ntmps56
  go_wp2_with (at_builtin; refine wpList_append_own _ rfl _ _ 30 rfl w.heap.size 3 i0 (.int .i64 0) 1 8 Tryz.underlying30 HI0.out HZ0.out HZ1.out HZ2.out rfl (by decide) _ _ _ rfl (own_empty 3 1 (Nat.le_refl _)) ⟨g, 0, none⟩ 3 c (l.map (Value.int .i64)) rfl (by rw [List.length_map]; exact HL.out) hnews.out (by intro u hu; simp only [List.mem_map] at hu; obtain ⟨x, -, rfl⟩ := hu; rfl) (by unfold maxLen; omega) (by omega) (by simp) ?_; intro v' w12 hown12 hgrow12 _)
  go_ret
  have hlt12 := World.ownsRow.lt (own_empty (w := w) 3 1 (Nat.le_refl w.heap.size))
  obtain ⟨g', cap, cur, rfl, h2, h3, -, -, h6⟩ := own_some hown12 (by omega)
  refine ⟨_, rfl, ⟨g', cap, cur, rfl, h2, fun e => ?_, h3, fun i hi => ?_⟩, ((Below.refl w.heap.size w).alloc (Nat.le_refl _) (.cells #[] 3)).grown hgrow12 (by simp) (fun k e => (hlt12 k e).1)⟩
  · have := block_lt HG.out
    omega
  · rw [h6 i (by omega)]
    rw [List.nil_append, List.getElem?_map, List.getD_eq_getElem?_getD, List.getElem?_eq_getElem (by rw [HL.out]; exact hi)]
    rfl
theorem wpListIn_cell_but {P : Program} {ops : Array Oper} {rest : List Oper} {o : Oper} {a : Act} {w : World} {Q : Exit → Act → World → Prop} {Fe : Fence} {n : Nat} (hgd : o.guard = none) (ty : TypeId) (x y : Operand) (ho : o.op = .store ty x y) (g j : Nat) (old : Array Value) (t : TypeId) (hi : w.heap[g]? = some (.cells old t))
    (hx : a.eval x = .pointer (some ⟨g, j, none⟩)) (v : Value) (hy : a.eval y = v) (hj : j < old.size) (h1 : v.oneCell' = true) (hn : (P.info? ty).map (·.size) = some 1)
    (h : ∀ w', w'.heap[g]? = some (.cells (old.setIfInBounds j v) t) → But g w w' → wpListIn Fe n P ops Q rest (a.put o.dst undef) w') : wpListIn Fe n P ops Q (o :: rest) a w :=
  wpListIn_plain hgd fun _ hK => by
    have hc : w.cell? ⟨g, j, none⟩ = some old[j] := by rw [cell_of_row w g j _ _ _ hi]; simp [hj]
    unfold Oper.wpIn
    refine And.intro (fun f hf => by simp [Oper.about, ho] at hf) ?_
    rw [Oper.semAt_plain Fe a.eval o (by simp [ho])]
    unfold execOp
    simp only [ho, hx, hy, Instr.storeAt, Instr.sureAddr, Sem.run_bind, Sem.run_pure, Result.andThen_ok, run_store_at w g j ty v _ h1 hc (frozen_of_row w g j _ _ hi) hn]
    exact hK _ _ (h _ (heap_setCell_same w g j old t v hi) (But.setCell g j w v))
theorem cells_turnF {W : World} {l : Nat} {o o' : Obj} (hl : W.heap[l]? = some o) (hc : o.isCells = false) (k : Nat) (cs : Array Value) (t : TypeId) (h : W.heap[k]? = some (.cells cs t)) : (W.putObj l o').heap[k]? = some (.cells cs t) := by
  by_cases e : k = l
  · subst e
    rw [h] at hl
    cases hl
    simp [Obj.isCells] at hc
  · exact (World.putObj_heap_other e).trans h
theorem FitK.but {Bq b : Nat} {G : Nat → Prop} {W W' : World} (hb : But b W W') (hg : G b) (h1 : Bq ≤ b) (h2 : Bq ≤ W.heap.size) : FitK Bq G W W' :=
  ⟨hb.size, hb.below h1 h2, fun k _ _ hk h => (hb.block k (block_lt h) (fun e => hk (e ▸ hg))).trans h⟩
theorem FitK.below {Bq : Nat} {G : Nat → Prop} {W W' : World} (hb : Below W.heap.size W W') (h2 : Bq ≤ W.heap.size) : FitK Bq G W W' :=
  ⟨hb.size, hb.mono h2, fun _ _ _ _ h => block_keep h hb⟩
theorem Keeps.but {B b : Nat} {W W' : World} (hb : But b W W') (h : b < B) : KeepsFrom B W W' := ⟨hb.size, fun k o hB hk _ => (hb.block k (block_lt hk) (by omega)).trans hk⟩
theorem Keeps.below {B : Nat} {W W' : World} (hb : Below W.heap.size W W') : KeepsFrom B W W' := ⟨hb.size, fun _ _ _ hk _ => block_keep hk hb⟩
theorem results_c2_tmp {fn : Func} {p q u : Tmp} (h : fn.results = #[.cell p 30, .cell q 3, .tmp u]) (tmps : Array Value) (w : World) (g1 g2 : Nat) (v1 v2 v3 : Value) (hp : tmps.getD p undef = .pointer (some ⟨g1, 0, none⟩)) (hq : tmps.getD q undef = .pointer (some ⟨g2, 0, none⟩)) (hu : tmps.getD u undef = v3) (h1 : w.cell? ⟨g1, 0, none⟩ = some v1) (h2 : w.cell? ⟨g2, 0, none⟩ = some v2) :
    (results fn tmps).run Tryz.prog w = .ok (.tuple #[v1, v2, v3]) w := by
  have hp' : tmps[p]?.getD undef = .pointer (some ⟨g1, 0, none⟩) := by simpa using hp
  have hq' : tmps[q]?.getD undef = .pointer (some ⟨g2, 0, none⟩) := by simpa using hq
  have hu' : tmps[u]?.getD undef = v3 := by simpa using hu
  simp [results, h, hp', hq', hu', asAddr, loadVar, Sem.run_bind, go_sem, h1, h2]
end Go.Proofs.YtohglbfeahofhaaGreat
