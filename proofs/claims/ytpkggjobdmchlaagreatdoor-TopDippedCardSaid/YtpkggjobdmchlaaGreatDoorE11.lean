/- dip.Fewest: the map of what was tried in vain. -/
import Derived.Maps.OwnSet
import Derived.DeepKeys5
import Derived.WideKeyEntry
import Derived.Test.YtpkggjobdmchlaaGreatDoorE10
namespace Go.Proofs.YtpkggjobdmchlaaGreatDoor
open Go.RowKit Go.ChangeMaps Go.MapKept
def I64 (l : List Int) : Prop := ∀ x ∈ l, (Lit.int .i64 x).wf = true
theorem mapM_some {α β : Type} (f : α → Option β) : ∀ l : List α, (∀ x ∈ l, ∃ y, f x = some y) → ∃ ys, l.mapM f = some ys
  | [], _ => ⟨[], rfl⟩
  | x :: l, h => by
    obtain ⟨y, hy⟩ := h x List.mem_cons_self
    obtain ⟨ys, hys⟩ := mapM_some f l (fun z hz => h z (List.mem_cons_of_mem _ hz))
    exact ⟨y :: ys, by simp [List.mapM_cons, hy, hys]⟩
theorem keyLits_int (d : Nat) (x : Int) (hx : (Lit.int .i64 x).wf = true) : Tryz.prog.keyLits (d + 1) 3 [.int .i64 x] = some [.int .i64 x] := by
  unfold Program.keyLits
  rw [Tryz.underlying3]
  simp [hx]
theorem cellsTR : Tryz.prog.cellsOf 116 = 6 := by kernel_rfl
theorem cellsCT : Tryz.prog.cellsOf 114 = 5 := by kernel_rfl
theorem cellsINT : Tryz.prog.cellsOf 3 = 1 := by kernel_rfl
theorem keyLits_arr (d : Nat) (j : List Int) (hj : j.length = 5) (hw : I64 j) : ∃ ys, Tryz.prog.keyLits (d + 2) 114 (j.map (Value.int .i64)) = some ys := by
  unfold Program.keyLits
  rw [Tryz.underlying114]
  simp only [List.length_map, hj, cellsCT, if_true, cellsINT]
  obtain ⟨ys, hys⟩ := mapM_some (fun i => Tryz.prog.keyLits (d + 1) 3 (((j.map (Value.int .i64)).drop (i * 1)).take 1)) (List.range 5) (fun i hi => by
    rw [List.mem_range] at hi
    have e : ((j.map (Value.int .i64)).drop (i * 1)).take 1 = [.int .i64 (j[i]'(by omega))] := by
      rw [Nat.mul_one, List.drop_eq_getElem_cons (by simpa [hj] using hi)]
      simp
    rw [e]
    exact ⟨_, keyLits_int d _ (hw _ (List.getElem_mem _))⟩)
  exact ⟨ys.flatten, by rw [hys]; rfl⟩
theorem types_size : Tryz.prog.types.size = 260 := by kernel_rfl
theorem keyTR : Tryz.prog.keyType 116 = true := by kernel_rfl
theorem underTR : ∃ fs, Tryz.prog.underlying 116 = some (.struct fs) ∧ fs.all (·.name != "_") = true ∧ fs.toList.map (fun f => (f.type, f.offset)) = [(114, 0), (3, 5)] := ⟨_, Tryz.underlying116, by kernel_rfl, by kernel_rfl⟩
theorem keyOf_tried (j : List Int) (a : Int) (hj : j.length = 5) (hw : I64 (j ++ [a])) : ∃ kl, keyOf Tryz.prog 116 (.agg (ints (j ++ [a]))) = some kl := by
  obtain ⟨fs, hu, hn, hf⟩ := underTR
  have hsz : (ints (j ++ [a])).size = 6 := by rw [ints_sizeC]; simp [hj]
  have hformed : Value.formed Tryz.prog 116 (.agg (ints (j ++ [a]))) = true := by
    unfold Value.formed; simp only [hu]; rw [hsz, cellsTR]; rfl
  unfold keyOf
  simp only [hu]
  rw [keyTR, hformed, Bool.and_self, if_pos rfl]
  have : ∃ ys, Tryz.prog.keyLits (Tryz.prog.types.size + 1) 116 (Value.agg (ints (j ++ [a]))).cells.toList = some ys := by
    rw [types_size]
    have e : (Value.agg (ints (j ++ [a]))).cells.toList = (j ++ [a]).map (Value.int .i64) := by simp [Value.cells, ints]
    rw [e]
    unfold Program.keyLits
    rw [hu]
    have hl : ((j ++ [a]).map (Value.int .i64)).length = Tryz.prog.cellsOf 116 := by rw [cellsTR]; simp [hj]
    simp only [hl, hn, and_self, if_true]
    have hz : ∀ f ∈ fs.toList, ∃ y, Tryz.prog.keyLits 260 f.type ((((j ++ [a]).map (Value.int .i64)).drop f.offset).take (Tryz.prog.cellsOf f.type)) = some y := by
      intro f hmem
      have hm : (f.type, f.offset) ∈ fs.toList.map (fun f => (f.type, f.offset)) := List.mem_map.2 ⟨f, hmem, rfl⟩
      rw [hf] at hm
      simp only [List.mem_cons, Prod.mk.injEq, List.not_mem_nil, or_false] at hm
      have wa := hw a (by simp)
      rcases hm with ⟨h1, h2⟩ | ⟨h1, h2⟩ <;> rw [h1, h2]
      · have e2 : (((j ++ [a]).map (Value.int .i64)).drop 0).take (Tryz.prog.cellsOf 114) = j.map (Value.int .i64) := by rw [cellsCT, List.drop_zero, List.map_append, List.take_append_of_le_length (by simp [hj]), List.take_of_length_le (by simp [hj])]
        rw [e2]
        exact keyLits_arr 258 j hj (fun x hx => hw x (by simp [hx]))
      · have e2 : (((j ++ [a]).map (Value.int .i64)).drop 5).take (Tryz.prog.cellsOf 3) = [.int .i64 a] := by rw [cellsINT, List.map_append, List.drop_append_of_le_length (by simp [hj]), List.drop_of_length_le (by simp [hj])]; rfl
        rw [e2]
        exact ⟨_, keyLits_int 259 a wa⟩
    obtain ⟨ys, hys⟩ := mapM_some _ fs.toList hz
    exact ⟨ys.flatten, by rw [hys]; rfl⟩
  obtain ⟨ys, hys⟩ := this
  exact ⟨_, by rw [hys]; rfl⟩
theorem laid0 : laidOutB Tryz.prog = true := by kernel_rfl
theorem lawK : WideMaps.KeyLaw Tryz.prog 116 := deep_law_gate (k := 116) laid0 (by rw [types_size]; omega) (by rw [types_size]; decide) keyTR (by kernel_rfl)
theorem lawTR : Maps.Keyed Tryz.prog 116 := Maps.Keyed.of_law lawK
def Rk : Value → Option (DataW Unit × List MemPlace) := fun _ => some (.agg [], [])
/-- The map in block M holds numbers; one that is above 0 says something of its key. -/
def Memo (Bad : Value → Prop) (M n : Nat) (w : World) : Prop :=
  ∃ es clock, w.heap[M]? = some (.map es clock) ∧ WideElems.Fit Tryz.prog 116 Rk es clock ∧ es.size ≤ n ∧ ∀ x ∈ es.toList, ∃ v : Int, x.val = .int .i64 v ∧ (0 < v → Bad x.key)
theorem Memo.start (Bad : Value → Prop) (w : World) : Memo Bad w.heap.size 0 (w.alloc (.map #[] 0)) :=
  ⟨#[], 0, (MapKept.heap_alloc w _).1, ⟨by simp, stamped_empty 0, by simp⟩, Nat.le_refl _, by simp⟩
theorem Memo.keep {Bad : Value → Prop} {M n : Nat} {w w' : World} (h : Memo Bad M n w) (hk : w'.heap[M]? = w.heap[M]?) : Memo Bad M n w' := by
  obtain ⟨es, clock, h1, h2⟩ := h
  exact ⟨es, clock, hk.trans h1, h2⟩
theorem Memo.mono {Bad : Value → Prop} {M n n' : Nat} {w : World} (h : Memo Bad M n w) (hn : n ≤ n') : Memo Bad M n' w := by
  obtain ⟨es, clock, h1, h2, h3, h4⟩ := h
  exact ⟨es, clock, h1, h2, Nat.le_trans h3 hn, h4⟩
theorem Memo.lt {Bad : Value → Prop} {M n : Nat} {w : World} (h : Memo Bad M n w) : M < w.heap.size := by
  obtain ⟨es, clock, h1, -⟩ := h
  exact block_lt h1
theorem zeroINT (w : World) : (zeroValue 3).run Tryz.prog w = .ok (.int .i64 0) w := by kernel_rfl
theorem Memo.look {Bad : Value → Prop} {M n : Nat} {w : World} (hm : Memo Bad M n w) (j : List Int) (a : Int) (hj : j.length = 5) (hw : I64 (j ++ [a])) :
    ∃ v : Int, (Instr.lookup 111 (.map (some M)) (.agg (ints (j ++ [a]))) false).run Tryz.prog w = .ok (.int .i64 v) w ∧ (0 < v → Bad (.agg (ints (j ++ [a])))) := by
  obtain ⟨es, clock, hb, F, _, hv⟩ := hm
  obtain ⟨kl, hkl⟩ := keyOf_tried j a hj hw
  rcases Maps.fit_look false lawTR Tryz.underlying111 (zeroINT w) hb F hkl with ⟨hrun, _, _⟩ | ⟨e0, y, hmem, hkey, hrun, _⟩
  · exact ⟨0, by simpa using hrun, fun h => absurd h (by omega)⟩
  · obtain ⟨v, h1, h2⟩ := hv e0 hmem
    rw [h1] at hrun
    rw [hkey] at h2
    exact ⟨v, by simpa using hrun, h2⟩
theorem heap_setB {w : World} {b : Nat} {o : Obj} (h : w.heap[b]? = some o) (e : Obj) : (setBlock w b e).heap[b]? = some e := by
  have := (Array.getElem?_eq_some_iff.1 h).1
  simp [setBlock, this]
theorem setBlock_self {w : World} {b : Nat} {o : Obj} (h : w.heap[b]? = some o) : setBlock w b o = w := by
  unfold setBlock
  cases w with
  | mk heap tape drawn os output =>
    congr 1
    apply Array.ext
    · simp
    · intro i h1 h2
      rw [Array.getElem_setIfInBounds]
      split
      · rename_i he
        subst he
        exact (Array.getElem?_eq_some_iff.1 h).2.symm
      · rfl
/-- An entry is made; then a number is laid into it. -/
theorem Memo.entry {Bad : Value → Prop} {M n : Nat} {w : World} (hm : Memo Bad M n w) (hn : n < maxLen) (j : List Int) (a : Int) (hj : j.length = 5) (hw : I64 (j ++ [a])) (hbad : Bad (.agg (ints (j ++ [a])))) :
    ∃ (v0 : Int) (st : Nat) (es1 : Array MapEntry) (clock1 : Nat), (Instr.mapEntry 111 (.map (some M)) (.agg (ints (j ++ [a])))).run Tryz.prog w = .ok (.tuple #[.int .i64 v0, goInt st]) (setBlock w M (.map es1 clock1)) ∧ Memo Bad M (n + 1) (setBlock w M (.map es1 clock1)) ∧
      ((Instr.lookup 111 (.map (some M)) (.agg (ints (j ++ [a]))) false).run Tryz.prog w = .ok (.int .i64 v0) w ∧ (Instr.lookup 111 (.map (some M)) (.agg (ints (j ++ [a]))) false).run Tryz.prog (setBlock w M (.map es1 clock1)) = .ok (.int .i64 v0) (setBlock w M (.map es1 clock1))) ∧
      ∀ (w2 : World) (x : Int), w2.heap[M]? = some (.map es1 clock1) → ∃ w3, (Instr.entryStore 111 (.map (some M)) (goInt st) (.int .i64 x)).run Tryz.prog w2 = .ok () w3 ∧ Memo Bad M (n + 1) w3 ∧ (∃ o : Obj, o.isCells = false ∧ w3 = setBlock w2 M o) := by
  obtain ⟨es, clock, hb, F, hsz, hv⟩ := hm
  obtain ⟨kl, hkl⟩ := keyOf_tried j a hj hw
  obtain ⟨v0, st, es1, clock1, hE, hcase, hS⟩ := WideElems.entry_then_store (R := Rk) lawK Tryz.underlying111 (z := .int .i64 0) (fun u => zeroINT u) hb F hkl
  have hv0 : ∃ z : Int, v0 = .int .i64 z := by
    rcases hcase with ⟨e0, h0, _, h2⟩ | ⟨_, h2⟩
    · obtain ⟨v, h3, _⟩ := hv e0 h0
      exact ⟨v, h2.trans h3⟩
    · exact ⟨0, h2⟩
  obtain ⟨v0, rfl⟩ := hv0
  have key : ∀ (x : Int), ∃ es' clock', (Instr.mapUpdate 111 (.map (some M)) (.agg (ints (j ++ [a]))) (.int .i64 x)).run Tryz.prog w = .ok () (setBlock w M (.map es' clock')) ∧ WideElems.Fit Tryz.prog 116 Rk es' clock' ∧ es'.size ≤ n + 1 ∧ ∀ y ∈ es'.toList, ∃ v : Int, y.val = .int .i64 v ∧ (0 < v → Bad y.key) := by
    intro x
    obtain ⟨es', clock', hrun, F', hput, _, _, hall⟩ := Maps.fit_store (R' := Rk) (val := .int .i64 x) lawTR Tryz.underlying111 hb F (Nat.lt_of_le_of_lt hsz hn) (fun _ _ _ _ hz => hz) hkl rfl
    refine ⟨es', clock', hrun, F', ?_, ?_⟩
    · have e1 : es'.size = ((es'.toList.map (WideElems.rg Tryz.prog 116 Rk)).foldr DataW.insert []).length := by rw [length_sorted]; simp
      rw [e1, hput]
      unfold putKey
      rw [length_insert]
      have e2 := List.length_filter_le (notKey kl) ((es.toList.map (WideElems.rg Tryz.prog 116 Rk)).foldr DataW.insert [])
      rw [length_sorted] at e2
      simp at e2
      omega
    · intro y hy
      rcases hall y hy with ⟨h1, _⟩ | ⟨h1, h2⟩
      · exact hv y h1
      · exact ⟨x, h2, fun _ => h1 ▸ hbad⟩
  have hsame := fun (w2 : World) (e e' : Obj) (h : setBlock w2 M e = setBlock w2 M e') (hb2 : ∃ o, w2.heap[M]? = some o) => (show e = e' from by
    obtain ⟨o, ho⟩ := hb2
    have h1 : (setBlock w2 M e).heap[M]? = some e := heap_setB ho e
    have h2 : (setBlock w2 M e').heap[M]? = some e' := heap_setB ho e'
    rw [h, h2] at h1
    exact (Option.some.inj h1).symm)
  have both : Memo Bad M (n + 1) (setBlock w M (.map es1 clock1)) ∧ (Instr.lookup 111 (.map (some M)) (.agg (ints (j ++ [a]))) false).run Tryz.prog w = .ok (.int .i64 v0) w ∧ (Instr.lookup 111 (.map (some M)) (.agg (ints (j ++ [a]))) false).run Tryz.prog (setBlock w M (.map es1 clock1)) = .ok (.int .i64 v0) (setBlock w M (.map es1 clock1)) := by
    rcases lawK.find w hkl es.toList F.keys with ⟨h1, h2⟩ | ⟨j', e0, h1, h2, h3⟩
    · have hE2 : (Instr.mapEntry 111 (.map (some M)) (.agg (ints (j ++ [a])))).run Tryz.prog w = .ok (.tuple #[.int .i64 0, goInt clock]) (setBlock w M (.map (es.push ⟨.agg (ints (j ++ [a])), .int .i64 0, clock⟩) (clock + 1))) := by
        simp [Instr.mapEntry, run_underlying Tryz.underlying111, MapKept.run_getObj_map hb, lawK.check w false hkl, h1, MapKept.run_setObj_map _ hb, Result.andThen, setBlock]
      have hU : (Instr.mapUpdate 111 (.map (some M)) (.agg (ints (j ++ [a]))) (.int .i64 0)).run Tryz.prog w = .ok () (setBlock w M (.map (es.push ⟨.agg (ints (j ++ [a])), .int .i64 0, clock⟩) (clock + 1))) := by
        simp [Instr.mapUpdate, run_underlying Tryz.underlying111, MapKept.run_getObj_map hb, lawK.check w false hkl, h1, MapKept.run_setObj_map _ hb, Result.andThen, setBlock]
      obtain ⟨es2, clock2, k1, F2, ks, kv⟩ := key 0
      rw [hU] at k1
      rw [hE2] at hE
      have e1 := hsame w _ _ (by injection k1) ⟨_, hb⟩
      have e2 := hsame w _ _ (by injection hE) ⟨_, hb⟩
      have e3 : v0 = 0 := by
        have h := hE
        simp only [Result.ok.injEq, Value.tuple.injEq] at h
        have h4 := congrArg (fun z : Array Value => z[0]?) h.1
        simp at h4
        exact h4.symm
      have hes : es2 = es.push ⟨.agg (ints (j ++ [a])), .int .i64 0, clock⟩ := by cases e1; rfl
      rw [← e2, e1]
      refine ⟨⟨es2, clock2, heap_setBlock_same hb _, F2, ks, kv⟩, ?_, ?_⟩
      · rw [e3]
        simp [Instr.lookup, run_underlying Tryz.underlying111, MapKept.run_getObj_map hb, lawK.check w _ hkl, h1, Result.andThen]
      · have hb2 : (setBlock w M (.map es2 clock2)).heap[M]? = some (.map es2 clock2) := heap_setBlock_same hb _
        rcases Maps.fit_look false lawTR Tryz.underlying111 (zeroINT _) hb2 F2 hkl with ⟨hrun, hno, _⟩ | ⟨e0, y, hmem, hkey, hrun, _⟩
        · exact absurd rfl (hno ⟨.agg (ints (j ++ [a])), .int .i64 0, clock⟩ (by rw [hes]; simp))
        · have hv : e0.val = .int .i64 0 := by
            rw [hes] at hmem
            simp only [Array.toList_push, List.mem_append, List.mem_singleton] at hmem
            rcases hmem with hm | hm
            · exact absurd hkey (h2 e0 hm)
            · rw [hm]
          rw [hv] at hrun
          rw [e3]
          simpa using hrun
    · have hj : es[j']? = some e0 := by simpa using h2
      have hsm : es.modify j' (fun e => { e with key := .agg (ints (j ++ [a])) }) = es := by
        apply Array.ext'
        rw [Array.toList_modify, modify_eq_set _ _ _ _ h2]
        have : ({ e0 with key := .agg (ints (j ++ [a])) } : MapEntry) = e0 := by rw [← h3]
        rw [this]
        exact WideElems.set_self _ _ _ h2
      have hE2 : (Instr.mapEntry 111 (.map (some M)) (.agg (ints (j ++ [a])))).run Tryz.prog w = .ok (.tuple #[e0.val, goInt e0.born]) (setBlock w M (.map es clock)) := by
        simp [Instr.mapEntry, run_underlying Tryz.underlying111, MapKept.run_getObj_map hb, lawK.check w false hkl, h1, hj, h3, lawK.stays w hkl, hsm, MapKept.run_setObj_map _ hb, Result.andThen, setBlock]
      rw [hE2] at hE
      have e2 := hsame w _ _ (by injection hE) ⟨_, hb⟩
      have e3 : e0.val = .int .i64 v0 := by
        have h := hE
        simp only [Result.ok.injEq, Value.tuple.injEq] at h
        have h4 := congrArg (fun z : Array Value => z[0]?) h.1
        simp at h4
        exact h4
      rw [← e2]
      refine ⟨⟨es, clock, heap_setBlock_same hb _, F, by omega, hv⟩, ?_, ?_⟩
      · simp [Instr.lookup, run_underlying Tryz.underlying111, MapKept.run_getObj_map hb, lawK.check w _ hkl, h1, e3, Result.andThen]
      · rw [setBlock_self hb]
        simp [Instr.lookup, run_underlying Tryz.underlying111, MapKept.run_getObj_map hb, lawK.check w _ hkl, h1, e3, Result.andThen]
  refine ⟨v0, st, es1, clock1, hE, both.1, both.2, ?_⟩
  · intro w2 x hw2
    obtain ⟨es', clock', h1, h2⟩ := hS w2 (.int .i64 x) hw2
    obtain ⟨es2, clock2, k1, F2, ks, kv⟩ := key x
    rw [h2] at k1
    have e := hsame w _ _ (by injection k1) ⟨_, hb⟩
    cases e
    exact ⟨_, h1, ⟨_, _, heap_setBlock_same hw2 _, F2, ks, kv⟩, ⟨_, rfl, rfl⟩⟩
end Go.Proofs.YtpkggjobdmchlaaGreatDoor
