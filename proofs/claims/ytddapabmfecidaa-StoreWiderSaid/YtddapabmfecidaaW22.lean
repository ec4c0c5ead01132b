/- Cheapest: what the rest of a way costs; the map of what is known. -/
import Derived.Test.YtddapabmfecidaaW17
import Derived.Maps.OwnSet
import Derived.DeepKeys5
namespace Go.Proofs.Ytddapabmfecidaa
open Go.RowKit Go.ChangeMaps Go.MapKept

def Sea.moveC (s : Sea) (st : Int) (i : Nat) : Int := if 0 ≤ st ∧ st ≠ i then s.move else 0
def Sea.rent (s : Sea) (i : Nat) : Int := (s.stores.getD i default).rent
/-- One store tried: rec is what the rest costs behind it. -/
def bestStep (s : Sea) (rec : Nat → Int → List Int → Int × Int) (d : Nat) (st h : Int) (j : List Int) (b : Int × Int) (i : Nat) : Int × Int :=
  if s.safe (s.hotN (s.at i d) h) (s.jumpN (s.at i d) j) then
    (if (rec i (s.hotN (s.at i d) h) (s.jumpN (s.at i d) j)).1 < 0 then b
     else if b.1 < 0 ∨ (rec i (s.hotN (s.at i d) h) (s.jumpN (s.at i d) j)).1 + s.rent i + s.moveC st i < b.1 then ((rec i (s.hotN (s.at i d) h) (s.jumpN (s.at i d) j)).1 + s.rent i + s.moveC st i, (i : Int)) else b)
  else b
def bestTo (s : Sea) (rec : Nat → Int → List Int → Int × Int) (d : Nat) (st h : Int) (j : List Int) : Nat → Int × Int
  | 0 => (-1, -1)
  | k + 1 => bestStep s rec d st h j (bestTo s rec d st h j k) k
/-- What the rest of a way costs, and into which store it goes first. -/
def bestR (s : Sea) : Nat → Nat → Int → Int → List Int → Int × Int
  | 0, _, _, _, _ => (0, -1)
  | r + 1, d, st, h, j => bestTo s (fun i h' j' => bestR s r (d + 1) i h' j') d st h j s.stores.length

theorem bestStep_bound (s : Sea) (hg : Good s) (rec : Nat → Int → List Int → Int × Int) (m : Int) (_hm : 0 ≤ m) (hr : ∀ i h j, -1 ≤ (rec i h j).1 ∧ (rec i h j).1 ≤ m) (d : Nat) (st h : Int) (j : List Int) (b : Int × Int)
    (hb : (-1 ≤ b.1 ∧ b.1 ≤ m + 200000) ∧ -1 ≤ b.2 ∧ b.2 < s.stores.length) (i : Nat) (hi : i < s.stores.length) :
    (-1 ≤ (bestStep s rec d st h j b i).1 ∧ (bestStep s rec d st h j b i).1 ≤ m + 200000) ∧ -1 ≤ (bestStep s rec d st h j b i).2 ∧ (bestStep s rec d st h j b i).2 < s.stores.length := by
  have h1 := hr i (s.hotN (s.at i d) h) (s.jumpN (s.at i d) j)
  have h2 := hg.rent i hi
  have h3 := hg.move
  have h4 : 0 ≤ s.moveC st i ∧ s.moveC st i ≤ 100000 := by unfold Sea.moveC; split <;> omega
  unfold bestStep
  split
  · split
    · exact hb
    · split
      · unfold Sea.rent
        simp only
        omega
      · exact hb
  · exact hb
theorem bestTo_bound (s : Sea) (hg : Good s) (rec : Nat → Int → List Int → Int × Int) (m : Int) (hm : 0 ≤ m) (hr : ∀ i h j, -1 ≤ (rec i h j).1 ∧ (rec i h j).1 ≤ m) (d : Nat) (st h : Int) (j : List Int) : ∀ k, k ≤ s.stores.length →
    (-1 ≤ (bestTo s rec d st h j k).1 ∧ (bestTo s rec d st h j k).1 ≤ m + 200000) ∧ -1 ≤ (bestTo s rec d st h j k).2 ∧ (bestTo s rec d st h j k).2 < s.stores.length
  | 0, _ => by have := hg.stores; unfold bestTo; refine ⟨⟨?_, ?_⟩, ?_, ?_⟩ <;> simp only <;> omega
  | k + 1, hk => bestStep_bound s hg rec m hm hr d st h j _ (bestTo_bound s hg rec m hm hr d st h j k (by omega)) k (by omega)
theorem bestR_bound (s : Sea) (hg : Good s) : ∀ (r d : Nat) (st h : Int) (j : List Int), -1 ≤ (bestR s r d st h j).1 ∧ (bestR s r d st h j).1 ≤ r * 200000
  | 0, d, st, h, j => by simp [bestR]
  | r + 1, d, st, h, j => by
    have := (bestTo_bound s hg (fun i h' j' => bestR s r (d + 1) i h' j') (r * 200000) (by omega) (fun i h' j' => bestR_bound s hg r (d + 1) i h' j') d st h j s.stores.length (Nat.le_refl _)).1
    unfold bestR
    omega

/-- A state's cells. -/
def stCells (d : Nat) (st h : Int) (j : List Int) : List Int := ((d : Int) - 1) :: st :: h :: j
def I64 (l : List Int) : Prop := ∀ x ∈ l, (Lit.int .i64 x).wf = true

theorem mapM_some {α β : Type} (f : α → Option β) : ∀ l : List α, (∀ x ∈ l, ∃ y, f x = some y) → ∃ ys, l.mapM f = some ys
  | [], _ => ⟨[], rfl⟩
  | x :: l, h => by
    obtain ⟨y, hy⟩ := h x List.mem_cons_self
    obtain ⟨ys, hys⟩ := mapM_some f l (fun z hz => h z (List.mem_cons_of_mem _ hz))
    exact ⟨y :: ys, by simp [List.mapM_cons, hy, hys]⟩
theorem keyLits_int (d : Nat) (x : Int) (hx : (Lit.int .i64 x).wf = true) : Try.prog.keyLits (d + 1) 3 [.int .i64 x] = some [.int .i64 x] := by
  unfold Program.keyLits
  rw [Try.underlying3]
  simp [hx]
theorem cells99 : Try.prog.cellsOf 99 = 64 := by kernel_rfl
theorem cells93 : Try.prog.cellsOf 93 = 61 := by kernel_rfl
theorem cells3 : Try.prog.cellsOf 3 = 1 := by kernel_rfl
theorem keyLits_arr (d : Nat) (j : List Int) (hj : j.length = 61) (hw : I64 j) : ∃ ys, Try.prog.keyLits (d + 2) 93 (j.map (Value.int .i64)) = some ys := by
  unfold Program.keyLits
  rw [Try.underlying93]
  simp only [List.length_map, hj, cells93, if_true, cells3]
  obtain ⟨ys, hys⟩ := mapM_some (fun i => Try.prog.keyLits (d + 1) 3 (((j.map (Value.int .i64)).drop (i * 1)).take 1)) (List.range 61) (fun i hi => by
    rw [List.mem_range] at hi
    have e : ((j.map (Value.int .i64)).drop (i * 1)).take 1 = [.int .i64 (j[i]'(by omega))] := by
      rw [Nat.mul_one, List.drop_eq_getElem_cons (by simpa [hj] using hi)]
      simp
    rw [e]
    exact ⟨_, keyLits_int d _ (hw _ (List.getElem_mem _))⟩)
  exact ⟨ys.flatten, by rw [hys]; rfl⟩
theorem types_size : Try.prog.types.size = 143 := by kernel_rfl
theorem key99 : Try.prog.keyType 99 = true := by kernel_rfl
theorem under99 : ∃ fs, Try.prog.underlying 99 = some (.struct fs) ∧ fs.all (·.name != "_") = true ∧ fs.toList.map (fun f => (f.type, f.offset)) = [(3, 0), (3, 1), (3, 2), (93, 3)] := ⟨_, Try.underlying99, by kernel_rfl, by kernel_rfl⟩
/-- A state is a key. -/
theorem keyOf_state (a b c : Int) (j : List Int) (hj : j.length = 61) (hw : I64 (a :: b :: c :: j)) : ∃ kl, keyOf Try.prog 99 (.agg (ints (a :: b :: c :: j))) = some kl := by
  obtain ⟨fs, hu, hn, hf⟩ := under99
  have hsz : (ints (a :: b :: c :: j)).size = 64 := by rw [ints_size]; simp [hj]
  have hformed : Value.formed Try.prog 99 (.agg (ints (a :: b :: c :: j))) = true := by
    unfold Value.formed; simp only [hu]; rw [hsz, cells99]; rfl
  unfold keyOf
  simp only [hu]
  rw [key99, hformed, Bool.and_self, if_pos rfl]
  have : ∃ ys, Try.prog.keyLits (Try.prog.types.size + 1) 99 (Value.agg (ints (a :: b :: c :: j))).cells.toList = some ys := by
    rw [types_size]
    have e : (Value.agg (ints (a :: b :: c :: j))).cells.toList = (a :: b :: c :: j).map (Value.int .i64) := by simp [Value.cells, ints]
    rw [e]
    unfold Program.keyLits
    rw [hu]
    have hl : ((a :: b :: c :: j).map (Value.int .i64)).length = Try.prog.cellsOf 99 := by rw [cells99]; simp [hj]
    simp only [hl, hn, and_self, if_true]
    have hz : ∀ f ∈ fs.toList, ∃ y, Try.prog.keyLits 143 f.type ((((a :: b :: c :: j).map (Value.int .i64)).drop f.offset).take (Try.prog.cellsOf f.type)) = some y := by
      intro f hmem
      have hm : (f.type, f.offset) ∈ fs.toList.map (fun f => (f.type, f.offset)) := List.mem_map.2 ⟨f, hmem, rfl⟩
      rw [hf] at hm
      simp only [List.mem_cons, Prod.mk.injEq, List.not_mem_nil, or_false] at hm
      have wa := hw a (by simp)
      have wb := hw b (by simp)
      have wc := hw c (by simp)
      rcases hm with ⟨h1, h2⟩ | ⟨h1, h2⟩ | ⟨h1, h2⟩ | ⟨h1, h2⟩ <;> rw [h1, h2]
      · exact ⟨_, by rw [cells3]; exact keyLits_int 142 a wa⟩
      · exact ⟨_, by rw [cells3]; exact keyLits_int 142 b wb⟩
      · exact ⟨_, by rw [cells3]; exact keyLits_int 142 c wc⟩
      · have e2 : (((a :: b :: c :: j).map (Value.int .i64)).drop 3).take (Try.prog.cellsOf 93) = j.map (Value.int .i64) := by rw [cells93]; simp [List.take_of_length_le, hj]
        rw [e2]
        exact keyLits_arr 141 j hj (fun x hx => hw x (by simp [hx]))
    obtain ⟨ys, hys⟩ := mapM_some _ fs.toList hz
    exact ⟨ys.flatten, by rw [hys]; rfl⟩
  obtain ⟨ys, hys⟩ := this
  exact ⟨_, by rw [hys]; rfl⟩
theorem laid0 : laidOutB Try.prog = true := by kernel_rfl
theorem law99 : Maps.Keyed Try.prog 99 := Maps.Keyed.of_law (deep_law_gate (k := 99) laid0 (by rw [types_size]; omega) (by rw [types_size]; decide) key99 (by kernel_rfl))

def planV (p : Int × Int) : Value := .agg #[.int .i64 p.1, .int .i64 p.2]
def Rk : Value → Option (DataW Unit × List MemPlace) := fun _ => some (.agg [], [])
/-- The map in block M knows plans of this season. -/
def Memo (s : Sea) (M n : Nat) (w : World) : Prop :=
  ∃ es clock, w.heap[M]? = some (.map es clock) ∧ WideElems.Fit Try.prog 99 Rk es clock ∧ es.size ≤ n ∧
    ∀ x ∈ es.toList, ∃ (d : Nat) (st h : Int) (j : List Int), x.key = .agg (ints (stCells d st h j)) ∧ x.val = planV (bestR s (s.len - d) d st h j)
theorem Memo.start (s : Sea) (w : World) : Memo s w.heap.size 0 (w.alloc (.map #[] 0)) :=
  ⟨#[], 0, (MapKept.heap_alloc w _).1, ⟨by simp, stamped_empty 0, by simp⟩, Nat.le_refl _, by simp⟩
theorem Memo.keep {s : Sea} {M n : Nat} {w w' : World} (h : Memo s M n w) (hk : w'.heap[M]? = w.heap[M]?) : Memo s M n w' := by
  obtain ⟨es, clock, h1, h2⟩ := h
  exact ⟨es, clock, hk.trans h1, h2⟩
theorem Memo.mono {s : Sea} {M n n' : Nat} {w : World} (h : Memo s M n w) (hn : n ≤ n') : Memo s M n' w := by
  obtain ⟨es, clock, h1, h2, h3, h4⟩ := h
  exact ⟨es, clock, h1, h2, Nat.le_trans h3 hn, h4⟩
theorem ints_inj {l l' : List Int} (h : ints l = ints l') : l = l' := by
  unfold ints at h
  have h := congrArg Array.toList h
  simp only at h
  exact List.map_inj_right (f := Value.int .i64) (by intro a b h; cases h; rfl) |>.1 h
theorem stCells_inj {d d' : Nat} {st st' h h' : Int} {j j' : List Int} (e : stCells d st h j = stCells d' st' h' j') : d = d' ∧ st = st' ∧ h = h' ∧ j = j' := by
  unfold stCells at e
  simp only [List.cons.injEq] at e
  obtain ⟨e1, e2, e3, e4⟩ := e
  exact ⟨by omega, e2, e3, e4⟩
theorem zero110 (w : World) : (zeroValue 110).run Try.prog w = .ok (planV (0, 0)) w := by kernel_rfl
/-- What is known of a state. -/
theorem Memo.look {s : Sea} {M n : Nat} {w : World} (hm : Memo s M n w) (d : Nat) (st h : Int) (j : List Int) (hj : j.length = 61) (hw : I64 (stCells d st h j)) :
    (Instr.lookup 107 (.map (some M)) (.agg (ints (stCells d st h j))) true).run Try.prog w = .ok (.tuple #[planV (0, 0), .bool false]) w ∨
    (Instr.lookup 107 (.map (some M)) (.agg (ints (stCells d st h j))) true).run Try.prog w = .ok (.tuple #[planV (bestR s (s.len - d) d st h j), .bool true]) w := by
  obtain ⟨es, clock, hb, F, _, hv⟩ := hm
  obtain ⟨kl, hkl⟩ := keyOf_state _ st h j hj hw
  rcases Maps.fit_look true law99 Try.underlying107 (zero110 w) hb F hkl with ⟨hrun, _, _⟩ | ⟨e0, y, hmem, hkey, hrun, _⟩
  · exact .inl hrun
  · obtain ⟨d', st', h', j', h1, h2⟩ := hv e0 hmem
    rw [hkey] at h1
    have := stCells_inj (ints_inj (by injection h1))
    obtain ⟨rfl, rfl, rfl, rfl⟩ := this
    rw [h2] at hrun
    exact .inr hrun
/-- A plan is noted down. -/
theorem Memo.note {s : Sea} {M n : Nat} {w : World} (hm : Memo s M n w) (hn : n < maxLen) (d : Nat) (st h : Int) (j : List Int) (hj : j.length = 61) (hw : I64 (stCells d st h j)) :
    ∃ w', (Instr.mapUpdate 107 (.map (some M)) (.agg (ints (stCells d st h j))) (planV (bestR s (s.len - d) d st h j))).run Try.prog w = .ok () w' ∧ Memo s M (n + 1) w' ∧ Keeps w w' M := by
  obtain ⟨es, clock, hb, F, hsz, hv⟩ := hm
  obtain ⟨kl, hkl⟩ := keyOf_state _ st h j hj hw
  obtain ⟨es', clock', hrun, F', hput, _, _, hall⟩ := Maps.fit_store (R' := Rk) (val := planV (bestR s (s.len - d) d st h j)) law99 Try.underlying107 hb F (Nat.lt_of_le_of_lt hsz hn) (fun _ _ _ _ hz => hz) hkl rfl
  refine ⟨_, hrun, ⟨es', clock', heap_setBlock_same hb _, F', ?_, ?_⟩, ⟨rfl, rfl, rfl, by simp [setBlock], fun i _ hi => heap_setBlock_other hb _ (fun e => hi (by rw [e]))⟩⟩
  · have e1 : es'.size = ((es'.toList.map (WideElems.rg Try.prog 99 Rk)).foldr DataW.insert []).length := by rw [length_sorted]; simp
    rw [e1, hput]
    unfold putKey
    rw [length_insert]
    have e2 := List.length_filter_le (notKey kl) ((es.toList.map (WideElems.rg Try.prog 99 Rk)).foldr DataW.insert [])
    rw [length_sorted] at e2
    simp at e2
    omega
  · intro x hx
    rcases hall x hx with ⟨h1, _⟩ | ⟨h1, h2⟩
    · exact hv x h1
    · exact ⟨d, st, h, j, h1, h2⟩
end Go.Proofs.Ytddapabmfecidaa
