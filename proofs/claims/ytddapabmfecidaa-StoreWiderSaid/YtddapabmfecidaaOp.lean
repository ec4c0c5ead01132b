/- The arguments of the laws, opened: seasons, ways, lists of small numbers. -/
import Derived.Test.YtddapabmfecidaaRw
import Derived.Test.YtddapabmfecidaaW26
import Derived.Deep.Slices
import Derived.ChangeSlices
namespace Go.Proofs.Ytddapabmfecidaa
open Go.ChangeShapes Go.WideShapes Go.ChangeAt Go.RowKit Go.Deep
set_option maxRecDepth 100000
section
variable {H : Type} {enc : TypeId × Value → H} {w : World} {base : Nat} {sp : Nat → Bool} {held : Bool}
theorem cells28 : Try.prog.cellsOf 28 = 4 := by kernel_rfl
theorem cells31 : Try.prog.cellsOf 31 = 6 := by kernel_rfl
theorem cells29 : Try.prog.cellsOf 29 = 1 := by kernel_rfl
theorem cells66 : Try.prog.cellsOf 66 = 3 := by kernel_rfl
theorem cells9 : Try.prog.cellsOf 9 = 1 := by kernel_rfl
theorem cells50 : Try.prog.cellsOf 50 = 1 := by kernel_rfl
theorem cells53 : Try.prog.cellsOf 53 = 2 := by kernel_rfl
theorem cellsI3 : Try.prog.cellsOf 3 = 1 := by kernel_rfl
theorem cellsS33 : Try.prog.cellsOf 33 = 1 := by kernel_rfl

/-- What is read fits a machine. -/
def Fits (t : TypeId) (d : DataW H) : Prop := ∀ n ∈ d.weights Try.prog t, n ≤ reachBytes
theorem weightsAll_mem {e : TypeId} {d : DataW H} {ds : List (DataW H)} (hd : d ∈ ds) {n : Nat} (hn : n ∈ d.weights Try.prog e) : n ∈ DataW.weightsAll Try.prog e ds := by
  induction ds with
  | nil => simp at hd
  | cons x r ih =>
    simp only [DataW.weightsAll, List.mem_append]
    rcases List.mem_cons.1 hd with rfl | hd
    · exact .inl hn
    · exact .inr (ih hd)
theorem Fits.part {t : TypeId} {fs : Array Field} {parts : List (DataW H)} (hu : Try.prog.underlying t = some (.struct fs)) (h : Fits t (.agg parts)) {i : Nat} {f : Field} {d : DataW H} (hf : fs[i]? = some f) (hd : parts[i]? = some d) : Fits f.type d := fun n hn => by
  refine h n ?_
  simp only [DataW.weights, hu]
  exact DataW.weights_mem_each (j := i) (by simp [hf]) hd n hn
theorem Fits.slice {t e : TypeId} {es sp : List (DataW H)} (hu : Try.prog.underlying t = some (.slice e)) (h : Fits t (.slice es sp)) : (es.length + sp.length) * Try.prog.bytesOf e ≤ reachBytes := h _ (by simp [DataW.weights, hu])
theorem Fits.elem {t e : TypeId} {es sp : List (DataW H)} (hu : Try.prog.underlying t = some (.slice e)) (h : Fits t (.slice es sp)) {d : DataW H} (hd : d ∈ es) : Fits e d := fun n hn => h n (by simp only [DataW.weights, hu, List.mem_cons, List.mem_append]; exact .inr (.inl (weightsAll_mem hd hn)))
theorem bytes53 : Try.prog.bytesOf 53 = 16 := by kernel_rfl
theorem bytes66 : Try.prog.bytesOf 66 = 48 := by kernel_rfl
theorem bytes3 : Try.prog.bytesOf 3 = 8 := by kernel_rfl
theorem getSome {α : Type} {l : List α} {n i : Nat} (h : l.length = n) (hi : i < n) : ∃ x, l[i]? = some x := ⟨l[i]'(by omega), List.getElem?_eq_getElem (by omega)⟩
theorem open_candle {fuel : Nat} {cs : List Value} {x : DataW H × List MemPlace} (h : DataW.trod enc Try.prog w base sp held fuel 28 cs = some x) : ∃ be d jm t : Int, cs = [.int .i64 be, .int .i64 d, .int .i64 jm, .int .i64 t] := by
  obtain ⟨xs, n, -, -, hl, hx, hf⟩ := DataW.trod_struct Try.underlying28 h
  rw [cells28] at hl
  match cs, hl with
  | [c0, c1, c2, c3], _ =>
    have hx4 : xs.length = 4 := hx
    obtain ⟨y0, h0⟩ := getSome hx4 (show 0 < 4 by omega)
    obtain ⟨y1, h1⟩ := getSome hx4 (show 1 < 4 by omega)
    obtain ⟨y2, h2⟩ := getSome hx4 (show 2 < 4 by omega)
    obtain ⟨y3, h3⟩ := getSome hx4 (show 3 < 4 by omega)
    have e0 : DataW.trod enc Try.prog w base sp held n 3 (([c0, c1, c2, c3].drop 0).take (Try.prog.cellsOf 3)) = some y0 := (hf 0 _ rfl).trans h0
    have e1 : DataW.trod enc Try.prog w base sp held n 3 (([c0, c1, c2, c3].drop 1).take (Try.prog.cellsOf 3)) = some y1 := (hf 1 _ rfl).trans h1
    have e2 : DataW.trod enc Try.prog w base sp held n 3 (([c0, c1, c2, c3].drop 2).take (Try.prog.cellsOf 3)) = some y2 := (hf 2 _ rfl).trans h2
    have e3 : DataW.trod enc Try.prog w base sp held n 3 (([c0, c1, c2, c3].drop 3).take (Try.prog.cellsOf 3)) = some y3 := (hf 3 _ rfl).trans h3
    rw [cellsI3] at e0 e1 e2 e3
    obtain ⟨a, ea, -⟩ := DataW.trod_int Try.underlying3 e0
    obtain ⟨b, eb, -⟩ := DataW.trod_int Try.underlying3 e1
    obtain ⟨c, ec, -⟩ := DataW.trod_int Try.underlying3 e2
    obtain ⟨d, ed, -⟩ := DataW.trod_int Try.underlying3 e3
    simp only [List.drop_zero, List.take_succ_cons, List.take_zero, List.drop_succ_cons, List.cons.injEq, and_true] at ea eb ec ed
    exact ⟨a, b, c, d, by rw [ea, eb, ec, ed]⟩
theorem open_season0 {fuel : Nat} {cs : List Value} {x : DataW H × List MemPlace} (h : DataW.trod enc Try.prog w base sp held fuel 31 cs = some x) (hfit : Fits 31 x.1) :
    ∃ (be d jm t mv : Int) (vs : Value) (n : Nat) (y : DataW H × List MemPlace), cs = [.int .i64 be, .int .i64 d, .int .i64 jm, .int .i64 t, .int .i64 mv, vs] ∧ DataW.trod enc Try.prog w base sp held n 29 [vs] = some y ∧ Fits 29 y.1 := by
  obtain ⟨xs, n, -, rfl, hl, hx, hf⟩ := DataW.trod_struct Try.underlying31 h
  rw [cells31] at hl
  match cs, hl with
  | [c0, c1, c2, c3, c4, c5], _ =>
    have hx4 : xs.length = 3 := hx
    obtain ⟨y0, h0⟩ := getSome hx4 (show 0 < 3 by omega)
    obtain ⟨y1, h1⟩ := getSome hx4 (show 1 < 3 by omega)
    obtain ⟨y2, h2⟩ := getSome hx4 (show 2 < 3 by omega)
    have e0 : DataW.trod enc Try.prog w base sp held n 28 (([c0, c1, c2, c3, c4, c5].drop 0).take (Try.prog.cellsOf 28)) = some y0 := (hf 0 _ rfl).trans h0
    have e1 : DataW.trod enc Try.prog w base sp held n 3 (([c0, c1, c2, c3, c4, c5].drop 4).take (Try.prog.cellsOf 3)) = some y1 := (hf 1 _ rfl).trans h1
    have e2 : DataW.trod enc Try.prog w base sp held n 29 (([c0, c1, c2, c3, c4, c5].drop 5).take (Try.prog.cellsOf 29)) = some y2 := (hf 2 _ rfl).trans h2
    rw [cells28] at e0
    rw [cellsI3] at e1
    rw [cells29] at e2
    obtain ⟨a, b, c, d, ea⟩ := open_candle e0
    obtain ⟨m, eb, -⟩ := DataW.trod_int Try.underlying3 e1
    simp at ea eb e2
    exact ⟨a, b, c, d, m, c5, n, y2, by rw [ea.1, ea.2.1, ea.2.2.1, ea.2.2.2, eb], e2, Fits.part Try.underlying31 hfit (i := 2) rfl (by rw [List.getElem?_map, h2]; rfl)⟩
theorem open_span {fuel : Nat} {cs : List Value} {x : DataW H × List MemPlace} (h : DataW.trod enc Try.prog w base sp held fuel 53 cs = some x) : ∃ lo hi : Int, cs = [.int .i64 lo, .int .i64 hi] := by
  obtain ⟨xs, n, -, -, hl, hx, hf⟩ := DataW.trod_struct Try.underlying53 h
  rw [cells53] at hl
  match cs, hl with
  | [c0, c1], _ =>
    have hx4 : xs.length = 2 := hx
    obtain ⟨y0, h0⟩ := getSome hx4 (show 0 < 2 by omega)
    obtain ⟨y1, h1⟩ := getSome hx4 (show 1 < 2 by omega)
    have e0 : DataW.trod enc Try.prog w base sp held n 3 (([c0, c1].drop 0).take (Try.prog.cellsOf 3)) = some y0 := (hf 0 _ rfl).trans h0
    have e1 : DataW.trod enc Try.prog w base sp held n 3 (([c0, c1].drop 1).take (Try.prog.cellsOf 3)) = some y1 := (hf 1 _ rfl).trans h1
    rw [cellsI3] at e0 e1
    obtain ⟨a, ea, -⟩ := DataW.trod_int Try.underlying3 e0
    obtain ⟨b, eb, -⟩ := DataW.trod_int Try.underlying3 e1
    simp at ea eb
    exact ⟨a, b, by rw [ea, eb]⟩
theorem add_flat {a : Addr} {i : Nat} {b : Nat} {o : Nat} (h : a = ⟨b, o, none⟩) : a.add i = ⟨b, o + i, none⟩ := by
  subst h
  unfold Addr.add
  split <;> simp_all
theorem flat_of {a : Addr} {k : Nat} {v : Value} (h : w.cell? (a.add k) = some v) (hk : k = 0 ∨ True) : a.spot = none ∨ k ≠ 0 := by
  by_cases h0 : k = 0
  · subst h0
    left
    have := World.cell?_spot h
    simpa [Addr.add] using this
  · exact .inr h0
theorem open_spans {fuel : Nat} {v : Value} {x : DataW H × List MemPlace} (h : DataW.trod enc Try.prog w base sp held fuel 50 [v] = some x) (hfit : Fits 50 x.1) : ∃ l : List (Int × Int), SpansIn w.heap.size w v l := by
  rcases open_slice Try.underlying50 h with ⟨hv, _⟩ | ⟨a, len, cap, m, n, D, Pl, hv, _, hlc, hcm, hm, rfl, hel⟩
  · refine ⟨[], none, 0, by simpa using hv, by simp, by simp, .inl rfl⟩
  · have hlm : len ≤ m := by rw [hm]; split <;> omega
    have hmax : len ≤ 1000000000000000 := by
      have := Fits.slice Try.underlying50 hfit
      rw [bytes53] at this
      simp only [List.length_map, List.length_range] at this
      unfold reachBytes at this
      omega
    rw [cells53] at hel
    by_cases h0 : len = 0
    · subst h0
      exact ⟨[], some a, cap, by simpa using hv, by simp, by simp, .inl rfl⟩
    have each : ∀ i, i < len → ∃ q : Int × Int, w.cell? (a.add (i * 2)) = some (.int .i64 q.1) ∧ w.cell? ((a.add (i * 2)).add 1) = some (.int .i64 q.2) := by
      intro i hi
      obtain ⟨cs', hc, ht⟩ := hel i (by omega)
      obtain ⟨lo, hi', rfl⟩ := open_span ht
      obtain ⟨_, _, hcell⟩ := World.cells?_some hc
      have c0 := hcell 0 (by omega)
      have c1 := hcell 1 (by omega)
      exact ⟨(lo, hi'), by simpa [Addr.add] using c0, by simpa using c1⟩
    obtain ⟨q0, c00, -⟩ := each 0 (by omega)
    rw [Nat.zero_mul] at c00
    have hs : a.spot = none := by simpa [Addr.add] using World.cell?_spot c00
    obtain ⟨f, hf⟩ := choose_lt (α := Int × Int) each
    obtain ⟨b, o, s⟩ := a
    simp only at hs
    subst hs
    refine ⟨(List.range len).map f, some ⟨b, o, none⟩, cap, by simpa using hv, by simp; omega, by simp; omega, .inr ⟨b, o, rfl, World.block_lt_of_cell? w _ c00, fun i hi => ?_⟩⟩
    rw [List.length_map, List.length_range] at hi
    have e : ((List.range len).map f).getD i (0, 0) = f i := by rw [List.getD_eq_getElem?_getD, List.getElem?_map, List.getElem?_range hi]; rfl
    rw [e]
    have h1 := hf i hi
    rw [add_flat rfl] at h1
    rw [add_flat rfl] at h1
    exact h1
theorem open_sto {fuel : Nat} {cs : List Value} {x : DataW H × List MemPlace} (h : DataW.trod enc Try.prog w base sp held fuel 66 cs = some x) (hfit : Fits 66 x.1) :
    ∃ (nm : ByteArray) (rent : Int) (v : Value) (l : List (Int × Int)), cs = [.string nm, .int .i64 rent, v] ∧ nm.size ≤ 1000000000000000 ∧ SpansIn w.heap.size w v l := by
  obtain ⟨xs, n, -, rfl, hl, hx, hf⟩ := DataW.trod_struct Try.underlying66 h
  rw [cells66] at hl
  match cs, hl with
  | [c0, c1, c2], _ =>
    have hx4 : xs.length = 3 := hx
    obtain ⟨y0, h0⟩ := getSome hx4 (show 0 < 3 by omega)
    obtain ⟨y1, h1⟩ := getSome hx4 (show 1 < 3 by omega)
    obtain ⟨y2, h2⟩ := getSome hx4 (show 2 < 3 by omega)
    have e0 : DataW.trod enc Try.prog w base sp held n 9 (([c0, c1, c2].drop 0).take (Try.prog.cellsOf 9)) = some y0 := (hf 0 _ rfl).trans h0
    have e1 : DataW.trod enc Try.prog w base sp held n 3 (([c0, c1, c2].drop 1).take (Try.prog.cellsOf 3)) = some y1 := (hf 1 _ rfl).trans h1
    have e2 : DataW.trod enc Try.prog w base sp held n 50 (([c0, c1, c2].drop 2).take (Try.prog.cellsOf 50)) = some y2 := (hf 2 _ rfl).trans h2
    rw [cells9] at e0
    rw [cellsI3] at e1
    rw [cells50] at e2
    obtain ⟨nm, ea, hy, -⟩ := DataW.trod_string Try.underlying9 e0
    obtain ⟨r, eb, -⟩ := DataW.trod_int Try.underlying3 e1
    simp at ea eb e2
    have f2 := Fits.part Try.underlying66 hfit (i := 2) rfl (d := y2.1) (by rw [List.getElem?_map, h2]; rfl)
    obtain ⟨l, hs⟩ := open_spans e2 f2
    have f0 := Fits.part Try.underlying66 hfit (i := 0) rfl (d := y0.1) (by rw [List.getElem?_map, h0]; rfl)
    have hn : nm.size ≤ reachBytes := by
      refine f0 nm.size ?_
      rw [hy]
      simp only [DataW.weights, List.mem_singleton]
      simp
    exact ⟨nm, r, c2, l, by rw [ea, eb], by unfold reachBytes at hn; omega, hs⟩
theorem open_stores {fuel : Nat} {v : Value} {x : DataW H × List MemPlace} (h : DataW.trod enc Try.prog w base sp held fuel 29 [v] = some x) (hfit : Fits 29 x.1) : ∃ l : List Sto, StosIn w.heap.size w v l := by
  rcases open_slice Try.underlying29 h with ⟨hv, _⟩ | ⟨a, len, cap, m, n, D, Pl, hv, _, hlc, hcm, hm, rfl, hel⟩
  · exact ⟨[], none, 0, by simpa using hv, by simp, by simp, .inl rfl⟩
  · have hlm : len ≤ m := by rw [hm]; split <;> omega
    have hmax : len ≤ 1000000000000000 := by
      have := Fits.slice Try.underlying29 hfit
      rw [bytes66] at this
      simp only [List.length_map, List.length_range] at this
      unfold reachBytes at this
      omega
    rw [cells66] at hel
    by_cases h0 : len = 0
    · subst h0
      exact ⟨[], some a, cap, by simpa using hv, by simp, by simp, .inl rfl⟩
    have each : ∀ i, i < len → ∃ q : Sto, w.cell? (a.add (i * 3)) = some (.string q.name) ∧ w.cell? ((a.add (i * 3)).add 1) = some (.int .i64 q.rent) ∧ q.name.size ≤ 1000000000000000 ∧ ∃ v, w.cell? ((a.add (i * 3)).add 2) = some v ∧ SpansIn w.heap.size w v q.warm := by
      intro i hi
      obtain ⟨cs', hc, ht⟩ := hel i (by omega)
      obtain ⟨nm, r, u, l, rfl, hn, hs⟩ := open_sto ht (Fits.elem Try.underlying29 hfit (List.mem_map.2 ⟨i, List.mem_range.2 hi, rfl⟩))
      obtain ⟨_, _, hcell⟩ := World.cells?_some hc
      have c0 := hcell 0 (by omega)
      have c1 := hcell 1 (by omega)
      have c2 := hcell 2 (by omega)
      exact ⟨⟨nm, r, l⟩, by simpa [Addr.add] using c0, by simpa using c1, hn, u, by simpa using c2, hs⟩
    obtain ⟨q0, c00, -⟩ := each 0 (by omega)
    rw [Nat.zero_mul] at c00
    have hs : a.spot = none := by simpa [Addr.add] using World.cell?_spot c00
    obtain ⟨f, hf⟩ := choose_lt (α := Sto) each
    obtain ⟨b, o, s⟩ := a
    simp only at hs
    subst hs
    refine ⟨(List.range len).map f, some ⟨b, o, none⟩, cap, by simpa using hv, by simp; omega, by simp; omega, .inr ⟨b, o, rfl, World.block_lt_of_cell? w _ c00, fun i hi => ?_⟩⟩
    rw [List.length_map, List.length_range] at hi
    have e : ((List.range len).map f).getD i default = f i := by rw [List.getD_eq_getElem?_getD, List.getElem?_map, List.getElem?_range hi]; rfl
    rw [e]
    have h1 := hf i hi
    rw [add_flat rfl, add_flat rfl, add_flat rfl] at h1
    exact h1
/-- A season among the arguments. -/
theorem open_season {v : Value} {d : DataW H} {ps : List MemPlace} {r : Reach} {b0 : Nat} (h : DataW.Trod enc Try.prog w base sp held 31 v d ps) (hfit : Fits 31 d) (hval : Value.okWide Try.prog w r b0 31 v) :
    ∃ (s : Sea) (vs : Value), v = .agg #[.int .i64 s.bend, .int .i64 s.days, .int .i64 s.jump, .int .i64 s.times, .int .i64 s.move, vs] ∧ StosIn w.heap.size w vs s.stores := by
  obtain ⟨fuel, h⟩ := h
  obtain ⟨be, dd, jm, t, mv, vs, n, y, hcs, hy, hf2⟩ := open_season0 h hfit
  obtain ⟨l, hs⟩ := open_stores hy hf2
  obtain ⟨cc, rfl, -⟩ := okWide_struct Try.underlying31 hval
  refine ⟨⟨be, dd, jm, t, mv, l⟩, vs, ?_, hs⟩
  have e : cc.toList = [.int .i64 be, .int .i64 dd, .int .i64 jm, .int .i64 t, .int .i64 mv, vs] := hcs
  rw [← Array.toArray_toList (xs := cc), e]
theorem open_way {v : Value} {d : DataW H} {ps : List MemPlace} {r : Reach} {b0 : Nat} (h : DataW.Trod enc Try.prog w base sp held 33 v d ps) (hfit : Fits 33 d) (hval : Value.okWide Try.prog w r b0 33 v) :
    ∃ l : List Int, IntsIn .i64 w.heap.size w v l ∧ ∃ a c, v = .slice a l.length c ∧ l.length ≤ c := by
  obtain ⟨fuel, h⟩ := h
  obtain ⟨a0, n0, c0, rfl⟩ := okWide_slice Try.underlying33 hval
  rcases open_ints Try.underlying33 Try.underlying3 cellsI3 h with ⟨hv, _⟩ | ⟨a, len, cap, zs, hv, _, hlc, hcm, hzl, hx, hcell, _⟩
  · have e : Value.slice a0 n0 c0 = .slice none 0 0 := by simpa [Value.cells] using hv
    rw [e]
    exact ⟨[], ⟨none, 0, rfl, by simp, .inl rfl⟩, none, 0, rfl, by simp⟩
  · have e : Value.slice a0 n0 c0 = .slice (some a) len cap := by simpa [Value.cells] using hv
    rw [e]
    have hle : len ≤ zs.length := by rw [hzl]; split <;> omega
    have hd : d = .slice (lits .i64 (zs.take len)) (lits .i64 (zs.drop len)) := (Prod.mk.inj hx).1
    have hmax : len ≤ 1000000000000000 := by
      rw [hd] at hfit
      have := Fits.slice Try.underlying33 hfit
      rw [bytes3] at this
      simp only [lits, List.length_map, List.length_take, List.length_drop] at this
      unfold reachBytes at this
      omega
    have hl : (zs.take len).length = len := by simp; omega
    by_cases h0 : len = 0
    · subst h0
      exact ⟨[], ⟨some a, cap, rfl, by simp, .inl rfl⟩, some a, cap, rfl, by simp⟩
    have c00 := hcell 0 (by omega)
    have hs : a.spot = none := by simpa [Addr.add] using World.cell?_spot c00
    obtain ⟨b, o, s⟩ := a
    simp only at hs
    subst hs
    refine ⟨zs.take len, ⟨some ⟨b, o, none⟩, cap, by rw [hl], by omega, .inr ⟨b, o, rfl, World.block_lt_of_cell? w _ c00, fun i hi => ?_⟩⟩, some ⟨b, o, none⟩, cap, by rw [hl], by omega⟩
    rw [hl] at hi
    have hc := hcell i (by omega)
    rw [add_flat rfl] at hc
    rw [hc, List.getD_eq_getElem?_getD, List.getD_eq_getElem?_getD, List.getElem?_take, if_pos hi]
end
end Go.Proofs.Ytddapabmfecidaa
