/- What a law owes at its last step, and its arguments opened. -/
import Derived.Test.YtaigbhhmmdfdcaaRows
import Derived.WalkKit
import Derived.ProofKit
import Derived.OpenShut
import Derived.Below
import Derived.ChangeSame
import Derived.Carry
import Derived.Test.YtaigbhhmmdfdcaaK1
import Derived.Deep.Slices
import Derived.ChangeSlices
import Derived.SizedLaws
/- What a law's last step owes: the answer true, the arguments as they were, in a world that has new blocks alone. -/
namespace Go.Proofs.Ytaigbhhmmdfdcaa
open Go.ChangeShapes Go.WideShapes Go.ChangeAt Go.RowKit
section
variable {H : Type} {enc : TypeId × Value → H} {P : Program}
/-- The end of a law: nothing old has turned. -/
theorem law_post {f : Func} {s : ChangeSpec} {apart fresh handsOn again : Bool} {W W' : World} {args : Array Value} {v : Value} {ds gs : List (DataW H)} {before pa pv : List MemPlace}
    (hW : DataW.Whole enc P f.params.toList s.vars apart W args.toList ds gs before) (hb : Below W.heap.size W W') (hps : before = pa ++ pv)
    (hres : ∀ (b : Nat) (sp : Nat → Bool) (hd : Bool), DataW.TrodAll enc P W' b sp hd f.resultTypes.toList (v.resultList f.resultTypes.size) (s.fn H (ds ++ gs)).results [])
    (hargs : ∀ sp : Nat → Bool, (∀ p ∈ before, sp p.block = true) → DataW.TrodAll enc P W' 0 sp true f.params.toList args.toList (s.fn H (ds ++ gs)).args pa)
    (hvars : ∀ sp : Nat → Bool, (∀ p ∈ before, sp p.block = true) → DataW.TrodVars enc P W' sp s.vars (s.fn H (ds ++ gs)).vars pv)
    (hok : ∀ (j : Nat) (t : TypeId) (r : Value), f.resultTypes[j]? = some t → (v.resultList f.resultTypes.size)[j]? = some r → Value.okWide P W' .any 0 t r) :
    s.post enc P f apart fresh handsOn again W args v W' := by
  have lt : ∀ p ∈ before, p.block < W.heap.size := fun p hp => hW.lt p hp
  have old : ∀ p ∈ before, (fun b => decide (b < W.heap.size)) p.block = true := fun p hp => decide_eq_true (lt p hp)
  have hcut : ∀ p ∈ before, p ∈ pa ++ pv := fun p hp => hps ▸ hp
  refine ⟨ds, gs, before, [], pa, pv, hW, hres _ _ _, hargs _ old, hvars _ old, World.keptBut_mono (fun p hp => ⟨hp, .inr (List.mem_append.1 (hcut p hp))⟩) (hb.frame (· ∈ before)), fun _ => ?_⟩
  obtain ⟨_, _, _, _, _, hz, hn⟩ := hW
  refine ⟨hok, _, _, ([] ++ pa) ++ pv, ⟨[] ++ pa, pv, trodAll_append (hargs _ fun _ _ => rfl) (hres _ _ _), hvars _ fun _ _ => rfl, rfl, fun b off hp => ?_, fun ha => ?_⟩, fun p hp _ => ?_⟩
  · have hin : MemPlace.cell b off ∈ before := by rw [hps]; simpa using hp
    exact (hb.frozen (lt _ hin)).trans (hz b off hin)
  · simpa [hps] using hn ha
  · rw [hps]; simpa using hp
end
theorem own : ownKnob Try.prog.godebug = none := by kernel_rfl
theorem laidP : laidOutB Try.prog = true := by kernel_rfl
end Go.Proofs.Ytaigbhhmmdfdcaa
/- The arguments of the laws, opened: shops, batches, truths, lists and arrays of numbers. -/
namespace Go.Proofs.Ytaigbhhmmdfdcaa
open Go.ChangeShapes Go.WideShapes Go.ChangeAt Go.RowKit Go.Deep
set_option maxRecDepth 100000
section
variable {H : Type} {enc : TypeId × Value → H} {w : World} {base : Nat} {sp : Nat → Bool} {held : Bool}
theorem cells3 : Try.prog.cellsOf 3 = 1 := by kernel_rfl
theorem cells5 : Try.prog.cellsOf 5 = 1 := by kernel_rfl
theorem cells9 : Try.prog.cellsOf 9 = 1 := by kernel_rfl
theorem cells22 : Try.prog.cellsOf 22 = 1 := by kernel_rfl
theorem cells23 : Try.prog.cellsOf 23 = 1 := by kernel_rfl
theorem cells25 : Try.prog.cellsOf 25 = 2 := by kernel_rfl
theorem cells31 : Try.prog.cellsOf 31 = 1 := by kernel_rfl
theorem cells36 : Try.prog.cellsOf 36 = 1 := by kernel_rfl
theorem cells42 : Try.prog.cellsOf 42 = 1 := by kernel_rfl
theorem cells44 : Try.prog.cellsOf 44 = 3 := by kernel_rfl
theorem cells46 : Try.prog.cellsOf 46 = 4 := by kernel_rfl
theorem cells49 : Try.prog.cellsOf 49 = 3 := by kernel_rfl
theorem cells51 : Try.prog.cellsOf 51 = 2 := by kernel_rfl
theorem cells54 : Try.prog.cellsOf 54 = 1 := by kernel_rfl
theorem cells62 : Try.prog.cellsOf 62 = 5 := by kernel_rfl
theorem cells76 : Try.prog.cellsOf 76 = 1 := by kernel_rfl
theorem cells65 : Try.prog.cellsOf 65 = 1 := by kernel_rfl
theorem cells75 : Try.prog.cellsOf 75 = 3 := by kernel_rfl
theorem cells77 : Try.prog.cellsOf 77 = 2 := by kernel_rfl
theorem cells83 : Try.prog.cellsOf 83 = 2 := by kernel_rfl
/-- What is read fits a machine. -/
def Fits (t : TypeId) (d : DataW H) : Prop := ∀ n ∈ d.weights Try.prog t, n ≤ reachBytes
theorem weightsAll_mem {e : TypeId} {d : DataW H} {ds : List (DataW H)} (hd : d ∈ ds) {n : Nat} (hn : n ∈ d.weights Try.prog e) : n ∈ DataW.weightsAll Try.prog e ds := by
  induction ds with
  | nil => simp at hd
  | cons x r ih =>
    simp only [DataW.weightsAll, List.mem_append]
    rcases List.mem_cons.1 hd with rfl | hd
    · exact .inl hn
    · exact .inr (ih hd)
theorem Fits.part {t : TypeId} {fs : Array Field} {parts : List (DataW H)} (hu : Try.prog.underlying t = some (.struct fs)) (h : Fits t (.agg parts)) {i : Nat} {f : Field} {d : DataW H} (hf : fs[i]? = some f) (hd : parts[i]? = some d) : Fits f.type d := fun n hn => by
  refine h n ?_
  simp only [DataW.weights, hu]
  exact DataW.weights_mem_each (j := i) (by simp [hf]) hd n hn
theorem Fits.slice {t e : TypeId} {es sp : List (DataW H)} (hu : Try.prog.underlying t = some (.slice e)) (h : Fits t (.slice es sp)) : (es.length + sp.length) * Try.prog.bytesOf e ≤ reachBytes := h _ (by simp [DataW.weights, hu])
theorem Fits.elem {t e : TypeId} {es sp : List (DataW H)} (hu : Try.prog.underlying t = some (.slice e)) (h : Fits t (.slice es sp)) {d : DataW H} (hd : d ∈ es) : Fits e d := fun n hn => h n (by simp only [DataW.weights, hu, List.mem_cons, List.mem_append]; exact .inr (.inl (weightsAll_mem hd hn)))
theorem getSome {α : Type} {l : List α} {n i : Nat} (h : l.length = n) (hi : i < n) : ∃ x, l[i]? = some x := ⟨l[i]'(by omega), List.getElem?_eq_getElem (by omega)⟩
theorem add_flat {a : Addr} {i : Nat} {b : Nat} {o : Nat} (h : a = ⟨b, o, none⟩) : a.add i = ⟨b, o + i, none⟩ := by
  subst h
  unfold Addr.add
  split <;> simp_all
/-- A slice among the arguments: its elements, each as it is read. -/
theorem open_sl {α : Type} [Inhabited α] (R : Rd α) {t e : TypeId} {by1 : Nat} (ht : Try.prog.underlying t = some (.slice e)) (hc : Try.prog.cellsOf e = R.sz) (hs0 : 0 < R.sz) (hb : Try.prog.bytesOf e = by1) (hb1 : 1 ≤ by1)
    (hel : ∀ (m : Nat) (cs : List Value) (y : DataW H × List MemPlace) (b o : Nat), DataW.trod enc Try.prog w base sp held m e cs = some y → Fits e y.1 → cs.length = R.sz → (∀ j, j < R.sz → w.cell? ⟨b, o + j, none⟩ = cs[j]?) → ∃ x, R.rd w.heap.size w b o x)
    {fuel : Nat} {v : Value} {x : DataW H × List MemPlace} (h : DataW.trod enc Try.prog w base sp held fuel t [v] = some x) (hfit : Fits t x.1) : ∃ l : List α, SlIn R w.heap.size w v l := by
  rcases open_slice ht h with ⟨hv, _⟩ | ⟨a, len, cap, m, n, D, Pl, hv, _, hlc, hcm, hm, rfl, hx⟩
  · exact ⟨[], none, 0, by simpa using hv, by simp, by simp, .inl rfl⟩
  have hlm : len ≤ m := by rw [hm]; split <;> omega
  have hmax : len ≤ 1000000000000000 := by
    have := Fits.slice ht hfit
    rw [hb] at this
    simp only [List.length_map, List.length_range] at this
    unfold reachBytes at this
    have h2 := Nat.mul_le_mul_left (len + (m - len)) hb1
    omega
  rw [hc] at hx
  by_cases h0 : len = 0
  · subst h0
    exact ⟨[], some a, cap, by simpa using hv, by simp, by simp, .inl rfl⟩
  obtain ⟨cs0, hc0, -⟩ := hx 0 (by omega)
  obtain ⟨-, hl0, hcell0⟩ := World.cells?_some hc0
  have c00 := hcell0 0 hs0
  obtain ⟨v0, hv0⟩ : ∃ v0, cs0[0]? = some v0 := ⟨cs0[0]'(by omega), List.getElem?_eq_getElem (by omega)⟩
  rw [hv0] at c00
  have hsp : a.spot = none := by simpa [Addr.add] using World.cell?_spot c00
  obtain ⟨b, o, s⟩ := a
  simp only at hsp
  subst hsp
  have each : ∀ i, i < len → ∃ q : α, R.rd w.heap.size w b (o + i * R.sz) q := by
    intro i hi
    obtain ⟨cs', hc', ht'⟩ := hx i (by omega)
    obtain ⟨-, hl', hcell'⟩ := World.cells?_some hc'
    refine hel n cs' _ b (o + i * R.sz) ht' (Fits.elem ht hfit (by rw [List.mem_map]; exact ⟨i, by simpa using hi, rfl⟩)) hl' fun j hj => ?_
    have := hcell' j hj
    rw [add_flat rfl, add_flat rfl] at this
    exact this
  obtain ⟨f, hf⟩ := choose_lt (α := α) each
  rw [add_flat rfl, add_flat rfl] at c00
  have hbl : b < w.heap.size := World.block_lt_of_cell? w _ c00
  refine ⟨(List.range len).map f, some ⟨b, o, none⟩, cap, by simpa using hv, by simp; omega, by simp; omega, .inr ⟨b, o, rfl, hbl, fun i hi => ?_⟩⟩
  rw [List.length_map, List.length_range] at hi
  have e : ((List.range len).map f).getD i default = f i := by rw [List.getD_eq_getElem?_getD, List.getElem?_map, List.getElem?_range hi]; rfl
  rw [e]
  exact hf i hi
/-- A list of numbers of kind k. -/
theorem open_list0 {t e : TypeId} {k : IntKind} {by1 : Nat} (ht : Try.prog.underlying t = some (.slice e)) (he : Try.prog.underlying e = some (.int k)) (hc1 : Try.prog.cellsOf e = 1) (hbe : Try.prog.bytesOf e = by1) (hb1 : 1 ≤ by1)
    {v : Value} {x : DataW H × List MemPlace} {fuel : Nat} (h : DataW.trod enc Try.prog w base sp held fuel t [v] = some x) (hfit : Fits t x.1) :
    ∃ l : List Int, IntsIn k w.heap.size w v l ∧ ∀ x ∈ l, (Lit.int k x).wf = true := by
  rcases open_ints ht he hc1 h with ⟨hv, _⟩ | ⟨a, len, cap, zs, hv, _, hlc, hcm, hzl, hx, hcell, hwf⟩
  · have e : v = .slice none 0 0 := by simpa using hv
    rw [e]
    exact ⟨[], ⟨none, 0, rfl, by simp, .inl rfl⟩, by simp⟩
  · have e : v = .slice (some a) len cap := by simpa using hv
    rw [e]
    have hle : len ≤ zs.length := by rw [hzl]; split <;> omega
    have hd : x.1 = .slice (lits k (zs.take len)) (lits k (zs.drop len)) := by rw [hx]
    have hmax : len ≤ 1000000000000000 := by
      rw [hd] at hfit
      have := Fits.slice ht hfit
      rw [hbe] at this
      simp only [lits, List.length_map, List.length_take, List.length_drop] at this
      unfold reachBytes at this
      have h2 := Nat.mul_le_mul_left (min len zs.length + (zs.length - len)) hb1
      omega
    have hl : (zs.take len).length = len := by simp; omega
    have hwf' : ∀ x ∈ zs.take len, (Lit.int k x).wf = true := fun x hx => hwf x (List.mem_of_mem_take hx)
    by_cases h0 : len = 0
    · subst h0
      exact ⟨[], ⟨some a, cap, rfl, by simp, .inl rfl⟩, by simp⟩
    have c00 := hcell 0 (by omega)
    have hs : a.spot = none := by simpa [Addr.add] using World.cell?_spot c00
    obtain ⟨b, o, s⟩ := a
    simp only at hs
    subst hs
    refine ⟨zs.take len, ⟨some ⟨b, o, none⟩, cap, by rw [hl], by omega, .inr ⟨b, o, rfl, World.block_lt_of_cell? w _ c00, fun i hi => ?_⟩⟩, hwf'⟩
    rw [hl] at hi
    have hc := hcell i (by omega)
    rw [add_flat rfl] at hc
    rw [hc, List.getD_eq_getElem?_getD, List.getD_eq_getElem?_getD, List.getElem?_take, if_pos hi]
theorem cells_one {v : Value} {t e : TypeId} {r : Reach} {b0 : Nat} (ht : Try.prog.underlying t = some (.slice e)) (hval : Value.okWide Try.prog w r b0 t v) : v.cells.toList = [v] := by
  obtain ⟨a0, n0, c0, rfl⟩ := okWide_slice ht hval
  rfl
theorem open_span0 {fuel : Nat} {cs : List Value} {x : DataW H × List MemPlace} (h : DataW.trod enc Try.prog w base sp held fuel 51 cs = some x) (hfit : Fits 51 x.1) :
    ∃ lo hi : Int, cs = [.int .i64 lo, .int .i64 hi] := by
  obtain ⟨xs, n, -, rfl, hl, hx, hf⟩ := DataW.trod_struct Try.underlying51 h
  rw [cells51] at hl
  match cs, hl with
  | [c0, c1], _ =>
    have hx4 : xs.length = 2 := hx
    obtain ⟨y0, h0⟩ := getSome hx4 (show 0 < 2 by omega)
    have e0 : DataW.trod enc Try.prog w base sp held n 3 (([c0, c1].drop 0).take (Try.prog.cellsOf 3)) = some y0 := (hf 0 _ rfl).trans h0
    rw [cells3] at e0
    simp only [List.drop_zero, List.take_succ_cons, List.take_zero] at e0
    have f0 := Fits.part Try.underlying51 hfit (i := 0) rfl (d := y0.1) (by rw [List.getElem?_map, h0]; rfl)
    obtain ⟨y1, h1⟩ := getSome hx4 (show 1 < 2 by omega)
    have e1 : DataW.trod enc Try.prog w base sp held n 3 (([c0, c1].drop 1).take (Try.prog.cellsOf 3)) = some y1 := (hf 1 _ rfl).trans h1
    rw [cells3] at e1
    simp only [List.drop_zero, List.take_succ_cons, List.take_zero, List.drop_succ_cons] at e1
    have f1 := Fits.part Try.underlying51 hfit (i := 1) rfl (d := y1.1) (by rw [List.getElem?_map, h1]; rfl)
    obtain ⟨a, ea, -⟩ := DataW.trod_int Try.underlying3 e0
    obtain ⟨b, eb, -⟩ := DataW.trod_int Try.underlying3 e1
    simp only [List.cons.injEq, and_true] at ea eb
    exact ⟨a, b, by rw [ea, eb]⟩
theorem bytes3 : Try.prog.bytesOf 3 = 8 := by kernel_rfl
theorem bytes36 : Try.prog.bytesOf 36 = 24 := by kernel_rfl
theorem bytes51 : Try.prog.bytesOf 51 = 16 := by kernel_rfl
theorem bytes62 : Try.prog.bytesOf 62 = 48 := by kernel_rfl
theorem bytes76 : Try.prog.bytesOf 76 = 4 := by kernel_rfl
theorem bytes75 : Try.prog.bytesOf 75 = 72 := by kernel_rfl
theorem bytes83 : Try.prog.bytesOf 83 = 40 := by kernel_rfl
theorem open_spans0 {fuel : Nat} {v : Value} {x : DataW H × List MemPlace} (h : DataW.trod enc Try.prog w base sp held fuel 54 [v] = some x) (hfit : Fits 54 x.1) : ∃ l, SpansIn w.heap.size w v l :=
  open_sl rdSpan Try.underlying54 cells51 (by decide) bytes51 (by omega) (fun m cs y b o ht hf hl hcell => by
    obtain ⟨lo, hi, rfl⟩ := open_span0 ht hf
    exact ⟨(lo, hi), hcell 0 (by decide), hcell 1 (by decide)⟩) h hfit
theorem open_name {n : Nat} {c : Value} {y : DataW H × List MemPlace} (h : DataW.trod enc Try.prog w base sp held n 9 [c] = some y) (hf : Fits 9 y.1) : ∃ s : ByteArray, c = .string s ∧ s.size ≤ 1000000000000000 := by
  obtain ⟨nm, ea, hy, -⟩ := DataW.trod_string Try.underlying9 h
  simp only [List.cons.injEq, and_true] at ea
  refine ⟨nm, ea, ?_⟩
  have hn : nm.size ≤ reachBytes := by
    refine hf nm.size ?_
    rw [hy]
    simp only [DataW.weights, List.mem_singleton]
    simp
  unfold reachBytes at hn; omega
theorem open_thing0 {fuel : Nat} {cs : List Value} {x : DataW H × List MemPlace} (h : DataW.trod enc Try.prog w base sp held fuel 62 cs = some x) (hfit : Fits 62 x.1) :
    ∃ t : Thing, cs = [.string t.name, .int .i64 t.kind, .int .i64 t.limit, .int .i64 t.weak, .int .i64 t.fade] ∧ t.name.size ≤ 1000000000000000 := by
  obtain ⟨xs, n, -, rfl, hl, hx, hf⟩ := DataW.trod_struct Try.underlying62 h
  rw [cells62] at hl
  match cs, hl with
  | [c0, c1, c2, c3, c4], _ =>
    have hx4 : xs.length = 5 := hx
    obtain ⟨y0, h0⟩ := getSome hx4 (show 0 < 5 by omega)
    have e0 : DataW.trod enc Try.prog w base sp held n 9 (([c0, c1, c2, c3, c4].drop 0).take (Try.prog.cellsOf 9)) = some y0 := (hf 0 _ rfl).trans h0
    rw [cells9] at e0
    simp only [List.drop_zero, List.take_succ_cons, List.take_zero] at e0
    have f0 := Fits.part Try.underlying62 hfit (i := 0) rfl (d := y0.1) (by rw [List.getElem?_map, h0]; rfl)
    obtain ⟨y1, h1⟩ := getSome hx4 (show 1 < 5 by omega)
    have e1 : DataW.trod enc Try.prog w base sp held n 3 (([c0, c1, c2, c3, c4].drop 1).take (Try.prog.cellsOf 3)) = some y1 := (hf 1 _ rfl).trans h1
    rw [cells3] at e1
    simp only [List.drop_zero, List.take_succ_cons, List.take_zero, List.drop_succ_cons] at e1
    have f1 := Fits.part Try.underlying62 hfit (i := 1) rfl (d := y1.1) (by rw [List.getElem?_map, h1]; rfl)
    obtain ⟨y2, h2⟩ := getSome hx4 (show 2 < 5 by omega)
    have e2 : DataW.trod enc Try.prog w base sp held n 3 (([c0, c1, c2, c3, c4].drop 2).take (Try.prog.cellsOf 3)) = some y2 := (hf 2 _ rfl).trans h2
    rw [cells3] at e2
    simp only [List.drop_zero, List.take_succ_cons, List.take_zero, List.drop_succ_cons] at e2
    have f2 := Fits.part Try.underlying62 hfit (i := 2) rfl (d := y2.1) (by rw [List.getElem?_map, h2]; rfl)
    obtain ⟨y3, h3⟩ := getSome hx4 (show 3 < 5 by omega)
    have e3 : DataW.trod enc Try.prog w base sp held n 3 (([c0, c1, c2, c3, c4].drop 3).take (Try.prog.cellsOf 3)) = some y3 := (hf 3 _ rfl).trans h3
    rw [cells3] at e3
    simp only [List.drop_zero, List.take_succ_cons, List.take_zero, List.drop_succ_cons] at e3
    have f3 := Fits.part Try.underlying62 hfit (i := 3) rfl (d := y3.1) (by rw [List.getElem?_map, h3]; rfl)
    obtain ⟨y4, h4⟩ := getSome hx4 (show 4 < 5 by omega)
    have e4 : DataW.trod enc Try.prog w base sp held n 3 (([c0, c1, c2, c3, c4].drop 4).take (Try.prog.cellsOf 3)) = some y4 := (hf 4 _ rfl).trans h4
    rw [cells3] at e4
    simp only [List.drop_zero, List.take_succ_cons, List.take_zero, List.drop_succ_cons] at e4
    have f4 := Fits.part Try.underlying62 hfit (i := 4) rfl (d := y4.1) (by rw [List.getElem?_map, h4]; rfl)
    obtain ⟨s, ea, hs⟩ := open_name e0 f0
    obtain ⟨a, e1', -⟩ := DataW.trod_int Try.underlying3 e1
    obtain ⟨b, e2', -⟩ := DataW.trod_int Try.underlying3 e2
    obtain ⟨c, e3', -⟩ := DataW.trod_int Try.underlying3 e3
    obtain ⟨d, e4', -⟩ := DataW.trod_int Try.underlying3 e4
    simp only [List.cons.injEq, and_true] at e1' e2' e3' e4'
    exact ⟨⟨s, a, b, c, d⟩, by rw [ea, e1', e2', e3', e4'], hs⟩
theorem open_things0 {fuel : Nat} {v : Value} {x : DataW H × List MemPlace} (h : DataW.trod enc Try.prog w base sp held fuel 22 [v] = some x) (hfit : Fits 22 x.1) : ∃ l, ThingsIn w.heap.size w v l :=
  open_sl rdThing Try.underlying22 cells62 (by decide) bytes62 (by omega) (fun m cs y b o ht hf hl hcell => by
    obtain ⟨t, rfl, hs⟩ := open_thing0 ht hf
    exact ⟨t, hcell 0 (by decide), hcell 1 (by decide), hcell 2 (by decide), hcell 3 (by decide), hcell 4 (by decide), hs⟩) h hfit
theorem open_lot0 {fuel : Nat} {cs : List Value} {x : DataW H × List MemPlace} (h : DataW.trod enc Try.prog w base sp held fuel 83 cs = some x) (hfit : Fits 83 x.1) :
    ∃ (s : ByteArray) (v : Value) (l : List (Int × Int)), cs = [.string s, v] ∧ s.size ≤ 1000000000000000 ∧ SpansIn w.heap.size w v l := by
  obtain ⟨xs, n, -, rfl, hl, hx, hf⟩ := DataW.trod_struct Try.underlying83 h
  rw [cells83] at hl
  match cs, hl with
  | [c0, c1], _ =>
    have hx4 : xs.length = 2 := hx
    obtain ⟨y0, h0⟩ := getSome hx4 (show 0 < 2 by omega)
    have e0 : DataW.trod enc Try.prog w base sp held n 9 (([c0, c1].drop 0).take (Try.prog.cellsOf 9)) = some y0 := (hf 0 _ rfl).trans h0
    rw [cells9] at e0
    simp only [List.drop_zero, List.take_succ_cons, List.take_zero] at e0
    have f0 := Fits.part Try.underlying83 hfit (i := 0) rfl (d := y0.1) (by rw [List.getElem?_map, h0]; rfl)
    obtain ⟨y1, h1⟩ := getSome hx4 (show 1 < 2 by omega)
    have e1 : DataW.trod enc Try.prog w base sp held n 54 (([c0, c1].drop 1).take (Try.prog.cellsOf 54)) = some y1 := (hf 1 _ rfl).trans h1
    rw [cells54] at e1
    simp only [List.drop_zero, List.take_succ_cons, List.take_zero, List.drop_succ_cons] at e1
    have f1 := Fits.part Try.underlying83 hfit (i := 1) rfl (d := y1.1) (by rw [List.getElem?_map, h1]; rfl)
    obtain ⟨s, ea, hs⟩ := open_name e0 f0
    obtain ⟨l, hsl⟩ := open_spans0 e1 f1
    exact ⟨s, c1, l, by rw [ea], hs, hsl⟩
theorem open_lots0 {fuel : Nat} {v : Value} {x : DataW H × List MemPlace} (h : DataW.trod enc Try.prog w base sp held fuel 23 [v] = some x) (hfit : Fits 23 x.1) : ∃ l, LotsIn w.heap.size w v l :=
  open_sl rdLot Try.underlying23 cells83 (by decide) bytes83 (by omega) (fun m cs y b o ht hf hl hcell => by
    obtain ⟨s, v, l, rfl, hs, hsl⟩ := open_lot0 ht hf
    exact ⟨⟨s, l⟩, hcell 0 (by decide), hs, v, hcell 1 (by decide), hsl⟩) h hfit
theorem open_ints0 {fuel : Nat} {v : Value} {x : DataW H × List MemPlace} (h : DataW.trod enc Try.prog w base sp held fuel 36 [v] = some x) (hfit : Fits 36 x.1) : ∃ l : List Int, IntsIn .i64 w.heap.size w v l := by
  obtain ⟨l, h1, -⟩ := open_list0 Try.underlying36 Try.underlying3 cells3 bytes3 (by omega) h hfit
  exact ⟨l, h1⟩
theorem open_lists0 {fuel : Nat} {v : Value} {x : DataW H × List MemPlace} (h : DataW.trod enc Try.prog w base sp held fuel 42 [v] = some x) (hfit : Fits 42 x.1) : ∃ l, IntsLIn w.heap.size w v l :=
  open_sl rdInts Try.underlying42 cells36 (by decide) bytes36 (by omega) (fun m cs y b o ht hf hl hcell => by
    match cs, hl with
    | [u], _ =>
      obtain ⟨l, hl⟩ := open_ints0 ht hf
      exact ⟨l, u, hcell 0 (by decide), hl⟩) h hfit
theorem open_bat0 {fuel : Nat} {cs : List Value} {x : DataW H × List MemPlace} (h : DataW.trod enc Try.prog w base sp held fuel 75 cs = some x) (hfit : Fits 75 x.1) :
    ∃ (vg vb va : Value) (b : Bat), cs = [vg, vb, va] ∧ BatAt w.heap.size w vg vb va b := by
  obtain ⟨xs, n, -, rfl, hl, hx, hf⟩ := DataW.trod_struct Try.underlying75 h
  rw [cells75] at hl
  match cs, hl with
  | [c0, c1, c2], _ =>
    have hx4 : xs.length = 3 := hx
    obtain ⟨y0, h0⟩ := getSome hx4 (show 0 < 3 by omega)
    have e0 : DataW.trod enc Try.prog w base sp held n 36 (([c0, c1, c2].drop 0).take (Try.prog.cellsOf 36)) = some y0 := (hf 0 _ rfl).trans h0
    rw [cells36] at e0
    simp only [List.drop_zero, List.take_succ_cons, List.take_zero] at e0
    have f0 := Fits.part Try.underlying75 hfit (i := 0) rfl (d := y0.1) (by rw [List.getElem?_map, h0]; rfl)
    obtain ⟨y1, h1⟩ := getSome hx4 (show 1 < 3 by omega)
    have e1 : DataW.trod enc Try.prog w base sp held n 36 (([c0, c1, c2].drop 1).take (Try.prog.cellsOf 36)) = some y1 := (hf 1 _ rfl).trans h1
    rw [cells36] at e1
    simp only [List.drop_zero, List.take_succ_cons, List.take_zero, List.drop_succ_cons] at e1
    have f1 := Fits.part Try.underlying75 hfit (i := 1) rfl (d := y1.1) (by rw [List.getElem?_map, h1]; rfl)
    obtain ⟨y2, h2⟩ := getSome hx4 (show 2 < 3 by omega)
    have e2 : DataW.trod enc Try.prog w base sp held n 54 (([c0, c1, c2].drop 2).take (Try.prog.cellsOf 54)) = some y2 := (hf 2 _ rfl).trans h2
    rw [cells54] at e2
    simp only [List.drop_zero, List.take_succ_cons, List.take_zero, List.drop_succ_cons] at e2
    have f2 := Fits.part Try.underlying75 hfit (i := 2) rfl (d := y2.1) (by rw [List.getElem?_map, h2]; rfl)
    obtain ⟨g, hg⟩ := open_ints0 e0 f0
    obtain ⟨k, hk⟩ := open_ints0 e1 f1
    obtain ⟨a, ha⟩ := open_spans0 e2 f2
    exact ⟨c0, c1, c2, ⟨g, k, a⟩, rfl, hg, hk, ha⟩
theorem open_bats0 {fuel : Nat} {v : Value} {x : DataW H × List MemPlace} (h : DataW.trod enc Try.prog w base sp held fuel 31 [v] = some x) (hfit : Fits 31 x.1) : ∃ l, BatsIn w.heap.size w v l :=
  open_sl rdBat Try.underlying31 cells75 (by decide) bytes75 (by omega) (fun m cs y b o ht hf hl hcell => by
    obtain ⟨vg, vb, va, q, rfl, hq⟩ := open_bat0 ht hf
    exact ⟨q, vg, vb, va, hcell 0 (by decide), hcell 1 (by decide), hcell 2 (by decide), hq⟩) h hfit
theorem open_shop0 {fuel : Nat} {cs : List Value} {x : DataW H × List MemPlace} (h : DataW.trod enc Try.prog w base sp held fuel 25 cs = some x) (hfit : Fits 25 x.1) :
    ∃ (vt vl : Value) (s : Shop), cs = [vt, vl] ∧ ShopAt w.heap.size w vt vl s := by
  obtain ⟨xs, n, -, rfl, hl, hx, hf⟩ := DataW.trod_struct Try.underlying25 h
  rw [cells25] at hl
  match cs, hl with
  | [c0, c1], _ =>
    have hx4 : xs.length = 2 := hx
    obtain ⟨y0, h0⟩ := getSome hx4 (show 0 < 2 by omega)
    have e0 : DataW.trod enc Try.prog w base sp held n 22 (([c0, c1].drop 0).take (Try.prog.cellsOf 22)) = some y0 := (hf 0 _ rfl).trans h0
    rw [cells22] at e0
    simp only [List.drop_zero, List.take_succ_cons, List.take_zero] at e0
    have f0 := Fits.part Try.underlying25 hfit (i := 0) rfl (d := y0.1) (by rw [List.getElem?_map, h0]; rfl)
    obtain ⟨y1, h1⟩ := getSome hx4 (show 1 < 2 by omega)
    have e1 : DataW.trod enc Try.prog w base sp held n 23 (([c0, c1].drop 1).take (Try.prog.cellsOf 23)) = some y1 := (hf 1 _ rfl).trans h1
    rw [cells23] at e1
    simp only [List.drop_zero, List.take_succ_cons, List.take_zero, List.drop_succ_cons] at e1
    have f1 := Fits.part Try.underlying25 hfit (i := 1) rfl (d := y1.1) (by rw [List.getElem?_map, h1]; rfl)
    obtain ⟨t, ht⟩ := open_things0 e0 f0
    obtain ⟨l, hl⟩ := open_lots0 e1 f1
    exact ⟨c0, c1, ⟨t, l⟩, rfl, ht, hl⟩
theorem open_tru0 {fuel : Nat} {cs : List Value} {x : DataW H × List MemPlace} (h : DataW.trod enc Try.prog w base sp held fuel 44 cs = some x) (hfit : Fits 44 x.1) :
    ∃ (vl vb va : Value) (x : Tru), cs = [vl, vb, va] ∧ TruAt w.heap.size w vl vb va x := by
  obtain ⟨xs, n, -, rfl, hl, hx, hf⟩ := DataW.trod_struct Try.underlying44 h
  rw [cells44] at hl
  match cs, hl with
  | [c0, c1, c2], _ =>
    have hx4 : xs.length = 3 := hx
    obtain ⟨y0, h0⟩ := getSome hx4 (show 0 < 3 by omega)
    have e0 : DataW.trod enc Try.prog w base sp held n 42 (([c0, c1, c2].drop 0).take (Try.prog.cellsOf 42)) = some y0 := (hf 0 _ rfl).trans h0
    rw [cells42] at e0
    simp only [List.drop_zero, List.take_succ_cons, List.take_zero] at e0
    have f0 := Fits.part Try.underlying44 hfit (i := 0) rfl (d := y0.1) (by rw [List.getElem?_map, h0]; rfl)
    obtain ⟨y1, h1⟩ := getSome hx4 (show 1 < 3 by omega)
    have e1 : DataW.trod enc Try.prog w base sp held n 42 (([c0, c1, c2].drop 1).take (Try.prog.cellsOf 42)) = some y1 := (hf 1 _ rfl).trans h1
    rw [cells42] at e1
    simp only [List.drop_zero, List.take_succ_cons, List.take_zero, List.drop_succ_cons] at e1
    have f1 := Fits.part Try.underlying44 hfit (i := 1) rfl (d := y1.1) (by rw [List.getElem?_map, h1]; rfl)
    obtain ⟨y2, h2⟩ := getSome hx4 (show 2 < 3 by omega)
    have e2 : DataW.trod enc Try.prog w base sp held n 36 (([c0, c1, c2].drop 2).take (Try.prog.cellsOf 36)) = some y2 := (hf 2 _ rfl).trans h2
    rw [cells36] at e2
    simp only [List.drop_zero, List.take_succ_cons, List.take_zero, List.drop_succ_cons] at e2
    have f2 := Fits.part Try.underlying44 hfit (i := 2) rfl (d := y2.1) (by rw [List.getElem?_map, h2]; rfl)
    obtain ⟨l, hl⟩ := open_lists0 e0 f0
    obtain ⟨b, hb⟩ := open_lists0 e1 f1
    obtain ⟨a, ha⟩ := open_ints0 e2 f2
    exact ⟨c0, c1, c2, ⟨l, b, a⟩, rfl, hl, hb, ha⟩
theorem open_melt0 {fuel : Nat} {cs : List Value} {x : DataW H × List MemPlace} (h : DataW.trod enc Try.prog w base sp held fuel 46 cs = some x) (hfit : Fits 46 x.1) :
    ∃ (k : Int) (vl vb va : Value) (x : Tru), cs = [.int .i64 k, vl, vb, va] ∧ TruAt w.heap.size w vl vb va x := by
  obtain ⟨xs, n, -, rfl, hl, hx, hf⟩ := DataW.trod_struct Try.underlying46 h
  rw [cells46] at hl
  match cs, hl with
  | [c0, c1, c2, c3], _ =>
    have hx4 : xs.length = 2 := hx
    obtain ⟨y0, h0⟩ := getSome hx4 (show 0 < 2 by omega)
    have e0 : DataW.trod enc Try.prog w base sp held n 3 (([c0, c1, c2, c3].drop 0).take (Try.prog.cellsOf 3)) = some y0 := (hf 0 _ rfl).trans h0
    rw [cells3] at e0
    simp only [List.drop_zero, List.take_succ_cons, List.take_zero] at e0
    have f0 := Fits.part Try.underlying46 hfit (i := 0) rfl (d := y0.1) (by rw [List.getElem?_map, h0]; rfl)
    obtain ⟨y1, h1⟩ := getSome hx4 (show 1 < 2 by omega)
    have e1 : DataW.trod enc Try.prog w base sp held n 44 (([c0, c1, c2, c3].drop 1).take (Try.prog.cellsOf 44)) = some y1 := (hf 1 _ rfl).trans h1
    rw [cells44] at e1
    simp only [List.drop_zero, List.take_succ_cons, List.take_zero, List.drop_succ_cons] at e1
    have f1 := Fits.part Try.underlying46 hfit (i := 1) rfl (d := y1.1) (by rw [List.getElem?_map, h1]; rfl)
    obtain ⟨k, ek, -⟩ := DataW.trod_int Try.underlying3 e0
    obtain ⟨vl, vb, va, x, e, hx⟩ := open_tru0 e1 f1
    simp only [List.cons.injEq, and_true] at ek e
    exact ⟨k, vl, vb, va, x, by rw [ek, e.1, e.2.1, e.2.2], hx⟩
/-- A shop among the arguments. -/
theorem open_shop {v : Value} {d : DataW H} {ps : List MemPlace} {r : Reach} {b0 : Nat} (h : DataW.Trod enc Try.prog w base sp held 25 v d ps) (hfit : Fits 25 d) (hval : Value.okWide Try.prog w r b0 25 v) :
    ∃ (vt vl : Value) (s : Shop), v = .agg #[vt, vl] ∧ ShopAt w.heap.size w vt vl s := by
  obtain ⟨fuel, h⟩ := h
  obtain ⟨cc, rfl, -⟩ := okWide_struct Try.underlying25 hval
  obtain ⟨vt, vl, s, e, hs⟩ := open_shop0 h hfit
  have e' : cc.toList = [vt, vl] := e
  exact ⟨vt, vl, s, by rw [← Array.toArray_toList (xs := cc), e'], hs⟩
theorem open_bats {v : Value} {d : DataW H} {ps : List MemPlace} {r : Reach} {b0 : Nat} (h : DataW.Trod enc Try.prog w base sp held 31 v d ps) (hfit : Fits 31 d) (hval : Value.okWide Try.prog w r b0 31 v) : ∃ l, BatsIn w.heap.size w v l := by
  obtain ⟨fuel, h⟩ := h
  rw [cells_one Try.underlying31 hval] at h
  exact open_bats0 h hfit
theorem open_melt {v : Value} {d : DataW H} {ps : List MemPlace} {r : Reach} {b0 : Nat} (h : DataW.Trod enc Try.prog w base sp held 46 v d ps) (hfit : Fits 46 d) (hval : Value.okWide Try.prog w r b0 46 v) :
    ∃ (k : Int) (tl tb ta : Value) (x : Tru), v = .agg #[.int .i64 k, tl, tb, ta] ∧ TruAt w.heap.size w tl tb ta x := by
  obtain ⟨fuel, h⟩ := h
  obtain ⟨cc, rfl, -⟩ := okWide_struct Try.underlying46 hval
  obtain ⟨k, vl, vb, va, x, e, hs⟩ := open_melt0 h hfit
  have e' : cc.toList = [.int .i64 k, vl, vb, va] := e
  exact ⟨k, vl, vb, va, x, by rw [← Array.toArray_toList (xs := cc), e'], hs⟩
theorem open_turns {v : Value} {d : DataW H} {ps : List MemPlace} {r : Reach} {b0 : Nat} (h : DataW.Trod enc Try.prog w base sp held 65 v d ps) (hfit : Fits 65 d) (hval : Value.okWide Try.prog w r b0 65 v) :
    ∃ l : List Int, IntsIn .u32 w.heap.size w v l ∧ ∀ x ∈ l, 0 ≤ x ∧ x ≤ 4294967295 := by
  obtain ⟨fuel, h⟩ := h
  rw [cells_one Try.underlying65 hval] at h
  obtain ⟨l, h1, h2⟩ := open_list0 Try.underlying65 Try.underlying76 cells76 bytes76 (by omega) h hfit
  exact ⟨l, h1, fun x hx => bounds_u32 (h2 x hx)⟩
theorem open_arr {t e : TypeId} {k : IntKind} {n : Nat} (ht : Try.prog.underlying t = some (.array n e)) (he : Try.prog.underlying e = some (.int k)) (hce : Try.prog.cellsOf e = 1) (hct : Try.prog.cellsOf t = n) {v : Value} {d : DataW H} {ps : List MemPlace} {r : Reach} {b0 : Nat} (h : DataW.Trod enc Try.prog w base sp held t v d ps) (hval : Value.okWide Try.prog w r b0 t v) :
    ∃ l : List Int, l.length = n ∧ v = .agg (l.map (Value.int k)).toArray ∧ ∀ x ∈ l, (Lit.int k x).wf = true := by
  obtain ⟨fuel, h⟩ := h
  obtain ⟨cc, rfl⟩ : ∃ cc, v = .agg cc := by
    simp only [Value.okWide, ht] at hval
    obtain ⟨cs, h1, _⟩ := hval
    exact ⟨cs, h1⟩
  obtain ⟨xs, m, -, -, hl, hx, hf⟩ := DataW.trod_array ht h
  have hcl : cc.toList.length = n := by rw [← hct]; exact hl
  have each : ∀ i, i < n → ∃ z : Int, cc.toList[i]? = some (.int k z) ∧ (Lit.int k z).wf = true := by
    intro i hi
    obtain ⟨y, hy⟩ := getSome hx hi
    have e0 : DataW.trod enc Try.prog w base sp held m e ((cc.toList.drop (i * Try.prog.cellsOf e)).take (Try.prog.cellsOf e)) = some y := (hf i hi).trans hy
    rw [hce, Nat.mul_one] at e0
    obtain ⟨z, ez, -, hw⟩ := DataW.trod_int he e0
    refine ⟨z, ?_, hw⟩
    have : ((cc.toList.drop i).take 1)[0]? = some (.int k z) := by rw [ez]; rfl
    rw [List.getElem?_take, if_pos (by omega), List.getElem?_drop] at this
    simpa using this
  obtain ⟨f, hf2⟩ := choose_lt (α := Int) each
  refine ⟨(List.range n).map f, by simp, ?_, ?_⟩
  · have : cc.toList = ((List.range n).map f).map (Value.int k) := by
      apply List.ext_getElem?
      intro i
      by_cases hi : i < n
      · rw [(hf2 i hi).1]
        simp [hi]
      · rw [List.getElem?_eq_none (by omega), List.getElem?_eq_none (by simp; omega)]
    rw [← this, Array.toArray_toList]
  · intro x hx
    obtain ⟨i, hi, rfl⟩ := List.mem_map.1 hx
    exact (hf2 i (List.mem_range.1 hi)).2
theorem open_three {v : Value} {d : DataW H} {ps : List MemPlace} {r : Reach} {b0 : Nat} (h : DataW.Trod enc Try.prog w base sp held 49 v d ps) (hval : Value.okWide Try.prog w r b0 49 v) :
    ∃ x0 x1 x2 : Int, v = .agg #[.int .i64 x0, .int .i64 x1, .int .i64 x2] := by
  obtain ⟨l, hl, rfl, hb⟩ := open_arr Try.underlying49 Try.underlying3 cells3 cells49 h hval
  match l, hl with
  | [x0, x1, x2], _ => exact ⟨x0, x1, x2, rfl⟩
theorem open_two {v : Value} {d : DataW H} {ps : List MemPlace} {r : Reach} {b0 : Nat} (h : DataW.Trod enc Try.prog w base sp held 77 v d ps) (hval : Value.okWide Try.prog w r b0 77 v) :
    ∃ x0 x1 : Int, v = .agg #[.int .u32 x0, .int .u32 x1] ∧ (0 ≤ x0 ∧ x0 ≤ 4294967295) ∧ (0 ≤ x1 ∧ x1 ≤ 4294967295) := by
  obtain ⟨l, hl, rfl, hb⟩ := open_arr Try.underlying77 Try.underlying76 cells76 cells77 h hval
  match l, hl with
  | [x0, x1], _ => exact ⟨x0, x1, rfl, bounds_u32 (hb x0 (by simp)), bounds_u32 (hb x1 (by simp))⟩
end
end Go.Proofs.Ytaigbhhmmdfdcaa
/- A law whose arguments are only read: its last step from its walk. -/
namespace Go.Proofs.Ytaigbhhmmdfdcaa
open Go.ChangeShapes Go.WideShapes Go.ChangeAt Go.RowKit
section
variable {H : Type} {enc : TypeId × Value → H}
/-- The arguments read as they did. -/
theorem args_stay {W W' : World} {sp : Nat → Bool} (hb : Below W.heap.size W W') : ∀ {ts : List TypeId} {vs : List Value} {ds : List (DataW H)} {ps : List MemPlace}, DataW.TrodAll enc Try.prog W 0 (fun _ => true) true ts vs ds ps →
    (∀ t ∈ ts, Try.prog.readableRec t = true ∧ t < Try.prog.types.size) → (∀ p ∈ ps, p.block < W.heap.size) → (∀ p ∈ ps, sp p.block = true) → DataW.TrodAll enc Try.prog W' 0 sp true ts vs ds ps
  | [], [], [], _, h, _, _, _ => h
  | t :: ts, v :: vs, d :: ds, ps, h, ht, hlt, hsp => by
    obtain ⟨p, q, h1, h2, rfl⟩ := h
    refine ⟨p, q, WideElems.Trod_stays laidP (ht t List.mem_cons_self).1 (ht t List.mem_cons_self).2 h1 (fun x hx => hb.same (hlt x (List.mem_append_left _ hx))) (fun x hx => hsp x (List.mem_append_left _ hx)),
      args_stay hb h2 (fun t' h' => ht t' (List.mem_cons_of_mem _ h')) (fun x hx => hlt x (List.mem_append_right _ hx)) (fun x hx => hsp x (List.mem_append_right _ hx)), rfl⟩
  | [], [], _ :: _, _, h, _, _, _ => h.elim
  | [], _ :: _, _, _, h, _, _, _ => h.elim
  | _ :: _, [], _, _, h, _, _, _ => h.elim
  | _ :: _, _ :: _, [], _, h, _, _, _ => h.elim
set_option maxRecDepth 100000 in
/-- What a law of read arguments owes beside its walk. -/
theorem law_done {f : Func} {s : ChangeSpec} {again : Bool} {W W' : World} {args : Array Value} {ds gs : List (DataW H)} {before : List MemPlace} {e : Ending} (hvars : s.vars = [])
    (hW : DataW.Whole enc Try.prog f.params.toList s.vars false W args.toList ds gs before) (hrt : f.resultTypes = #[4]) (hpar : ∀ t ∈ f.params.toList, Try.prog.readableRec t = true ∧ t < Try.prog.types.size)
    (hspec : s.fn H (ds ++ gs) = { results := [.lit (.bool true)], args := ds }) (he : e = .returned (.bool true)) (hb : Below W.heap.size W W') :
    ∃ v, e = .returned v ∧ s.post enc Try.prog f false true false again W args v W' := by
  have hW' := hW
  obtain ⟨p, q, hA, hV, hbq, _, _⟩ := hW
  rw [hvars] at hV
  obtain ⟨rfl, rfl⟩ := trodVars_none hV
  have lt : ∀ x ∈ before, x.block < W.heap.size := fun x hx => hW'.lt x hx
  refine ⟨_, he, law_post (pa := p) (pv := []) hW' hb (by rw [hbq]) ?_ ?_ ?_ ?_⟩
  · intro b sp hd
    rw [hspec, hrt]
    exact trodAll_cons_mk (shut_bool Try.underlying4 _) trodAll_mk0
  · intro sp hsp
    rw [hspec]
    exact args_stay hb hA hpar (fun x hx => lt x (by rw [hbq]; simpa using hx)) (fun x hx => hsp x (by rw [hbq]; simpa using hx))
  · intro sp _
    rw [hvars, hspec]
    rfl
  · exact ok_one hrt rfl (okWide_bool_mk Try.underlying4 _)
theorem fits_of {ts : List TypeId} {ds : List (DataW H)} (h : (DataW.weightsEach Try.prog ts ds).all (· ≤ reachBytes) = true) {j : Nat} {t : TypeId} {d : DataW H} (ht : ts[j]? = some t) (hd : ds[j]? = some d) : Fits t d :=
  fun n hn => by simpa using List.all_eq_true.1 h n (DataW.weights_mem_each ht hd n hn)
end
end Go.Proofs.Ytaigbhhmmdfdcaa
