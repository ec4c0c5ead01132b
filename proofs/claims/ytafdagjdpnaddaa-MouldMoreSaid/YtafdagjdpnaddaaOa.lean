/- What a law owes at its last step, and its arguments opened. -/
import Derived.Test.YtafdagjdpnaddaaRows
import Derived.WalkKit
import Derived.ProofKit
import Derived.OpenShut
import Derived.Below
import Derived.ChangeSame
import Derived.Carry
import Derived.Test.YtafdagjdpnaddaaW9
import Derived.Deep.Slices
import Derived.ChangeSlices
import Derived.SizedLaws
/- What a law's last step owes: the answer true, the arguments as they were, in a world that has new blocks alone. -/
namespace Go.Proofs.Ytafdagjdpnaddaa
open Go.ChangeShapes Go.WideShapes Go.ChangeAt Go.RowKit
section
variable {H : Type} {enc : TypeId × Value → H} {P : Program}
/-- The end of a law: nothing old has turned. -/
theorem law_post {f : Func} {s : ChangeSpec} {apart fresh handsOn again : Bool} {W W' : World} {args : Array Value} {v : Value} {ds gs : List (DataW H)} {before pa pv : List MemPlace}
    (hW : DataW.Whole enc P f.params.toList s.vars apart W args.toList ds gs before) (hb : Below W.heap.size W W') (hps : before = pa ++ pv)
    (hres : ∀ (b : Nat) (sp : Nat → Bool) (hd : Bool), DataW.TrodAll enc P W' b sp hd f.resultTypes.toList (v.resultList f.resultTypes.size) (s.fn H (ds ++ gs)).results [])
    (hargs : ∀ sp : Nat → Bool, (∀ p ∈ before, sp p.block = true) → DataW.TrodAll enc P W' 0 sp true f.params.toList args.toList (s.fn H (ds ++ gs)).args pa)
    (hvars : ∀ sp : Nat → Bool, (∀ p ∈ before, sp p.block = true) → DataW.TrodVars enc P W' sp s.vars (s.fn H (ds ++ gs)).vars pv)
    (hok : ∀ (j : Nat) (t : TypeId) (r : Value), f.resultTypes[j]? = some t → (v.resultList f.resultTypes.size)[j]? = some r → Value.okWide P W' .any 0 t r) :
    s.post enc P f apart fresh handsOn again W args v W' := by
  have lt : ∀ p ∈ before, p.block < W.heap.size := fun p hp => hW.lt p hp
  have old : ∀ p ∈ before, (fun b => decide (b < W.heap.size)) p.block = true := fun p hp => decide_eq_true (lt p hp)
  have hcut : ∀ p ∈ before, p ∈ pa ++ pv := fun p hp => hps ▸ hp
  refine ⟨ds, gs, before, [], pa, pv, hW, hres _ _ _, hargs _ old, hvars _ old, World.keptBut_mono (fun p hp => ⟨hp, .inr (List.mem_append.1 (hcut p hp))⟩) (hb.frame (· ∈ before)), fun _ => ?_⟩
  obtain ⟨_, _, _, _, _, hz, hn⟩ := hW
  refine ⟨hok, _, _, ([] ++ pa) ++ pv, ⟨[] ++ pa, pv, trodAll_append (hargs _ fun _ _ => rfl) (hres _ _ _), hvars _ fun _ _ => rfl, rfl, fun b off hp => ?_, fun ha => ?_⟩, fun p hp _ => ?_⟩
  · have hin : MemPlace.cell b off ∈ before := by rw [hps]; simpa using hp
    exact (hb.frozen (lt _ hin)).trans (hz b off hin)
  · simpa [hps] using hn ha
  · rw [hps]; simpa using hp
end
theorem own : ownKnob Try.prog.godebug = none := by kernel_rfl
theorem laidP : laidOutB Try.prog = true := by kernel_rfl
end Go.Proofs.Ytafdagjdpnaddaa
/- The arguments of the laws, opened: moulds, truths, turns, lists and arrays of small numbers. -/
namespace Go.Proofs.Ytafdagjdpnaddaa
open Go.ChangeShapes Go.WideShapes Go.ChangeAt Go.RowKit Go.Deep
set_option maxRecDepth 100000
section
variable {H : Type} {enc : TypeId × Value → H} {w : World} {base : Nat} {sp : Nat → Bool} {held : Bool}
theorem cellsI3 : Try.prog.cellsOf 3 = 1 := by kernel_rfl
theorem cells23 : Try.prog.cellsOf 23 = 2 := by kernel_rfl
theorem cells25 : Try.prog.cellsOf 25 = 12 := by kernel_rfl
theorem cells26 : Try.prog.cellsOf 26 = 1 := by kernel_rfl
theorem cells28 : Try.prog.cellsOf 28 = 2 := by kernel_rfl
theorem cells55 : Try.prog.cellsOf 55 = 1 := by kernel_rfl
theorem cells56 : Try.prog.cellsOf 56 = 1 := by kernel_rfl
theorem cells58 : Try.prog.cellsOf 58 = 2 := by kernel_rfl
theorem cells73 : Try.prog.cellsOf 73 = 4 := by kernel_rfl
theorem cells77 : Try.prog.cellsOf 77 = 3 := by kernel_rfl
theorem cells79 : Try.prog.cellsOf 79 = 5 := by kernel_rfl
theorem bytes3 : Try.prog.bytesOf 3 = 8 := by kernel_rfl
theorem bytes55 : Try.prog.bytesOf 55 = 2 := by kernel_rfl

/-- What is read fits a machine. -/
def Fits (t : TypeId) (d : DataW H) : Prop := ∀ n ∈ d.weights Try.prog t, n ≤ reachBytes
theorem Fits.part {t : TypeId} {fs : Array Field} {parts : List (DataW H)} (hu : Try.prog.underlying t = some (.struct fs)) (h : Fits t (.agg parts)) {i : Nat} {f : Field} {d : DataW H} (hf : fs[i]? = some f) (hd : parts[i]? = some d) : Fits f.type d := fun n hn => by
  refine h n ?_
  simp only [DataW.weights, hu]
  exact DataW.weights_mem_each (j := i) (by simp [hf]) hd n hn
theorem Fits.slice {t e : TypeId} {es sp : List (DataW H)} (hu : Try.prog.underlying t = some (.slice e)) (h : Fits t (.slice es sp)) : (es.length + sp.length) * Try.prog.bytesOf e ≤ reachBytes := h _ (by simp [DataW.weights, hu])
theorem weightsAll_mem {e : TypeId} {d : DataW H} {ds : List (DataW H)} (hd : d ∈ ds) {n : Nat} (hn : n ∈ d.weights Try.prog e) : n ∈ DataW.weightsAll Try.prog e ds := by
  induction ds with
  | nil => simp at hd
  | cons x r ih =>
    simp only [DataW.weightsAll, List.mem_append]
    rcases List.mem_cons.1 hd with rfl | hd
    · exact .inl hn
    · exact .inr (ih hd)
theorem Fits.item {t e : TypeId} {n0 : Nat} {es : List (DataW H)} (hu : Try.prog.underlying t = some (.array n0 e)) (h : Fits t (.agg es)) {d : DataW H} (hd : d ∈ es) : Fits e d := fun n hn => h n (by simp only [DataW.weights, hu]; exact weightsAll_mem hd hn)
theorem getSome {α : Type} {l : List α} {n i : Nat} (h : l.length = n) (hi : i < n) : ∃ x, l[i]? = some x := ⟨l[i]'(by omega), List.getElem?_eq_getElem (by omega)⟩
theorem add_flat {a : Addr} {i : Nat} {b : Nat} {o : Nat} (h : a = ⟨b, o, none⟩) : a.add i = ⟨b, o + i, none⟩ := by
  subst h
  unfold Addr.add
  split <;> simp_all
theorem open_span {fuel : Nat} {cs : List Value} {x : DataW H × List MemPlace} (h : DataW.trod enc Try.prog w base sp held fuel 23 cs = some x) : ∃ lo hi : Int, cs = [.int .i64 lo, .int .i64 hi] := by
  obtain ⟨xs, n, -, -, hl, hx, hf⟩ := DataW.trod_struct Try.underlying23 h
  rw [cells23] at hl
  match cs, hl with
  | [c0, c1], _ =>
    have hx4 : xs.length = 2 := hx
    obtain ⟨y0, h0⟩ := getSome hx4 (show 0 < 2 by omega)
    obtain ⟨y1, h1⟩ := getSome hx4 (show 1 < 2 by omega)
    have e0 : DataW.trod enc Try.prog w base sp held n 3 (([c0, c1].drop 0).take (Try.prog.cellsOf 3)) = some y0 := (hf 0 _ rfl).trans h0
    have e1 : DataW.trod enc Try.prog w base sp held n 3 (([c0, c1].drop 1).take (Try.prog.cellsOf 3)) = some y1 := (hf 1 _ rfl).trans h1
    rw [cellsI3] at e0 e1
    obtain ⟨a, ea, -⟩ := DataW.trod_int Try.underlying3 e0
    obtain ⟨b, eb, -⟩ := DataW.trod_int Try.underlying3 e1
    simp at ea eb
    exact ⟨a, b, by rw [ea, eb]⟩
theorem open_mould {v : Value} {d : DataW H} {ps : List MemPlace} {r : Reach} {b0 : Nat} (h : DataW.Trod enc Try.prog w base sp held 25 v d ps) (hval : Value.okWide Try.prog w r b0 25 v) :
    ∃ m : Mou, v = .agg #[.int .i64 m.rings, .int .i64 m.give, .int .i64 m.pl, .int .i64 m.ph, .int .i64 m.wl, .int .i64 m.wh, .int .i64 m.set, .int .i64 m.shrink, .int .i64 m.skin, .int .i64 m.fill, .int .i64 m.gap, .int .i64 m.deep] := by
  obtain ⟨fuel, h⟩ := h
  obtain ⟨cc, rfl, -⟩ := okWide_struct Try.underlying25 hval
  obtain ⟨xs, n, -, -, hl, hx, hf⟩ := DataW.trod_struct Try.underlying25 h
  rw [cells25] at hl
  have hcl : cc.toList.length = 12 := hl
  obtain ⟨c0, c1, c2, c3, c4, c5, c6, c7, c8, c9, c10, c11, hcs⟩ : ∃ c0 c1 c2 c3 c4 c5 c6 c7 c8 c9 c10 c11, cc.toList = [c0, c1, c2, c3, c4, c5, c6, c7, c8, c9, c10, c11] := by
    match cc.toList, hcl with
    | [c0, c1, c2, c3, c4, c5, c6, c7, c8, c9, c10, c11], _ => exact ⟨c0, c1, c2, c3, c4, c5, c6, c7, c8, c9, c10, c11, rfl⟩
  have hcs' : (Value.agg cc).cells.toList = [c0, c1, c2, c3, c4, c5, c6, c7, c8, c9, c10, c11] := hcs
  rw [hcs'] at hf
  have hx10 : xs.length = 10 := hx
  have E : ∀ i, i < 10 → ∃ y, xs[i]? = some y := fun i hi => getSome hx10 hi
  obtain ⟨y0, h0⟩ := E 0 (by omega)
  obtain ⟨y1, h1⟩ := E 1 (by omega)
  obtain ⟨y2, h2⟩ := E 2 (by omega)
  obtain ⟨y3, h3⟩ := E 3 (by omega)
  obtain ⟨y4, h4⟩ := E 4 (by omega)
  obtain ⟨y5, h5⟩ := E 5 (by omega)
  obtain ⟨y6, h6⟩ := E 6 (by omega)
  obtain ⟨y7, h7⟩ := E 7 (by omega)
  obtain ⟨y8, h8⟩ := E 8 (by omega)
  obtain ⟨y9, h9⟩ := E 9 (by omega)
  have e0 : DataW.trod enc Try.prog w base sp held n 3 (([c0, c1, c2, c3, c4, c5, c6, c7, c8, c9, c10, c11].drop 0).take (Try.prog.cellsOf 3)) = some y0 := (hf 0 _ rfl).trans h0
  have e1 : DataW.trod enc Try.prog w base sp held n 3 (([c0, c1, c2, c3, c4, c5, c6, c7, c8, c9, c10, c11].drop 1).take (Try.prog.cellsOf 3)) = some y1 := (hf 1 _ rfl).trans h1
  have e2 : DataW.trod enc Try.prog w base sp held n 23 (([c0, c1, c2, c3, c4, c5, c6, c7, c8, c9, c10, c11].drop 2).take (Try.prog.cellsOf 23)) = some y2 := (hf 2 _ rfl).trans h2
  have e3 : DataW.trod enc Try.prog w base sp held n 23 (([c0, c1, c2, c3, c4, c5, c6, c7, c8, c9, c10, c11].drop 4).take (Try.prog.cellsOf 23)) = some y3 := (hf 3 _ rfl).trans h3
  have e4 : DataW.trod enc Try.prog w base sp held n 3 (([c0, c1, c2, c3, c4, c5, c6, c7, c8, c9, c10, c11].drop 6).take (Try.prog.cellsOf 3)) = some y4 := (hf 4 _ rfl).trans h4
  have e5 : DataW.trod enc Try.prog w base sp held n 3 (([c0, c1, c2, c3, c4, c5, c6, c7, c8, c9, c10, c11].drop 7).take (Try.prog.cellsOf 3)) = some y5 := (hf 5 _ rfl).trans h5
  have e6 : DataW.trod enc Try.prog w base sp held n 3 (([c0, c1, c2, c3, c4, c5, c6, c7, c8, c9, c10, c11].drop 8).take (Try.prog.cellsOf 3)) = some y6 := (hf 6 _ rfl).trans h6
  have e7 : DataW.trod enc Try.prog w base sp held n 3 (([c0, c1, c2, c3, c4, c5, c6, c7, c8, c9, c10, c11].drop 9).take (Try.prog.cellsOf 3)) = some y7 := (hf 7 _ rfl).trans h7
  have e8 : DataW.trod enc Try.prog w base sp held n 3 (([c0, c1, c2, c3, c4, c5, c6, c7, c8, c9, c10, c11].drop 10).take (Try.prog.cellsOf 3)) = some y8 := (hf 8 _ rfl).trans h8
  have e9 : DataW.trod enc Try.prog w base sp held n 3 (([c0, c1, c2, c3, c4, c5, c6, c7, c8, c9, c10, c11].drop 11).take (Try.prog.cellsOf 3)) = some y9 := (hf 9 _ rfl).trans h9
  rw [cellsI3] at e0 e1 e4 e5 e6 e7 e8 e9
  rw [cells23] at e2 e3
  obtain ⟨a0, q0, -⟩ := DataW.trod_int Try.underlying3 e0
  obtain ⟨a1, q1, -⟩ := DataW.trod_int Try.underlying3 e1
  obtain ⟨a2, b2, q2⟩ := open_span e2
  obtain ⟨a3, b3, q3⟩ := open_span e3
  obtain ⟨a4, q4, -⟩ := DataW.trod_int Try.underlying3 e4
  obtain ⟨a5, q5, -⟩ := DataW.trod_int Try.underlying3 e5
  obtain ⟨a6, q6, -⟩ := DataW.trod_int Try.underlying3 e6
  obtain ⟨a7, q7, -⟩ := DataW.trod_int Try.underlying3 e7
  obtain ⟨a8, q8, -⟩ := DataW.trod_int Try.underlying3 e8
  obtain ⟨a9, q9, -⟩ := DataW.trod_int Try.underlying3 e9
  simp at q0 q1 q2 q3 q4 q5 q6 q7 q8 q9
  refine ⟨⟨a0, a1, a2, b2, a3, b3, a4, a5, a6, a7, a8, a9⟩, ?_⟩
  rw [← Array.toArray_toList (xs := cc), hcs, q0, q1, q2.1, q2.2, q3.1, q3.2, q4, q5, q6, q7, q8, q9]
/-- A list of numbers of kind k. -/
theorem open_list0 {t e : TypeId} {k : IntKind} {by1 : Nat} (ht : Try.prog.underlying t = some (.slice e)) (he : Try.prog.underlying e = some (.int k)) (hc1 : Try.prog.cellsOf e = 1) (hbe : Try.prog.bytesOf e = by1) (hb1 : 1 ≤ by1)
    {v : Value} {x : DataW H × List MemPlace} {fuel : Nat} (h : DataW.trod enc Try.prog w base sp held fuel t [v] = some x) (hfit : Fits t x.1) :
    ∃ l : List Int, IntsIn k w.heap.size w v l ∧ ∀ x ∈ l, (Lit.int k x).wf = true := by
  rcases open_ints ht he hc1 h with ⟨hv, _⟩ | ⟨a, len, cap, zs, hv, _, hlc, hcm, hzl, hx, hcell, hwf⟩
  · have e : v = .slice none 0 0 := by simpa using hv
    rw [e]
    exact ⟨[], ⟨none, 0, rfl, by simp, .inl rfl⟩, by simp⟩
  · have e : v = .slice (some a) len cap := by simpa using hv
    rw [e]
    have hle : len ≤ zs.length := by rw [hzl]; split <;> omega
    have hd : x.1 = .slice (lits k (zs.take len)) (lits k (zs.drop len)) := by rw [hx]
    have hmax : len ≤ 1000000000000000 := by
      rw [hd] at hfit
      have := Fits.slice ht hfit
      rw [hbe] at this
      simp only [lits, List.length_map, List.length_take, List.length_drop] at this
      unfold reachBytes at this
      have h2 := Nat.mul_le_mul_left (min len zs.length + (zs.length - len)) hb1
      omega
    have hl : (zs.take len).length = len := by simp; omega
    have hwf' : ∀ x ∈ zs.take len, (Lit.int k x).wf = true := fun x hx => hwf x (List.mem_of_mem_take hx)
    by_cases h0 : len = 0
    · subst h0
      exact ⟨[], ⟨some a, cap, rfl, by simp, .inl rfl⟩, by simp⟩
    have c00 := hcell 0 (by omega)
    have hs : a.spot = none := by simpa [Addr.add] using World.cell?_spot c00
    obtain ⟨b, o, s⟩ := a
    simp only at hs
    subst hs
    refine ⟨zs.take len, ⟨some ⟨b, o, none⟩, cap, by rw [hl], by omega, .inr ⟨b, o, rfl, World.block_lt_of_cell? w _ c00, fun i hi => ?_⟩⟩, hwf'⟩
    rw [hl] at hi
    have hc := hcell i (by omega)
    rw [add_flat rfl] at hc
    rw [hc, List.getD_eq_getElem?_getD, List.getD_eq_getElem?_getD, List.getElem?_take, if_pos hi]
theorem cells_one {v : Value} {t e : TypeId} {r : Reach} {b0 : Nat} (ht : Try.prog.underlying t = some (.slice e)) (hval : Value.okWide Try.prog w r b0 t v) : v.cells.toList = [v] := by
  obtain ⟨a0, n0, c0, rfl⟩ := okWide_slice ht hval
  rfl
/-- A plan among the arguments. -/
theorem open_plan {v : Value} {d : DataW H} {ps : List MemPlace} {r : Reach} {b0 : Nat} (h : DataW.Trod enc Try.prog w base sp held 26 v d ps) (hfit : Fits 26 d) (hval : Value.okWide Try.prog w r b0 26 v) :
    ∃ l : List Int, IntsIn .i64 w.heap.size w v l := by
  obtain ⟨fuel, h⟩ := h
  rw [cells_one Try.underlying26 hval] at h
  obtain ⟨l, h1, -⟩ := open_list0 Try.underlying26 Try.underlying3 cellsI3 bytes3 (by omega) h hfit
  exact ⟨l, h1⟩
/-- A struct of two slices. -/
theorem open_truth0 {fuel : Nat} {cs : List Value} {x : DataW H × List MemPlace} (h : DataW.trod enc Try.prog w base sp held fuel 28 cs = some x) (hfit : Fits 28 x.1) :
    ∃ (v1 v2 : Value) (l1 l2 : List Int), cs = [v1, v2] ∧ IntsIn .i64 w.heap.size w v1 l1 ∧ IntsIn .i64 w.heap.size w v2 l2 ∧ (∀ x ∈ l1, (Lit.int .i64 x).wf = true) ∧ ∀ x ∈ l2, (Lit.int .i64 x).wf = true := by
  obtain ⟨xs, n, -, rfl, hl, hx, hf⟩ := DataW.trod_struct Try.underlying28 h
  rw [cells28] at hl
  match cs, hl with
  | [c0, c1], _ =>
    have hx4 : xs.length = 2 := hx
    obtain ⟨y0, h0⟩ := getSome hx4 (show 0 < 2 by omega)
    obtain ⟨y1, h1⟩ := getSome hx4 (show 1 < 2 by omega)
    have e0 : DataW.trod enc Try.prog w base sp held n 26 (([c0, c1].drop 0).take (Try.prog.cellsOf 26)) = some y0 := (hf 0 _ rfl).trans h0
    have e1 : DataW.trod enc Try.prog w base sp held n 26 (([c0, c1].drop 1).take (Try.prog.cellsOf 26)) = some y1 := (hf 1 _ rfl).trans h1
    rw [cells26] at e0 e1
    have f0' := Fits.part Try.underlying28 hfit (i := 0) rfl (d := y0.1) (by rw [List.getElem?_map, h0]; rfl)
    have f1' := Fits.part Try.underlying28 hfit (i := 1) rfl (d := y1.1) (by rw [List.getElem?_map, h1]; rfl)
    obtain ⟨l1, a1, b1⟩ := open_list0 Try.underlying26 Try.underlying3 cellsI3 bytes3 (by omega) e0 f0'
    obtain ⟨l2, a2, b2⟩ := open_list0 Try.underlying26 Try.underlying3 cellsI3 bytes3 (by omega) e1 f1'
    exact ⟨c0, c1, l1, l2, rfl, a1, a2, b1, b2⟩
/-- A struct of two slices. -/
theorem open_turns0 {fuel : Nat} {cs : List Value} {x : DataW H × List MemPlace} (h : DataW.trod enc Try.prog w base sp held fuel 58 cs = some x) (hfit : Fits 58 x.1) :
    ∃ (v1 v2 : Value) (l1 l2 : List Int), cs = [v1, v2] ∧ IntsIn .u16 w.heap.size w v1 l1 ∧ IntsIn .u16 w.heap.size w v2 l2 ∧ (∀ x ∈ l1, (Lit.int .u16 x).wf = true) ∧ ∀ x ∈ l2, (Lit.int .u16 x).wf = true := by
  obtain ⟨xs, n, -, rfl, hl, hx, hf⟩ := DataW.trod_struct Try.underlying58 h
  rw [cells58] at hl
  match cs, hl with
  | [c0, c1], _ =>
    have hx4 : xs.length = 2 := hx
    obtain ⟨y0, h0⟩ := getSome hx4 (show 0 < 2 by omega)
    obtain ⟨y1, h1⟩ := getSome hx4 (show 1 < 2 by omega)
    have e0 : DataW.trod enc Try.prog w base sp held n 56 (([c0, c1].drop 0).take (Try.prog.cellsOf 56)) = some y0 := (hf 0 _ rfl).trans h0
    have e1 : DataW.trod enc Try.prog w base sp held n 56 (([c0, c1].drop 1).take (Try.prog.cellsOf 56)) = some y1 := (hf 1 _ rfl).trans h1
    rw [cells56] at e0 e1
    have f0' := Fits.part Try.underlying58 hfit (i := 0) rfl (d := y0.1) (by rw [List.getElem?_map, h0]; rfl)
    have f1' := Fits.part Try.underlying58 hfit (i := 1) rfl (d := y1.1) (by rw [List.getElem?_map, h1]; rfl)
    obtain ⟨l1, a1, b1⟩ := open_list0 Try.underlying56 Try.underlying55 cells55 bytes55 (by omega) e0 f0'
    obtain ⟨l2, a2, b2⟩ := open_list0 Try.underlying56 Try.underlying55 cells55 bytes55 (by omega) e1 f1'
    exact ⟨c0, c1, l1, l2, rfl, a1, a2, b1, b2⟩
/-- A truth among the arguments. -/
theorem open_truth {v : Value} {d : DataW H} {ps : List MemPlace} {r : Reach} {b0 : Nat} (h : DataW.Trod enc Try.prog w base sp held 28 v d ps) (hfit : Fits 28 d) (hval : Value.okWide Try.prog w r b0 28 v) :
    ∃ (v1 v2 : Value) (p ws : List Int), v = .agg #[v1, v2] ∧ IntsIn .i64 w.heap.size w v1 p ∧ IntsIn .i64 w.heap.size w v2 ws := by
  obtain ⟨fuel, h⟩ := h
  obtain ⟨cc, rfl, -⟩ := okWide_struct Try.underlying28 hval
  obtain ⟨v1, v2, l1, l2, e, h1, h2, -, -⟩ := open_truth0 h hfit
  have e' : cc.toList = [v1, v2] := e
  exact ⟨v1, v2, l1, l2, by rw [← Array.toArray_toList (xs := cc), e'], h1, h2⟩
/-- Turns: lists of small numbers. -/
def TurnsIn (w : World) (v1 v2 : Value) (l1 l2 : List Int) : Prop := IntsIn .u16 w.heap.size w v1 l1 ∧ IntsIn .u16 w.heap.size w v2 l2 ∧ (∀ x ∈ l1, 0 ≤ x ∧ x ≤ 65535) ∧ ∀ x ∈ l2, 0 ≤ x ∧ x ≤ 65535
theorem open_turns {v : Value} {d : DataW H} {ps : List MemPlace} {r : Reach} {b0 : Nat} (h : DataW.Trod enc Try.prog w base sp held 58 v d ps) (hfit : Fits 58 d) (hval : Value.okWide Try.prog w r b0 58 v) :
    ∃ (v1 v2 : Value) (l1 l2 : List Int), v = .agg #[v1, v2] ∧ TurnsIn w v1 v2 l1 l2 := by
  obtain ⟨fuel, h⟩ := h
  obtain ⟨cc, rfl, -⟩ := okWide_struct Try.underlying58 hval
  obtain ⟨v1, v2, l1, l2, e, h1, h2, h3, h4⟩ := open_turns0 h hfit
  have e' : cc.toList = [v1, v2] := e
  exact ⟨v1, v2, l1, l2, by rw [← Array.toArray_toList (xs := cc), e'], h1, h2, fun x hx => bounds_u16 (h3 x hx), fun x hx => bounds_u16 (h4 x hx)⟩
theorem open_twoT {v : Value} {d : DataW H} {ps : List MemPlace} {r : Reach} {b0 : Nat} (h : DataW.Trod enc Try.prog w base sp held 73 v d ps) (hfit : Fits 73 d) (hval : Value.okWide Try.prog w r b0 73 v) :
    ∃ (v1 v2 v3 v4 : Value) (l1 l2 l3 l4 : List Int), v = .agg #[v1, v2, v3, v4] ∧ TurnsIn w v1 v2 l1 l2 ∧ TurnsIn w v3 v4 l3 l4 := by
  obtain ⟨fuel, h⟩ := h
  obtain ⟨cc, rfl⟩ : ∃ cc, v = .agg cc := by
    simp only [Value.okWide, Try.underlying73] at hval
    obtain ⟨cs, h1, _⟩ := hval
    exact ⟨cs, h1⟩
  obtain ⟨xs, m, -, hd, hl, hx, hf⟩ := DataW.trod_array Try.underlying73 h
  have hl4 : cc.toList.length = 4 := by rw [← cells73]; exact hl
  obtain ⟨c0, c1, c2, c3, hcs⟩ : ∃ c0 c1 c2 c3, cc.toList = [c0, c1, c2, c3] := by
    match cc.toList, hl4 with
    | [c0, c1, c2, c3], _ => exact ⟨c0, c1, c2, c3, rfl⟩
  have hcs' : (Value.agg cc).cells.toList = [c0, c1, c2, c3] := hcs
  rw [hcs'] at hf
  obtain ⟨y0, h0⟩ := getSome hx (show 0 < 2 by omega)
  obtain ⟨y1, h1⟩ := getSome hx (show 1 < 2 by omega)
  have e0 := (hf 0 (by omega)).trans h0
  have e1 := (hf 1 (by omega)).trans h1
  rw [cells58] at e0 e1
  have hd' : d = .agg (xs.map fun x => x.1) := (Prod.mk.inj hd).1
  rw [hd'] at hfit
  have f0 := Fits.item Try.underlying73 hfit (List.mem_map.2 ⟨y0, List.mem_of_getElem? h0, rfl⟩)
  have f1 := Fits.item Try.underlying73 hfit (List.mem_map.2 ⟨y1, List.mem_of_getElem? h1, rfl⟩)
  obtain ⟨v1, v2, l1, l2, q0, a1, a2, a3, a4⟩ := open_turns0 e0 f0
  obtain ⟨v3, v4, l3, l4, q1, b1, b2, b3, b4⟩ := open_turns0 e1 f1
  simp at q0 q1
  refine ⟨v1, v2, v3, v4, l1, l2, l3, l4, ?_, ⟨a1, a2, fun x hx => bounds_u16 (a3 x hx), fun x hx => bounds_u16 (a4 x hx)⟩, ⟨b1, b2, fun x hx => bounds_u16 (b3 x hx), fun x hx => bounds_u16 (b4 x hx)⟩⟩
  rw [← Array.toArray_toList (xs := cc), hcs, q0.1, q0.2, q1.1, q1.2]
theorem open_arr16 {t : TypeId} {n : Nat} (ht : Try.prog.underlying t = some (.array n 55)) (hct : Try.prog.cellsOf t = n) {v : Value} {d : DataW H} {ps : List MemPlace} {r : Reach} {b0 : Nat} (h : DataW.Trod enc Try.prog w base sp held t v d ps) (hval : Value.okWide Try.prog w r b0 t v) :
    ∃ l : List Int, l.length = n ∧ v = .agg (l.map (Value.int .u16)).toArray ∧ ∀ x ∈ l, 0 ≤ x ∧ x ≤ 65535 := by
  obtain ⟨fuel, h⟩ := h
  obtain ⟨cc, rfl⟩ : ∃ cc, v = .agg cc := by
    simp only [Value.okWide, ht] at hval
    obtain ⟨cs, h1, _⟩ := hval
    exact ⟨cs, h1⟩
  obtain ⟨xs, m, -, -, hl, hx, hf⟩ := DataW.trod_array ht h
  have hcl : cc.toList.length = n := by rw [← hct]; exact hl
  have each : ∀ i, i < n → ∃ z : Int, cc.toList[i]? = some (.int .u16 z) ∧ 0 ≤ z ∧ z ≤ 65535 := by
    intro i hi
    obtain ⟨y, hy⟩ := getSome hx hi
    have e0 : DataW.trod enc Try.prog w base sp held m 55 ((cc.toList.drop (i * Try.prog.cellsOf 55)).take (Try.prog.cellsOf 55)) = some y := (hf i hi).trans hy
    rw [cells55, Nat.mul_one] at e0
    obtain ⟨z, ez, -, hw⟩ := DataW.trod_int Try.underlying55 e0
    refine ⟨z, ?_, bounds_u16 hw⟩
    have : ((cc.toList.drop i).take 1)[0]? = some (.int .u16 z) := by rw [ez]; rfl
    rw [List.getElem?_take, if_pos (by omega), List.getElem?_drop] at this
    simpa using this
  obtain ⟨f, hf2⟩ := choose_lt (α := Int) each
  refine ⟨(List.range n).map f, by simp, ?_, ?_⟩
  · have : cc.toList = ((List.range n).map f).map (Value.int .u16) := by
      apply List.ext_getElem?
      intro i
      by_cases hi : i < n
      · rw [(hf2 i hi).1]
        simp [hi]
      · rw [List.getElem?_eq_none (by omega), List.getElem?_eq_none (by simp; omega)]
    rw [← this, Array.toArray_toList]
  · intro x hx
    obtain ⟨i, hi, rfl⟩ := List.mem_map.1 hx
    exact (hf2 i (List.mem_range.1 hi)).2
theorem open_three16 {v : Value} {d : DataW H} {ps : List MemPlace} {r : Reach} {b0 : Nat} (h : DataW.Trod enc Try.prog w base sp held 77 v d ps) (hval : Value.okWide Try.prog w r b0 77 v) :
    ∃ x0 x1 x2 : Int, v = .agg #[.int .u16 x0, .int .u16 x1, .int .u16 x2] ∧ (0 ≤ x0 ∧ x0 ≤ 65535) ∧ (0 ≤ x1 ∧ x1 ≤ 65535) ∧ (0 ≤ x2 ∧ x2 ≤ 65535) := by
  obtain ⟨l, hl, rfl, hb⟩ := open_arr16 Try.underlying77 cells77 h hval
  match l, hl with
  | [x0, x1, x2], _ => exact ⟨x0, x1, x2, rfl, hb x0 (by simp), hb x1 (by simp), hb x2 (by simp)⟩
theorem open_five16 {v : Value} {d : DataW H} {ps : List MemPlace} {r : Reach} {b0 : Nat} (h : DataW.Trod enc Try.prog w base sp held 79 v d ps) (hval : Value.okWide Try.prog w r b0 79 v) :
    ∃ x0 x1 x2 x3 x4 : Int, v = .agg #[.int .u16 x0, .int .u16 x1, .int .u16 x2, .int .u16 x3, .int .u16 x4] ∧ (0 ≤ x0 ∧ x0 ≤ 65535) ∧ (0 ≤ x1 ∧ x1 ≤ 65535) ∧ (0 ≤ x2 ∧ x2 ≤ 65535) ∧ (0 ≤ x3 ∧ x3 ≤ 65535) ∧ (0 ≤ x4 ∧ x4 ≤ 65535) := by
  obtain ⟨l, hl, rfl, hb⟩ := open_arr16 Try.underlying79 cells79 h hval
  match l, hl with
  | [x0, x1, x2, x3, x4], _ => exact ⟨x0, x1, x2, x3, x4, rfl, hb x0 (by simp), hb x1 (by simp), hb x2 (by simp), hb x3 (by simp), hb x4 (by simp)⟩
end
end Go.Proofs.Ytafdagjdpnaddaa
/- A law whose arguments are only read: its last step from its walk. -/
namespace Go.Proofs.Ytafdagjdpnaddaa
open Go.ChangeShapes Go.WideShapes Go.ChangeAt Go.RowKit
section
variable {H : Type} {enc : TypeId × Value → H}
/-- The arguments read as they did. -/
theorem args_stay {W W' : World} {sp : Nat → Bool} (hb : Below W.heap.size W W') : ∀ {ts : List TypeId} {vs : List Value} {ds : List (DataW H)} {ps : List MemPlace}, DataW.TrodAll enc Try.prog W 0 (fun _ => true) true ts vs ds ps →
    (∀ t ∈ ts, Try.prog.readableRec t = true ∧ t < Try.prog.types.size) → (∀ p ∈ ps, p.block < W.heap.size) → (∀ p ∈ ps, sp p.block = true) → DataW.TrodAll enc Try.prog W' 0 sp true ts vs ds ps
  | [], [], [], _, h, _, _, _ => h
  | t :: ts, v :: vs, d :: ds, ps, h, ht, hlt, hsp => by
    obtain ⟨p, q, h1, h2, rfl⟩ := h
    refine ⟨p, q, WideElems.Trod_stays laidP (ht t List.mem_cons_self).1 (ht t List.mem_cons_self).2 h1 (fun x hx => hb.same (hlt x (List.mem_append_left _ hx))) (fun x hx => hsp x (List.mem_append_left _ hx)),
      args_stay hb h2 (fun t' h' => ht t' (List.mem_cons_of_mem _ h')) (fun x hx => hlt x (List.mem_append_right _ hx)) (fun x hx => hsp x (List.mem_append_right _ hx)), rfl⟩
  | [], [], _ :: _, _, h, _, _, _ => h.elim
  | [], _ :: _, _, _, h, _, _, _ => h.elim
  | _ :: _, [], _, _, h, _, _, _ => h.elim
  | _ :: _, _ :: _, [], _, h, _, _, _ => h.elim
set_option maxRecDepth 100000 in
/-- What a law of read arguments owes beside its walk. -/
theorem law_done {f : Func} {s : ChangeSpec} {again : Bool} {W W' : World} {args : Array Value} {ds gs : List (DataW H)} {before : List MemPlace} {e : Ending} (hvars : s.vars = [])
    (hW : DataW.Whole enc Try.prog f.params.toList s.vars false W args.toList ds gs before) (hrt : f.resultTypes = #[4]) (hpar : ∀ t ∈ f.params.toList, Try.prog.readableRec t = true ∧ t < Try.prog.types.size)
    (hspec : s.fn H (ds ++ gs) = { results := [.lit (.bool true)], args := ds }) (he : e = .returned (.bool true)) (hb : Below W.heap.size W W') :
    ∃ v, e = .returned v ∧ s.post enc Try.prog f false true false again W args v W' := by
  have hW' := hW
  obtain ⟨p, q, hA, hV, hbq, _, _⟩ := hW
  rw [hvars] at hV
  obtain ⟨rfl, rfl⟩ := trodVars_none hV
  have lt : ∀ x ∈ before, x.block < W.heap.size := fun x hx => hW'.lt x hx
  refine ⟨_, he, law_post (pa := p) (pv := []) hW' hb (by rw [hbq]) ?_ ?_ ?_ ?_⟩
  · intro b sp hd
    rw [hspec, hrt]
    exact trodAll_cons_mk (shut_bool Try.underlying4 _) trodAll_mk0
  · intro sp hsp
    rw [hspec]
    exact args_stay hb hA hpar (fun x hx => lt x (by rw [hbq]; simpa using hx)) (fun x hx => hsp x (by rw [hbq]; simpa using hx))
  · intro sp _
    rw [hvars, hspec]
    rfl
  · exact ok_one hrt rfl (okWide_bool_mk Try.underlying4 _)
theorem fits_of {ts : List TypeId} {ds : List (DataW H)} (h : (DataW.weightsEach Try.prog ts ds).all (· ≤ reachBytes) = true) {j : Nat} {t : TypeId} {d : DataW H} (ht : ts[j]? = some t) (hd : ds[j]? = some d) : Fits t d :=
  fun n hn => by simpa using List.all_eq_true.1 h n (DataW.weights_mem_each ht hd n hn)
end
end Go.Proofs.Ytafdagjdpnaddaa
