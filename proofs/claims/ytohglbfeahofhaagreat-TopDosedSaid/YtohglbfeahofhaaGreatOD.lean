/- The arguments of the law opened: waxes of a blend, a recipe by turns, three numbers. -/
import Derived.Test.YtohglbfeahofhaaGreatOb
import Derived.Test.YtohglbfeahofhaaGreatB3
namespace Go.Proofs.YtohglbfeahofhaaGreat
open Go.ChangeShapes Go.WideShapes Go.ChangeAt Go.RowKit Go.Deep
set_option maxRecDepth 100000
section
variable {H : Type} {enc : TypeId × Value → H} {w : World} {base : Nat} {sp : Nat → Bool} {held : Bool}
theorem tcells3 : Tryz.prog.cellsOf 3 = 1 := by kernel_rfl
theorem tcells9 : Tryz.prog.cellsOf 9 = 1 := by kernel_rfl
theorem tcells41 : Tryz.prog.cellsOf 41 = 2 := by kernel_rfl
theorem tcells44 : Tryz.prog.cellsOf 44 = 7 := by kernel_rfl
theorem tcells22 : Tryz.prog.cellsOf 22 = 1 := by kernel_rfl
theorem tcells108 : Tryz.prog.cellsOf 108 = 2 := by kernel_rfl
theorem tcells42 : Tryz.prog.cellsOf 42 = 1 := by kernel_rfl
theorem tcells141 : Tryz.prog.cellsOf 141 = 1 := by kernel_rfl
theorem tcells23 : Tryz.prog.cellsOf 23 = 1 := by kernel_rfl
theorem tcells24 : Tryz.prog.cellsOf 24 = 1 := by kernel_rfl
theorem tcells25 : Tryz.prog.cellsOf 25 = 3 := by kernel_rfl
theorem tbytes44 : Tryz.prog.bytesOf 44 = 80 := by kernel_rfl
theorem tbytes108 : Tryz.prog.bytesOf 108 = 16 := by kernel_rfl
theorem tbytes141 : Tryz.prog.bytesOf 141 = 2 := by kernel_rfl
theorem open_point0 {fuel : Nat} {cs : List Value} {x : DataW H × List MemPlace} (h : DataW.trod enc Tryz.prog w base sp held fuel 108 cs = some x) (_hfit : Fits 108 x.1) :
    ∃ (q : Int × Int), cs = [.int .i64 q.1, .int .i64 q.2] := by
  obtain ⟨xs, n, -, rfl, hl, hx, hf⟩ := DataW.trod_struct Tryz.underlying108 h
  rw [tcells108] at hl
  match cs, hl with
  | [c0, c1], _ =>
    have hx4 : xs.length = 2 := hx
    obtain ⟨y0, h0⟩ := getSome hx4 (show 0 < 2 by omega)
    have e0 : DataW.trod enc Tryz.prog w base sp held n 3 (([c0, c1].drop 0).take (Tryz.prog.cellsOf 3)) = some y0 := (hf 0 _ rfl).trans h0
    rw [tcells3] at e0
    simp only [List.drop_zero, List.take_succ_cons, List.take_zero] at e0
    obtain ⟨y1, h1⟩ := getSome hx4 (show 1 < 2 by omega)
    have e1 : DataW.trod enc Tryz.prog w base sp held n 3 (([c0, c1].drop 1).take (Tryz.prog.cellsOf 3)) = some y1 := (hf 1 _ rfl).trans h1
    rw [tcells3] at e1
    simp only [List.take_succ_cons, List.take_zero, List.drop_succ_cons, List.drop_zero] at e1
    obtain ⟨x0, g0, -⟩ := DataW.trod_int Tryz.underlying3 e0
    simp only [List.cons.injEq, and_true] at g0
    obtain ⟨x1, g1, -⟩ := DataW.trod_int Tryz.underlying3 e1
    simp only [List.cons.injEq, and_true] at g1
    exact ⟨(x0, x1), by rw [g0, g1]⟩
theorem open_points0 {fuel : Nat} {v : Value} {x : DataW H × List MemPlace} (h : DataW.trod enc Tryz.prog w base sp held fuel 42 [v] = some x) (hfit : Fits 42 x.1) : ∃ l, SpansIn w.heap.size w v l :=
  open_sl rdSpan Tryz.underlying42 tcells108 (by decide) tbytes108 (by omega) (fun m cs y b o ht hf hl hcell => by
    obtain ⟨q, rfl⟩ := open_point0 ht hf
    exact ⟨q, hcell 0 (by decide), hcell 1 (by decide)⟩) h hfit
theorem open_bwax0 {fuel : Nat} {cs : List Value} {x : DataW H × List MemPlace} (h : DataW.trod enc Tryz.prog w base sp held fuel 44 cs = some x) (hfit : Fits 44 x.1) :
    ∃ (q : BWax) (u : Value), cs = [.string q.name, .int .i64 q.price, .int .i64 q.melt.1, .int .i64 q.melt.2, .int .i64 q.shrink.1, .int .i64 q.shrink.2, u] ∧ q.name.size ≤ 1000000000000000 ∧ SpansIn w.heap.size w u q.curve := by
  obtain ⟨xs, n, -, rfl, hl, hx, hf⟩ := DataW.trod_struct Tryz.underlying44 h
  rw [tcells44] at hl
  match cs, hl with
  | [c0, c1, c2, c3, c4, c5, c6], _ =>
    have hx4 : xs.length = 5 := hx
    obtain ⟨y0, h0⟩ := getSome hx4 (show 0 < 5 by omega)
    have e0 : DataW.trod enc Tryz.prog w base sp held n 9 (([c0, c1, c2, c3, c4, c5, c6].drop 0).take (Tryz.prog.cellsOf 9)) = some y0 := (hf 0 _ rfl).trans h0
    rw [tcells9] at e0
    simp only [List.drop_zero, List.take_succ_cons, List.take_zero] at e0
    have f0 := Fits.part Tryz.underlying44 hfit (i := 0) rfl (d := y0.1) (by rw [List.getElem?_map, h0]; rfl)
    obtain ⟨y1, h1⟩ := getSome hx4 (show 1 < 5 by omega)
    have e1 : DataW.trod enc Tryz.prog w base sp held n 3 (([c0, c1, c2, c3, c4, c5, c6].drop 1).take (Tryz.prog.cellsOf 3)) = some y1 := (hf 1 _ rfl).trans h1
    rw [tcells3] at e1
    simp only [List.take_succ_cons, List.take_zero, List.drop_succ_cons, List.drop_zero] at e1
    obtain ⟨y2, h2⟩ := getSome hx4 (show 2 < 5 by omega)
    have e2 : DataW.trod enc Tryz.prog w base sp held n 41 (([c0, c1, c2, c3, c4, c5, c6].drop 2).take (Tryz.prog.cellsOf 41)) = some y2 := (hf 2 _ rfl).trans h2
    rw [tcells41] at e2
    simp only [List.take_succ_cons, List.take_zero, List.drop_succ_cons, List.drop_zero] at e2
    have f2 := Fits.part Tryz.underlying44 hfit (i := 2) rfl (d := y2.1) (by rw [List.getElem?_map, h2]; rfl)
    obtain ⟨y3, h3⟩ := getSome hx4 (show 3 < 5 by omega)
    have e3 : DataW.trod enc Tryz.prog w base sp held n 41 (([c0, c1, c2, c3, c4, c5, c6].drop 4).take (Tryz.prog.cellsOf 41)) = some y3 := (hf 3 _ rfl).trans h3
    rw [tcells41] at e3
    simp only [List.take_succ_cons, List.take_zero, List.drop_succ_cons, List.drop_zero] at e3
    have f3 := Fits.part Tryz.underlying44 hfit (i := 3) rfl (d := y3.1) (by rw [List.getElem?_map, h3]; rfl)
    obtain ⟨y4, h4⟩ := getSome hx4 (show 4 < 5 by omega)
    have e4 : DataW.trod enc Tryz.prog w base sp held n 42 (([c0, c1, c2, c3, c4, c5, c6].drop 6).take (Tryz.prog.cellsOf 42)) = some y4 := (hf 4 _ rfl).trans h4
    rw [tcells42] at e4
    simp only [List.take_succ_cons, List.take_zero, List.drop_succ_cons, List.drop_zero] at e4
    have f4 := Fits.part Tryz.underlying44 hfit (i := 4) rfl (d := y4.1) (by rw [List.getElem?_map, h4]; rfl)
    obtain ⟨nm, g0, z0⟩ := open_name e0 f0
    obtain ⟨pr, g1, -⟩ := DataW.trod_int Tryz.underlying3 e1
    simp only [List.cons.injEq, and_true] at g1
    obtain ⟨a1, b1, g2⟩ := open_span0 e2 f2
    simp only [List.cons.injEq, and_true] at g2
    obtain ⟨ga2, gb2⟩ := g2
    obtain ⟨a2, b2, g3⟩ := open_span0 e3 f3
    simp only [List.cons.injEq, and_true] at g3
    obtain ⟨ga3, gb3⟩ := g3
    obtain ⟨cl, hc⟩ := open_points0 e4 f4
    exact ⟨⟨nm, pr, (a1, b1), (a2, b2), cl⟩, c6, by rw [g0, g1, ga2, gb2, ga3, gb3], z0, hc⟩
theorem cells_one {v : Value} {t e : TypeId} {r : Reach} {b0 : Nat} (ht : Tryz.prog.underlying t = some (.slice e)) (hval : Value.okWide Tryz.prog w r b0 t v) : v.cells.toList = [v] := by
  obtain ⟨a0, n0, c0, rfl⟩ := okWide_slice ht hval
  rfl
theorem open_bwaxes {v : Value} {d : DataW H} {ps : List MemPlace} {r : Reach} {b0 : Nat} (h : DataW.Trod enc Tryz.prog w base sp held 22 v d ps) (hfit : Fits 22 d) (hval : Value.okWide Tryz.prog w r b0 22 v) : ∃ l, BWaxesIn w.heap.size w v l := by
  obtain ⟨fuel, h⟩ := h
  rw [cells_one Tryz.underlying22 hval] at h
  exact open_sl rdBWax Tryz.underlying22 tcells44 (by decide) tbytes44 (by omega) (fun m cs y b o ht hf hl hcell => by
    obtain ⟨q, u, rfl, hq, hu⟩ := open_bwax0 ht hf
    exact ⟨q, hcell 0 (by decide), hq, hcell 1 (by decide), hcell 2 (by decide), hcell 3 (by decide), hcell 4 (by decide), hcell 5 (by decide), u, hcell 6 (by decide), hu⟩) h hfit
theorem open_u16s {v : Value} {d : DataW H} {ps : List MemPlace} {r : Reach} {b0 : Nat} (h : DataW.Trod enc Tryz.prog w base sp held 23 v d ps) (hfit : Fits 23 d) (hval : Value.okWide Tryz.prog w r b0 23 v) :
    ∃ l : List Int, IntsIn .u16 w.heap.size w v l ∧ ∀ x ∈ l, 0 ≤ x ∧ x ≤ 65535 := by
  obtain ⟨fuel, h⟩ := h
  rw [cells_one Tryz.underlying23 hval] at h
  obtain ⟨l, h1, h2⟩ := open_list0 Tryz.underlying23 Tryz.underlying141 tcells141 tbytes141 (by omega) h hfit
  exact ⟨l, h1, fun x hx => bounds_u16 (h2 x hx)⟩
theorem open_three32 {v : Value} {d : DataW H} {ps : List MemPlace} {r : Reach} {b0 : Nat} (h : DataW.Trod enc Tryz.prog w base sp held 25 v d ps) (hval : Value.okWide Tryz.prog w r b0 25 v) :
    ∃ x0 x1 x2 : Int, v = .agg #[.int .u32 x0, .int .u32 x1, .int .u32 x2] ∧ (0 ≤ x0 ∧ x0 ≤ 4294967295) ∧ (0 ≤ x1 ∧ x1 ≤ 4294967295) ∧ (0 ≤ x2 ∧ x2 ≤ 4294967295) := by
  obtain ⟨l, hl, rfl, hb⟩ := open_arr Tryz.underlying25 Tryz.underlying24 tcells24 tcells25 h hval
  match l, hl with
  | [x0, x1, x2], _ => exact ⟨x0, x1, x2, rfl, bounds_u32 (hb x0 (by simp)), bounds_u32 (hb x1 (by simp)), bounds_u32 (hb x2 (by simp))⟩
end
end Go.Proofs.YtohglbfeahofhaaGreat
