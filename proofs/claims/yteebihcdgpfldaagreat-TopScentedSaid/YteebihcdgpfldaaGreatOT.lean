/- The arguments of the law opened: a shop of wicks, a candle, which wick and truths by turns. -/
import Derived.Test.YteebihcdgpfldaaGreatOb
import Derived.Test.YteebihcdgpfldaaGreatV4
namespace Go.Proofs.YteebihcdgpfldaaGreat
open Go.ChangeShapes Go.WideShapes Go.ChangeAt Go.RowKit Go.Deep
set_option maxRecDepth 100000
section
variable {H : Type} {enc : TypeId × Value → H} {w : World} {base : Nat} {sp : Nat → Bool} {held : Bool}
theorem tcells5 : Tryz.prog.cellsOf 5 = 1 := by kernel_rfl
theorem tcells35 : Tryz.prog.cellsOf 35 = 1 := by kernel_rfl
theorem tcells53 : Tryz.prog.cellsOf 53 = 4 := by kernel_rfl
theorem tcells133 : Tryz.prog.cellsOf 133 = 8 := by kernel_rfl
theorem tcells27 : Tryz.prog.cellsOf 27 = 1 := by kernel_rfl
theorem tcells28 : Tryz.prog.cellsOf 28 = 1 := by kernel_rfl
theorem tcells32 : Tryz.prog.cellsOf 32 = 6 := by kernel_rfl
theorem tcells34 : Tryz.prog.cellsOf 34 = 5 := by kernel_rfl
theorem tcells36 : Tryz.prog.cellsOf 36 = 6 := by kernel_rfl
theorem tcells37 : Tryz.prog.cellsOf 37 = 4 := by kernel_rfl
theorem tcells39 : Tryz.prog.cellsOf 39 = 11 := by kernel_rfl
theorem tcells42 : Tryz.prog.cellsOf 42 = 17 := by kernel_rfl
theorem tcells44 : Tryz.prog.cellsOf 44 = 23 := by kernel_rfl
theorem tcells40 : Tryz.prog.cellsOf 40 = 1 := by kernel_rfl
theorem tcells9 : Tryz.prog.cellsOf 9 = 1 := by kernel_rfl
theorem tcells30 : Tryz.prog.cellsOf 30 = 2 := by kernel_rfl
theorem tcells3 : Tryz.prog.cellsOf 3 = 1 := by kernel_rfl
theorem tcells193 : Tryz.prog.cellsOf 193 = 1 := by kernel_rfl
theorem tbytes53 : Tryz.prog.bytesOf 53 = 40 := by kernel_rfl
theorem tbytes133 : Tryz.prog.bytesOf 133 = 72 := by kernel_rfl
theorem tbytes193 : Tryz.prog.bytesOf 193 = 4 := by kernel_rfl
theorem open_wick0 {fuel : Nat} {cs : List Value} {x : DataW H × List MemPlace} (h : DataW.trod enc Tryz.prog w base sp held fuel 53 cs = some x) (hfit : Fits 53 x.1) :
 ∃ (q : Wick), cs = [.string q.name, .int .i64 q.threads, .int .i64 q.pull.1, .int .i64 q.pull.2] ∧ q.name.size ≤ 1000000000000000 := by
 obtain ⟨xs, n, -, rfl, hl, hx, hf⟩ := DataW.trod_struct Tryz.underlying53 h
 rw [tcells53] at hl
 match cs, hl with
 | [c0, c1, c2, c3], _ =>
  have hx4 : xs.length = 3 := hx
  obtain ⟨y0, h0⟩ := getSome hx4 (show 0 < 3 by omega)
  have e0 : DataW.trod enc Tryz.prog w base sp held n 9 (([c0, c1, c2, c3].drop 0).take (Tryz.prog.cellsOf 9)) = some y0 := (hf 0 _ rfl).trans h0
  rw [tcells9] at e0
  simp only [List.drop_zero, List.take_succ_cons, List.take_zero] at e0
  have f0 := Fits.part Tryz.underlying53 hfit (i := 0) rfl (d := y0.1) (by rw [List.getElem?_map, h0]; rfl)
  obtain ⟨y1, h1⟩ := getSome hx4 (show 1 < 3 by omega)
  have e1 : DataW.trod enc Tryz.prog w base sp held n 3 (([c0, c1, c2, c3].drop 1).take (Tryz.prog.cellsOf 3)) = some y1 := (hf 1 _ rfl).trans h1
  rw [tcells3] at e1
  simp only [List.take_succ_cons, List.take_zero, List.drop_succ_cons, List.drop_zero] at e1
  obtain ⟨y2, h2⟩ := getSome hx4 (show 2 < 3 by omega)
  have e2 : DataW.trod enc Tryz.prog w base sp held n 30 (([c0, c1, c2, c3].drop 2).take (Tryz.prog.cellsOf 30)) = some y2 := (hf 2 _ rfl).trans h2
  rw [tcells30] at e2
  simp only [List.take_succ_cons, List.take_zero, List.drop_succ_cons, List.drop_zero] at e2
  have f2 := Fits.part Tryz.underlying53 hfit (i := 2) rfl (d := y2.1) (by rw [List.getElem?_map, h2]; rfl)
  obtain ⟨nm, g0, z0⟩ := open_name e0 f0
  obtain ⟨th, g1, -⟩ := DataW.trod_int Tryz.underlying3 e1
  simp only [List.cons.injEq, and_true] at g1
  obtain ⟨lo, hi, g2⟩ := open_span0 e2 f2
  simp only [List.cons.injEq, and_true] at g2
  obtain ⟨ga2, gb2⟩ := g2
  exact ⟨⟨nm, th, (lo, hi)⟩, by rw [g0, g1, ga2, gb2], z0⟩
theorem open_wax0 {fuel : Nat} {cs : List Value} {x : DataW H × List MemPlace} (h : DataW.trod enc Tryz.prog w base sp held fuel 133 cs = some x) (hfit : Fits 133 x.1) :
 ∃ (q : Wax), cs = [.string q.name, .int .i64 q.flow.1, .int .i64 q.flow.2, .int .i64 q.rise.1, .int .i64 q.rise.2, .int .i64 q.spread.1, .int .i64 q.spread.2, .int .i64 q.chill] ∧ q.name.size ≤ 1000000000000000 := by
 obtain ⟨xs, n, -, rfl, hl, hx, hf⟩ := DataW.trod_struct Tryz.underlying133 h
 rw [tcells133] at hl
 match cs, hl with
 | [c0, c1, c2, c3, c4, c5, c6, c7], _ =>
  have hx4 : xs.length = 5 := hx
  obtain ⟨y0, h0⟩ := getSome hx4 (show 0 < 5 by omega)
  have e0 : DataW.trod enc Tryz.prog w base sp held n 9 (([c0, c1, c2, c3, c4, c5, c6, c7].drop 0).take (Tryz.prog.cellsOf 9)) = some y0 := (hf 0 _ rfl).trans h0
  rw [tcells9] at e0
  simp only [List.drop_zero, List.take_succ_cons, List.take_zero] at e0
  have f0 := Fits.part Tryz.underlying133 hfit (i := 0) rfl (d := y0.1) (by rw [List.getElem?_map, h0]; rfl)
  obtain ⟨y1, h1⟩ := getSome hx4 (show 1 < 5 by omega)
  have e1 : DataW.trod enc Tryz.prog w base sp held n 30 (([c0, c1, c2, c3, c4, c5, c6, c7].drop 1).take (Tryz.prog.cellsOf 30)) = some y1 := (hf 1 _ rfl).trans h1
  rw [tcells30] at e1
  simp only [List.take_succ_cons, List.take_zero, List.drop_succ_cons, List.drop_zero] at e1
  have f1 := Fits.part Tryz.underlying133 hfit (i := 1) rfl (d := y1.1) (by rw [List.getElem?_map, h1]; rfl)
  obtain ⟨y2, h2⟩ := getSome hx4 (show 2 < 5 by omega)
  have e2 : DataW.trod enc Tryz.prog w base sp held n 30 (([c0, c1, c2, c3, c4, c5, c6, c7].drop 3).take (Tryz.prog.cellsOf 30)) = some y2 := (hf 2 _ rfl).trans h2
  rw [tcells30] at e2
  simp only [List.take_succ_cons, List.take_zero, List.drop_succ_cons, List.drop_zero] at e2
  have f2 := Fits.part Tryz.underlying133 hfit (i := 2) rfl (d := y2.1) (by rw [List.getElem?_map, h2]; rfl)
  obtain ⟨y3, h3⟩ := getSome hx4 (show 3 < 5 by omega)
  have e3 : DataW.trod enc Tryz.prog w base sp held n 30 (([c0, c1, c2, c3, c4, c5, c6, c7].drop 5).take (Tryz.prog.cellsOf 30)) = some y3 := (hf 3 _ rfl).trans h3
  rw [tcells30] at e3
  simp only [List.take_succ_cons, List.take_zero, List.drop_succ_cons, List.drop_zero] at e3
  have f3 := Fits.part Tryz.underlying133 hfit (i := 3) rfl (d := y3.1) (by rw [List.getElem?_map, h3]; rfl)
  obtain ⟨y4, h4⟩ := getSome hx4 (show 4 < 5 by omega)
  have e4 : DataW.trod enc Tryz.prog w base sp held n 3 (([c0, c1, c2, c3, c4, c5, c6, c7].drop 7).take (Tryz.prog.cellsOf 3)) = some y4 := (hf 4 _ rfl).trans h4
  rw [tcells3] at e4
  simp only [List.take_succ_cons, List.take_zero, List.drop_succ_cons, List.drop_zero] at e4
  obtain ⟨nm, g0, z0⟩ := open_name e0 f0
  obtain ⟨a1, b1, g1⟩ := open_span0 e1 f1
  simp only [List.cons.injEq, and_true] at g1
  obtain ⟨ga1, gb1⟩ := g1
  obtain ⟨a2, b2, g2⟩ := open_span0 e2 f2
  simp only [List.cons.injEq, and_true] at g2
  obtain ⟨ga2, gb2⟩ := g2
  obtain ⟨a3, b3, g3⟩ := open_span0 e3 f3
  simp only [List.cons.injEq, and_true] at g3
  obtain ⟨ga3, gb3⟩ := g3
  obtain ⟨ch, g4, -⟩ := DataW.trod_int Tryz.underlying3 e4
  simp only [List.cons.injEq, and_true] at g4
  exact ⟨⟨nm, (a1, b1), (a2, b2), (a3, b3), ch⟩, by rw [g0, ga1, gb1, ga2, gb2, ga3, gb3, g4], z0⟩
theorem open_wicks0 {fuel : Nat} {v : Value} {x : DataW H × List MemPlace} (h : DataW.trod enc Tryz.prog w base sp held fuel 27 [v] = some x) (hfit : Fits 27 x.1) : ∃ l, WicksIn w.heap.size w v l :=
 open_sl rdWick Tryz.underlying27 tcells53 (by decide) tbytes53 (by omega) (fun m cs y b o ht hf hl hcell => by
  obtain ⟨q, rfl, hq⟩ := open_wick0 ht hf
  exact ⟨q, hcell 0 (by decide), hcell 1 (by decide), hcell 2 (by decide), hcell 3 (by decide), hq⟩) h hfit
theorem open_waxes0 {fuel : Nat} {v : Value} {x : DataW H × List MemPlace} (h : DataW.trod enc Tryz.prog w base sp held fuel 28 [v] = some x) (hfit : Fits 28 x.1) : ∃ l, WaxesIn w.heap.size w v l :=
 open_sl rdWax Tryz.underlying28 tcells133 (by decide) tbytes133 (by omega) (fun m cs y b o ht hf hl hcell => by
  obtain ⟨q, rfl, hq⟩ := open_wax0 ht hf
  exact ⟨q, hcell 0 (by decide), hcell 1 (by decide), hcell 2 (by decide), hcell 3 (by decide), hcell 4 (by decide), hcell 5 (by decide), hcell 6 (by decide), hcell 7 (by decide), hq⟩) h hfit
theorem open_wshop0 {fuel : Nat} {cs : List Value} {x : DataW H × List MemPlace} (h : DataW.trod enc Tryz.prog w base sp held fuel 32 cs = some x) (hfit : Fits 32 x.1) :
 ∃ (vw vx : Value) (q : WShop), cs = [vw, vx, .int .i64 q.flame.1, .int .i64 q.flame.2, .int .i64 q.pool.1, .int .i64 q.pool.2] ∧ WShopAt w.heap.size w vw vx q := by
 obtain ⟨xs, n, -, rfl, hl, hx, hf⟩ := DataW.trod_struct Tryz.underlying32 h
 rw [tcells32] at hl
 match cs, hl with
 | [c0, c1, c2, c3, c4, c5], _ =>
  have hx4 : xs.length = 4 := hx
  obtain ⟨y0, h0⟩ := getSome hx4 (show 0 < 4 by omega)
  have e0 : DataW.trod enc Tryz.prog w base sp held n 27 (([c0, c1, c2, c3, c4, c5].drop 0).take (Tryz.prog.cellsOf 27)) = some y0 := (hf 0 _ rfl).trans h0
  rw [tcells27] at e0
  simp only [List.drop_zero, List.take_succ_cons, List.take_zero] at e0
  have f0 := Fits.part Tryz.underlying32 hfit (i := 0) rfl (d := y0.1) (by rw [List.getElem?_map, h0]; rfl)
  obtain ⟨y1, h1⟩ := getSome hx4 (show 1 < 4 by omega)
  have e1 : DataW.trod enc Tryz.prog w base sp held n 28 (([c0, c1, c2, c3, c4, c5].drop 1).take (Tryz.prog.cellsOf 28)) = some y1 := (hf 1 _ rfl).trans h1
  rw [tcells28] at e1
  simp only [List.take_succ_cons, List.take_zero, List.drop_succ_cons, List.drop_zero] at e1
  have f1 := Fits.part Tryz.underlying32 hfit (i := 1) rfl (d := y1.1) (by rw [List.getElem?_map, h1]; rfl)
  obtain ⟨y2, h2⟩ := getSome hx4 (show 2 < 4 by omega)
  have e2 : DataW.trod enc Tryz.prog w base sp held n 30 (([c0, c1, c2, c3, c4, c5].drop 2).take (Tryz.prog.cellsOf 30)) = some y2 := (hf 2 _ rfl).trans h2
  rw [tcells30] at e2
  simp only [List.take_succ_cons, List.take_zero, List.drop_succ_cons, List.drop_zero] at e2
  have f2 := Fits.part Tryz.underlying32 hfit (i := 2) rfl (d := y2.1) (by rw [List.getElem?_map, h2]; rfl)
  obtain ⟨y3, h3⟩ := getSome hx4 (show 3 < 4 by omega)
  have e3 : DataW.trod enc Tryz.prog w base sp held n 30 (([c0, c1, c2, c3, c4, c5].drop 4).take (Tryz.prog.cellsOf 30)) = some y3 := (hf 3 _ rfl).trans h3
  rw [tcells30] at e3
  simp only [List.take_succ_cons, List.take_zero, List.drop_succ_cons, List.drop_zero] at e3
  have f3 := Fits.part Tryz.underlying32 hfit (i := 3) rfl (d := y3.1) (by rw [List.getElem?_map, h3]; rfl)
  obtain ⟨lw, qw⟩ := open_wicks0 e0 f0
  obtain ⟨lx, qx⟩ := open_waxes0 e1 f1
  obtain ⟨a1, b1, g2⟩ := open_span0 e2 f2
  simp only [List.cons.injEq, and_true] at g2
  obtain ⟨ga2, gb2⟩ := g2
  obtain ⟨a2, b2, g3⟩ := open_span0 e3 f3
  simp only [List.cons.injEq, and_true] at g3
  obtain ⟨ga3, gb3⟩ := g3
  exact ⟨c0, c1, ⟨lw, lx, (a1, b1), (a2, b2)⟩, by rw [ga2, gb2, ga3, gb3], qw, qx⟩
theorem open_cand0 {fuel : Nat} {cs : List Value} {x : DataW H × List MemPlace} (h : DataW.trod enc Tryz.prog w base sp held fuel 34 cs = some x) (hfit : Fits 34 x.1) :
 ∃ (q : Candle), cs = [.int .i64 q.wax, .int .i64 q.dia, .int .i64 q.draught, .int .i64 q.cold.1, .int .i64 q.cold.2] := by
 obtain ⟨xs, n, -, rfl, hl, hx, hf⟩ := DataW.trod_struct Tryz.underlying34 h
 rw [tcells34] at hl
 match cs, hl with
 | [c0, c1, c2, c3, c4], _ =>
  have hx4 : xs.length = 4 := hx
  obtain ⟨y0, h0⟩ := getSome hx4 (show 0 < 4 by omega)
  have e0 : DataW.trod enc Tryz.prog w base sp held n 3 (([c0, c1, c2, c3, c4].drop 0).take (Tryz.prog.cellsOf 3)) = some y0 := (hf 0 _ rfl).trans h0
  rw [tcells3] at e0
  simp only [List.drop_zero, List.take_succ_cons, List.take_zero] at e0
  obtain ⟨y1, h1⟩ := getSome hx4 (show 1 < 4 by omega)
  have e1 : DataW.trod enc Tryz.prog w base sp held n 3 (([c0, c1, c2, c3, c4].drop 1).take (Tryz.prog.cellsOf 3)) = some y1 := (hf 1 _ rfl).trans h1
  rw [tcells3] at e1
  simp only [List.take_succ_cons, List.take_zero, List.drop_succ_cons, List.drop_zero] at e1
  obtain ⟨y2, h2⟩ := getSome hx4 (show 2 < 4 by omega)
  have e2 : DataW.trod enc Tryz.prog w base sp held n 3 (([c0, c1, c2, c3, c4].drop 2).take (Tryz.prog.cellsOf 3)) = some y2 := (hf 2 _ rfl).trans h2
  rw [tcells3] at e2
  simp only [List.take_succ_cons, List.take_zero, List.drop_succ_cons, List.drop_zero] at e2
  obtain ⟨y3, h3⟩ := getSome hx4 (show 3 < 4 by omega)
  have e3 : DataW.trod enc Tryz.prog w base sp held n 30 (([c0, c1, c2, c3, c4].drop 3).take (Tryz.prog.cellsOf 30)) = some y3 := (hf 3 _ rfl).trans h3
  rw [tcells30] at e3
  simp only [List.take_succ_cons, List.take_zero, List.drop_succ_cons, List.drop_zero] at e3
  have f3 := Fits.part Tryz.underlying34 hfit (i := 3) rfl (d := y3.1) (by rw [List.getElem?_map, h3]; rfl)
  obtain ⟨x0, g0, -⟩ := DataW.trod_int Tryz.underlying3 e0
  simp only [List.cons.injEq, and_true] at g0
  obtain ⟨x1, g1, -⟩ := DataW.trod_int Tryz.underlying3 e1
  simp only [List.cons.injEq, and_true] at g1
  obtain ⟨x2, g2, -⟩ := DataW.trod_int Tryz.underlying3 e2
  simp only [List.cons.injEq, and_true] at g2
  obtain ⟨a1, b1, g3⟩ := open_span0 e3 f3
  simp only [List.cons.injEq, and_true] at g3
  obtain ⟨ga3, gb3⟩ := g3
  exact ⟨⟨x0, x1, x2, (a1, b1)⟩, by rw [g0, g1, g2, ga3, gb3]⟩
theorem open_arr0 {t e : TypeId} {k : IntKind} {n : Nat} (ht : Tryz.prog.underlying t = some (.array n e)) (he : Tryz.prog.underlying e = some (.int k)) (hce : Tryz.prog.cellsOf e = 1) (hct : Tryz.prog.cellsOf t = n) {fuel : Nat} {cs : List Value} {x : DataW H × List MemPlace} (h : DataW.trod enc Tryz.prog w base sp held fuel t cs = some x) :
 ∃ l : List Int, l.length = n ∧ cs = l.map (Value.int k) ∧ ∀ x ∈ l, (Lit.int k x).wf = true := by
 obtain ⟨xs, m, -, -, hl, hx, hf⟩ := DataW.trod_array ht h
 have hcl : cs.length = n := by rw [← hct]; exact hl
 have each : ∀ i, i < n → ∃ z : Int, cs[i]? = some (.int k z) ∧ (Lit.int k z).wf = true := by
  intro i hi
  obtain ⟨y, hy⟩ := getSome hx hi
  have e0 : DataW.trod enc Tryz.prog w base sp held m e ((cs.drop (i * Tryz.prog.cellsOf e)).take (Tryz.prog.cellsOf e)) = some y := (hf i hi).trans hy
  rw [hce, Nat.mul_one] at e0
  obtain ⟨z, ez, -, hw⟩ := DataW.trod_int he e0
  refine ⟨z, ?_, hw⟩
  have : ((cs.drop i).take 1)[0]? = some (.int k z) := by rw [ez]; rfl
  rw [List.getElem?_take, if_pos (by omega), List.getElem?_drop] at this
  simpa using this
 obtain ⟨f, hf2⟩ := choose_lt (α := Int) each
 refine ⟨(List.range n).map f, by simp, ?_, ?_⟩
 ·apply List.ext_getElem?
  intro i
  by_cases hi : i < n
  ·rw [(hf2 i hi).1]
   simp [hi]
  ·rw [List.getElem?_eq_none (by omega), List.getElem?_eq_none (by simp; omega)]
 ·intro x hx
  obtain ⟨i, hi, rfl⟩ := List.mem_map.1 hx
  exact (hf2 i (List.mem_range.1 hi)).2
theorem open_burnt0 {fuel : Nat} {cs : List Value} {x : DataW H × List MemPlace} (h : DataW.trod enc Tryz.prog w base sp held fuel 39 cs = some x) (hfit : Fits 39 x.1) :
 ∃ (b : Int) (x n : List Int), cs = [.int .u8 b, .int .u16 (x.getD 0 0), .int .u16 (x.getD 1 0), .int .u16 (x.getD 2 0), .int .u16 (x.getD 3 0), .int .u16 (x.getD 4 0), .int .u16 (x.getD 5 0), .int .u16 (n.getD 0 0), .int .u16 (n.getD 1 0), .int .u16 (n.getD 2 0), .int .u16 (n.getD 3 0)] ∧ (0 ≤ b ∧ b ≤ 255) ∧ ∀ i, 0 ≤ x.getD i 0 ∧ x.getD i 0 ≤ 65535 := by
 obtain ⟨xs, n, -, rfl, hl, hx, hf⟩ := DataW.trod_struct Tryz.underlying39 h
 rw [tcells39] at hl
 match cs, hl with
 | [c0, c1, c2, c3, c4, c5, c6, c7, c8, c9, c10], _ =>
  have hx4 : xs.length = 3 := hx
  obtain ⟨y0, h0⟩ := getSome hx4 (show 0 < 3 by omega)
  have e0 : DataW.trod enc Tryz.prog w base sp held n 5 (([c0, c1, c2, c3, c4, c5, c6, c7, c8, c9, c10].drop 0).take (Tryz.prog.cellsOf 5)) = some y0 := (hf 0 _ rfl).trans h0
  rw [tcells5] at e0
  simp only [List.drop_zero, List.take_succ_cons, List.take_zero] at e0
  obtain ⟨y1, h1⟩ := getSome hx4 (show 1 < 3 by omega)
  have e1 : DataW.trod enc Tryz.prog w base sp held n 36 (([c0, c1, c2, c3, c4, c5, c6, c7, c8, c9, c10].drop 1).take (Tryz.prog.cellsOf 36)) = some y1 := (hf 1 _ rfl).trans h1
  rw [tcells36] at e1
  simp only [List.take_succ_cons, List.take_zero, List.drop_succ_cons, List.drop_zero] at e1
  obtain ⟨y2, h2⟩ := getSome hx4 (show 2 < 3 by omega)
  have e2 : DataW.trod enc Tryz.prog w base sp held n 37 (([c0, c1, c2, c3, c4, c5, c6, c7, c8, c9, c10].drop 7).take (Tryz.prog.cellsOf 37)) = some y2 := (hf 2 _ rfl).trans h2
  rw [tcells37] at e2
  simp only [List.take_succ_cons, List.take_zero, List.drop_succ_cons, List.drop_zero] at e2
  obtain ⟨b, g0, -, hb⟩ := DataW.trod_int Tryz.underlying5 e0
  simp only [List.cons.injEq, and_true] at g0
  obtain ⟨l6, n6, g1, hw6⟩ := open_arr0 Tryz.underlying36 Tryz.underlying35 tcells35 tcells36 e1
  obtain ⟨l4, n4, g2, hw4⟩ := open_arr0 Tryz.underlying37 Tryz.underlying35 tcells35 tcells37 e2
  match l6, n6 with
  | [x0, x1, x2, x3, x4, x5], _ =>
   match l4, n4 with
   | [y0', y1', y2', y3'], _ =>
    simp only [List.map_cons, List.map_nil, List.cons.injEq, and_true] at g1 g2
    obtain ⟨r1, r2, r3, r4, r5, r6⟩ := g1
    obtain ⟨s1, s2, s3, s4⟩ := g2
    refine ⟨b, [x0, x1, x2, x3, x4, x5], [y0', y1', y2', y3'], by rw [g0, r1, r2, r3, r4, r5, r6, s1, s2, s3, s4]; rfl, bounds_u8 hb, fun i => ?_⟩
    by_cases hi : i < 6
    ·have hm : [x0, x1, x2, x3, x4, x5].getD i 0 ∈ [x0, x1, x2, x3, x4, x5] := by
      rw [List.getD_eq_getElem?_getD, List.getElem?_eq_getElem (by exact hi)]
      exact List.getElem_mem (by exact hi)
     exact bounds_u16 (hw6 _ hm)
    ·rw [List.getD_eq_getElem?_getD, List.getElem?_eq_none (by simp; omega)]
     exact ⟨by decide, by decide⟩
theorem open_scented0 {fuel : Nat} {cs : List Value} {x : DataW H × List MemPlace} (h : DataW.trod enc Tryz.prog w base sp held fuel 42 cs = some x) (hfit : Fits 42 x.1) :
 ∃ (c : Candle) (b : Int) (x n u : List Int) (vu : Value), cs = [.int .i64 c.wax, .int .i64 c.dia, .int .i64 c.draught, .int .i64 c.cold.1, .int .i64 c.cold.2, .int .u8 b, .int .u16 (x.getD 0 0), .int .u16 (x.getD 1 0), .int .u16 (x.getD 2 0), .int .u16 (x.getD 3 0), .int .u16 (x.getD 4 0), .int .u16 (x.getD 5 0), .int .u16 (n.getD 0 0), .int .u16 (n.getD 1 0), .int .u16 (n.getD 2 0), .int .u16 (n.getD 3 0), vu] ∧ (0 ≤ b ∧ b ≤ 255) ∧ (∀ i, 0 ≤ x.getD i 0 ∧ x.getD i 0 ≤ 65535) ∧ IntsIn .u32 w.heap.size w vu u ∧ (∀ z ∈ u, 0 ≤ z ∧ z ≤ 4294967295) := by
 obtain ⟨xs, n, -, rfl, hl, hx, hf⟩ := DataW.trod_struct Tryz.underlying42 h
 rw [tcells42] at hl
 match cs, hl with
 | [c0, c1, c2, c3, c4, c5, c6, c7, c8, c9, c10, c11, c12, c13, c14, c15, c16], _ =>
  have hx4 : xs.length = 3 := hx
  obtain ⟨y0, h0⟩ := getSome hx4 (show 0 < 3 by omega)
  have e0 : DataW.trod enc Tryz.prog w base sp held n 34 (([c0, c1, c2, c3, c4, c5, c6, c7, c8, c9, c10, c11, c12, c13, c14, c15, c16].drop 0).take (Tryz.prog.cellsOf 34)) = some y0 := (hf 0 _ rfl).trans h0
  rw [tcells34] at e0
  simp only [List.drop_zero, List.take_succ_cons, List.take_zero] at e0
  have f0 := Fits.part Tryz.underlying42 hfit (i := 0) rfl (d := y0.1) (by rw [List.getElem?_map, h0]; rfl)
  obtain ⟨y1, h1⟩ := getSome hx4 (show 1 < 3 by omega)
  have e1 : DataW.trod enc Tryz.prog w base sp held n 39 (([c0, c1, c2, c3, c4, c5, c6, c7, c8, c9, c10, c11, c12, c13, c14, c15, c16].drop 5).take (Tryz.prog.cellsOf 39)) = some y1 := (hf 1 _ rfl).trans h1
  rw [tcells39] at e1
  simp only [List.take_succ_cons, List.take_zero, List.drop_succ_cons, List.drop_zero] at e1
  have f1 := Fits.part Tryz.underlying42 hfit (i := 1) rfl (d := y1.1) (by rw [List.getElem?_map, h1]; rfl)
  obtain ⟨y2, h2⟩ := getSome hx4 (show 2 < 3 by omega)
  have e2 : DataW.trod enc Tryz.prog w base sp held n 40 (([c0, c1, c2, c3, c4, c5, c6, c7, c8, c9, c10, c11, c12, c13, c14, c15, c16].drop 16).take (Tryz.prog.cellsOf 40)) = some y2 := (hf 2 _ rfl).trans h2
  rw [tcells40] at e2
  simp only [List.take_succ_cons, List.take_zero, List.drop_succ_cons, List.drop_zero] at e2
  have f2 := Fits.part Tryz.underlying42 hfit (i := 2) rfl (d := y2.1) (by rw [List.getElem?_map, h2]; rfl)
  obtain ⟨c, g0⟩ := open_cand0 e0 f0
  simp only [List.cons.injEq, and_true] at g0
  obtain ⟨p0, p1, p2, p3, p4⟩ := g0
  obtain ⟨b, x, n, g1, hb, hx⟩ := open_burnt0 e1 f1
  simp only [List.cons.injEq, and_true] at g1
  obtain ⟨r0, r1, r2, r3, r4, r5, r6, r7, r8, r9, r10⟩ := g1
  obtain ⟨u, hu, hub⟩ := open_list0 Tryz.underlying40 Tryz.underlying193 tcells193 tbytes193 (by omega) e2 f2
  exact ⟨c, b, x, n, u, c16, by rw [p0, p1, p2, p3, p4, r0, r1, r2, r3, r4, r5, r6, r7, r8, r9, r10], hb, hx, hu, fun z hz => bounds_u32 (hub z hz)⟩
theorem open_top70 {fuel : Nat} {cs : List Value} {x : DataW H × List MemPlace} (h : DataW.trod enc Tryz.prog w base sp held fuel 44 cs = some x) (hfit : Fits 44 x.1) :
 ∃ (vw vx : Value) (q : WShop) (c : Candle) (b : Int) (x n u : List Int) (vu : Value), cs = [vw, vx, .int .i64 q.flame.1, .int .i64 q.flame.2, .int .i64 q.pool.1, .int .i64 q.pool.2, .int .i64 c.wax, .int .i64 c.dia, .int .i64 c.draught, .int .i64 c.cold.1, .int .i64 c.cold.2, .int .u8 b, .int .u16 (x.getD 0 0), .int .u16 (x.getD 1 0), .int .u16 (x.getD 2 0), .int .u16 (x.getD 3 0), .int .u16 (x.getD 4 0), .int .u16 (x.getD 5 0), .int .u16 (n.getD 0 0), .int .u16 (n.getD 1 0), .int .u16 (n.getD 2 0), .int .u16 (n.getD 3 0), vu] ∧ WShopAt w.heap.size w vw vx q ∧ (0 ≤ b ∧ b ≤ 255) ∧ (∀ i, 0 ≤ x.getD i 0 ∧ x.getD i 0 ≤ 65535) ∧ IntsIn .u32 w.heap.size w vu u ∧ (∀ z ∈ u, 0 ≤ z ∧ z ≤ 4294967295) := by
 obtain ⟨xs, n, -, rfl, hl, hx, hf⟩ := DataW.trod_struct Tryz.underlying44 h
 rw [tcells44] at hl
 match cs, hl with
 | [c0, c1, c2, c3, c4, c5, c6, c7, c8, c9, c10, c11, c12, c13, c14, c15, c16, c17, c18, c19, c20, c21, c22], _ =>
  have hx4 : xs.length = 2 := hx
  obtain ⟨y0, h0⟩ := getSome hx4 (show 0 < 2 by omega)
  have e0 : DataW.trod enc Tryz.prog w base sp held n 32 (([c0, c1, c2, c3, c4, c5, c6, c7, c8, c9, c10, c11, c12, c13, c14, c15, c16, c17, c18, c19, c20, c21, c22].drop 0).take (Tryz.prog.cellsOf 32)) = some y0 := (hf 0 _ rfl).trans h0
  rw [tcells32] at e0
  simp only [List.drop_zero, List.take_succ_cons, List.take_zero] at e0
  have f0 := Fits.part Tryz.underlying44 hfit (i := 0) rfl (d := y0.1) (by rw [List.getElem?_map, h0]; rfl)
  obtain ⟨y1, h1⟩ := getSome hx4 (show 1 < 2 by omega)
  have e1 : DataW.trod enc Tryz.prog w base sp held n 42 (([c0, c1, c2, c3, c4, c5, c6, c7, c8, c9, c10, c11, c12, c13, c14, c15, c16, c17, c18, c19, c20, c21, c22].drop 6).take (Tryz.prog.cellsOf 42)) = some y1 := (hf 1 _ rfl).trans h1
  rw [tcells42] at e1
  simp only [List.take_succ_cons, List.take_zero, List.drop_succ_cons, List.drop_zero] at e1
  have f1 := Fits.part Tryz.underlying44 hfit (i := 1) rfl (d := y1.1) (by rw [List.getElem?_map, h1]; rfl)
  obtain ⟨vw, vx, q, g0, hq⟩ := open_wshop0 e0 f0
  obtain ⟨c, b, x, n, u, vu, g1, hb, hx, hu, hub⟩ := open_scented0 e1 f1
  simp only [List.cons.injEq, and_true] at g1
  obtain ⟨r0, r1, r2, r3, r4, r5, r6, r7, r8, r9, r10, r11, r12, r13, r14, r15, r16⟩ := g1
  simp only [List.cons.injEq, and_true] at g0
  obtain ⟨p0, p1, p2, p3, p4, p5⟩ := g0
  exact ⟨vw, vx, q, c, b, x, n, u, vu, by rw [p0, p1, p2, p3, p4, p5, r0, r1, r2, r3, r4, r5, r6, r7, r8, r9, r10, r11, r12, r13, r14, r15, r16], hq, hb, hx, hu, hub⟩
theorem open_top7 {v : Value} {d : DataW H} {ps : List MemPlace} {r : Reach} {b0 : Nat} (h : DataW.Trod enc Tryz.prog w base sp held 44 v d ps) (hfit : Fits 44 d) (hval : Value.okWide Tryz.prog w r b0 44 v) :
 ∃ (vw vx : Value) (q : WShop) (c : Candle) (b : Int) (x n u : List Int) (vu : Value), v = .agg #[vw, vx, .int .i64 q.flame.1, .int .i64 q.flame.2, .int .i64 q.pool.1, .int .i64 q.pool.2, .int .i64 c.wax, .int .i64 c.dia, .int .i64 c.draught, .int .i64 c.cold.1, .int .i64 c.cold.2, .int .u8 b, .int .u16 (x.getD 0 0), .int .u16 (x.getD 1 0), .int .u16 (x.getD 2 0), .int .u16 (x.getD 3 0), .int .u16 (x.getD 4 0), .int .u16 (x.getD 5 0), .int .u16 (n.getD 0 0), .int .u16 (n.getD 1 0), .int .u16 (n.getD 2 0), .int .u16 (n.getD 3 0), vu] ∧ WShopAt w.heap.size w vw vx q ∧ (0 ≤ b ∧ b ≤ 255) ∧ (∀ i, 0 ≤ x.getD i 0 ∧ x.getD i 0 ≤ 65535) ∧ IntsIn .u32 w.heap.size w vu u ∧ (∀ z ∈ u, 0 ≤ z ∧ z ≤ 4294967295) := by
 obtain ⟨fuel, h⟩ := h
 obtain ⟨cc, rfl, -⟩ := okWide_struct Tryz.underlying44 hval
 obtain ⟨vw, vx, q, c, b, x, n, u, vu, e, hq⟩ := open_top70 h hfit
 exact ⟨vw, vx, q, c, b, x, n, u, vu, by rw [← Array.toArray_toList (xs := cc)]; exact congrArg (fun l => Value.agg l.toArray) e, hq⟩
end
end Go.Proofs.YteebihcdgpfldaaGreat
