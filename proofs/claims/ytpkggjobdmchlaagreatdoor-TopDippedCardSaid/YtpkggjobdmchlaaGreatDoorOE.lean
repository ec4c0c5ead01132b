/- The arguments of the law opened: a shop of wicks, a shop of dips, a candle and how it is dipped. -/
import Derived.Test.YtpkggjobdmchlaaGreatDoorOb
import Derived.Test.YtpkggjobdmchlaaGreatDoorU1
namespace Go.Proofs.YtpkggjobdmchlaaGreatDoor
open Go.ChangeShapes Go.WideShapes Go.ChangeAt Go.RowKit Go.Deep
set_option maxRecDepth 100000
section
variable {H : Type} {enc : TypeId × Value → H} {w : World} {base : Nat} {sp : Nat → Bool} {held : Bool}
theorem tcells5 : Tryz.prog.cellsOf 5 = 1 := by kernel_rfl
theorem tcells129 : Tryz.prog.cellsOf 129 = 1 := by kernel_rfl
theorem tcells4 : Tryz.prog.cellsOf 4 = 1 := by kernel_rfl
theorem tcells136 : Tryz.prog.cellsOf 136 = 4 := by kernel_rfl
theorem tcells102 : Tryz.prog.cellsOf 102 = 8 := by kernel_rfl
theorem tcells22 : Tryz.prog.cellsOf 22 = 1 := by kernel_rfl
theorem tcells23 : Tryz.prog.cellsOf 23 = 1 := by kernel_rfl
theorem tcells27 : Tryz.prog.cellsOf 27 = 6 := by kernel_rfl
theorem tcells32 : Tryz.prog.cellsOf 32 = 5 := by kernel_rfl
theorem tcells9 : Tryz.prog.cellsOf 9 = 1 := by kernel_rfl
theorem tcells25 : Tryz.prog.cellsOf 25 = 2 := by kernel_rfl
theorem tcells3 : Tryz.prog.cellsOf 3 = 1 := by kernel_rfl
theorem tcells124 : Tryz.prog.cellsOf 124 = 3 := by kernel_rfl
theorem tcells28 : Tryz.prog.cellsOf 28 = 1 := by kernel_rfl
theorem tcells30 : Tryz.prog.cellsOf 30 = 9 := by kernel_rfl
theorem tcells34 : Tryz.prog.cellsOf 34 = 3 := by kernel_rfl
theorem tcells54 : Tryz.prog.cellsOf 54 = 4 := by kernel_rfl
theorem tcells35 : Tryz.prog.cellsOf 35 = 1 := by kernel_rfl
theorem tcells36 : Tryz.prog.cellsOf 36 = 1 := by kernel_rfl
theorem tcells38 : Tryz.prog.cellsOf 38 = 7 := by kernel_rfl
theorem tcells40 : Tryz.prog.cellsOf 40 = 12 := by kernel_rfl
theorem tbytes136 : Tryz.prog.bytesOf 136 = 40 := by kernel_rfl
theorem tbytes102 : Tryz.prog.bytesOf 102 = 72 := by kernel_rfl
theorem tbytes124 : Tryz.prog.bytesOf 124 = 32 := by kernel_rfl
theorem tbytes54 : Tryz.prog.bytesOf 54 = 32 := by kernel_rfl
theorem tbytes129 : Tryz.prog.bytesOf 129 = 2 := by kernel_rfl
theorem open_wick0 {fuel : Nat} {cs : List Value} {x : DataW H × List MemPlace} (h : DataW.trod enc Tryz.prog w base sp held fuel 136 cs = some x) (hfit : Fits 136 x.1) :
    ∃ (q : Wick), cs = [.string q.name, .int .i64 q.threads, .int .i64 q.pull.1, .int .i64 q.pull.2] ∧ q.name.size ≤ 1000000000000000 := by
  obtain ⟨xs, n, -, rfl, hl, hx, hf⟩ := DataW.trod_struct Tryz.underlying136 h
  rw [tcells136] at hl
  match cs, hl with
  | [c0, c1, c2, c3], _ =>
    have hx4 : xs.length = 3 := hx
    obtain ⟨y0, h0⟩ := getSome hx4 (show 0 < 3 by omega)
    have e0 : DataW.trod enc Tryz.prog w base sp held n 9 (([c0, c1, c2, c3].drop 0).take (Tryz.prog.cellsOf 9)) = some y0 := (hf 0 _ rfl).trans h0
    rw [tcells9] at e0
    simp only [List.drop_zero, List.take_succ_cons, List.take_zero] at e0
    have f0 := Fits.part Tryz.underlying136 hfit (i := 0) rfl (d := y0.1) (by rw [List.getElem?_map, h0]; rfl)
    obtain ⟨y1, h1⟩ := getSome hx4 (show 1 < 3 by omega)
    have e1 : DataW.trod enc Tryz.prog w base sp held n 3 (([c0, c1, c2, c3].drop 1).take (Tryz.prog.cellsOf 3)) = some y1 := (hf 1 _ rfl).trans h1
    rw [tcells3] at e1
    simp only [List.take_succ_cons, List.take_zero, List.drop_succ_cons, List.drop_zero] at e1
    obtain ⟨y2, h2⟩ := getSome hx4 (show 2 < 3 by omega)
    have e2 : DataW.trod enc Tryz.prog w base sp held n 25 (([c0, c1, c2, c3].drop 2).take (Tryz.prog.cellsOf 25)) = some y2 := (hf 2 _ rfl).trans h2
    rw [tcells25] at e2
    simp only [List.take_succ_cons, List.take_zero, List.drop_succ_cons, List.drop_zero] at e2
    have f2 := Fits.part Tryz.underlying136 hfit (i := 2) rfl (d := y2.1) (by rw [List.getElem?_map, h2]; rfl)
    obtain ⟨nm, g0, z0⟩ := open_name e0 f0
    obtain ⟨th, g1, -⟩ := DataW.trod_int Tryz.underlying3 e1
    simp only [List.cons.injEq, and_true] at g1
    obtain ⟨lo, hi, g2⟩ := open_span0 e2 f2
    simp only [List.cons.injEq, and_true] at g2
    obtain ⟨ga2, gb2⟩ := g2
    exact ⟨⟨nm, th, (lo, hi)⟩, by rw [g0, g1, ga2, gb2], z0⟩
theorem open_wax0 {fuel : Nat} {cs : List Value} {x : DataW H × List MemPlace} (h : DataW.trod enc Tryz.prog w base sp held fuel 102 cs = some x) (hfit : Fits 102 x.1) :
    ∃ (q : Wax), cs = [.string q.name, .int .i64 q.flow.1, .int .i64 q.flow.2, .int .i64 q.rise.1, .int .i64 q.rise.2, .int .i64 q.spread.1, .int .i64 q.spread.2, .int .i64 q.chill] ∧ q.name.size ≤ 1000000000000000 := by
  obtain ⟨xs, n, -, rfl, hl, hx, hf⟩ := DataW.trod_struct Tryz.underlying102 h
  rw [tcells102] at hl
  match cs, hl with
  | [c0, c1, c2, c3, c4, c5, c6, c7], _ =>
    have hx4 : xs.length = 5 := hx
    obtain ⟨y0, h0⟩ := getSome hx4 (show 0 < 5 by omega)
    have e0 : DataW.trod enc Tryz.prog w base sp held n 9 (([c0, c1, c2, c3, c4, c5, c6, c7].drop 0).take (Tryz.prog.cellsOf 9)) = some y0 := (hf 0 _ rfl).trans h0
    rw [tcells9] at e0
    simp only [List.drop_zero, List.take_succ_cons, List.take_zero] at e0
    have f0 := Fits.part Tryz.underlying102 hfit (i := 0) rfl (d := y0.1) (by rw [List.getElem?_map, h0]; rfl)
    obtain ⟨y1, h1⟩ := getSome hx4 (show 1 < 5 by omega)
    have e1 : DataW.trod enc Tryz.prog w base sp held n 25 (([c0, c1, c2, c3, c4, c5, c6, c7].drop 1).take (Tryz.prog.cellsOf 25)) = some y1 := (hf 1 _ rfl).trans h1
    rw [tcells25] at e1
    simp only [List.take_succ_cons, List.take_zero, List.drop_succ_cons, List.drop_zero] at e1
    have f1 := Fits.part Tryz.underlying102 hfit (i := 1) rfl (d := y1.1) (by rw [List.getElem?_map, h1]; rfl)
    obtain ⟨y2, h2⟩ := getSome hx4 (show 2 < 5 by omega)
    have e2 : DataW.trod enc Tryz.prog w base sp held n 25 (([c0, c1, c2, c3, c4, c5, c6, c7].drop 3).take (Tryz.prog.cellsOf 25)) = some y2 := (hf 2 _ rfl).trans h2
    rw [tcells25] at e2
    simp only [List.take_succ_cons, List.take_zero, List.drop_succ_cons, List.drop_zero] at e2
    have f2 := Fits.part Tryz.underlying102 hfit (i := 2) rfl (d := y2.1) (by rw [List.getElem?_map, h2]; rfl)
    obtain ⟨y3, h3⟩ := getSome hx4 (show 3 < 5 by omega)
    have e3 : DataW.trod enc Tryz.prog w base sp held n 25 (([c0, c1, c2, c3, c4, c5, c6, c7].drop 5).take (Tryz.prog.cellsOf 25)) = some y3 := (hf 3 _ rfl).trans h3
    rw [tcells25] at e3
    simp only [List.take_succ_cons, List.take_zero, List.drop_succ_cons, List.drop_zero] at e3
    have f3 := Fits.part Tryz.underlying102 hfit (i := 3) rfl (d := y3.1) (by rw [List.getElem?_map, h3]; rfl)
    obtain ⟨y4, h4⟩ := getSome hx4 (show 4 < 5 by omega)
    have e4 : DataW.trod enc Tryz.prog w base sp held n 3 (([c0, c1, c2, c3, c4, c5, c6, c7].drop 7).take (Tryz.prog.cellsOf 3)) = some y4 := (hf 4 _ rfl).trans h4
    rw [tcells3] at e4
    simp only [List.take_succ_cons, List.take_zero, List.drop_succ_cons, List.drop_zero] at e4
    obtain ⟨nm, g0, z0⟩ := open_name e0 f0
    obtain ⟨a1, b1, g1⟩ := open_span0 e1 f1
    simp only [List.cons.injEq, and_true] at g1
    obtain ⟨ga1, gb1⟩ := g1
    obtain ⟨a2, b2, g2⟩ := open_span0 e2 f2
    simp only [List.cons.injEq, and_true] at g2
    obtain ⟨ga2, gb2⟩ := g2
    obtain ⟨a3, b3, g3⟩ := open_span0 e3 f3
    simp only [List.cons.injEq, and_true] at g3
    obtain ⟨ga3, gb3⟩ := g3
    obtain ⟨ch, g4, -⟩ := DataW.trod_int Tryz.underlying3 e4
    simp only [List.cons.injEq, and_true] at g4
    exact ⟨⟨nm, (a1, b1), (a2, b2), (a3, b3), ch⟩, by rw [g0, ga1, gb1, ga2, gb2, ga3, gb3, g4], z0⟩
theorem open_wicks0 {fuel : Nat} {v : Value} {x : DataW H × List MemPlace} (h : DataW.trod enc Tryz.prog w base sp held fuel 22 [v] = some x) (hfit : Fits 22 x.1) : ∃ l, WicksIn w.heap.size w v l :=
  open_sl rdWick Tryz.underlying22 tcells136 (by decide) tbytes136 (by omega) (fun m cs y b o ht hf hl hcell => by
    obtain ⟨q, rfl, hq⟩ := open_wick0 ht hf
    exact ⟨q, hcell 0 (by decide), hcell 1 (by decide), hcell 2 (by decide), hcell 3 (by decide), hq⟩) h hfit
theorem open_waxes0 {fuel : Nat} {v : Value} {x : DataW H × List MemPlace} (h : DataW.trod enc Tryz.prog w base sp held fuel 23 [v] = some x) (hfit : Fits 23 x.1) : ∃ l, WaxesIn w.heap.size w v l :=
  open_sl rdWax Tryz.underlying23 tcells102 (by decide) tbytes102 (by omega) (fun m cs y b o ht hf hl hcell => by
    obtain ⟨q, rfl, hq⟩ := open_wax0 ht hf
    exact ⟨q, hcell 0 (by decide), hcell 1 (by decide), hcell 2 (by decide), hcell 3 (by decide), hcell 4 (by decide), hcell 5 (by decide), hcell 6 (by decide), hcell 7 (by decide), hq⟩) h hfit
theorem open_wshop0 {fuel : Nat} {cs : List Value} {x : DataW H × List MemPlace} (h : DataW.trod enc Tryz.prog w base sp held fuel 27 cs = some x) (hfit : Fits 27 x.1) :
    ∃ (vw vx : Value) (q : WShop), cs = [vw, vx, .int .i64 q.flame.1, .int .i64 q.flame.2, .int .i64 q.pool.1, .int .i64 q.pool.2] ∧ WShopAt w.heap.size w vw vx q := by
  obtain ⟨xs, n, -, rfl, hl, hx, hf⟩ := DataW.trod_struct Tryz.underlying27 h
  rw [tcells27] at hl
  match cs, hl with
  | [c0, c1, c2, c3, c4, c5], _ =>
    have hx4 : xs.length = 4 := hx
    obtain ⟨y0, h0⟩ := getSome hx4 (show 0 < 4 by omega)
    have e0 : DataW.trod enc Tryz.prog w base sp held n 22 (([c0, c1, c2, c3, c4, c5].drop 0).take (Tryz.prog.cellsOf 22)) = some y0 := (hf 0 _ rfl).trans h0
    rw [tcells22] at e0
    simp only [List.drop_zero, List.take_succ_cons, List.take_zero] at e0
    have f0 := Fits.part Tryz.underlying27 hfit (i := 0) rfl (d := y0.1) (by rw [List.getElem?_map, h0]; rfl)
    obtain ⟨y1, h1⟩ := getSome hx4 (show 1 < 4 by omega)
    have e1 : DataW.trod enc Tryz.prog w base sp held n 23 (([c0, c1, c2, c3, c4, c5].drop 1).take (Tryz.prog.cellsOf 23)) = some y1 := (hf 1 _ rfl).trans h1
    rw [tcells23] at e1
    simp only [List.take_succ_cons, List.take_zero, List.drop_succ_cons, List.drop_zero] at e1
    have f1 := Fits.part Tryz.underlying27 hfit (i := 1) rfl (d := y1.1) (by rw [List.getElem?_map, h1]; rfl)
    obtain ⟨y2, h2⟩ := getSome hx4 (show 2 < 4 by omega)
    have e2 : DataW.trod enc Tryz.prog w base sp held n 25 (([c0, c1, c2, c3, c4, c5].drop 2).take (Tryz.prog.cellsOf 25)) = some y2 := (hf 2 _ rfl).trans h2
    rw [tcells25] at e2
    simp only [List.take_succ_cons, List.take_zero, List.drop_succ_cons, List.drop_zero] at e2
    have f2 := Fits.part Tryz.underlying27 hfit (i := 2) rfl (d := y2.1) (by rw [List.getElem?_map, h2]; rfl)
    obtain ⟨y3, h3⟩ := getSome hx4 (show 3 < 4 by omega)
    have e3 : DataW.trod enc Tryz.prog w base sp held n 25 (([c0, c1, c2, c3, c4, c5].drop 4).take (Tryz.prog.cellsOf 25)) = some y3 := (hf 3 _ rfl).trans h3
    rw [tcells25] at e3
    simp only [List.take_succ_cons, List.take_zero, List.drop_succ_cons, List.drop_zero] at e3
    have f3 := Fits.part Tryz.underlying27 hfit (i := 3) rfl (d := y3.1) (by rw [List.getElem?_map, h3]; rfl)
    obtain ⟨lw, qw⟩ := open_wicks0 e0 f0
    obtain ⟨lx, qx⟩ := open_waxes0 e1 f1
    obtain ⟨a1, b1, g2⟩ := open_span0 e2 f2
    simp only [List.cons.injEq, and_true] at g2
    obtain ⟨ga2, gb2⟩ := g2
    obtain ⟨a2, b2, g3⟩ := open_span0 e3 f3
    simp only [List.cons.injEq, and_true] at g3
    obtain ⟨ga3, gb3⟩ := g3
    exact ⟨c0, c1, ⟨lw, lx, (a1, b1), (a2, b2)⟩, by rw [ga2, gb2, ga3, gb3], qw, qx⟩
theorem open_cand0 {fuel : Nat} {cs : List Value} {x : DataW H × List MemPlace} (h : DataW.trod enc Tryz.prog w base sp held fuel 32 cs = some x) (hfit : Fits 32 x.1) :
    ∃ (q : Candle), cs = [.int .i64 q.wax, .int .i64 q.dia, .int .i64 q.draught, .int .i64 q.cold.1, .int .i64 q.cold.2] := by
  obtain ⟨xs, n, -, rfl, hl, hx, hf⟩ := DataW.trod_struct Tryz.underlying32 h
  rw [tcells32] at hl
  match cs, hl with
  | [c0, c1, c2, c3, c4], _ =>
    have hx4 : xs.length = 4 := hx
    obtain ⟨y0, h0⟩ := getSome hx4 (show 0 < 4 by omega)
    have e0 : DataW.trod enc Tryz.prog w base sp held n 3 (([c0, c1, c2, c3, c4].drop 0).take (Tryz.prog.cellsOf 3)) = some y0 := (hf 0 _ rfl).trans h0
    rw [tcells3] at e0
    simp only [List.drop_zero, List.take_succ_cons, List.take_zero] at e0
    obtain ⟨y1, h1⟩ := getSome hx4 (show 1 < 4 by omega)
    have e1 : DataW.trod enc Tryz.prog w base sp held n 3 (([c0, c1, c2, c3, c4].drop 1).take (Tryz.prog.cellsOf 3)) = some y1 := (hf 1 _ rfl).trans h1
    rw [tcells3] at e1
    simp only [List.take_succ_cons, List.take_zero, List.drop_succ_cons, List.drop_zero] at e1
    obtain ⟨y2, h2⟩ := getSome hx4 (show 2 < 4 by omega)
    have e2 : DataW.trod enc Tryz.prog w base sp held n 3 (([c0, c1, c2, c3, c4].drop 2).take (Tryz.prog.cellsOf 3)) = some y2 := (hf 2 _ rfl).trans h2
    rw [tcells3] at e2
    simp only [List.take_succ_cons, List.take_zero, List.drop_succ_cons, List.drop_zero] at e2
    obtain ⟨y3, h3⟩ := getSome hx4 (show 3 < 4 by omega)
    have e3 : DataW.trod enc Tryz.prog w base sp held n 25 (([c0, c1, c2, c3, c4].drop 3).take (Tryz.prog.cellsOf 25)) = some y3 := (hf 3 _ rfl).trans h3
    rw [tcells25] at e3
    simp only [List.take_succ_cons, List.take_zero, List.drop_succ_cons, List.drop_zero] at e3
    have f3 := Fits.part Tryz.underlying32 hfit (i := 3) rfl (d := y3.1) (by rw [List.getElem?_map, h3]; rfl)
    obtain ⟨x0, g0, -⟩ := DataW.trod_int Tryz.underlying3 e0
    simp only [List.cons.injEq, and_true] at g0
    obtain ⟨x1, g1, -⟩ := DataW.trod_int Tryz.underlying3 e1
    simp only [List.cons.injEq, and_true] at g1
    obtain ⟨x2, g2, -⟩ := DataW.trod_int Tryz.underlying3 e2
    simp only [List.cons.injEq, and_true] at g2
    obtain ⟨a1, b1, g3⟩ := open_span0 e3 f3
    simp only [List.cons.injEq, and_true] at g3
    obtain ⟨ga3, gb3⟩ := g3
    exact ⟨⟨x0, x1, x2, (a1, b1)⟩, by rw [g0, g1, g2, ga3, gb3]⟩
theorem open_dbath0 {fuel : Nat} {cs : List Value} {x : DataW H × List MemPlace} (h : DataW.trod enc Tryz.prog w base sp held fuel 124 cs = some x) (hfit : Fits 124 x.1) :
    ∃ (q : DBath), cs = [.string q.name, .int .i64 q.warm.1, .int .i64 q.warm.2] ∧ q.name.size ≤ 1000000000000000 := by
  obtain ⟨xs, n, -, rfl, hl, hx, hf⟩ := DataW.trod_struct Tryz.underlying124 h
  rw [tcells124] at hl
  match cs, hl with
  | [c0, c1, c2], _ =>
    have hx4 : xs.length = 2 := hx
    obtain ⟨y0, h0⟩ := getSome hx4 (show 0 < 2 by omega)
    have e0 : DataW.trod enc Tryz.prog w base sp held n 9 (([c0, c1, c2].drop 0).take (Tryz.prog.cellsOf 9)) = some y0 := (hf 0 _ rfl).trans h0
    rw [tcells9] at e0
    simp only [List.drop_zero, List.take_succ_cons, List.take_zero] at e0
    have f0 := Fits.part Tryz.underlying124 hfit (i := 0) rfl (d := y0.1) (by rw [List.getElem?_map, h0]; rfl)
    obtain ⟨y1, h1⟩ := getSome hx4 (show 1 < 2 by omega)
    have e1 : DataW.trod enc Tryz.prog w base sp held n 25 (([c0, c1, c2].drop 1).take (Tryz.prog.cellsOf 25)) = some y1 := (hf 1 _ rfl).trans h1
    rw [tcells25] at e1
    simp only [List.take_succ_cons, List.take_zero, List.drop_succ_cons, List.drop_zero] at e1
    have f1 := Fits.part Tryz.underlying124 hfit (i := 1) rfl (d := y1.1) (by rw [List.getElem?_map, h1]; rfl)
    obtain ⟨nm, g0, z0⟩ := open_name e0 f0
    obtain ⟨a1, b1, g1⟩ := open_span0 e1 f1
    simp only [List.cons.injEq, and_true] at g1
    obtain ⟨ga1, gb1⟩ := g1
    exact ⟨⟨nm, (a1, b1)⟩, by rw [g0, ga1, gb1], z0⟩
theorem open_dbaths0 {fuel : Nat} {v : Value} {x : DataW H × List MemPlace} (h : DataW.trod enc Tryz.prog w base sp held fuel 28 [v] = some x) (hfit : Fits 28 x.1) : ∃ l, DBathsIn w.heap.size w v l :=
  open_sl rdDBath Tryz.underlying28 tcells124 (by decide) tbytes124 (by omega) (fun m cs y b o ht hf hl hcell => by
    obtain ⟨q, rfl, hq⟩ := open_dbath0 ht hf
    exact ⟨q, hcell 0 (by decide), hq, hcell 1 (by decide), hcell 2 (by decide)⟩) h hfit
theorem open_dshop0 {fuel : Nat} {cs : List Value} {x : DataW H × List MemPlace} (h : DataW.trod enc Tryz.prog w base sp held fuel 30 cs = some x) (hfit : Fits 30 x.1) :
    ∃ (q : DShop) (u : Value), cs = [.int .i64 q.melt, .int .i64 q.coat, .int .i64 q.thin, .int .i64 q.hold, .int .i64 q.back, .int .i64 q.draw, .int .i64 q.set, .int .i64 q.run, u] ∧ DBathsIn w.heap.size w u q.baths := by
  obtain ⟨xs, n, -, rfl, hl, hx, hf⟩ := DataW.trod_struct Tryz.underlying30 h
  rw [tcells30] at hl
  match cs, hl with
  | [c0, c1, c2, c3, c4, c5, c6, c7, c8], _ =>
    have hx4 : xs.length = 9 := hx
    obtain ⟨y0, h0⟩ := getSome hx4 (show 0 < 9 by omega)
    have e0 : DataW.trod enc Tryz.prog w base sp held n 3 (([c0, c1, c2, c3, c4, c5, c6, c7, c8].drop 0).take (Tryz.prog.cellsOf 3)) = some y0 := (hf 0 _ rfl).trans h0
    rw [tcells3] at e0
    simp only [List.drop_zero, List.take_succ_cons, List.take_zero] at e0
    obtain ⟨y1, h1⟩ := getSome hx4 (show 1 < 9 by omega)
    have e1 : DataW.trod enc Tryz.prog w base sp held n 3 (([c0, c1, c2, c3, c4, c5, c6, c7, c8].drop 1).take (Tryz.prog.cellsOf 3)) = some y1 := (hf 1 _ rfl).trans h1
    rw [tcells3] at e1
    simp only [List.take_succ_cons, List.take_zero, List.drop_succ_cons, List.drop_zero] at e1
    obtain ⟨y2, h2⟩ := getSome hx4 (show 2 < 9 by omega)
    have e2 : DataW.trod enc Tryz.prog w base sp held n 3 (([c0, c1, c2, c3, c4, c5, c6, c7, c8].drop 2).take (Tryz.prog.cellsOf 3)) = some y2 := (hf 2 _ rfl).trans h2
    rw [tcells3] at e2
    simp only [List.take_succ_cons, List.take_zero, List.drop_succ_cons, List.drop_zero] at e2
    obtain ⟨y3, h3⟩ := getSome hx4 (show 3 < 9 by omega)
    have e3 : DataW.trod enc Tryz.prog w base sp held n 3 (([c0, c1, c2, c3, c4, c5, c6, c7, c8].drop 3).take (Tryz.prog.cellsOf 3)) = some y3 := (hf 3 _ rfl).trans h3
    rw [tcells3] at e3
    simp only [List.take_succ_cons, List.take_zero, List.drop_succ_cons, List.drop_zero] at e3
    obtain ⟨y4, h4⟩ := getSome hx4 (show 4 < 9 by omega)
    have e4 : DataW.trod enc Tryz.prog w base sp held n 3 (([c0, c1, c2, c3, c4, c5, c6, c7, c8].drop 4).take (Tryz.prog.cellsOf 3)) = some y4 := (hf 4 _ rfl).trans h4
    rw [tcells3] at e4
    simp only [List.take_succ_cons, List.take_zero, List.drop_succ_cons, List.drop_zero] at e4
    obtain ⟨y5, h5⟩ := getSome hx4 (show 5 < 9 by omega)
    have e5 : DataW.trod enc Tryz.prog w base sp held n 3 (([c0, c1, c2, c3, c4, c5, c6, c7, c8].drop 5).take (Tryz.prog.cellsOf 3)) = some y5 := (hf 5 _ rfl).trans h5
    rw [tcells3] at e5
    simp only [List.take_succ_cons, List.take_zero, List.drop_succ_cons, List.drop_zero] at e5
    obtain ⟨y6, h6⟩ := getSome hx4 (show 6 < 9 by omega)
    have e6 : DataW.trod enc Tryz.prog w base sp held n 3 (([c0, c1, c2, c3, c4, c5, c6, c7, c8].drop 6).take (Tryz.prog.cellsOf 3)) = some y6 := (hf 6 _ rfl).trans h6
    rw [tcells3] at e6
    simp only [List.take_succ_cons, List.take_zero, List.drop_succ_cons, List.drop_zero] at e6
    obtain ⟨y7, h7⟩ := getSome hx4 (show 7 < 9 by omega)
    have e7 : DataW.trod enc Tryz.prog w base sp held n 3 (([c0, c1, c2, c3, c4, c5, c6, c7, c8].drop 7).take (Tryz.prog.cellsOf 3)) = some y7 := (hf 7 _ rfl).trans h7
    rw [tcells3] at e7
    simp only [List.take_succ_cons, List.take_zero, List.drop_succ_cons, List.drop_zero] at e7
    obtain ⟨y8, h8⟩ := getSome hx4 (show 8 < 9 by omega)
    have e8 : DataW.trod enc Tryz.prog w base sp held n 28 (([c0, c1, c2, c3, c4, c5, c6, c7, c8].drop 8).take (Tryz.prog.cellsOf 28)) = some y8 := (hf 8 _ rfl).trans h8
    rw [tcells28] at e8
    simp only [List.take_succ_cons, List.take_zero, List.drop_succ_cons, List.drop_zero] at e8
    have f8 := Fits.part Tryz.underlying30 hfit (i := 8) rfl (d := y8.1) (by rw [List.getElem?_map, h8]; rfl)
    obtain ⟨x0, g0, -⟩ := DataW.trod_int Tryz.underlying3 e0
    simp only [List.cons.injEq, and_true] at g0
    obtain ⟨x1, g1, -⟩ := DataW.trod_int Tryz.underlying3 e1
    simp only [List.cons.injEq, and_true] at g1
    obtain ⟨x2, g2, -⟩ := DataW.trod_int Tryz.underlying3 e2
    simp only [List.cons.injEq, and_true] at g2
    obtain ⟨x3, g3, -⟩ := DataW.trod_int Tryz.underlying3 e3
    simp only [List.cons.injEq, and_true] at g3
    obtain ⟨x4, g4, -⟩ := DataW.trod_int Tryz.underlying3 e4
    simp only [List.cons.injEq, and_true] at g4
    obtain ⟨x5, g5, -⟩ := DataW.trod_int Tryz.underlying3 e5
    simp only [List.cons.injEq, and_true] at g5
    obtain ⟨x6, g6, -⟩ := DataW.trod_int Tryz.underlying3 e6
    simp only [List.cons.injEq, and_true] at g6
    obtain ⟨x7, g7, -⟩ := DataW.trod_int Tryz.underlying3 e7
    simp only [List.cons.injEq, and_true] at g7
    obtain ⟨lb, qb⟩ := open_dbaths0 e8 f8
    exact ⟨⟨x0, x1, x2, x3, x4, x5, x6, x7, lb⟩, c8, by rw [g0, g1, g2, g3, g4, g5, g6, g7], qb⟩
theorem open_ddip0 {fuel : Nat} {cs : List Value} {x : DataW H × List MemPlace} (h : DataW.trod enc Tryz.prog w base sp held fuel 54 cs = some x) (_hfit : Fits 54 x.1) :
    ∃ (q : DDip), cs = [.int .i64 q.bath, .int .i64 q.seconds, .int .i64 q.pause, .bool q.turned] := by
  obtain ⟨xs, n, -, rfl, hl, hx, hf⟩ := DataW.trod_struct Tryz.underlying54 h
  rw [tcells54] at hl
  match cs, hl with
  | [c0, c1, c2, c3], _ =>
    have hx4 : xs.length = 4 := hx
    obtain ⟨y0, h0⟩ := getSome hx4 (show 0 < 4 by omega)
    have e0 : DataW.trod enc Tryz.prog w base sp held n 3 (([c0, c1, c2, c3].drop 0).take (Tryz.prog.cellsOf 3)) = some y0 := (hf 0 _ rfl).trans h0
    rw [tcells3] at e0
    simp only [List.drop_zero, List.take_succ_cons, List.take_zero] at e0
    obtain ⟨y1, h1⟩ := getSome hx4 (show 1 < 4 by omega)
    have e1 : DataW.trod enc Tryz.prog w base sp held n 3 (([c0, c1, c2, c3].drop 1).take (Tryz.prog.cellsOf 3)) = some y1 := (hf 1 _ rfl).trans h1
    rw [tcells3] at e1
    simp only [List.take_succ_cons, List.take_zero, List.drop_succ_cons, List.drop_zero] at e1
    obtain ⟨y2, h2⟩ := getSome hx4 (show 2 < 4 by omega)
    have e2 : DataW.trod enc Tryz.prog w base sp held n 3 (([c0, c1, c2, c3].drop 2).take (Tryz.prog.cellsOf 3)) = some y2 := (hf 2 _ rfl).trans h2
    rw [tcells3] at e2
    simp only [List.take_succ_cons, List.take_zero, List.drop_succ_cons, List.drop_zero] at e2
    obtain ⟨y3, h3⟩ := getSome hx4 (show 3 < 4 by omega)
    have e3 : DataW.trod enc Tryz.prog w base sp held n 4 (([c0, c1, c2, c3].drop 3).take (Tryz.prog.cellsOf 4)) = some y3 := (hf 3 _ rfl).trans h3
    rw [tcells4] at e3
    simp only [List.take_succ_cons, List.take_zero, List.drop_succ_cons, List.drop_zero] at e3
    obtain ⟨x0, g0, -⟩ := DataW.trod_int Tryz.underlying3 e0
    simp only [List.cons.injEq, and_true] at g0
    obtain ⟨x1, g1, -⟩ := DataW.trod_int Tryz.underlying3 e1
    simp only [List.cons.injEq, and_true] at g1
    obtain ⟨x2, g2, -⟩ := DataW.trod_int Tryz.underlying3 e2
    simp only [List.cons.injEq, and_true] at g2
    obtain ⟨x3, g3, -⟩ := DataW.trod_bool Tryz.underlying4 e3
    simp only [List.cons.injEq, and_true] at g3
    exact ⟨⟨x0, x1, x2, x3⟩, by rw [g0, g1, g2, g3]⟩
theorem open_ddips0 {fuel : Nat} {v : Value} {x : DataW H × List MemPlace} (h : DataW.trod enc Tryz.prog w base sp held fuel 35 [v] = some x) (hfit : Fits 35 x.1) : ∃ l, DipsIn w.heap.size w v l :=
  open_sl rdDip Tryz.underlying35 tcells54 (by decide) tbytes54 (by omega) (fun m cs y b o ht hf hl hcell => by
    obtain ⟨q, rfl⟩ := open_ddip0 ht hf
    exact ⟨q, hcell 0 (by decide), hcell 1 (by decide), hcell 2 (by decide), hcell 3 (by decide)⟩) h hfit
theorem open_dtap0 {fuel : Nat} {cs : List Value} {x : DataW H × List MemPlace} (h : DataW.trod enc Tryz.prog w base sp held fuel 34 cs = some x) (_hfit : Fits 34 x.1) :
    ∃ (q : DTap), cs = [.int .i64 q.wick, .int .i64 q.top, .int .i64 q.foot] := by
  obtain ⟨xs, n, -, rfl, hl, hx, hf⟩ := DataW.trod_struct Tryz.underlying34 h
  rw [tcells34] at hl
  match cs, hl with
  | [c0, c1, c2], _ =>
    have hx4 : xs.length = 3 := hx
    obtain ⟨y0, h0⟩ := getSome hx4 (show 0 < 3 by omega)
    have e0 : DataW.trod enc Tryz.prog w base sp held n 3 (([c0, c1, c2].drop 0).take (Tryz.prog.cellsOf 3)) = some y0 := (hf 0 _ rfl).trans h0
    rw [tcells3] at e0
    simp only [List.drop_zero, List.take_succ_cons, List.take_zero] at e0
    obtain ⟨y1, h1⟩ := getSome hx4 (show 1 < 3 by omega)
    have e1 : DataW.trod enc Tryz.prog w base sp held n 3 (([c0, c1, c2].drop 1).take (Tryz.prog.cellsOf 3)) = some y1 := (hf 1 _ rfl).trans h1
    rw [tcells3] at e1
    simp only [List.take_succ_cons, List.take_zero, List.drop_succ_cons, List.drop_zero] at e1
    obtain ⟨y2, h2⟩ := getSome hx4 (show 2 < 3 by omega)
    have e2 : DataW.trod enc Tryz.prog w base sp held n 3 (([c0, c1, c2].drop 2).take (Tryz.prog.cellsOf 3)) = some y2 := (hf 2 _ rfl).trans h2
    rw [tcells3] at e2
    simp only [List.take_succ_cons, List.take_zero, List.drop_succ_cons, List.drop_zero] at e2
    obtain ⟨x0, g0, -⟩ := DataW.trod_int Tryz.underlying3 e0
    simp only [List.cons.injEq, and_true] at g0
    obtain ⟨x1, g1, -⟩ := DataW.trod_int Tryz.underlying3 e1
    simp only [List.cons.injEq, and_true] at g1
    obtain ⟨x2, g2, -⟩ := DataW.trod_int Tryz.underlying3 e2
    simp only [List.cons.injEq, and_true] at g2
    exact ⟨⟨x0, x1, x2⟩, by rw [g0, g1, g2]⟩
theorem open_dipped0 {fuel : Nat} {cs : List Value} {x : DataW H × List MemPlace} (h : DataW.trod enc Tryz.prog w base sp held fuel 38 cs = some x) (hfit : Fits 38 x.1) :
    ∃ (b : Int) (t : DTap) (ks : List DDip) (bound : Int) (yl : List Int) (kv yv : Value), cs = [.int .u8 b, .int .i64 t.wick, .int .i64 t.top, .int .i64 t.foot, kv, .int .i64 bound, yv] ∧ (0 ≤ b ∧ b ≤ 255) ∧ DipsIn w.heap.size w kv ks ∧ (-9223372036854775808 ≤ bound ∧ bound ≤ 9223372036854775807) ∧ IntsIn .u16 w.heap.size w yv yl ∧ ∀ x ∈ yl, 0 ≤ x ∧ x ≤ 65535 := by
  obtain ⟨xs, n, -, rfl, hl, hx, hf⟩ := DataW.trod_struct Tryz.underlying38 h
  rw [tcells38] at hl
  match cs, hl with
  | [c0, c1, c2, c3, c4, c5, c6], _ =>
    have hx4 : xs.length = 5 := hx
    obtain ⟨y0, h0⟩ := getSome hx4 (show 0 < 5 by omega)
    have e0 : DataW.trod enc Tryz.prog w base sp held n 5 (([c0, c1, c2, c3, c4, c5, c6].drop 0).take (Tryz.prog.cellsOf 5)) = some y0 := (hf 0 _ rfl).trans h0
    rw [tcells5] at e0
    simp only [List.drop_zero, List.take_succ_cons, List.take_zero] at e0
    obtain ⟨y1, h1⟩ := getSome hx4 (show 1 < 5 by omega)
    have e1 : DataW.trod enc Tryz.prog w base sp held n 34 (([c0, c1, c2, c3, c4, c5, c6].drop 1).take (Tryz.prog.cellsOf 34)) = some y1 := (hf 1 _ rfl).trans h1
    rw [tcells34] at e1
    simp only [List.take_succ_cons, List.take_zero, List.drop_succ_cons, List.drop_zero] at e1
    have f1 := Fits.part Tryz.underlying38 hfit (i := 1) rfl (d := y1.1) (by rw [List.getElem?_map, h1]; rfl)
    obtain ⟨y2, h2⟩ := getSome hx4 (show 2 < 5 by omega)
    have e2 : DataW.trod enc Tryz.prog w base sp held n 35 (([c0, c1, c2, c3, c4, c5, c6].drop 4).take (Tryz.prog.cellsOf 35)) = some y2 := (hf 2 _ rfl).trans h2
    rw [tcells35] at e2
    simp only [List.take_succ_cons, List.take_zero, List.drop_succ_cons, List.drop_zero] at e2
    have f2 := Fits.part Tryz.underlying38 hfit (i := 2) rfl (d := y2.1) (by rw [List.getElem?_map, h2]; rfl)
    obtain ⟨y3, h3⟩ := getSome hx4 (show 3 < 5 by omega)
    have e3 : DataW.trod enc Tryz.prog w base sp held n 3 (([c0, c1, c2, c3, c4, c5, c6].drop 5).take (Tryz.prog.cellsOf 3)) = some y3 := (hf 3 _ rfl).trans h3
    rw [tcells3] at e3
    simp only [List.take_succ_cons, List.take_zero, List.drop_succ_cons, List.drop_zero] at e3
    obtain ⟨y4, h4⟩ := getSome hx4 (show 4 < 5 by omega)
    have e4 : DataW.trod enc Tryz.prog w base sp held n 36 (([c0, c1, c2, c3, c4, c5, c6].drop 6).take (Tryz.prog.cellsOf 36)) = some y4 := (hf 4 _ rfl).trans h4
    rw [tcells36] at e4
    simp only [List.take_succ_cons, List.take_zero, List.drop_succ_cons, List.drop_zero] at e4
    have f4 := Fits.part Tryz.underlying38 hfit (i := 4) rfl (d := y4.1) (by rw [List.getElem?_map, h4]; rfl)
    obtain ⟨b, g0, -, b0⟩ := DataW.trod_int Tryz.underlying5 e0
    simp only [List.cons.injEq, and_true] at g0
    obtain ⟨t, g1⟩ := open_dtap0 e1 f1
    simp only [List.cons.injEq, and_true] at g1
    obtain ⟨p0, p1, p2⟩ := g1
    obtain ⟨ks, hk⟩ := open_ddips0 e2 f2
    obtain ⟨bound, g3, -, b3⟩ := DataW.trod_int Tryz.underlying3 e3
    simp only [List.cons.injEq, and_true] at g3
    obtain ⟨yl, hy, hyb⟩ := open_list0 Tryz.underlying36 Tryz.underlying129 tcells129 tbytes129 (by omega) e4 f4
    exact ⟨b, t, ks, bound, yl, c4, c6, by rw [g0, p0, p1, p2, g3], bounds_u8 b0, hk, bounds_i64 b3, hy, fun x hx => bounds_u16 (hyb x hx)⟩
theorem open_dc0 {fuel : Nat} {cs : List Value} {x : DataW H × List MemPlace} (h : DataW.trod enc Tryz.prog w base sp held fuel 40 cs = some x) (hfit : Fits 40 x.1) :
    ∃ (c : Candle) (b : Int) (t : DTap) (ks : List DDip) (bound : Int) (yl : List Int) (kv yv : Value), cs = [.int .i64 c.wax, .int .i64 c.dia, .int .i64 c.draught, .int .i64 c.cold.1, .int .i64 c.cold.2, .int .u8 b, .int .i64 t.wick, .int .i64 t.top, .int .i64 t.foot, kv, .int .i64 bound, yv] ∧ (0 ≤ b ∧ b ≤ 255) ∧ DipsIn w.heap.size w kv ks ∧ (-9223372036854775808 ≤ bound ∧ bound ≤ 9223372036854775807) ∧ IntsIn .u16 w.heap.size w yv yl ∧ ∀ x ∈ yl, 0 ≤ x ∧ x ≤ 65535 := by
  obtain ⟨xs, n, -, rfl, hl, hx, hf⟩ := DataW.trod_struct Tryz.underlying40 h
  rw [tcells40] at hl
  match cs, hl with
  | [c0, c1, c2, c3, c4, c5, c6, c7, c8, c9, c10, c11], _ =>
    have hx4 : xs.length = 2 := hx
    obtain ⟨y0, h0⟩ := getSome hx4 (show 0 < 2 by omega)
    have e0 : DataW.trod enc Tryz.prog w base sp held n 32 (([c0, c1, c2, c3, c4, c5, c6, c7, c8, c9, c10, c11].drop 0).take (Tryz.prog.cellsOf 32)) = some y0 := (hf 0 _ rfl).trans h0
    rw [tcells32] at e0
    simp only [List.drop_zero, List.take_succ_cons, List.take_zero] at e0
    have f0 := Fits.part Tryz.underlying40 hfit (i := 0) rfl (d := y0.1) (by rw [List.getElem?_map, h0]; rfl)
    obtain ⟨y1, h1⟩ := getSome hx4 (show 1 < 2 by omega)
    have e1 : DataW.trod enc Tryz.prog w base sp held n 38 (([c0, c1, c2, c3, c4, c5, c6, c7, c8, c9, c10, c11].drop 5).take (Tryz.prog.cellsOf 38)) = some y1 := (hf 1 _ rfl).trans h1
    rw [tcells38] at e1
    simp only [List.take_succ_cons, List.take_zero, List.drop_succ_cons, List.drop_zero] at e1
    have f1 := Fits.part Tryz.underlying40 hfit (i := 1) rfl (d := y1.1) (by rw [List.getElem?_map, h1]; rfl)
    obtain ⟨c, g0⟩ := open_cand0 e0 f0
    simp only [List.cons.injEq, and_true] at g0
    obtain ⟨p0, p1, p2, p3, p4⟩ := g0
    obtain ⟨b, t, ks, bound, yl, kv, yv, g1, hb, hk, hbo, hy, hyb⟩ := open_dipped0 e1 f1
    simp only [List.cons.injEq, and_true] at g1
    obtain ⟨r0, r1, r2, r3, r4, r5, r6⟩ := g1
    exact ⟨c, b, t, ks, bound, yl, kv, yv, by rw [p0, p1, p2, p3, p4, r0, r1, r2, r3, r4, r5, r6], hb, hk, hbo, hy, hyb⟩
theorem open_wshopT {v : Value} {d : DataW H} {ps : List MemPlace} {r : Reach} {b0 : Nat} (h : DataW.Trod enc Tryz.prog w base sp held 27 v d ps) (hfit : Fits 27 d) (hval : Value.okWide Tryz.prog w r b0 27 v) :
    ∃ (vw vx : Value) (q : WShop), v = .agg #[vw, vx, .int .i64 q.flame.1, .int .i64 q.flame.2, .int .i64 q.pool.1, .int .i64 q.pool.2] ∧ WShopAt w.heap.size w vw vx q := by
  obtain ⟨fuel, h⟩ := h
  obtain ⟨cc, rfl, -⟩ := okWide_struct Tryz.underlying27 hval
  obtain ⟨vw, vx, q, e, hq⟩ := open_wshop0 h hfit
  exact ⟨vw, vx, q, by rw [← Array.toArray_toList (xs := cc)]; exact congrArg (fun l => Value.agg l.toArray) e, hq⟩
theorem open_dshopT {v : Value} {d : DataW H} {ps : List MemPlace} {r : Reach} {b0 : Nat} (h : DataW.Trod enc Tryz.prog w base sp held 30 v d ps) (hfit : Fits 30 d) (hval : Value.okWide Tryz.prog w r b0 30 v) :
    ∃ (q : DShop) (u : Value), v = .agg #[.int .i64 q.melt, .int .i64 q.coat, .int .i64 q.thin, .int .i64 q.hold, .int .i64 q.back, .int .i64 q.draw, .int .i64 q.set, .int .i64 q.run, u] ∧ DBathsIn w.heap.size w u q.baths := by
  obtain ⟨fuel, h⟩ := h
  obtain ⟨cc, rfl, -⟩ := okWide_struct Tryz.underlying30 hval
  obtain ⟨q, u, e, hq⟩ := open_dshop0 h hfit
  exact ⟨q, u, by rw [← Array.toArray_toList (xs := cc)]; exact congrArg (fun l => Value.agg l.toArray) e, hq⟩
theorem open_dcT {v : Value} {d : DataW H} {ps : List MemPlace} {r : Reach} {b0 : Nat} (h : DataW.Trod enc Tryz.prog w base sp held 40 v d ps) (hfit : Fits 40 d) (hval : Value.okWide Tryz.prog w r b0 40 v) :
    ∃ (c : Candle) (b : Int) (t : DTap) (ks : List DDip) (bound : Int) (yl : List Int) (kv yv : Value), v = .agg #[.int .i64 c.wax, .int .i64 c.dia, .int .i64 c.draught, .int .i64 c.cold.1, .int .i64 c.cold.2, .int .u8 b, .int .i64 t.wick, .int .i64 t.top, .int .i64 t.foot, kv, .int .i64 bound, yv] ∧ (0 ≤ b ∧ b ≤ 255) ∧ DipsIn w.heap.size w kv ks ∧ (-9223372036854775808 ≤ bound ∧ bound ≤ 9223372036854775807) ∧ IntsIn .u16 w.heap.size w yv yl ∧ ∀ x ∈ yl, 0 ≤ x ∧ x ≤ 65535 := by
  obtain ⟨fuel, h⟩ := h
  obtain ⟨cc, rfl, -⟩ := okWide_struct Tryz.underlying40 hval
  obtain ⟨c, b, t, ks, bound, yl, kv, yv, e, hq⟩ := open_dc0 h hfit
  exact ⟨c, b, t, ks, bound, yl, kv, yv, by rw [← Array.toArray_toList (xs := cc)]; exact congrArg (fun l => Value.agg l.toArray) e, hq⟩
end
end Go.Proofs.YtpkggjobdmchlaaGreatDoor
