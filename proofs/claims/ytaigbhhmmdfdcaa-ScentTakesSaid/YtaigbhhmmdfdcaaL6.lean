/- ScentTakes: the walk. -/
import Derived.Test.YtaigbhhmmdfdcaaY15
namespace Go.Proofs.Ytaigbhhmmdfdcaa
open Go.RowKit
set_option maxRecDepth 100000 in
set_option maxHeartbeats 8000000 in
theorem takes_law (s : Shop) (l : List Bat) (x0 x1 x2 : Int) (vt vl v : Value) (w : World) (hs : ShopAt w.heap.size w vt vl s) (hl : BatsIn w.heap.size w v l) :
    Calls Try.prog 6 #[.agg #[vt, vl], v, .agg #[.int .i64 x0, .int .i64 x1, .int .i64 x2]] w (fun e w' => e = .returned (.bool true) ∧ Below w.heap.size w w') := by
  have HS := Lib.hid hs
  have HL := Lib.hid hl
  obtain ⟨ta, tc, rfl, -, -⟩ := sl_shape hs.1
  obtain ⟨la, lc, rfl, -, -⟩ := sl_shape hs.2
  obtain ⟨a, c, rfl, -, -⟩ := sl_shape hl
  clear hs hl
  have C0 : Hid (Bs w [(w.heap.size, .cells #[.slice ta s.things.length tc, .slice la s.lots.length lc] 25), (w.heap.size + 1, .cells #[.int .i64 x0, .int .i64 x1, .int .i64 x2] 49)] _) := ((Bs.nil w).push _ rfl (.cells #[.slice ta s.things.length tc, .slice la s.lots.length lc] 25)).push (w.heap.size + 1) (by simp) (.cells #[.int .i64 x0, .int .i64 x1, .int .i64 x2] 49)
  have H1 := fun w h1 h2 => Lib.hid (take_any s l x0 (.slice ta s.things.length tc) (.slice la s.lots.length lc) (.slice a l.length c) w h1 h2)
  have H2 := fun w h1 h2 => Lib.hid (take_ref s l x0 (.slice ta s.things.length tc) (.slice la s.lots.length lc) (.slice a l.length c) w h1 h2)
  have H3 := fun w h1 h2 => Lib.hid (pull_any s l (.slice ta s.things.length tc) (.slice la s.lots.length lc) (.slice a l.length c) w h1 h2)
  have H4 := fun w h1 h2 => Lib.hid (pull_ref s l (.slice ta s.things.length tc) (.slice la s.lots.length lc) (.slice a l.length c) w h1 h2)
  have H5 := fun w h1 h2 => Lib.hid (pale_any s l x1 x2 (.slice ta s.things.length tc) (.slice la s.lots.length lc) (.slice a l.length c) w h1 h2)
  have H6 := fun w h1 h2 => Lib.hid (pale_ref s l x1 x2 (.slice ta s.things.length tc) (.slice la s.lots.length lc) (.slice a l.length c) w h1 h2)
  unfold RetSpan at H1 H2
  unfold RetSpans at H3 H4
  unfold Ret3 at H5 H6
  generalize batchesE s l = E at *
  generalize takeV s l x0 = T at *
  generalize pullV s l = PV at *
  generalize paleVV s l x1 x2 = K at *
  obtain ⟨⟨t1, t2⟩, te⟩ := T
  obtain ⟨p, q, r⟩ := K
  simp only at H1 H2 H5 H6
  have hqa : (t1 == t1) = true := by simp
  have hqb : (t2 == t2) = true := by simp
  have hqc : (te != te) = false := by simp
  have hq0 : (E != E) = false := by simp
  have hq1 : (p == p) = true := by simp
  have hq2 : (q == q) = true := by simp
  have hq3 : (r == r) = true := by simp
  go_enter Try.func6, Try.ntmps6
  have hc0 := C0.out.cell 0 rfl 0
  have hc1 := C0.out.cell 0 rfl 1
  have hx0 := C0.out.cell 1 rfl 0
  have hx1 := C0.out.cell 1 rfl 1
  have hx2 := C0.out.cell 1 rfl 2
  go_wp2_with fail
  refine (H1 _ ((HS.out.below C0.out.bel).mono C0.out.bel.size) ((HL.out.below C0.out.bel).mono C0.out.bel.size)).out.mono ?_
  rintro e w1 ⟨rfl, hb⟩
  have C1 := Lib.hid ((C0.out.call hb).push _ rfl (.cells #[.int .i64 t1, .int .i64 t2] 51))
  clear hb C0 hc0 hc1 hx0 hx1 hx2
  obtain ⟨g2, hg2⟩ : ∃ g, w1.heap.size = g := ⟨_, rfl⟩
  rw [hg2] at C1
  have hc0 := C1.out.cell 0 rfl 0
  have hc1 := C1.out.cell 0 rfl 1
  have hx0 := C1.out.cell 1 rfl 0
  have hx1 := C1.out.cell 1 rfl 1
  have hx2 := C1.out.cell 1 rfl 2
  have hy20 := C1.out.cell 2 rfl 0
  have hy21 := C1.out.cell 2 rfl 1
  go_wp2_with fail
  clear hg2
  refine (H2 _ ((HS.out.below C1.out.bel).mono C1.out.bel.size) ((HL.out.below C1.out.bel).mono C1.out.bel.size)).out.mono ?_
  rintro e w2 ⟨rfl, hb⟩
  have C2 := Lib.hid ((C1.out.call hb).push _ rfl (.cells #[.int .i64 t1, .int .i64 t2] 51))
  clear hb C1 hc0 hc1 hx0 hx1 hx2 hy20 hy21
  obtain ⟨g3, hg3⟩ : ∃ g, w2.heap.size = g := ⟨_, rfl⟩
  rw [hg3] at C2
  have hc0 := C2.out.cell 0 rfl 0
  have hc1 := C2.out.cell 0 rfl 1
  have hx0 := C2.out.cell 1 rfl 0
  have hx1 := C2.out.cell 1 rfl 1
  have hx2 := C2.out.cell 1 rfl 2
  have hy20 := C2.out.cell 2 rfl 0
  have hy21 := C2.out.cell 2 rfl 1
  have hy30 := C2.out.cell 3 rfl 0
  have hy31 := C2.out.cell 3 rfl 1
  go_wp2_with fail
  clear hg3
  refine (H3 _ ((HS.out.below C2.out.bel).mono C2.out.bel.size) ((HL.out.below C2.out.bel).mono C2.out.bel.size)).out.mono ?_
  rintro e w3 ⟨v1, rfl, hi, hb⟩
  have C3 := Lib.hid (C2.out.call hb)
  have HA := Lib.hid hi
  clear hi
  clear hb C2 hc0 hc1 hx0 hx1 hx2 hy20 hy21 hy30 hy31
  have hc0 := C3.out.cell 0 rfl 0
  have hc1 := C3.out.cell 0 rfl 1
  have hx0 := C3.out.cell 1 rfl 0
  have hx1 := C3.out.cell 1 rfl 1
  have hx2 := C3.out.cell 1 rfl 2
  have hy20 := C3.out.cell 2 rfl 0
  have hy21 := C3.out.cell 2 rfl 1
  have hy30 := C3.out.cell 3 rfl 0
  have hy31 := C3.out.cell 3 rfl 1
  go_wp2_with fail
  refine (H4 _ ((HS.out.below C3.out.bel).mono C3.out.bel.size) ((HL.out.below C3.out.bel).mono C3.out.bel.size)).out.mono ?_
  rintro e w4 ⟨v2, rfl, hi, hb⟩
  have C4 := Lib.hid (C3.out.call hb)
  have HA := Lib.hid (SlIn.next HA.out hb)
  have HB := Lib.hid hi
  clear hi
  clear hb C3 hc0 hc1 hx0 hx1 hx2 hy20 hy21 hy30 hy31
  have hc0 := C4.out.cell 0 rfl 0
  have hc1 := C4.out.cell 0 rfl 1
  have hx0 := C4.out.cell 1 rfl 0
  have hx1 := C4.out.cell 1 rfl 1
  have hx2 := C4.out.cell 1 rfl 2
  have hy20 := C4.out.cell 2 rfl 0
  have hy21 := C4.out.cell 2 rfl 1
  have hy30 := C4.out.cell 3 rfl 0
  have hy31 := C4.out.cell 3 rfl 1
  go_wp2_with fail
  refine (spans_same _ _ _ _ HA.out HB.out).mono ?_
  rintro e w5 ⟨rfl, hb⟩
  have C5 := Lib.hid (C4.out.call hb)
  have HA := Lib.hid (SlIn.next HA.out hb)
  have HB := Lib.hid (SlIn.next HB.out hb)
  clear hb C4 hc0 hc1 hx0 hx1 hx2 hy20 hy21 hy30 hy31
  have hc0 := C5.out.cell 0 rfl 0
  have hc1 := C5.out.cell 0 rfl 1
  have hx0 := C5.out.cell 1 rfl 0
  have hx1 := C5.out.cell 1 rfl 1
  have hx2 := C5.out.cell 1 rfl 2
  have hy20 := C5.out.cell 2 rfl 0
  have hy21 := C5.out.cell 2 rfl 1
  have hy30 := C5.out.cell 3 rfl 0
  have hy31 := C5.out.cell 3 rfl 1
  go_wp2_with fail
  refine (H5 _ ((HS.out.below C5.out.bel).mono C5.out.bel.size) ((HL.out.below C5.out.bel).mono C5.out.bel.size)).out.mono ?_
  rintro e w6 ⟨rfl, hb⟩
  have C6 := Lib.hid (C5.out.call hb)
  have HA := Lib.hid (SlIn.next HA.out hb)
  have HB := Lib.hid (SlIn.next HB.out hb)
  clear hb C5 hc0 hc1 hx0 hx1 hx2 hy20 hy21 hy30 hy31
  have hc0 := C6.out.cell 0 rfl 0
  have hc1 := C6.out.cell 0 rfl 1
  have hx0 := C6.out.cell 1 rfl 0
  have hx1 := C6.out.cell 1 rfl 1
  have hx2 := C6.out.cell 1 rfl 2
  have hy20 := C6.out.cell 2 rfl 0
  have hy21 := C6.out.cell 2 rfl 1
  have hy30 := C6.out.cell 3 rfl 0
  have hy31 := C6.out.cell 3 rfl 1
  go_wp2_with fail
  refine (H6 _ ((HS.out.below C6.out.bel).mono C6.out.bel.size) ((HL.out.below C6.out.bel).mono C6.out.bel.size)).out.mono ?_
  rintro e w7 ⟨rfl, hb⟩
  have C7 := Lib.hid (C6.out.call hb)
  have HA := Lib.hid (SlIn.next HA.out hb)
  have HB := Lib.hid (SlIn.next HB.out hb)
  clear hb C6 hc0 hc1 hx0 hx1 hx2 hy20 hy21 hy30 hy31
  have hc0 := C7.out.cell 0 rfl 0
  have hc1 := C7.out.cell 0 rfl 1
  have hx0 := C7.out.cell 1 rfl 0
  have hx1 := C7.out.cell 1 rfl 1
  have hx2 := C7.out.cell 1 rfl 2
  have hy20 := C7.out.cell 2 rfl 0
  have hy21 := C7.out.cell 2 rfl 1
  have hy30 := C7.out.cell 3 rfl 0
  have hy31 := C7.out.cell 3 rfl 1
  go_wp2_with fail
  refine (awake_any _).mono ?_
  rintro e w8 ⟨rfl, hb⟩
  have C8 := Lib.hid (C7.out.call hb)
  have HA := Lib.hid (SlIn.next HA.out hb)
  have HB := Lib.hid (SlIn.next HB.out hb)
  clear hb C7 hc0 hc1 hx0 hx1 hx2 hy20 hy21 hy30 hy31
  have hc0 := C8.out.cell 0 rfl 0
  have hc1 := C8.out.cell 0 rfl 1
  have hx0 := C8.out.cell 1 rfl 0
  have hx1 := C8.out.cell 1 rfl 1
  have hx2 := C8.out.cell 1 rfl 2
  have hy20 := C8.out.cell 2 rfl 0
  have hy21 := C8.out.cell 2 rfl 1
  have hy30 := C8.out.cell 3 rfl 0
  have hy31 := C8.out.cell 3 rfl 1
  go_wp2_with fail
  go_ret
  exact ⟨rfl, C8.out.bel⟩
end Go.Proofs.Ytaigbhhmmdfdcaa
