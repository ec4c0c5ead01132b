/- ScentMade: the walk. -/
import Derived.Test.YtaigbhhmmdfdcaaY27
namespace Go.Proofs.Ytaigbhhmmdfdcaa
open Go.RowKit
set_option maxRecDepth 100000 in
set_option maxHeartbeats 8000000 in
theorem made_law (s : Shop) (l : List Bat) (k : Int) (x : Tru) (vt vl v tl tb ta' : Value) (w : World) (hs : ShopAt w.heap.size w vt vl s) (hl : BatsIn w.heap.size w v l) (hx : TruAt w.heap.size w tl tb ta' x) :
    Calls Try.prog 5 #[.agg #[vt, vl], v, .agg #[.int .i64 k, tl, tb, ta']] w (fun e w' => e = .returned (.bool true) ∧ Below w.heap.size w w') := by
  have HS := Lib.hid hs
  have HL := Lib.hid hl
  have HX := Lib.hid hx
  obtain ⟨ta, tc, rfl, -, -⟩ := sl_shape hs.1
  obtain ⟨la, lc, rfl, -, -⟩ := sl_shape hs.2
  obtain ⟨a, c, rfl, hlc, hlen⟩ := sl_shape hl
  obtain ⟨g1, c1, rfl, -, -⟩ := sl_shape hx.1
  obtain ⟨g2, c2, rfl, -, -⟩ := sl_shape hx.2.1
  obtain ⟨g3, c3, rfl⟩ := hx.2.2.shape rfl
  clear hs hl hx
  have C0 : Hid (Bs w [(w.heap.size, .cells #[.slice ta s.things.length tc, .slice la s.lots.length lc] 25), (w.heap.size + 1, .cells #[.int .i64 k, .slice g1 x.lots.length c1, .slice g2 x.back.length c2, .slice g3 x.added.length c3] 46)] _) := ((Bs.nil w).push _ rfl (.cells #[.slice ta s.things.length tc, .slice la s.lots.length lc] 25)).push (w.heap.size + 1) (by simp) (.cells #[.int .i64 k, .slice g1 x.lots.length c1, .slice g2 x.back.length c2, .slice g3 x.added.length c3] 46)
  have hc0 := C0.out.cell 0 rfl 0
  have hc1 := C0.out.cell 0 rfl 1
  have hx0 := C0.out.cell 1 rfl 0
  have hx1 := C0.out.cell 1 rfl 1
  have hx2 := C0.out.cell 1 rfl 2
  have hx3 := C0.out.cell 1 rfl 3
  have H1 := fun w h1 h2 h3 => Lib.hid (made_any s l k x (.slice ta s.things.length tc) (.slice la s.lots.length lc) (.slice a l.length c) (.slice g1 x.lots.length c1) (.slice g2 x.back.length c2) (.slice g3 x.added.length c3) w h1 h2 h3)
  have H2 := fun w h1 h2 h3 => Lib.hid (made_ref s l k x (.slice ta s.things.length tc) (.slice la s.lots.length lc) (.slice a l.length c) (.slice g1 x.lots.length c1) (.slice g2 x.back.length c2) (.slice g3 x.added.length c3) w h1 h2 h3)
  unfold RetInts at H1 H2
  generalize madeE s l k x = E at *
  generalize madeV s l k x = MV at *
  go_enter Try.func5, Try.ntmps5
  go_wp2_with fail
  refine (H1 _ ((HS.out.below C0.out.bel).mono C0.out.bel.size) ((HL.out.below C0.out.bel).mono C0.out.bel.size) ((HX.out.below C0.out.bel).mono C0.out.bel.size)).out.mono ?_
  rintro e w1 ⟨tv, rfl, hi, hb⟩
  have C1 := Lib.hid (C0.out.call hb)
  have HT := Lib.hid hi
  clear hb hi C0 hc0 hc1 hx0 hx1 hx2 hx3 H1
  have hc0 := C1.out.cell 0 rfl 0
  have hc1 := C1.out.cell 0 rfl 1
  have hx0 := C1.out.cell 1 rfl 0
  have hx1 := C1.out.cell 1 rfl 1
  have hx2 := C1.out.cell 1 rfl 2
  have hx3 := C1.out.cell 1 rfl 3
  go_wp2_with fail
  refine (H2 _ ((HS.out.below C1.out.bel).mono C1.out.bel.size) ((HL.out.below C1.out.bel).mono C1.out.bel.size) ((HX.out.below C1.out.bel).mono C1.out.bel.size)).out.mono ?_
  rintro e w2 ⟨tu, rfl, hi, hb⟩
  have C2 := Lib.hid (C1.out.call hb)
  have HT := Lib.hid (IntsIn.next HT.out hb)
  have HU := Lib.hid hi
  clear hb hi C1 hc0 hc1 hx0 hx1 hx2 hx3 H2
  go_wp2_with fail
  refine (ints_same MV _ _ _ HT.out HU.out).mono ?_
  rintro e w3 ⟨rfl, hb⟩
  have C3 := Lib.hid (C2.out.call hb)
  clear hb C2 HT HU
  have hq : (E == E) = true := by simp
  go_wp2_with fail
  refine (awake_any _).mono ?_
  rintro e w4 ⟨rfl, hb⟩
  have CX := Lib.hid (C3.out.call hb)
  clear hb C3
  go_wp2_with fail
  go_ret
  exact ⟨rfl, CX.out.bel⟩
end Go.Proofs.Ytaigbhhmmdfdcaa
