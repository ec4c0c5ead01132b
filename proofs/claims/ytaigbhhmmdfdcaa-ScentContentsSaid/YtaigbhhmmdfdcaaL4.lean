/- ScentContents: the walk. -/
import Derived.Test.YtaigbhhmmdfdcaaY9
namespace Go.Proofs.Ytaigbhhmmdfdcaa
open Go.RowKit
set_option maxRecDepth 100000 in
set_option maxHeartbeats 8000000 in
theorem contents_law (s : Shop) (l : List Bat) (vt vl v : Value) (w : World) (hs : ShopAt w.heap.size w vt vl s) (hl : BatsIn w.heap.size w v l) :
    Calls Try.prog 4 #[.agg #[vt, vl], v] w (fun e w' => e = .returned (.bool true) ∧ Below w.heap.size w w') := by
  have HS := Lib.hid hs
  have HL := Lib.hid hl
  obtain ⟨ta, tc, rfl, -, -⟩ := sl_shape hs.1
  obtain ⟨la, lc, rfl, -, -⟩ := sl_shape hs.2
  obtain ⟨a, c, rfl, -, -⟩ := sl_shape hl
  clear hs hl
  have C0 : Hid (Bs w [(w.heap.size, .cells #[.slice ta s.things.length tc, .slice la s.lots.length lc] 25)] _) := (Bs.nil w).push _ rfl (.cells #[.slice ta s.things.length tc, .slice la s.lots.length lc] 25)
  have H1 := fun w h1 h2 => Lib.hid (content_any s l (.slice ta s.things.length tc) (.slice la s.lots.length lc) (.slice a l.length c) w h1 h2)
  have H2 := fun w h1 h2 => Lib.hid (content_ref s l (.slice ta s.things.length tc) (.slice la s.lots.length lc) (.slice a l.length c) w h1 h2)
  have H3 := fun w h1 h2 => Lib.hid (left_any s l (.slice ta s.things.length tc) (.slice la s.lots.length lc) (.slice a l.length c) w h1 h2)
  have H4 := fun w h1 h2 => Lib.hid (left_ref s l (.slice ta s.things.length tc) (.slice la s.lots.length lc) (.slice a l.length c) w h1 h2)
  have H5 := fun w h1 h2 => Lib.hid (keeps_any s l (.slice ta s.things.length tc) (.slice la s.lots.length lc) (.slice a l.length c) w h1 h2)
  have H6 := fun w h1 h2 => Lib.hid (keeps_ref s l (.slice ta s.things.length tc) (.slice la s.lots.length lc) (.slice a l.length c) w h1 h2)
  unfold RetTable at H1 H2
  unfold RetInts at H3 H4
  unfold Ret3 at H5 H6
  generalize batchesE s l = E at *
  generalize contentV s l = CV at *
  generalize leftV s l = LV at *
  generalize keepsV s l = K at *
  obtain ⟨p, q, r⟩ := K
  simp only at H5 H6
  have hq0 : (E != E) = false := by simp
  have hq1 : (p == p) = true := by simp
  have hq2 : (q == q) = true := by simp
  have hq3 : (r == r) = true := by simp
  have hc0 := C0.out.cell 0 rfl 0
  have hc1 := C0.out.cell 0 rfl 1
  go_enter Try.func4, Try.ntmps4
  go_wp2_with fail
  refine (H1 _ ((HS.out.below C0.out.bel).mono C0.out.bel.size) ((HL.out.below C0.out.bel).mono C0.out.bel.size)).out.mono ?_
  rintro e w1 ⟨v1, rfl, hi, hb⟩
  have C1 := Lib.hid (C0.out.call hb)
  have HA := Lib.hid hi
  clear hi
  clear hb C0 hc0 hc1
  have hc0 := C1.out.cell 0 rfl 0
  have hc1 := C1.out.cell 0 rfl 1
  go_wp2_with fail
  refine (H2 _ ((HS.out.below C1.out.bel).mono C1.out.bel.size) ((HL.out.below C1.out.bel).mono C1.out.bel.size)).out.mono ?_
  rintro e w2 ⟨v2, rfl, hi, hb⟩
  have C2 := Lib.hid (C1.out.call hb)
  have HA := Lib.hid (SlIn.next HA.out hb)
  have HB := Lib.hid hi
  clear hi
  clear hb C1 hc0 hc1
  have hc0 := C2.out.cell 0 rfl 0
  have hc1 := C2.out.cell 0 rfl 1
  go_wp2_with fail
  refine (tables_same _ _ _ _ HA.out HB.out).mono ?_
  rintro e w3 ⟨rfl, hb⟩
  have C3 := Lib.hid (C2.out.call hb)
  have HA := Lib.hid (SlIn.next HA.out hb)
  have HB := Lib.hid (SlIn.next HB.out hb)
  clear hb C2 hc0 hc1
  have hc0 := C3.out.cell 0 rfl 0
  have hc1 := C3.out.cell 0 rfl 1
  go_wp2_with fail
  refine (H3 _ ((HS.out.below C3.out.bel).mono C3.out.bel.size) ((HL.out.below C3.out.bel).mono C3.out.bel.size)).out.mono ?_
  rintro e w4 ⟨v3, rfl, hi, hb⟩
  have C4 := Lib.hid (C3.out.call hb)
  have HA := Lib.hid (SlIn.next HA.out hb)
  have HB := Lib.hid (SlIn.next HB.out hb)
  have HC := Lib.hid hi
  clear hi
  clear hb C3 hc0 hc1
  have hc0 := C4.out.cell 0 rfl 0
  have hc1 := C4.out.cell 0 rfl 1
  go_wp2_with fail
  refine (H4 _ ((HS.out.below C4.out.bel).mono C4.out.bel.size) ((HL.out.below C4.out.bel).mono C4.out.bel.size)).out.mono ?_
  rintro e w5 ⟨v4, rfl, hi, hb⟩
  have C5 := Lib.hid (C4.out.call hb)
  have HA := Lib.hid (SlIn.next HA.out hb)
  have HB := Lib.hid (SlIn.next HB.out hb)
  have HC := Lib.hid (IntsIn.next HC.out hb)
  have HD := Lib.hid hi
  clear hi
  clear hb C4 hc0 hc1
  have hc0 := C5.out.cell 0 rfl 0
  have hc1 := C5.out.cell 0 rfl 1
  go_wp2_with fail
  refine (ints_same _ _ _ _ HC.out HD.out).mono ?_
  rintro e w6 ⟨rfl, hb⟩
  have C6 := Lib.hid (C5.out.call hb)
  have HA := Lib.hid (SlIn.next HA.out hb)
  have HB := Lib.hid (SlIn.next HB.out hb)
  have HC := Lib.hid (IntsIn.next HC.out hb)
  have HD := Lib.hid (IntsIn.next HD.out hb)
  clear hb C5 hc0 hc1
  have hc0 := C6.out.cell 0 rfl 0
  have hc1 := C6.out.cell 0 rfl 1
  go_wp2_with fail
  refine (H5 _ ((HS.out.below C6.out.bel).mono C6.out.bel.size) ((HL.out.below C6.out.bel).mono C6.out.bel.size)).out.mono ?_
  rintro e w7 ⟨rfl, hb⟩
  have C7 := Lib.hid (C6.out.call hb)
  have HA := Lib.hid (SlIn.next HA.out hb)
  have HB := Lib.hid (SlIn.next HB.out hb)
  have HC := Lib.hid (IntsIn.next HC.out hb)
  have HD := Lib.hid (IntsIn.next HD.out hb)
  clear hb C6 hc0 hc1
  have hc0 := C7.out.cell 0 rfl 0
  have hc1 := C7.out.cell 0 rfl 1
  go_wp2_with fail
  refine (H6 _ ((HS.out.below C7.out.bel).mono C7.out.bel.size) ((HL.out.below C7.out.bel).mono C7.out.bel.size)).out.mono ?_
  rintro e w8 ⟨rfl, hb⟩
  have C8 := Lib.hid (C7.out.call hb)
  have HA := Lib.hid (SlIn.next HA.out hb)
  have HB := Lib.hid (SlIn.next HB.out hb)
  have HC := Lib.hid (IntsIn.next HC.out hb)
  have HD := Lib.hid (IntsIn.next HD.out hb)
  clear hb C7 hc0 hc1
  have hc0 := C8.out.cell 0 rfl 0
  have hc1 := C8.out.cell 0 rfl 1
  go_wp2_with fail
  refine (awake_any _).mono ?_
  rintro e w9 ⟨rfl, hb⟩
  have C9 := Lib.hid (C8.out.call hb)
  have HA := Lib.hid (SlIn.next HA.out hb)
  have HB := Lib.hid (SlIn.next HB.out hb)
  have HC := Lib.hid (IntsIn.next HC.out hb)
  have HD := Lib.hid (IntsIn.next HD.out hb)
  clear hb C8 hc0 hc1
  have hc0 := C9.out.cell 0 rfl 0
  have hc1 := C9.out.cell 0 rfl 1
  go_wp2_with fail
  go_ret
  exact ⟨rfl, C9.out.bel⟩
end Go.Proofs.Ytaigbhhmmdfdcaa
