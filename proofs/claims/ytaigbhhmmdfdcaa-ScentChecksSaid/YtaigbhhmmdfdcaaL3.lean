/- ScentChecks: the walk. -/
import Derived.Test.YtaigbhhmmdfdcaaY3
namespace Go.Proofs.Ytaigbhhmmdfdcaa
open Go.RowKit
set_option maxHeartbeats 4000000 in
theorem checks_law (s : Shop) (vt vl : Value) (w : World) (hs : ShopAt w.heap.size w vt vl s) : Calls Try.prog 3 #[.agg #[vt, vl]] w (fun e w' => e = .returned (.bool true) ∧ Below w.heap.size w w') := by
  have HS := Lib.hid hs
  obtain ⟨ta, tc, rfl, -, -⟩ := sl_shape hs.1
  obtain ⟨la, lc, rfl, -, -⟩ := sl_shape hs.2
  clear hs
  have C0 := Lib.hid ((Bs.nil w).push _ rfl (.cells #[.slice ta s.things.length tc, .slice la s.lots.length lc] 25))
  have H1 := fun w h => Lib.hid (check_any s (.slice ta s.things.length tc) (.slice la s.lots.length lc) w h)
  have H2 := fun w h => Lib.hid (check_ref s (.slice ta s.things.length tc) (.slice la s.lots.length lc) w h)
  unfold Ret3 at H2
  generalize checkV s = E at *
  obtain ⟨a, b, c⟩ := E
  simp only at H1 H2
  have hq1 : (a == a) = true := by simp
  have hq2 : (b == b) = true := by simp
  have hq3 : (c == c) = true := by simp
  have hc0 := C0.out.cell 0 rfl 0
  have hc1 := C0.out.cell 0 rfl 1
  go_enter Try.func3, Try.ntmps3
  go_wp2_with fail
  refine (H1 _ ((HS.out.below C0.out.bel).mono C0.out.bel.size)).out.mono ?_
  rintro e w1 ⟨rfl, hb⟩
  have C1 := Lib.hid (C0.out.call hb)
  clear hb C0 hc0 hc1
  have hc0 := C1.out.cell 0 rfl 0
  have hc1 := C1.out.cell 0 rfl 1
  go_wp2_with fail
  refine (H2 _ ((HS.out.below C1.out.bel).mono C1.out.bel.size)).out.mono ?_
  rintro e w2 ⟨rfl, hb⟩
  have C2 := Lib.hid (C1.out.call hb)
  clear hb C1 hc0 hc1
  go_wp2_with fail
  refine (awake_any _).mono ?_
  rintro e w3 ⟨rfl, hb⟩
  have C3 := Lib.hid (C2.out.call hb)
  clear hb C2
  go_wp2_with fail
  go_ret
  exact ⟨rfl, C3.out.bel⟩
end Go.Proofs.Ytaigbhhmmdfdcaa
