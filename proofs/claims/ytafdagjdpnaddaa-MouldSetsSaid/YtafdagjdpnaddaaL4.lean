/- MouldSets: the walk. -/
import Derived.Test.YtafdagjdpnaddaaW36
import Derived.Test.YtafdagjdpnaddaaAW
namespace Go.Proofs.Ytafdagjdpnaddaa
open Go.RowKit
theorem sets_len (m : Mou) : (setsV m).1.length ≤ 8 := by
  by_cases hc : checkE m = 0
  rotate_left
  · rw [setsV_bad hc]; simp
  have hm := valid_of_check hc
  cases hn : neverB (endsL m true) with
  | true => rw [setsV_never hc hn]; simp
  | false =>
    rw [setsV_ok hc hn]
    have h1 := endsL_lenI hm false
    have h2 := endsL_lenI hm true
    have h3 := hm.r8
    simp only [List.length_zip]
    omega
set_option maxRecDepth 100000 in
set_option maxHeartbeats 16000000 in
theorem sets_law (m : Mou) (n : Int) (w : World) : Calls Try.prog 4 #[.agg #[.int .i64 m.rings, .int .i64 m.give, .int .i64 m.pl, .int .i64 m.ph, .int .i64 m.wl, .int .i64 m.wh, .int .i64 m.set, .int .i64 m.shrink, .int .i64 m.skin, .int .i64 m.fill, .int .i64 m.gap, .int .i64 m.deep], .int .i64 n] w (fun e w' => e = .returned (.bool true) ∧ Below w.heap.size w w') := by
  have C0 := Lib.hid ((Bs.nil w).push _ rfl (.cells #[.int .i64 m.rings, .int .i64 m.give, .int .i64 m.pl, .int .i64 m.ph, .int .i64 m.wl, .int .i64 m.wh, .int .i64 m.set, .int .i64 m.shrink, .int .i64 m.skin, .int .i64 m.fill, .int .i64 m.gap, .int .i64 m.deep] 25))
  have H1 := fun w => Lib.hid (sets_any m w)
  have H2 := fun w => Lib.hid (sets_ref m w)
  have H3 := fun w => Lib.hid (skinM_any m n w)
  have H4 := fun w => Lib.hid (skin_ref m n w)
  have HL := Lib.hid (sets_len m)
  generalize setsV m = S at *
  generalize skinV m n = K at *
  obtain ⟨sl, se⟩ := S
  obtain ⟨⟨ka, kb⟩, ke⟩ := K
  have hq : (se != se) = false := by simp
  have hq2 : (ke == ke) = true := by simp
  go_enter Try.func4, Try.ntmps4
  go_wp2_with (refine wpList_load_bs rfl 25 _ rfl C0.out 0 w.heap.size #[.int .i64 m.rings, .int .i64 m.give, .int .i64 m.pl, .int .i64 m.ph, .int .i64 m.wl, .int .i64 m.wh, .int .i64 m.set, .int .i64 m.shrink, .int .i64 m.skin, .int .i64 m.fill, .int .i64 m.gap, .int .i64 m.deep] 25 rfl rfl _ Try.underlying25 rfl info25 ?_)
  refine (H1 _).out.mono ?_
  rintro e w1 ⟨v1, rfl, ho, hb⟩
  have HS1 := Lib.hid (ho.spans (by have := HL.out; omega))
  have C1 := Lib.hid (C0.out.call hb)
  clear ho hb C0
  go_wp2_with (refine wpList_load_bs rfl 25 _ rfl C1.out 0 w.heap.size #[.int .i64 m.rings, .int .i64 m.give, .int .i64 m.pl, .int .i64 m.ph, .int .i64 m.wl, .int .i64 m.wh, .int .i64 m.set, .int .i64 m.shrink, .int .i64 m.skin, .int .i64 m.fill, .int .i64 m.gap, .int .i64 m.deep] 25 rfl rfl _ Try.underlying25 rfl info25 ?_)
  refine (H2 _).out.mono ?_
  rintro e w2 ⟨v2, rfl, ho, hb⟩
  have HS2 := Lib.hid (ho.spans (by have := HL.out; omega))
  have HS1 := Lib.hid (HS1.out.next hb)
  have C2 := Lib.hid (C1.out.call hb)
  clear ho hb C1
  go_wp2_with fail
  refine (spans_same sl v1 v2 w2 HS1.out HS2.out).mono ?_
  rintro e w3 ⟨rfl, hb⟩
  have C3 := Lib.hid (C2.out.call hb)
  clear hb C2 HS1 HS2
  go_wp2_with (refine wpList_load_bs rfl 25 _ rfl C3.out 0 w.heap.size #[.int .i64 m.rings, .int .i64 m.give, .int .i64 m.pl, .int .i64 m.ph, .int .i64 m.wl, .int .i64 m.wh, .int .i64 m.set, .int .i64 m.shrink, .int .i64 m.skin, .int .i64 m.fill, .int .i64 m.gap, .int .i64 m.deep] 25 rfl rfl _ Try.underlying25 rfl info25 ?_)
  refine (H3 _).out.mono ?_
  rintro e w4 ⟨rfl, hb⟩
  have C4 := Lib.hid ((C3.out.call hb).push w4.heap.size rfl (.cells #[.int .i64 ka, .int .i64 kb] 23))
  clear hb C3
  go_wp2_with (refine wpList_load_bs rfl 25 _ rfl C4.out 0 w.heap.size #[.int .i64 m.rings, .int .i64 m.give, .int .i64 m.pl, .int .i64 m.ph, .int .i64 m.wl, .int .i64 m.wh, .int .i64 m.set, .int .i64 m.shrink, .int .i64 m.skin, .int .i64 m.fill, .int .i64 m.gap, .int .i64 m.deep] 25 rfl rfl _ Try.underlying25 rfl info25 ?_)
  refine (H4 _).out.mono ?_
  rintro e w5 ⟨rfl, hb⟩
  have C5 := Lib.hid ((C4.out.call hb).push w5.heap.size rfl (.cells #[.int .i64 ka, .int .i64 kb] 23))
  clear hb C4
  have c1 := C5.out.cell 1 rfl
  have c2 := C5.out.cell 2 rfl
  go_wp2_with fail
  refine (awake_any _).mono ?_
  rintro e w14 ⟨rfl, hb⟩
  have HBel := Lib.hid (C5.out.call hb).bel
  clear hb C5 c1 c2
  go_wp2
  go_ret
  exact ⟨rfl, HBel.out⟩
end Go.Proofs.Ytafdagjdpnaddaa
