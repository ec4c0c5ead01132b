/- MouldHollows: the walk. -/
import Derived.Test.YtafdagjdpnaddaaW42
import Derived.Test.YtafdagjdpnaddaaAW
namespace Go.Proofs.Ytafdagjdpnaddaa
open Go.RowKit
theorem few_len (m : Mou) : (fewV m).1.length ≤ 40 := by
  by_cases h : (fewV m).2 = 0
  · obtain ⟨n, hf, hpo, -⟩ := few_ok h
    rw [hf]
    exact hpo.len
  · by_cases hc : checkE m = 0
    · rcases fewE_cases hc with h1 | h1
      · exact absurd h1 h
      · rw [h1]; simp
    · rw [fewV_bad hc]; simp
set_option maxRecDepth 100000 in
set_option maxHeartbeats 16000000 in
theorem hollows_law (m : Mou) (pv : Value) (plan : List Int) (w : World) (hp : IntsIn .i64 w.heap.size w pv plan) : Calls Try.prog 5 #[.agg #[.int .i64 m.rings, .int .i64 m.give, .int .i64 m.pl, .int .i64 m.ph, .int .i64 m.wl, .int .i64 m.wh, .int .i64 m.set, .int .i64 m.shrink, .int .i64 m.skin, .int .i64 m.fill, .int .i64 m.gap, .int .i64 m.deep], pv] w (fun e w' => e = .returned (.bool true) ∧ Below w.heap.size w w') := by
  have C0 := Lib.hid ((Bs.nil w).push _ rfl (.cells #[.int .i64 m.rings, .int .i64 m.give, .int .i64 m.pl, .int .i64 m.ph, .int .i64 m.wl, .int .i64 m.wh, .int .i64 m.set, .int .i64 m.shrink, .int .i64 m.skin, .int .i64 m.fill, .int .i64 m.gap, .int .i64 m.deep] 25))
  have HP := Lib.hid hp
  clear hp
  have H1 := fun w h => Lib.hid (hollow_any m plan pv w h)
  have H2 := fun w h => Lib.hid (hollow_ref m pv plan w h)
  have H3 := fun w => Lib.hid (few_any m w)
  have H4 := fun w => Lib.hid (few_ref m w)
  have HL := Lib.hid (few_len m)
  generalize fewV m = S at *
  generalize hollowV m plan = K at *
  obtain ⟨sl, se⟩ := S
  obtain ⟨⟨a1, a2⟩, ⟨a3, a4⟩, ke⟩ := K
  have hq : (se == se) = true := by simp
  have hq2 : (ke != ke) = false := by simp
  go_enter Try.func5, Try.ntmps5
  go_wp2_with (refine wpList_load_bs rfl 25 _ rfl C0.out 0 w.heap.size #[.int .i64 m.rings, .int .i64 m.give, .int .i64 m.pl, .int .i64 m.ph, .int .i64 m.wl, .int .i64 m.wh, .int .i64 m.set, .int .i64 m.shrink, .int .i64 m.skin, .int .i64 m.fill, .int .i64 m.gap, .int .i64 m.deep] 25 rfl rfl _ Try.underlying25 rfl info25 ?_)
  refine (H1 _ ((HP.out.below C0.out.bel).mono C0.out.bel.size)).out.mono ?_
  rintro e w1 ⟨rfl, hb⟩
  have C1 := Lib.hid ((C0.out.call hb).push w1.heap.size rfl (.cells #[.int .i64 a1, .int .i64 a2, .int .i64 a3, .int .i64 a4] 45))
  clear hb C0
  go_wp2_with (refine wpList_load_bs rfl 25 _ rfl C1.out 0 w.heap.size #[.int .i64 m.rings, .int .i64 m.give, .int .i64 m.pl, .int .i64 m.ph, .int .i64 m.wl, .int .i64 m.wh, .int .i64 m.set, .int .i64 m.shrink, .int .i64 m.skin, .int .i64 m.fill, .int .i64 m.gap, .int .i64 m.deep] 25 rfl rfl _ Try.underlying25 rfl info25 ?_)
  refine (H2 _ ((HP.out.below C1.out.bel).mono C1.out.bel.size)).out.mono ?_
  rintro e w2 ⟨rfl, hb⟩
  have C2 := Lib.hid ((C1.out.call hb).push w2.heap.size rfl (.cells #[.int .i64 a1, .int .i64 a2, .int .i64 a3, .int .i64 a4] 45))
  clear hb C1
  have c1 := C2.out.cell 1 rfl
  have c2 := C2.out.cell 2 rfl
  go_wp2_with (refine wpList_load_bs rfl 25 _ rfl C2.out 0 w.heap.size #[.int .i64 m.rings, .int .i64 m.give, .int .i64 m.pl, .int .i64 m.ph, .int .i64 m.wl, .int .i64 m.wh, .int .i64 m.set, .int .i64 m.shrink, .int .i64 m.skin, .int .i64 m.fill, .int .i64 m.gap, .int .i64 m.deep] 25 rfl rfl _ Try.underlying25 rfl info25 ?_)
  clear c1 c2
  refine (H3 _).out.mono ?_
  rintro e w3 ⟨v1, rfl, ho, hb⟩
  have HS1 := Lib.hid (ho.ints (by have := HL.out; omega))
  have C3 := Lib.hid (C2.out.call hb)
  clear ho hb C2
  go_wp2_with (refine wpList_load_bs rfl 25 _ rfl C3.out 0 w.heap.size #[.int .i64 m.rings, .int .i64 m.give, .int .i64 m.pl, .int .i64 m.ph, .int .i64 m.wl, .int .i64 m.wh, .int .i64 m.set, .int .i64 m.shrink, .int .i64 m.skin, .int .i64 m.fill, .int .i64 m.gap, .int .i64 m.deep] 25 rfl rfl _ Try.underlying25 rfl info25 ?_)
  refine (H4 _).out.mono ?_
  rintro e w4 ⟨v2, rfl, hi, hb⟩
  have HS1 := Lib.hid (HS1.out.next hb)
  have HS2 := Lib.hid hi
  have C4 := Lib.hid (C3.out.call hb)
  clear hi hb C3
  go_wp2_with fail
  refine (ints_same sl v1 v2 w4 HS1.out HS2.out).mono ?_
  rintro e w5 ⟨rfl, hb⟩
  have C5 := Lib.hid (C4.out.call hb)
  clear hb C4 HS1 HS2
  go_wp2_with fail
  refine (awake_any _).mono ?_
  rintro e w14 ⟨rfl, hb⟩
  have HBel := Lib.hid (C5.out.call hb).bel
  clear hb C5
  go_wp2
  go_ret
  exact ⟨rfl, HBel.out⟩
end Go.Proofs.Ytafdagjdpnaddaa
