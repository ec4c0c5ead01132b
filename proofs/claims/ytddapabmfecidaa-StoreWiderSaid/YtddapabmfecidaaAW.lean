/- Awake. -/
import Derived.Test.YtddapabmfecidaaEX
import Derived.Test.YtddapabmfecidaaW25
namespace Go.Proofs.Ytddapabmfecidaa
open Go.RowKit
theorem intsIn_new3 (w : World) (l : List Int) (n m : Nat) (hl : l.length ≤ 1000) (hn : l.length = n) : IntsIn .i64 (w.alloc (.cells (ints l) 3)).heap.size (w.alloc (.cells (ints l) 3)) (.slice (some ⟨w.heap.size, 0, none⟩) n m) l := by
  subst hn
  exact intsIn_row (heap_alloc_new _ _) hl
theorem IntsIn.next {w w' : World} {v : Value} {l : List Int} (h : IntsIn .i64 w.heap.size w v l) (hb : Below w.heap.size w w') : IntsIn .i64 w'.heap.size w' v l := (h.below hb).mono hb.size
theorem StosIn.next {w w' : World} {v : Value} {l : List Sto} (h : StosIn w.heap.size w v l) (hb : Below w.heap.size w w') : StosIn w'.heap.size w' v l := (h.below hb).mono hb.size
def AwakePost (w : World) (e : Ending) (w' : World) : Prop := e = .returned (.bool true) ∧ Below w.heap.size w w'
set_option maxRecDepth 100000 in
set_option maxHeartbeats 4000000 in
theorem awake_any (w : World) : Calls Try.prog 19 #[] w (AwakePost w) := by
  have HA := Lib.hid (intsIn_new3 w [0, 0, 0] 3 3 (by simp) rfl)
  have HB : Hid (Below w.heap.size w (w.alloc (.cells (ints [0, 0, 0]) 3))) := (Below.refl _ _).alloc (Nat.le_refl _) _
  go_enter Try.func19, Try.ntmps19
  go_wp2_with fail
  refine (season_any _).mono ?_
  rintro e w1 ⟨v1, rfl, hs, hb⟩
  have HS1 := Lib.hid hs
  have HA := Lib.hid (HA.out.next hb)
  have HB := Lib.hid (HB.out.trans (hb.mono HB.out.size))
  clear hs hb
  go_wp2_with fail
  have HN := Lib.hid (intsIn_new3 w1 [20, 29, 10] 3 3 (by simp) rfl)
  have hb : Below w1.heap.size w1 (w1.alloc (.cells (ints [20, 29, 10]) 3)) := (Below.refl _ _).alloc (Nat.le_refl _) _
  have HA := Lib.hid (HA.out.next hb)
  have HB := Lib.hid (HB.out.trans (hb.mono HB.out.size))
  have HS1 := Lib.hid (HS1.out.next hb)
  clear hb
  have hc : Calls Try.prog 14 #[.agg #[.int .i64 30, .int .i64 2, .int .i64 8, .int .i64 2, .int .i64 3, v1], (.slice (some ⟨w.heap.size, 0, none⟩) 3 3), (.slice (some ⟨w1.heap.size, 0, none⟩) 3 3)] (w1.alloc (.cells (ints [20, 29, 10]) 3)) _ := fate_any exS v1 (.slice (some ⟨w.heap.size, 0, none⟩) 3 3) (.slice (some ⟨w1.heap.size, 0, none⟩) 3 3) [0, 0, 0] [20, 29, 10] (w1.alloc (.cells (ints [20, 29, 10]) 3)) HS1.out HA.out HN.out ⟨_, _, rfl, by decide⟩
  rw [ex_fate] at hc
  refine hc.mono ?_
  rintro e w2 ⟨rfl, hb⟩
  clear hc HN
  have HA := Lib.hid (HA.out.next hb)
  have HB := Lib.hid (HB.out.trans (hb.mono HB.out.size))
  have HS1 := Lib.hid (HS1.out.next hb)
  clear hb
  go_wp2_with fail
  have HF : Hid ((w2.alloc (.cells #[.int .i64 (-1), .int .i64 2] 23)).heap[w2.heap.size]? = some (.cells #[.int .i64 (-1), .int .i64 2] 23)) := heap_alloc_new _ _
  have hb : Below w2.heap.size w2 (w2.alloc (.cells #[.int .i64 (-1), .int .i64 2] 23)) := (Below.refl _ _).alloc (Nat.le_refl _) _
  have HA := Lib.hid (HA.out.next hb)
  have HB := Lib.hid (HB.out.trans (hb.mono HB.out.size))
  clear hb
  refine (season_any _).mono ?_
  rintro e w3 ⟨v3, rfl, hs, hb⟩
  have HS3 := Lib.hid hs
  have HA := Lib.hid (HA.out.next hb)
  have HB := Lib.hid (HB.out.trans (hb.mono HB.out.size))
  have HF := Lib.hid (block_keep HF.out hb)
  clear hs hb
  go_wp2_with fail
  have hc : Calls Try.prog 16 #[.agg #[.int .i64 30, .int .i64 2, .int .i64 8, .int .i64 2, .int .i64 3, v3], (.slice (some ⟨w.heap.size, 0, none⟩) 3 3)] w3 _ := risks_any exS v3 (.slice (some ⟨w.heap.size, 0, none⟩) 3 3) [0, 0, 0] w3 HS3.out HA.out
  rw [ex_risk] at hc
  refine hc.mono ?_
  rintro e w4 ⟨rfl, hb⟩
  have HA := Lib.hid (HA.out.next hb)
  have HB := Lib.hid (HB.out.trans (hb.mono HB.out.size))
  have HF := Lib.hid (block_keep HF.out hb)
  have HS3 := Lib.hid (HS3.out.next hb)
  clear hb hc
  go_wp2_with fail
  refine (season_any _).mono ?_
  rintro e w5 ⟨v5, rfl, hs, hb⟩
  have HS5 := Lib.hid hs
  have HA := Lib.hid (HA.out.next hb)
  have HB := Lib.hid (HB.out.trans (hb.mono HB.out.size))
  have HF := Lib.hid (block_keep HF.out hb)
  clear hs hb
  go_wp2_with fail
  have hc : Calls Try.prog 24 #[.agg #[.int .i64 30, .int .i64 2, .int .i64 8, .int .i64 2, .int .i64 3, v5], (.slice (some ⟨w.heap.size, 0, none⟩) 3 3)] w5 _ := show_any exS v5 (.slice (some ⟨w.heap.size, 0, none⟩) 3 3) [0, 0, 0] w5 HS5.out HA.out
  refine hc.mono ?_
  rintro e w6 ⟨v7, he, hi7, -, hb⟩
  rw [ex_show] at he hi7
  subst he
  have HA := Lib.hid (HA.out.next hb)
  have HB := Lib.hid (HB.out.trans (hb.mono HB.out.size))
  have HF := Lib.hid (block_keep HF.out hb)
  have HS5 := Lib.hid (HS5.out.next hb)
  have H7 := Lib.hid hi7
  clear hb hc hi7
  go_wp2_with fail
  refine (season_any _).mono ?_
  rintro e w7 ⟨v7s, rfl, hs, hb⟩
  have HS7 := Lib.hid hs
  have HA := Lib.hid (HA.out.next hb)
  have HB := Lib.hid (HB.out.trans (hb.mono HB.out.size))
  have HF := Lib.hid (block_keep HF.out hb)
  have H7 := Lib.hid (H7.out.next hb)
  clear hs hb
  go_wp2_with fail
  have HN := Lib.hid (intsIn_new3 w7 [0, 1, 0] 3 3 (by simp) rfl)
  have hb : Below w7.heap.size w7 (w7.alloc (.cells (ints [0, 1, 0]) 3)) := (Below.refl _ _).alloc (Nat.le_refl _) _
  have HA := Lib.hid (HA.out.next hb)
  have HB := Lib.hid (HB.out.trans (hb.mono HB.out.size))
  have HF := Lib.hid (block_keep HF.out hb)
  have H7 := Lib.hid (H7.out.next hb)
  have HS7 := Lib.hid (HS7.out.next hb)
  clear hb
  have hc : Calls Try.prog 17 #[.agg #[.int .i64 30, .int .i64 2, .int .i64 8, .int .i64 2, .int .i64 3, v7s], (.slice (some ⟨w7.heap.size, 0, none⟩) 3 3)] (w7.alloc (.cells (ints [0, 1, 0]) 3)) _ := cost_any exS v7s (.slice (some ⟨w7.heap.size, 0, none⟩) 3 3) [0, 1, 0] (w7.alloc (.cells (ints [0, 1, 0]) 3)) HS7.out HN.out
  rw [ex_cost] at hc
  refine hc.mono ?_
  rintro e w8 ⟨rfl, hb⟩
  clear HN
  have HA := Lib.hid (HA.out.next hb)
  have HB := Lib.hid (HB.out.trans (hb.mono HB.out.size))
  have HF := Lib.hid (block_keep HF.out hb)
  have H7 := Lib.hid (H7.out.next hb)
  have HS7 := Lib.hid (HS7.out.next hb)
  clear hb hc
  go_wp2_with fail
  refine (season_any _).mono ?_
  rintro e w9 ⟨v9, rfl, hs, hb⟩
  have HS9 := Lib.hid hs
  have HA := Lib.hid (HA.out.next hb)
  have HB := Lib.hid (HB.out.trans (hb.mono HB.out.size))
  have HF := Lib.hid (block_keep HF.out hb)
  have H7 := Lib.hid (H7.out.next hb)
  clear hs hb
  go_wp2_with fail
  have hc : Calls Try.prog 18 #[.agg #[.int .i64 30, .int .i64 2, .int .i64 8, .int .i64 2, .int .i64 3, v9], .int .i64 0, .int .i64 1] w9 _ := keeps_any exS v9 0 1 w9 HS9.out
  rw [ex_keep] at hc
  refine hc.mono ?_
  rintro e w10 ⟨rfl, hb⟩
  have HA := Lib.hid (HA.out.next hb)
  have HB := Lib.hid (HB.out.trans (hb.mono HB.out.size))
  have HF := Lib.hid (block_keep HF.out hb)
  have H7 := Lib.hid (H7.out.next hb)
  have HS9 := Lib.hid (HS9.out.next hb)
  clear hb hc
  go_wp2_with fail
  refine (season_any _).mono ?_
  rintro e w11 ⟨v11, rfl, hs, hb⟩
  have HS11 := Lib.hid hs
  have HA := Lib.hid (HA.out.next hb)
  have HB := Lib.hid (HB.out.trans (hb.mono HB.out.size))
  have HF := Lib.hid (block_keep HF.out hb)
  have H7 := Lib.hid (H7.out.next hb)
  clear hs hb
  go_wp2_with fail
  have hc : Calls Try.prog 26 #[.agg #[.int .i64 30, .int .i64 2, .int .i64 8, .int .i64 2, .int .i64 3, v11]] w11 _ := cheap_any exS v11 w11 HS11.out
  refine hc.mono ?_
  rintro e w12 ⟨v13, he, hi7, -, hb⟩
  rw [ex_cheap] at he hi7
  subst he
  have HA := Lib.hid (HA.out.next hb)
  have HB := Lib.hid (HB.out.trans (hb.mono HB.out.size))
  have HF := Lib.hid (block_keep HF.out hb)
  have H7 := Lib.hid (H7.out.next hb)
  have HS11 := Lib.hid (HS11.out.next hb)
  have H13 := Lib.hid hi7
  clear hb hc hi7
  go_wp2_with fail
  refine (season_any _).mono ?_
  rintro e w13 ⟨v13s, rfl, hs, hb⟩
  have HS13 := Lib.hid hs
  have HA := Lib.hid (HA.out.next hb)
  have HB := Lib.hid (HB.out.trans (hb.mono HB.out.size))
  have HF := Lib.hid (block_keep HF.out hb)
  have H7 := Lib.hid (H7.out.next hb)
  have H13 := Lib.hid (H13.out.next hb)
  clear hs hb
  go_wp2_with fail
  have HN := Lib.hid (intsIn_new3 w13 [2] 1 1 (by simp) rfl)
  have hb : Below w13.heap.size w13 (w13.alloc (.cells (ints [2]) 3)) := (Below.refl _ _).alloc (Nat.le_refl _) _
  have HA := Lib.hid (HA.out.next hb)
  have HB := Lib.hid (HB.out.trans (hb.mono HB.out.size))
  have HF := Lib.hid (block_keep HF.out hb)
  have H7 := Lib.hid (H7.out.next hb)
  have H13 := Lib.hid (H13.out.next hb)
  have HS13 := Lib.hid (HS13.out.next hb)
  clear hb
  have hc : Calls Try.prog 16 #[.agg #[.int .i64 30, .int .i64 2, .int .i64 8, .int .i64 2, .int .i64 3, v13s], (.slice (some ⟨w13.heap.size, 0, none⟩) 1 1)] (w13.alloc (.cells (ints [2]) 3)) _ := risks_any exS v13s (.slice (some ⟨w13.heap.size, 0, none⟩) 1 1) [2] (w13.alloc (.cells (ints [2]) 3)) HS13.out HN.out
  rw [ex_none] at hc
  refine hc.mono ?_
  rintro e w14 ⟨rfl, hb⟩
  clear HN
  have HA := Lib.hid (HA.out.next hb)
  have HB := Lib.hid (HB.out.trans (hb.mono HB.out.size))
  have HF := Lib.hid (block_keep HF.out hb)
  have H7 := Lib.hid (H7.out.next hb)
  have H13 := Lib.hid (H13.out.next hb)
  have HS13 := Lib.hid (HS13.out.next hb)
  clear hb hc
  have cf := fun i => cell_of_row w14 _ i _ _ _ HF.out
  go_wp2_with fail
  have HN := Lib.hid (intsIn_new3 w14 [20, 29, 10] 3 3 (by simp) rfl)
  have hb : Below w14.heap.size w14 (w14.alloc (.cells (ints [20, 29, 10]) 3)) := (Below.refl _ _).alloc (Nat.le_refl _) _
  have HA := Lib.hid (HA.out.next hb)
  have HB := Lib.hid (HB.out.trans (hb.mono HB.out.size))
  have HF := Lib.hid (block_keep HF.out hb)
  have H7 := Lib.hid (H7.out.next hb)
  have H13 := Lib.hid (H13.out.next hb)
  clear hb
  have hc : Calls Try.prog 32 #[v7, (.slice (some ⟨w14.heap.size, 0, none⟩) 3 3)] (w14.alloc (.cells (ints [20, 29, 10]) 3)) _ := ints_any [20, 29, 10] [20, 29, 10] v7 (.slice (some ⟨w14.heap.size, 0, none⟩) 3 3) (w14.alloc (.cells (ints [20, 29, 10]) 3)) H7.out HN.out
  refine hc.mono ?_
  rintro e w15 ⟨rfl, hb⟩
  clear HN cf
  have HA := Lib.hid (HA.out.next hb)
  have HB := Lib.hid (HB.out.trans (hb.mono HB.out.size))
  have HF := Lib.hid (block_keep HF.out hb)
  have H7 := Lib.hid (H7.out.next hb)
  have H13 := Lib.hid (H13.out.next hb)
  clear hb hc
  have hdec : decide (([20, 29, 10] : List Int) = [20, 29, 10]) = true := by decide
  rw [hdec]
  clear hdec
  have cf := fun i => cell_of_row w15 _ i _ _ _ HF.out
  go_wp2_with fail
  have HN := Lib.hid (intsIn_new3 w15 [0, 1, 1] 3 3 (by simp) rfl)
  have hb : Below w15.heap.size w15 (w15.alloc (.cells (ints [0, 1, 1]) 3)) := (Below.refl _ _).alloc (Nat.le_refl _) _
  have HA := Lib.hid (HA.out.next hb)
  have HB := Lib.hid (HB.out.trans (hb.mono HB.out.size))
  have HF := Lib.hid (block_keep HF.out hb)
  have H7 := Lib.hid (H7.out.next hb)
  have H13 := Lib.hid (H13.out.next hb)
  clear hb
  have hc : Calls Try.prog 32 #[v13, (.slice (some ⟨w15.heap.size, 0, none⟩) 3 3)] (w15.alloc (.cells (ints [0, 1, 1]) 3)) _ := ints_any [0, 1, 1] [0, 1, 1] v13 (.slice (some ⟨w15.heap.size, 0, none⟩) 3 3) (w15.alloc (.cells (ints [0, 1, 1]) 3)) H13.out HN.out
  refine hc.mono ?_
  rintro e w16 ⟨rfl, hb⟩
  clear HN cf
  have HA := Lib.hid (HA.out.next hb)
  have HB := Lib.hid (HB.out.trans (hb.mono HB.out.size))
  have HF := Lib.hid (block_keep HF.out hb)
  have H7 := Lib.hid (H7.out.next hb)
  have H13 := Lib.hid (H13.out.next hb)
  clear hb hc
  have hdec : decide (([0, 1, 1] : List Int) = [0, 1, 1]) = true := by decide
  rw [hdec]
  clear hdec
  go_wp2_with fail
  go_ret
  exact ⟨rfl, HB.out⟩
end Go.Proofs.Ytddapabmfecidaa
