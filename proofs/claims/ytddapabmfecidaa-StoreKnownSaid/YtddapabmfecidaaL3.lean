/- StoreKnown: the walk. -/
import Derived.Test.YtddapabmfecidaaAW
namespace Go.Proofs.Ytddapabmfecidaa
open Go.RowKit
theorem kn_fate : fateV exS [0, 0, 0] [30, 31, 10] = (1, -1, 0) := by kernel_rfl
theorem kn_risk : riskV exS [0, 1, 1] = (1, 1, 0) := by kernel_rfl
theorem kn_cost : costV exS [0, 1, 1] = (14, 0) := by kernel_rfl
theorem kn_keep : keepV exS 0 0 = (1, 0) := by kernel_rfl
theorem kn_keep2 : keepV exS 1 0 = (3, 0) := by kernel_rfl
set_option maxRecDepth 100000 in
set_option maxHeartbeats 4000000 in
theorem known_any (w : World) : Calls Try.prog 3 #[] w (fun e w' => e = .returned (.bool true) ∧ Below w.heap.size w w') := by
  have HB : Hid (Below w.heap.size w w) := Below.refl _ _
  go_enter Try.func3, Try.ntmps3
  go_wp2_with fail
  refine (season_any _).mono ?_
  rintro e w1 ⟨v1, rfl, hs, hb⟩
  have HS1 := Lib.hid hs
  have HB := Lib.hid (HB.out.trans (hb.mono HB.out.size))
  clear hs hb
  go_wp2_with fail
  have HA := Lib.hid (intsIn_new3 w1 [0, 0, 0] 3 3 (by simp) rfl)
  have hb : Below w1.heap.size w1 (w1.alloc (.cells (ints [0, 0, 0]) 3)) := (Below.refl _ _).alloc (Nat.le_refl _) _
  have HB := Lib.hid (HB.out.trans (hb.mono HB.out.size))
  have HS1 := Lib.hid (HS1.out.next hb)
  clear hb
  have HN := Lib.hid (intsIn_new3 (w1.alloc (.cells (ints [0, 0, 0]) 3)) [30, 31, 10] 3 3 (by simp) rfl)
  have hb : Below (w1.alloc (.cells (ints [0, 0, 0]) 3)).heap.size (w1.alloc (.cells (ints [0, 0, 0]) 3)) ((w1.alloc (.cells (ints [0, 0, 0]) 3)).alloc (.cells (ints [30, 31, 10]) 3)) := (Below.refl _ _).alloc (Nat.le_refl _) _
  have HB := Lib.hid (HB.out.trans (hb.mono HB.out.size))
  have HS1 := Lib.hid (HS1.out.next hb)
  have HA := Lib.hid (HA.out.next hb)
  clear hb
  have HN2 : Hid (IntsIn .i64 ((w1.alloc (.cells (ints [0, 0, 0]) 3)).alloc (.cells (ints [30, 31, 10]) 3)).heap.size ((w1.alloc (.cells (ints [0, 0, 0]) 3)).alloc (.cells (ints [30, 31, 10]) 3)) (.slice (some ⟨w1.heap.size + 1, 0, none⟩) 3 3) [30, 31, 10]) := by
    have h := HN.out
    rw [show (w1.alloc (.cells (ints [0, 0, 0]) 3)).heap.size = w1.heap.size + 1 from World.size_alloc _ _] at h
    exact h
  have hc : Calls Try.prog 14 #[.agg #[.int .i64 30, .int .i64 2, .int .i64 8, .int .i64 2, .int .i64 3, v1], (.slice (some ⟨w1.heap.size, 0, none⟩) 3 3), (.slice (some ⟨w1.heap.size + 1, 0, none⟩) 3 3)] ((w1.alloc (.cells (ints [0, 0, 0]) 3)).alloc (.cells (ints [30, 31, 10]) 3)) _ := fate_any exS v1 (.slice (some ⟨w1.heap.size, 0, none⟩) 3 3) (.slice (some ⟨w1.heap.size + 1, 0, none⟩) 3 3) [0, 0, 0] [30, 31, 10] ((w1.alloc (.cells (ints [0, 0, 0]) 3)).alloc (.cells (ints [30, 31, 10]) 3)) HS1.out HA.out HN2.out ⟨_, _, rfl, by decide⟩
  rw [kn_fate] at hc
  refine hc.mono ?_
  rintro e w2 ⟨rfl, hb⟩
  clear hc HN HN2 HA
  have HB := Lib.hid (HB.out.trans (hb.mono HB.out.size))
  have HS1 := Lib.hid (HS1.out.next hb)
  clear hb
  go_wp2_with fail
  have HF : Hid ((w2.alloc (.cells #[.int .i64 1, .int .i64 (-1)] 23)).heap[w2.heap.size]? = some (.cells #[.int .i64 1, .int .i64 (-1)] 23)) := heap_alloc_new _ _
  have hb : Below w2.heap.size w2 (w2.alloc (.cells #[.int .i64 1, .int .i64 (-1)] 23)) := (Below.refl _ _).alloc (Nat.le_refl _) _
  have HB := Lib.hid (HB.out.trans (hb.mono HB.out.size))
  clear hb
  refine (season_any _).mono ?_
  rintro e w3 ⟨v3, rfl, hs, hb⟩
  have HS3 := Lib.hid hs
  have HB := Lib.hid (HB.out.trans (hb.mono HB.out.size))
  have HF := Lib.hid (block_keep HF.out hb)
  clear hs hb
  go_wp2_with fail
  have HN := Lib.hid (intsIn_new3 w3 [0, 1, 1] 3 3 (by simp) rfl)
  have hb : Below w3.heap.size w3 (w3.alloc (.cells (ints [0, 1, 1]) 3)) := (Below.refl _ _).alloc (Nat.le_refl _) _
  have HB := Lib.hid (HB.out.trans (hb.mono HB.out.size))
  have HF := Lib.hid (block_keep HF.out hb)
  have HS3 := Lib.hid (HS3.out.next hb)
  clear hb
  have hc : Calls Try.prog 16 #[.agg #[.int .i64 30, .int .i64 2, .int .i64 8, .int .i64 2, .int .i64 3, v3], (.slice (some ⟨w3.heap.size, 0, none⟩) 3 3)] (w3.alloc (.cells (ints [0, 1, 1]) 3)) _ := risks_any exS v3 (.slice (some ⟨w3.heap.size, 0, none⟩) 3 3) [0, 1, 1] (w3.alloc (.cells (ints [0, 1, 1]) 3)) HS3.out HN.out
  rw [kn_risk] at hc
  refine hc.mono ?_
  rintro e w4 ⟨rfl, hb⟩
  clear HN
  have HB := Lib.hid (HB.out.trans (hb.mono HB.out.size))
  have HF := Lib.hid (block_keep HF.out hb)
  have HS3 := Lib.hid (HS3.out.next hb)
  clear hb hc
  go_wp2_with fail
  refine (season_any _).mono ?_
  rintro e w5 ⟨v5, rfl, hs, hb⟩
  have HS5 := Lib.hid hs
  have HB := Lib.hid (HB.out.trans (hb.mono HB.out.size))
  have HF := Lib.hid (block_keep HF.out hb)
  clear hs hb
  go_wp2_with fail
  have HN := Lib.hid (intsIn_new3 w5 [0, 1, 1] 3 3 (by simp) rfl)
  have hb : Below w5.heap.size w5 (w5.alloc (.cells (ints [0, 1, 1]) 3)) := (Below.refl _ _).alloc (Nat.le_refl _) _
  have HB := Lib.hid (HB.out.trans (hb.mono HB.out.size))
  have HF := Lib.hid (block_keep HF.out hb)
  have HS5 := Lib.hid (HS5.out.next hb)
  clear hb
  have hc : Calls Try.prog 17 #[.agg #[.int .i64 30, .int .i64 2, .int .i64 8, .int .i64 2, .int .i64 3, v5], (.slice (some ⟨w5.heap.size, 0, none⟩) 3 3)] (w5.alloc (.cells (ints [0, 1, 1]) 3)) _ := cost_any exS v5 (.slice (some ⟨w5.heap.size, 0, none⟩) 3 3) [0, 1, 1] (w5.alloc (.cells (ints [0, 1, 1]) 3)) HS5.out HN.out
  rw [kn_cost] at hc
  refine hc.mono ?_
  rintro e w6 ⟨rfl, hb⟩
  clear HN
  have HB := Lib.hid (HB.out.trans (hb.mono HB.out.size))
  have HF := Lib.hid (block_keep HF.out hb)
  have HS5 := Lib.hid (HS5.out.next hb)
  clear hb hc
  go_wp2_with fail
  refine (season_any _).mono ?_
  rintro e w7 ⟨v7, rfl, hs, hb⟩
  have HS7 := Lib.hid hs
  have HB := Lib.hid (HB.out.trans (hb.mono HB.out.size))
  have HF := Lib.hid (block_keep HF.out hb)
  clear hs hb
  go_wp2_with fail
  have hc : Calls Try.prog 18 #[.agg #[.int .i64 30, .int .i64 2, .int .i64 8, .int .i64 2, .int .i64 3, v7], .int .i64 0, .int .i64 0] w7 _ := keeps_any exS v7 0 0 w7 HS7.out
  rw [kn_keep] at hc
  refine hc.mono ?_
  rintro e w8 ⟨rfl, hb⟩
  have HB := Lib.hid (HB.out.trans (hb.mono HB.out.size))
  have HF := Lib.hid (block_keep HF.out hb)
  have HS7 := Lib.hid (HS7.out.next hb)
  clear hb hc
  go_wp2_with fail
  refine (season_any _).mono ?_
  rintro e w9 ⟨v9, rfl, hs, hb⟩
  have HS9 := Lib.hid hs
  have HB := Lib.hid (HB.out.trans (hb.mono HB.out.size))
  have HF := Lib.hid (block_keep HF.out hb)
  clear hs hb
  go_wp2_with fail
  have hc : Calls Try.prog 18 #[.agg #[.int .i64 30, .int .i64 2, .int .i64 8, .int .i64 2, .int .i64 3, v9], .int .i64 1, .int .i64 0] w9 _ := keeps_any exS v9 1 0 w9 HS9.out
  rw [kn_keep2] at hc
  refine hc.mono ?_
  rintro e w10 ⟨rfl, hb⟩
  have HB := Lib.hid (HB.out.trans (hb.mono HB.out.size))
  have HF := Lib.hid (block_keep HF.out hb)
  have HS9 := Lib.hid (HS9.out.next hb)
  clear hb hc
  have cf := fun i => cell_of_row w10 _ i _ _ _ HF.out
  go_wp2_with fail
  refine (awake_any _).mono ?_
  rintro e w11 ⟨rfl, hb⟩
  clear cf
  have HB := Lib.hid (HB.out.trans (hb.mono HB.out.size))
  have HF := Lib.hid (block_keep HF.out hb)
  clear hb
  go_wp2_with fail
  go_ret
  exact ⟨rfl, HB.out⟩
end Go.Proofs.Ytddapabmfecidaa
