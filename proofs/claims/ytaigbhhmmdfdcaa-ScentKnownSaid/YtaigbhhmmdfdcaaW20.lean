/- Pale's closures; sort.Search with them. -/
import Derived.Test.YtaigbhhmmdfdcaaW19
namespace Go.Proofs.Ytaigbhhmmdfdcaa
open Go.RowKit
/-- What Pale's closure reads: the micrograms, the dye, the batch, what shows. -/
structure PaleAt (w : World) (b1 b2 b3 b4 gk : Nat) (nm : ByteArray) (kd lm wk fade micro wt shows : Int) : Prop where
  c1 : w.heap[b1]? = some (.cells #[.int .i64 micro] 3)
  c2 : w.heap[b2]? = some (.cells #[.string nm, .int .i64 kd, .int .i64 lm, .int .i64 wk, .int .i64 fade] 62)
  c3 : w.heap[b3]? = some (.cells #[.pointer (some ⟨gk, 0, none⟩)] 106)
  c4 : w.heap[b4]? = some (.cells #[.int .i64 shows] 3)
  c5 : w.cell? ⟨gk, 3, none⟩ = some (.int .i64 wt)
  g5 : gk < w.heap.size
theorem PaleAt.call {w w' : World} {b1 b2 b3 b4 gk : Nat} {nm : ByteArray} {kd lm wk fade micro wt shows : Int} (h : PaleAt w b1 b2 b3 b4 gk nm kd lm wk fade micro wt shows) (hb : Below w.heap.size w w') : PaleAt w' b1 b2 b3 b4 gk nm kd lm wk fade micro wt shows :=
  ⟨block_keep h.c1 hb, block_keep h.c2 hb, block_keep h.c3 hb, block_keep h.c4 hb, (hb.cell (p := ⟨gk, 3, none⟩) h.g5).trans h.c5, Nat.lt_of_lt_of_le h.g5 hb.size⟩
/-- The numbers fit. -/
structure PaleOk (fade micro wt shows : Int) : Prop where
  f0 : 0 ≤ fade
  f1 : fade ≤ 1000
  m0 : 0 ≤ micro
  m1 : micro ≤ 2000000000000
  w0 : 0 ≤ wt
  w1 : wt ≤ 1200000
  s0 : 0 ≤ shows
  s1 : shows ≤ 1000000
set_option maxRecDepth 100000 in
set_option maxHeartbeats 4000000 in
theorem test78 (b1 b2 b3 b4 gk : Nat) (nm : ByteArray) (kd lm wk fade micro wt shows : Int) (ho : PaleOk fade micro wt shows) (d : Nat) (hd : d ≤ 40000) (w : World) (h : PaleAt w b1 b2 b3 b4 gk nm kd lm wk fade micro wt shows) :
    Calls Try.prog 78 #[.int .i64 d, .pointer (some ⟨b1, 0, none⟩), .pointer (some ⟨b2, 0, none⟩), .pointer (some ⟨b3, 0, none⟩), .pointer (some ⟨b4, 0, none⟩)] w
      fun e w' => e = .returned (.bool (paleB fade micro wt shows d)) ∧ Below w.heap.size w w' := by
  have c1 := cell_of_row _ _ 0 _ _ _ h.c1
  have c2 := cell_of_row _ _ 4 _ _ _ h.c2
  have c3 := cell_of_row _ _ 0 _ _ _ h.c3
  have c4 := cell_of_row _ _ 0 _ _ _ h.c4
  have c5 := h.c5
  clear h
  have h1 := mul_bound (show 0 ≤ fade ∧ fade ≤ 1000 from ⟨ho.f0, ho.f1⟩) (show 0 ≤ (d : Int) ∧ (d : Int) ≤ 40000 by omega)
  have h2 := mul_bound (show 0 ≤ 1000 * wt ∧ 1000 * wt ≤ 1200000000 by have := ho.w0; have := ho.w1; omega) (show 0 ≤ shows ∧ shows ≤ 1000000 from ⟨ho.s0, ho.s1⟩)
  have h3 := ho.w0
  have h4 := ho.w1
  have HR : Hid (paleB fade micro wt shows d = decide (micro * max 0 (1000 - fade * d) < 1000 * wt * shows)) := rfl
  by_cases hf : 1000 - fade * d ≤ 0
  · have HQ : Hid (paleB fade micro wt shows d = decide (0 < 1000 * wt * shows)) := by unfold Hid; rw [HR.out, Int.max_eq_left hf, Int.mul_zero]
    clear HR
    go_enter Try.func78, Try.ntmps78
    go_wp2_with fail
    go_quiet (fail)
    all_goals
      simp only [Exit.then]
      go_wp2_with fail
      try go_ret
      first
        | exact ⟨ret_bool HQ.out.symm, below_drewN (Below.refl _ _) _⟩
        | (exfalso; omega)
        | exact ⟨ret_bool (by rw [HQ.out]; rfl), below_drewN (Below.refl _ _) _⟩
  · have HQ : Hid (paleB fade micro wt shows d = decide (micro * (1000 - fade * d) < 1000 * wt * shows)) := by unfold Hid; rw [HR.out, Int.max_eq_right (by omega)]
    have h6 := mul_bound (show 0 ≤ micro ∧ micro ≤ 2000000000000 from ⟨ho.m0, ho.m1⟩) (show 0 ≤ 1000 - fade * d ∧ 1000 - fade * d ≤ 1000 by omega)
    clear HR
    go_enter Try.func78, Try.ntmps78
    go_wp2_with fail
    go_quiet (fail)
    all_goals
      simp only [Exit.then]
      go_wp2_with fail
      try go_ret
      first
        | exact ⟨ret_bool HQ.out.symm, below_drewN (Below.refl _ _) _⟩
        | (exfalso; omega)
        | exact ⟨ret_bool (by rw [HQ.out]; rfl), below_drewN (Below.refl _ _) _⟩
end Go.Proofs.Ytaigbhhmmdfdcaa
