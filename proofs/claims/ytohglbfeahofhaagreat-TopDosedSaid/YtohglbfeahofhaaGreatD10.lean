/- stearinlaw02: span, Waxes; the example. -/
import Derived.Test.YtohglbfeahofhaaGreatD9
namespace Go.Proofs.YtohglbfeahofhaaGreat
open Go.RowKit
theorem span2w (lo hi : Int) (w : World) : Calls Tryz.prog 23 #[.int .i64 lo, .int .i64 hi] w
    fun e w' => e = .returned (.agg #[.int .i64 lo, .int .i64 hi]) ∧ Below w.heap.size w w' := by
  have HB := Lib.hid ((Below.refl w.heap.size w).alloc (Nat.le_refl _) (.cells #[.int .i64 lo, .int .i64 hi] 41))
  have HR := Lib.hid (heap_alloc_new w (.cells #[.int .i64 lo, .int .i64 hi] 41))
  go_enter Tryz.func23, Tryz.ntmps23
  go_wp2_with fail
  exact bodyPost_ret (v := .agg #[.int .i64 lo, .int .i64 hi]) (results_cell_row (fn := Tryz.f23) rfl _ _ _ _ _ _ _ rfl HR.out Tryz.underlying41 rfl infoSpan) rfl ⟨rfl, HB.out⟩
def exL1 : BWax := ⟨⟨#[98, 101, 101, 115]⟩, 1200, (620, 640), (90, 100), []⟩
def exL2 : BWax := ⟨⟨#[112, 97, 114, 97, 102, 102, 105, 110]⟩, 200, (540, 580), (110, 150), []⟩
def exL3 : BWax := ⟨⟨#[104, 97, 114, 100]⟩, 400, (690, 700), (60, 70), [(0, 0), (2, 20), (4, 30)]⟩
def exL : List BWax := [exL1, exL2, exL3]
theorem ex_tw1 : ((exL.take 1).any fun y => sameN (exL.getD 1 default).name y.name) = false := by kernel_rfl
theorem ex_tw2 : ((exL.take 2).any fun y => sameN (exL.getD 2 default).name y.name) = false := by kernel_rfl
theorem exL_ok : BOk exL where
  n1 := by decide
  n5 := by decide
  name := fun i hi => by
    have h3 : i = 0 ∨ i = 1 ∨ i = 2 := by simp [exL] at hi; omega
    rcases h3 with rfl | rfl | rfl <;> first | decide | rfl
  twice := fun i hi => by
    have h3 : i = 0 ∨ i = 1 ∨ i = 2 := by simp [exL] at hi; omega
    rcases h3 with rfl | rfl | rfl
    · rfl
    · exact ex_tw1
    · exact ex_tw2
  price := fun i hi => by
    have h3 : i = 0 ∨ i = 1 ∨ i = 2 := by simp [exL] at hi; omega
    rcases h3 with rfl | rfl | rfl <;> exact ⟨by decide, by decide⟩
  melt := fun i hi => by
    have h3 : i = 0 ∨ i = 1 ∨ i = 2 := by simp [exL] at hi; omega
    rcases h3 with rfl | rfl | rfl <;> exact ⟨by decide, by decide, by decide⟩
  shrink := fun i hi => by
    have h3 : i = 0 ∨ i = 1 ∨ i = 2 := by simp [exL] at hi; omega
    rcases h3 with rfl | rfl | rfl <;> exact ⟨by decide, by decide, by decide⟩
  clen := fun i hi => by
    have h3 : i = 0 ∨ i = 1 ∨ i = 2 := by simp [exL] at hi; omega
    rcases h3 with rfl | rfl | rfl <;> decide
  cpt := fun i hi j hj => by
    have h3 : i = 0 ∨ i = 1 ∨ i = 2 := by simp [exL] at hi; omega
    rcases h3 with rfl | rfl | rfl
    · simp [exL, exL1] at hj
    · simp [exL, exL2] at hj
    · have h4 : j = 0 ∨ j = 1 ∨ j = 2 := by simp [exL, exL3] at hj; omega
      rcases h4 with rfl | rfl | rfl <;> exact ⟨by decide, by decide, by decide, by decide⟩
  cinc := fun i hi j hj => by
    have h3 : i = 0 ∨ i = 1 ∨ i = 2 := by simp [exL] at hi; omega
    rcases h3 with rfl | rfl | rfl
    · simp [exL, exL1] at hj
    · simp [exL, exL2] at hj
    · have h4 : j = 0 ∨ j = 1 := by simp [exL, exL3] at hj; omega
      rcases h4 with rfl | rfl <;> decide
theorem ex_raise : addV (exL.getD 2 default).curve 3 = 25 := by kernel_rfl
set_option maxHeartbeats 4000000 in
theorem waxes_ex (w : World) : Calls Tryz.prog 16 #[] w (fun e w' => ∃ v, e = .returned v ∧ BWaxesIn w'.heap.size w' v exL ∧ Below w.heap.size w w') := by
  have C0 : Hid (Bs w [] w) := Bs.nil w
  go_enter Tryz.func16, Tryz.ntmps16
  go_wp2_with fail
  refine (span2w 620 640 _).mono ?_
  rintro e w1 ⟨rfl, hb⟩
  have C1 := Lib.hid (C0.out.call hb)
  clear hb C0
  go_wp2_with fail
  refine (span2w 90 100 _).mono ?_
  rintro e w2 ⟨rfl, hb⟩
  have C2 := Lib.hid (C1.out.call hb)
  clear hb C1
  go_wp2_with fail
  refine (span2w 540 580 _).mono ?_
  rintro e w3 ⟨rfl, hb⟩
  have C3 := Lib.hid (C2.out.call hb)
  clear hb C2
  go_wp2_with fail
  refine (span2w 110 150 _).mono ?_
  rintro e w4 ⟨rfl, hb⟩
  have C4 := Lib.hid (C3.out.call hb)
  clear hb C3
  go_wp2_with fail
  refine (span2w 690 700 _).mono ?_
  rintro e w5 ⟨rfl, hb⟩
  have C5 := Lib.hid (C4.out.call hb)
  clear hb C4
  go_wp2_with fail
  refine (span2w 60 70 _).mono ?_
  rintro e w6 ⟨rfl, hb⟩
  have C6 := Lib.hid (C5.out.call hb)
  clear hb C5
  have CA := Lib.hid ((C6.out.push _ rfl (.cells #[.int .i64 0, .int .i64 0, .int .i64 2, .int .i64 20, .int .i64 4, .int .i64 30] 108)).push (w6.heap.size + 1) (by simp) (.cells #[.string ⟨#[98, 101, 101, 115]⟩, .int .i64 1200, .int .i64 620, .int .i64 640, .int .i64 90, .int .i64 100, .slice none 0 0, .string ⟨#[112, 97, 114, 97, 102, 102, 105, 110]⟩, .int .i64 200, .int .i64 540, .int .i64 580, .int .i64 110, .int .i64 150, .slice none 0 0, .string ⟨#[104, 97, 114, 100]⟩, .int .i64 400, .int .i64 690, .int .i64 700, .int .i64 60, .int .i64 70, .slice (some ⟨w6.heap.size, 0, none⟩) 3 3] 44))
  clear C6
  go_wp2_with fail
  go_ret
  have H1 := CA.out.get 0 rfl
  have H2 := CA.out.get 1 rfl
  refine ⟨_, rfl, ⟨_, _, rfl, by simp [exL], by simp [exL], .inr ⟨_, 0, rfl, block_lt H2, fun i hi => ?_⟩⟩, CA.out.bel⟩
  have hi3 : i = 0 ∨ i = 1 ∨ i = 2 := by simp [exL] at hi; omega
  have HP : SpansIn _ _ (.slice (some ⟨w6.heap.size, 0, none⟩) 3 3) [(0, 0), (2, 20), (4, 30)] := ⟨_, _, rfl, by simp, by simp, .inr ⟨_, 0, rfl, block_lt H1, fun i hi => by
    have h3 : i = 0 ∨ i = 1 ∨ i = 2 := by simp at hi; omega
    rcases h3 with rfl | rfl | rfl <;> exact ⟨cell_of_row _ _ _ _ _ _ H1, cell_of_row _ _ _ _ _ _ H1⟩⟩⟩
  have q := fun j => cell_of_row _ _ j _ _ _ H2
  rcases hi3 with rfl | rfl | rfl
  · exact ⟨q 0, by decide, q 1, q 2, q 3, q 4, q 5, _, q 6, none, 0, rfl, by decide, by decide, .inl rfl⟩
  · exact ⟨q 7, by decide, q 8, q 9, q 10, q 11, q 12, _, q 13, none, 0, rfl, by decide, by decide, .inl rfl⟩
  · exact ⟨q 14, by decide, q 15, q 16, q 17, q 18, q 19, _, q 20, HP⟩
end Go.Proofs.YtohglbfeahofhaaGreat
