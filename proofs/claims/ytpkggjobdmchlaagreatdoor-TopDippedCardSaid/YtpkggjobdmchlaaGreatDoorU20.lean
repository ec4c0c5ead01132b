/- stearinlaw03: span, among, Truth, Shop, Candle, sized; stearinref03.Wrong where nothing is wrong. -/
import Derived.Test.YtpkggjobdmchlaaGreatDoorU18
import Derived.Test.YtpkggjobdmchlaaGreatDoorU17
namespace Go.Proofs.YtpkggjobdmchlaaGreatDoor
open Go.RowKit
theorem span32w (lo hi : Int) (w : World) : Calls Tryz.prog 30 #[.int .i64 lo, .int .i64 hi] w
    fun e w' => e = .returned (.agg #[.int .i64 lo, .int .i64 hi]) ∧ Below w.heap.size w w' := by
  have HB := Lib.hid ((Below.refl w.heap.size w).alloc (Nat.le_refl _) (.cells #[.int .i64 lo, .int .i64 hi] 25))
  have HR := Lib.hid (heap_alloc_new w (.cells #[.int .i64 lo, .int .i64 hi] 25))
  go_enter Tryz.func30, Tryz.ntmps30
  go_wp2_with fail
  exact bodyPost_ret (v := .agg #[.int .i64 lo, .int .i64 hi]) (results_cell_row (fn := Tryz.f30) rfl _ _ _ _ _ _ _ rfl HR.out Tryz.underlying25 rfl infoSpan) rfl ⟨rfl, HB.out⟩
theorem shop23w (w : World) : Calls Tryz.prog 22 #[] w (fun e w' => ∃ vw vx, e = .returned (.agg (wshopC vw vx exW)) ∧ WShopAt w'.heap.size w' vw vx exW ∧ Below w.heap.size w w') := by
  have C0 := Lib.hid ((Bs.nil w).push _ rfl (.cells #[.slice none 0 0, .slice none 0 0, .int .i64 0, .int .i64 0, .int .i64 0, .int .i64 0] 27))
  go_enter Tryz.func22, Tryz.ntmps22
  go_wp2_with fail
  refine (span32w 16 18 _).mono ?_
  rintro e w1 ⟨rfl, hb⟩
  have C1 := Lib.hid (C0.out.call hb)
  clear hb C0
  go_wp2_with fail
  refine (span32w 20 24 _).mono ?_
  rintro e w2 ⟨rfl, hb⟩
  have C2 := Lib.hid (C1.out.call hb)
  clear hb C1
  go_wp2_with fail
  refine (span32w 30 36 _).mono ?_
  rintro e w3 ⟨rfl, hb⟩
  have C3 := Lib.hid (C2.out.call hb)
  clear hb C2
  have CA := Lib.hid (C3.out.push _ rfl (.cells #[.string ⟨#[116, 104, 105, 110]⟩, .int .i64 10, .int .i64 16, .int .i64 18, .string ⟨#[109, 105, 100]⟩, .int .i64 14, .int .i64 20, .int .i64 24, .string ⟨#[102, 97, 116]⟩, .int .i64 20, .int .i64 30, .int .i64 36] 136))
  clear C3
  have C3 := CA
  clear CA
  go_wp2_with fail
  refine (span32w 100 100 _).mono ?_
  rintro e w4 ⟨rfl, hb⟩
  have C4 := Lib.hid (C3.out.call hb)
  clear hb C3
  go_wp2_with fail
  refine (span32w 150 160 _).mono ?_
  rintro e w5 ⟨rfl, hb⟩
  have C5 := Lib.hid (C4.out.call hb)
  clear hb C4
  go_wp2_with fail
  refine (span32w 1000 1100 _).mono ?_
  rintro e w6 ⟨rfl, hb⟩
  have C6 := Lib.hid (C5.out.call hb)
  clear hb C5
  have CA := Lib.hid (C6.out.push _ rfl (.cells #[.string ⟨#[98, 101, 101, 115]⟩, .int .i64 100, .int .i64 100, .int .i64 150, .int .i64 160, .int .i64 1000, .int .i64 1100, .int .i64 1] 102))
  clear C6
  have C6 := CA
  clear CA
  go_wp2_with fail
  refine (span32w 20 45 _).mono ?_
  rintro e w7 ⟨rfl, hb⟩
  have C7 := Lib.hid (C6.out.call hb)
  clear hb C6
  go_wp2_with fail
  refine (span32w 500 1000 _).mono ?_
  rintro e w8 ⟨rfl, hb⟩
  have C8 := Lib.hid (C7.out.call hb)
  clear hb C7
  go_wp2_with (refine wpList_store_bs rfl 27 _ _ rfl C8.out 0 _ _ _ _ rfl rfl rfl infoWS rfl (by simp [Value.oneCell']) ?_; intro w9 hC9)
  have H0 := hC9.get 0 rfl
  have H1 := hC9.get 1 rfl
  have H2 := hC9.get 2 rfl
  refine bodyPost_ret (v := .agg (wshopC _ _ exW)) (results_cell_row (fn := Tryz.f22) rfl _ _ _ _ _ _ _ rfl H0 Tryz.underlying27 rfl infoWS) rfl ⟨_, _, rfl, ⟨?_, ?_⟩, hC9.bel⟩
  · refine ⟨_, _, rfl, by simp [exW], by simp [exW], .inr ⟨_, 0, rfl, block_lt H1, fun i hi => ?_⟩⟩
    have hi3 : i = 0 ∨ i = 1 ∨ i = 2 := by simp [exW] at hi; omega
    rcases hi3 with rfl | rfl | rfl <;> exact ⟨cell_of_row _ _ _ _ _ _ H1, cell_of_row _ _ _ _ _ _ H1, cell_of_row _ _ _ _ _ _ H1, cell_of_row _ _ _ _ _ _ H1, by decide⟩
  · refine ⟨_, _, rfl, by simp [exW], by simp [exW], .inr ⟨_, 0, rfl, block_lt H2, fun i hi => ?_⟩⟩
    have hi3 : i = 0 := by simp [exW] at hi; omega
    subst hi3
    exact ⟨cell_of_row _ _ _ _ _ _ H2, cell_of_row _ _ _ _ _ _ H2, cell_of_row _ _ _ _ _ _ H2, cell_of_row _ _ _ _ _ _ H2, cell_of_row _ _ _ _ _ _ H2, cell_of_row _ _ _ _ _ _ H2, cell_of_row _ _ _ _ _ _ H2, cell_of_row _ _ _ _ _ _ H2, by decide⟩
theorem cand24w (w : World) : Calls Tryz.prog 23 #[] w (fun e w' => e = .returned (.agg (candC (exC 300))) ∧ Below w.heap.size w w') := by
  have C0 := Lib.hid ((Bs.nil w).push _ rfl (.cells #[.int .i64 0, .int .i64 0, .int .i64 0, .int .i64 0, .int .i64 0] 32))
  go_enter Tryz.func23, Tryz.ntmps23
  go_wp2_with fail
  refine (span32w 0 20 _).mono ?_
  rintro e w1 ⟨rfl, hb⟩
  have C1 := Lib.hid (C0.out.call hb)
  clear hb C0
  go_wp2_with (refine wpList_store_bs rfl 32 _ _ rfl C1.out 0 _ #[.int .i64 0, .int .i64 300, .int .i64 10, .int .i64 0, .int .i64 20] _ _ rfl rfl rfl infoWC rfl (by simp [Value.oneCell']) ?_; intro w9 hC9; have C9 : Hid (Bs w [(w.heap.size, .cells #[.int .i64 0, .int .i64 300, .int .i64 10, .int .i64 0, .int .i64 20] 32)] w9) := hC9; clear hC9)
  exact bodyPost_ret (v := .agg #[.int .i64 0, .int .i64 300, .int .i64 10, .int .i64 0, .int .i64 20]) (results_cell_row (fn := Tryz.f23) rfl _ _ _ _ _ _ _ rfl (C9.out.get 0 rfl) Tryz.underlying32 rfl infoWC) rfl ⟨rfl, C9.out.bel⟩
theorem sized28w (d : Int) (w : World) : Calls Tryz.prog 27 #[.int .i64 d] w (fun e w' => e = .returned (.agg (candC (exC d))) ∧ Below w.heap.size w w') := by
  have C0 := Lib.hid ((Bs.nil w).push _ rfl (.cells #[.int .i64 0, .int .i64 0, .int .i64 0, .int .i64 0, .int .i64 0] 32))
  go_enter Tryz.func27, Tryz.ntmps27
  go_wp2_with fail
  refine (cand24w _).mono ?_
  rintro e w1 ⟨rfl, hb⟩
  have C1 := Lib.hid (C0.out.call hb)
  clear hb C0
  have C2 := Lib.hid (C1.out.push _ rfl (.cells #[.int .i64 0, .int .i64 0, .int .i64 0, .int .i64 0, .int .i64 0] 32))
  clear C1
  go_wp2_with (first | (refine wpList_store_bs rfl 32 _ _ rfl C2.out 1 _ #[.int .i64 0, .int .i64 300, .int .i64 10, .int .i64 0, .int .i64 20] _ _ rfl rfl rfl infoWC rfl (by simp [Value.oneCell']) ?_; intro w5 hC5; have C5 : Hid (Bs w [(w.heap.size, .cells #[.int .i64 0, .int .i64 0, .int .i64 0, .int .i64 0, .int .i64 0] 32), (w1.heap.size, .cells #[.int .i64 0, .int .i64 300, .int .i64 10, .int .i64 0, .int .i64 20] 32)] w5) := hC5; clear hC5 C2) | (refine wpList_cell_bs rfl 3 _ _ rfl C5.out 1 _ 1 _ _ rfl rfl (.int .i64 d) rfl (by simp) rfl info3 ?_; intro w6 hC6; have C6 : Hid (Bs w [(w.heap.size, .cells #[.int .i64 0, .int .i64 0, .int .i64 0, .int .i64 0, .int .i64 0] 32), (w1.heap.size, .cells #[.int .i64 0, .int .i64 d, .int .i64 10, .int .i64 0, .int .i64 20] 32)] w6) := hC6; clear hC6 C5) | (refine wpList_load_row rfl 32 _ rfl _ rfl _ _ _ _ (C6.out.get 1 rfl) Tryz.underlying32 rfl infoWC ?_) | (refine wpList_store_bs rfl 32 _ _ rfl C6.out 0 _ #[.int .i64 0, .int .i64 d, .int .i64 10, .int .i64 0, .int .i64 20] _ _ rfl rfl rfl infoWC rfl (by simp [Value.oneCell']) ?_; intro w7 hC7; have C7 : Hid (Bs w [(w.heap.size, .cells #[.int .i64 0, .int .i64 d, .int .i64 10, .int .i64 0, .int .i64 20] 32), (w1.heap.size, .cells #[.int .i64 0, .int .i64 d, .int .i64 10, .int .i64 0, .int .i64 20] 32)] w7) := hC7; clear hC7 C6))
  exact bodyPost_ret (v := .agg #[.int .i64 0, .int .i64 d, .int .i64 10, .int .i64 0, .int .i64 20]) (results_cell_row (fn := Tryz.f27) rfl _ _ _ _ _ _ _ rfl (C7.out.get 0 rfl) Tryz.underlying32 rfl infoWC) rfl ⟨rfl, C7.out.bel⟩
end Go.Proofs.YtpkggjobdmchlaaGreatDoor
