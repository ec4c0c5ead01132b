/- stearinlaw03.Awake. -/
import Derived.Test.YtpkggjobdmchlaaGreatDoorU20
import Derived.Test.YtpkggjobdmchlaaGreatDoorK4
namespace Go.Proofs.YtpkggjobdmchlaaGreatDoor
open Go.RowKit
theorem Bs.snocB {w W0 W : World} {l : List (Nat × Obj)} (h : Bs w l W0) (hb : Below W0.heap.size W0 W) {o : Obj} (hg : W.heap[W0.heap.size]? = some o) : Bs w (l ++ [(W0.heap.size, o)]) W :=
  (h.call hb).snocU (fun p hp => (Array.getElem?_eq_some_iff.1 (h.get' p hp)).1) hg h.bel.size
theorem Bs.snocB2 {w W0 W : World} {l : List (Nat × Obj)} (h : Bs w l W0) (hb : Below W0.heap.size W0 W) {o o' : Obj} (hg : W.heap[W0.heap.size]? = some o) (hg' : W.heap[W0.heap.size + 1]? = some o') : Bs w (l ++ [(W0.heap.size, o)] ++ [(W0.heap.size + 1, o')]) W :=
  (h.snocB hb hg).snocU (fun p hp => by
    rcases List.mem_append.1 hp with hp | hp
    · exact Nat.lt_succ_of_lt (Array.getElem?_eq_some_iff.1 (h.get' p hp)).1
    · simp only [List.mem_singleton] at hp
      subst hp
      exact Nat.lt_succ_self _) hg' (Nat.le_succ_of_le h.bel.size)
theorem exw_ok : WOk exW (exC 300) := candle_ok exw_e
theorem exw_ok2 : WOk exW (exC 285) := candle_ok exw_e2
theorem at_ex (vw vx : Value) (w : World) (hv : WShopAt w.heap.size w vw vx exW) : Calls Tryz.prog 21 #[.agg (wshopC vw vx exW), .int .i64 1, .agg (candC (exC 300)), .agg (wtruC exT22)] w fun e w' => e = .returned (.tuple #[.agg #[.int .i64 22000000, .int .i64 33000000, .int .i64 219000000], .int .i64 0]) ∧ Below w.heap.size w w' := by
  have h := at_ok exw_ok 1 (by decide) exT22 exw_true vw vx w hv
  rw [exw_at] at h
  exact h
theorem burn_ex (vw vx : Value) (w : World) (hv : WShopAt w.heap.size w vw vx exW) : Calls Tryz.prog 24 #[.agg (wshopC vw vx exW), .int .i64 1, .agg (candC (exC 300))] w fun e w' => e = .returned (.tuple #[.agg #[.int .i64 18000000, .int .i64 27000000, .int .i64 178000000], .agg #[.int .i64 26400000, .int .i64 42240000, .int .i64 290400000], .int .i64 0]) ∧ Below w.heap.size w w' := by
  have h := Burn_ok exw_ok 1 (by decide) vw vx w hv
  rw [exw_least, exw_most] at h
  exact h
theorem faults_ex (vw vx : Value) (w : World) (hv : WShopAt w.heap.size w vw vx exW) : Calls Tryz.prog 14 #[.agg (wshopC vw vx exW), .int .i64 2, .agg (candC (exC 300))] w fun e w' => ∃ v, e = .returned (.tuple #[v, .int .i64 0]) ∧ IntsIn .i64 w'.heap.size w' v [1, 4] ∧ Below w.heap.size w w' := by
  have h := Faults_ok exw_ok 2 (by decide) vw vx w hv
  rw [exw_faults] at h
  exact h
theorem suits_ex (vw vx : Value) (w : World) (hv : WShopAt w.heap.size w vw vx exW) : Calls Tryz.prog 25 #[.agg (wshopC vw vx exW), .agg (candC (exC 300))] w fun e w' => ∃ v, e = .returned (.tuple #[v, .int .i64 0]) ∧ IntsIn .i64 w'.heap.size w' v [1] ∧ Below w.heap.size w w' := by
  have h := Suits_ok exw_ok vw vx w hv
  rw [exw_suits] at h
  exact h
theorem thin_ex (vw vx : Value) (w : World) (hv : WShopAt w.heap.size w vw vx exW) : Calls Tryz.prog 26 #[.agg (wshopC vw vx exW), .agg (candC (exC 300))] w fun e w' => e = .returned (.tuple #[.int .i64 1, .int .i64 0]) ∧ Below w.heap.size w w' := by
  have h := Thinnest_ok exw_ok vw vx w hv
  rw [show thinTo exW (exC 300) exW.wicks.length = 1 from exw_thin] at h
  exact h
theorem down_ex (vw vx : Value) (w : World) (hv : WShopAt w.heap.size w vw vx exW) : Calls Tryz.prog 26 #[.agg (wshopC vw vx exW), .agg (candC (exC 285))] w fun e w' => e = .returned (.tuple #[.int .i64 0, .int .i64 9]) ∧ Below w.heap.size w w' := by
  have h := Thinnest_ok exw_ok2 vw vx w hv
  rw [show thinTo exW (exC 285) exW.wicks.length = -1 from exw_down] at h
  exact h
theorem sizes_ex (vw vx : Value) (w : World) (hv : WShopAt w.heap.size w vw vx exW) : Calls Tryz.prog 9 #[.agg (wshopC vw vx exW), .int .i64 1, .agg (candC (exC 300))] w fun e w' => e = .returned (.tuple #[.agg #[.int .i64 291, .int .i64 356], .int .i64 0]) ∧ Below w.heap.size w w' := by
  have h := Sizes_ok exw_ok 1 (by decide) vw vx w hv
  rw [exw_sizes, exw_sizesE] at h
  exact h
theorem minutes_ex (vw vx : Value) (w : World) (hv : WShopAt w.heap.size w vw vx exW) : Calls Tryz.prog 28 #[.agg (wshopC vw vx exW), .int .i64 1, .agg (candC (exC 300)), .int .i64 100] w fun e w' => e = .returned (.tuple #[.agg #[.int .i64 2272, .int .i64 3334], .int .i64 0]) ∧ Below w.heap.size w w' := by
  have h := Minutes_ok exw_ok 1 (by decide) 100 (by decide) vw vx w hv
  rw [exw_minutes] at h
  exact h
/-- What holds amid Awake's last statement. -/
structure AwU (w0 : World) (L : List (Nat × Obj)) (v6 v8 : Value) (d1 d2 : Bool) (y1 y2 : Value) (w : World) : Prop where
  bs : Bs w0 L w
  m : IntsIn .i64 w.heap.size w v6 [1, 4]
  l : IntsIn .i64 w.heap.size w v8 [1]
  p1 : d1 = true → IntsIn .i64 w.heap.size w y1 [1, 4]
  p2 : d2 = true → IntsIn .i64 w.heap.size w y2 [1]
theorem AwU.next {w0 w w' : World} {L : List (Nat × Obj)} {v6 v8 y1 y2 : Value} {d1 d2 : Bool} (h : AwU w0 L v6 v8 d1 d2 y1 y2 w) (hb : Below w.heap.size w w') : AwU w0 L v6 v8 d1 d2 y1 y2 w' :=
  ⟨h.bs.call hb, h.m.next hb, h.l.next hb, fun e => (h.p1 e).next hb, fun e => (h.p2 e).next hb⟩
set_option maxRecDepth 100000 in
set_option maxHeartbeats 16000000 in
theorem awake3_any (w : World) : Calls Tryz.prog 7 #[] w (fun e w' => e = .returned (.bool true) ∧ Below w.heap.size w w') := by
  have C0 : Hid (Bs w [] w) := Bs.nil w
  go_enter Tryz.func7, Tryz.ntmps7
  go_wp2_with fail
  refine (shop23w _).mono ?_
  rintro e w1 ⟨vw1, vx1, rfl, hs, hb⟩
  have C1 := Lib.hid (C0.out.call hb)
  have HS := Lib.hid hs
  clear hs
  clear hb C0
  go_wp2_with fail
  refine (cand24w _).mono ?_
  rintro e w2 ⟨rfl, hb⟩
  have C2 := Lib.hid (C1.out.call hb)
  have HS := Lib.hid (HS.out.next hb)
  clear hb C1
  go_wp2_with fail
  refine (at_ex vw1 vx1 _ HS.out).mono ?_
  rintro e w3 ⟨rfl, hb⟩
  have C3 := Lib.hid (C2.out.call hb)
  clear HS
  clear hb C2
  have CP0 := Lib.hid ((Bs.nil w3).push _ rfl (.cells #[.int .i64 0, .int .i64 0, .int .i64 0] 66))
  go_wp2_with (first | (refine wpList_store_bs rfl 66 _ _ rfl CP0.out 0 _ #[.int .i64 22000000, .int .i64 33000000, .int .i64 219000000] _ _ rfl rfl rfl infoBurn rfl (by simp [Value.oneCell']) ?_; intro w4 hC; have CP1 : Hid (Bs w3 [(w3.heap.size, .cells #[.int .i64 22000000, .int .i64 33000000, .int .i64 219000000] 66)] w4) := hC; clear hC CP0))
  have hb := CP1.out.bel
  have CS : Hid (Bs w [(w3.heap.size, .cells #[.int .i64 22000000, .int .i64 33000000, .int .i64 219000000] 66)] w4) := Lib.hid (C3.out.snocB hb (CP1.out.get 0 rfl))
  clear hb C3 CP1
  have C4 := Lib.hid CS.out
  clear CS
  refine (shop23w _).mono ?_
  rintro e w5 ⟨vw5, vx5, rfl, hs, hb⟩
  have C5 := Lib.hid (C4.out.call hb)
  have HS := Lib.hid hs
  clear hs
  clear hb C4
  go_wp2_with fail
  refine (cand24w _).mono ?_
  rintro e w6 ⟨rfl, hb⟩
  have C6 := Lib.hid (C5.out.call hb)
  have HS := Lib.hid (HS.out.next hb)
  clear hb C5
  go_wp2_with fail
  refine (burn_ex vw5 vx5 _ HS.out).mono ?_
  rintro e w7 ⟨rfl, hb⟩
  have C7 := Lib.hid (C6.out.call hb)
  clear HS
  clear hb C6
  have CP0 := Lib.hid (((Bs.nil w7).push _ rfl (.cells #[.int .i64 0, .int .i64 0, .int .i64 0] 66)).push (w7.heap.size + 1) (by simp) (.cells #[.int .i64 0, .int .i64 0, .int .i64 0] 66))
  go_wp2_with (first | (refine wpList_store_bs rfl 66 _ _ rfl CP0.out 0 _ #[.int .i64 18000000, .int .i64 27000000, .int .i64 178000000] _ _ rfl rfl rfl infoBurn rfl (by simp [Value.oneCell']) ?_; intro wy80 hC; have CP1 : Hid (Bs w7 [(w7.heap.size, .cells #[.int .i64 18000000, .int .i64 27000000, .int .i64 178000000] 66), (w7.heap.size + 1, .cells #[.int .i64 0, .int .i64 0, .int .i64 0] 66)] wy80) := hC; clear hC CP0) | (refine wpList_store_bs rfl 66 _ _ rfl CP1.out 1 _ #[.int .i64 26400000, .int .i64 42240000, .int .i64 290400000] _ _ rfl rfl rfl infoBurn rfl (by simp [Value.oneCell']) ?_; intro w8 hC; have CP2 : Hid (Bs w7 [(w7.heap.size, .cells #[.int .i64 18000000, .int .i64 27000000, .int .i64 178000000] 66), (w7.heap.size + 1, .cells #[.int .i64 26400000, .int .i64 42240000, .int .i64 290400000] 66)] w8) := hC; clear hC CP1))
  have hb := CP2.out.bel
  have CS : Hid (Bs w [(w3.heap.size, .cells #[.int .i64 22000000, .int .i64 33000000, .int .i64 219000000] 66), (w7.heap.size, .cells #[.int .i64 18000000, .int .i64 27000000, .int .i64 178000000] 66), (w7.heap.size + 1, .cells #[.int .i64 26400000, .int .i64 42240000, .int .i64 290400000] 66)] w8) := Lib.hid (C7.out.snocB2 hb (CP2.out.get 0 rfl) (CP2.out.get 1 rfl))
  clear hb C7 CP2
  have C8 := Lib.hid CS.out
  clear CS
  refine (shop23w _).mono ?_
  rintro e w9 ⟨vw9, vx9, rfl, hs, hb⟩
  have C9 := Lib.hid (C8.out.call hb)
  have HS := Lib.hid hs
  clear hs
  clear hb C8
  go_wp2_with fail
  refine (cand24w _).mono ?_
  rintro e w10 ⟨rfl, hb⟩
  have C10 := Lib.hid (C9.out.call hb)
  have HS := Lib.hid (HS.out.next hb)
  clear hb C9
  go_wp2_with fail
  refine (faults_ex vw9 vx9 _ HS.out).mono ?_
  rintro e w11 ⟨v6, rfl, hi, hb⟩
  have C11 := Lib.hid (C10.out.call hb)
  have HI6 := Lib.hid hi
  clear hi HS
  clear hb C10
  go_wp2_with fail
  refine (shop23w _).mono ?_
  rintro e w12 ⟨vw12, vx12, rfl, hs, hb⟩
  have C12 := Lib.hid (C11.out.call hb)
  have HI6 := Lib.hid (HI6.out.next hb)
  have HS := Lib.hid hs
  clear hs
  clear hb C11
  go_wp2_with fail
  refine (cand24w _).mono ?_
  rintro e w13 ⟨rfl, hb⟩
  have C13 := Lib.hid (C12.out.call hb)
  have HI6 := Lib.hid (HI6.out.next hb)
  have HS := Lib.hid (HS.out.next hb)
  clear hb C12
  go_wp2_with fail
  refine (suits_ex vw12 vx12 _ HS.out).mono ?_
  rintro e w14 ⟨v8, rfl, hi, hb⟩
  have C14 := Lib.hid (C13.out.call hb)
  have HI6 := Lib.hid (HI6.out.next hb)
  have HI8 := Lib.hid hi
  clear hi HS
  clear hb C13
  go_wp2_with fail
  refine (shop23w _).mono ?_
  rintro e w15 ⟨vw15, vx15, rfl, hs, hb⟩
  have C15 := Lib.hid (C14.out.call hb)
  have HI6 := Lib.hid (HI6.out.next hb)
  have HI8 := Lib.hid (HI8.out.next hb)
  have HS := Lib.hid hs
  clear hs
  clear hb C14
  go_wp2_with fail
  refine (cand24w _).mono ?_
  rintro e w16 ⟨rfl, hb⟩
  have C16 := Lib.hid (C15.out.call hb)
  have HI6 := Lib.hid (HI6.out.next hb)
  have HI8 := Lib.hid (HI8.out.next hb)
  have HS := Lib.hid (HS.out.next hb)
  clear hb C15
  go_wp2_with fail
  refine (thin_ex vw15 vx15 _ HS.out).mono ?_
  rintro e w17 ⟨rfl, hb⟩
  have C17 := Lib.hid (C16.out.call hb)
  have HI6 := Lib.hid (HI6.out.next hb)
  have HI8 := Lib.hid (HI8.out.next hb)
  clear HS
  clear hb C16
  go_wp2_with fail
  refine (shop23w _).mono ?_
  rintro e w18 ⟨vw18, vx18, rfl, hs, hb⟩
  have C18 := Lib.hid (C17.out.call hb)
  have HI6 := Lib.hid (HI6.out.next hb)
  have HI8 := Lib.hid (HI8.out.next hb)
  have HS := Lib.hid hs
  clear hs
  clear hb C17
  go_wp2_with fail
  refine (sized28w 285 _).mono ?_
  rintro e w19 ⟨rfl, hb⟩
  have C19 := Lib.hid (C18.out.call hb)
  have HI6 := Lib.hid (HI6.out.next hb)
  have HI8 := Lib.hid (HI8.out.next hb)
  have HS := Lib.hid (HS.out.next hb)
  clear hb C18
  go_wp2_with fail
  refine (down_ex vw18 vx18 _ HS.out).mono ?_
  rintro e w20 ⟨rfl, hb⟩
  have C20 := Lib.hid (C19.out.call hb)
  have HI6 := Lib.hid (HI6.out.next hb)
  have HI8 := Lib.hid (HI8.out.next hb)
  clear HS
  clear hb C19
  go_wp2_with fail
  refine (shop23w _).mono ?_
  rintro e w21 ⟨vw21, vx21, rfl, hs, hb⟩
  have C21 := Lib.hid (C20.out.call hb)
  have HI6 := Lib.hid (HI6.out.next hb)
  have HI8 := Lib.hid (HI8.out.next hb)
  have HS := Lib.hid hs
  clear hs
  clear hb C20
  go_wp2_with fail
  refine (cand24w _).mono ?_
  rintro e w22 ⟨rfl, hb⟩
  have C22 := Lib.hid (C21.out.call hb)
  have HI6 := Lib.hid (HI6.out.next hb)
  have HI8 := Lib.hid (HI8.out.next hb)
  have HS := Lib.hid (HS.out.next hb)
  clear hb C21
  go_wp2_with fail
  refine (sizes_ex vw21 vx21 _ HS.out).mono ?_
  rintro e w23 ⟨rfl, hb⟩
  have C23 := Lib.hid (C22.out.call hb)
  have HI6 := Lib.hid (HI6.out.next hb)
  have HI8 := Lib.hid (HI8.out.next hb)
  clear HS
  clear hb C22
  have CP0 := Lib.hid ((Bs.nil w23).push _ rfl (.cells #[.int .i64 0, .int .i64 0] 25))
  go_wp2_with (first | (refine wpList_store_bs rfl 25 _ _ rfl CP0.out 0 _ #[.int .i64 291, .int .i64 356] _ _ rfl rfl rfl infoSpan rfl (by simp [Value.oneCell']) ?_; intro w24 hC; have CP1 : Hid (Bs w23 [(w23.heap.size, .cells #[.int .i64 291, .int .i64 356] 25)] w24) := hC; clear hC CP0))
  have hb := CP1.out.bel
  have CS : Hid (Bs w [(w3.heap.size, .cells #[.int .i64 22000000, .int .i64 33000000, .int .i64 219000000] 66), (w7.heap.size, .cells #[.int .i64 18000000, .int .i64 27000000, .int .i64 178000000] 66), (w7.heap.size + 1, .cells #[.int .i64 26400000, .int .i64 42240000, .int .i64 290400000] 66), (w23.heap.size, .cells #[.int .i64 291, .int .i64 356] 25)] w24) := Lib.hid (C23.out.snocB hb (CP1.out.get 0 rfl))
  have HI6 := Lib.hid (HI6.out.next hb)
  have HI8 := Lib.hid (HI8.out.next hb)
  clear hb C23 CP1
  have C24 := Lib.hid CS.out
  clear CS
  refine (shop23w _).mono ?_
  rintro e w25 ⟨vw25, vx25, rfl, hs, hb⟩
  have C25 := Lib.hid (C24.out.call hb)
  have HI6 := Lib.hid (HI6.out.next hb)
  have HI8 := Lib.hid (HI8.out.next hb)
  have HS := Lib.hid hs
  clear hs
  clear hb C24
  go_wp2_with fail
  refine (cand24w _).mono ?_
  rintro e w26 ⟨rfl, hb⟩
  have C26 := Lib.hid (C25.out.call hb)
  have HI6 := Lib.hid (HI6.out.next hb)
  have HI8 := Lib.hid (HI8.out.next hb)
  have HS := Lib.hid (HS.out.next hb)
  clear hb C25
  go_wp2_with fail
  refine (minutes_ex vw25 vx25 _ HS.out).mono ?_
  rintro e w27 ⟨rfl, hb⟩
  have C27 := Lib.hid (C26.out.call hb)
  have HI6 := Lib.hid (HI6.out.next hb)
  have HI8 := Lib.hid (HI8.out.next hb)
  clear HS
  clear hb C26
  have CP0 := Lib.hid ((Bs.nil w27).push _ rfl (.cells #[.int .i64 0, .int .i64 0] 25))
  go_wp2_with (first | (refine wpList_store_bs rfl 25 _ _ rfl CP0.out 0 _ #[.int .i64 2272, .int .i64 3334] _ _ rfl rfl rfl infoSpan rfl (by simp [Value.oneCell']) ?_; intro w28 hC; have CP1 : Hid (Bs w27 [(w27.heap.size, .cells #[.int .i64 2272, .int .i64 3334] 25)] w28) := hC; clear hC CP0))
  have hb := CP1.out.bel
  have CS : Hid (Bs w [(w3.heap.size, .cells #[.int .i64 22000000, .int .i64 33000000, .int .i64 219000000] 66), (w7.heap.size, .cells #[.int .i64 18000000, .int .i64 27000000, .int .i64 178000000] 66), (w7.heap.size + 1, .cells #[.int .i64 26400000, .int .i64 42240000, .int .i64 290400000] 66), (w23.heap.size, .cells #[.int .i64 291, .int .i64 356] 25), (w27.heap.size, .cells #[.int .i64 2272, .int .i64 3334] 25)] w28) := Lib.hid (C27.out.snocB hb (CP1.out.get 0 rfl))
  have HI6 := Lib.hid (HI6.out.next hb)
  have HI8 := Lib.hid (HI8.out.next hb)
  clear hb C27 CP1
  have C28 := Lib.hid CS.out
  clear CS
  have H0 : Hid (∀ y1 y2 : Value, AwU w [(w3.heap.size, .cells #[.int .i64 22000000, .int .i64 33000000, .int .i64 219000000] 66), (w7.heap.size, .cells #[.int .i64 18000000, .int .i64 27000000, .int .i64 178000000] 66), (w7.heap.size + 1, .cells #[.int .i64 26400000, .int .i64 42240000, .int .i64 290400000] 66), (w23.heap.size, .cells #[.int .i64 291, .int .i64 356] 25), (w27.heap.size, .cells #[.int .i64 2272, .int .i64 3334] 25)] v6 v8 false false y1 y2 w28.drew) := fun y1 y2 => AwU.next (w := w28) ⟨C28.out, HI6.out, HI8.out, fun h => (by cases h), fun h => (by cases h)⟩ (Below.refl _ _).drew
  clear C28 HI6 HI8
  refine wp_region_inv1 (by kernel_rfl) (by kernel_rfl) [115, 120] (fun D y w' => AwU w [(w3.heap.size, .cells #[.int .i64 22000000, .int .i64 33000000, .int .i64 219000000] 66), (w7.heap.size, .cells #[.int .i64 18000000, .int .i64 27000000, .int .i64 178000000] 66), (w7.heap.size + 1, .cells #[.int .i64 26400000, .int .i64 42240000, .int .i64 290400000] 66), (w23.heap.size, .cells #[.int .i64 291, .int .i64 356] 25), (w27.heap.size, .cells #[.int .i64 2272, .int .i64 3334] 25)] v6 v8 (D 47) (D 52) (y 115) (y 120) w') (H0.out _ _) ?FX ?hFX ?_
  clear H0
  case hFX =>
    intro y
    simp only [fill, List.foldl, Act.put, List.setIfInBounds_toArray, List.set]
    exact rfl
  apply obl_det
  case hrun =>
    intro D y wz hW hD R hR
    have HRR := Lib.hid hR
    clear hR
    have HW := Lib.hid hW
    clear hW hD
    go_wp2_with fail
    exact HRR.out _ ⟨HW.out.bs, HW.out.m, HW.out.l, HW.out.p1, HW.out.p2⟩
  case hnp => rfl
  case hv => first | exact ⟨_, fun _ => rfl⟩ | exact ⟨undef, fun _ => rfl⟩
  apply obl_det
  case hrun =>
    intro D y wz hW hD R hR
    have HRR := Lib.hid hR
    clear hR
    have HW := Lib.hid hW
    clear hW hD
    go_wp2_with fail
    exact HRR.out _ ⟨HW.out.bs, HW.out.m, HW.out.l, HW.out.p1, HW.out.p2⟩
  case hnp => rfl
  case hv => first | exact ⟨_, fun _ => rfl⟩ | exact ⟨undef, fun _ => rfl⟩
  apply obl_det
  case hrun =>
    intro D y wz hW hD R hR
    have HRR := Lib.hid hR
    clear hR
    have HW := Lib.hid hW
    clear hW hD
    go_wp2_with fail
    exact HRR.out _ ⟨HW.out.bs, HW.out.m, HW.out.l, HW.out.p1, HW.out.p2⟩
  case hnp => rfl
  case hv => first | exact ⟨_, fun _ => rfl⟩ | exact ⟨undef, fun _ => rfl⟩
  apply obl_det
  case hrun =>
    intro D y wz hW hD R hR
    have HRR := Lib.hid hR
    clear hR
    have HW := Lib.hid hW
    clear hW hD
    go_wp2_with fail
    exact HRR.out _ ⟨HW.out.bs, HW.out.m, HW.out.l, HW.out.p1, HW.out.p2⟩
  case hnp => rfl
  case hv => first | exact ⟨_, fun _ => rfl⟩ | exact ⟨undef, fun _ => rfl⟩
  apply obl_det
  case hrun =>
    intro D y wz hW hD R hR
    have HRR := Lib.hid hR
    clear hR
    have HW := Lib.hid hW
    clear hW hD
    go_wp2_with fail
    exact HRR.out _ ⟨HW.out.bs, HW.out.m, HW.out.l, HW.out.p1, HW.out.p2⟩
  case hnp => rfl
  case hv => first | exact ⟨_, fun _ => rfl⟩ | exact ⟨undef, fun _ => rfl⟩
  apply obl_det
  case hrun =>
    intro D y wz hW hD R hR
    have HRR := Lib.hid hR
    clear hR
    have HW := Lib.hid hW
    clear hW hD
    go_wp2_with fail
    exact HRR.out _ ⟨HW.out.bs, HW.out.m, HW.out.l, HW.out.p1, HW.out.p2⟩
  case hnp => rfl
  case hv => first | exact ⟨_, fun _ => rfl⟩ | exact ⟨undef, fun _ => rfl⟩
  apply obl_det
  case hrun =>
    intro D y wz hW hD R hR
    have HRR := Lib.hid hR
    clear hR
    have HW := Lib.hid hW
    clear hW hD
    go_wp2_with fail
    exact HRR.out _ ⟨HW.out.bs, HW.out.m, HW.out.l, HW.out.p1, HW.out.p2⟩
  case hnp => rfl
  case hv => first | exact ⟨_, fun _ => rfl⟩ | exact ⟨undef, fun _ => rfl⟩
  apply obl_det
  case hrun =>
    intro D y wz hW hD R hR
    have HRR := Lib.hid hR
    clear hR
    have HW := Lib.hid hW
    clear hW hD
    go_wp2_with fail
    exact HRR.out _ ⟨HW.out.bs, HW.out.m, HW.out.l, HW.out.p1, HW.out.p2⟩
  case hnp => rfl
  case hv => first | exact ⟨_, fun _ => rfl⟩ | exact ⟨undef, fun _ => rfl⟩
  apply obl_det
  case hrun =>
    intro D y wz hW hD R hR
    have HRR := Lib.hid hR
    clear hR
    have HW := Lib.hid hW
    clear hW hD
    go_wp2_with fail
    exact HRR.out _ ⟨HW.out.bs, HW.out.m, HW.out.l, HW.out.p1, HW.out.p2⟩
  case hnp => rfl
  case hv => first | exact ⟨_, fun _ => rfl⟩ | exact ⟨undef, fun _ => rfl⟩
  apply obl_det
  case hrun =>
    intro D y wz hW hD R hR
    have HRR := Lib.hid hR
    clear hR
    have HW := Lib.hid hW
    clear hW hD
    go_wp2_with fail
    exact HRR.out _ ⟨HW.out.bs, HW.out.m, HW.out.l, HW.out.p1, HW.out.p2⟩
  case hnp => rfl
  case hv => first | exact ⟨_, fun _ => rfl⟩ | exact ⟨undef, fun _ => rfl⟩
  apply obl_det
  case hrun =>
    intro D y wz hW hD R hR
    have HRR := Lib.hid hR
    clear hR
    have HW := Lib.hid hW
    clear hW hD
    go_wp2_with fail
    exact HRR.out _ ⟨HW.out.bs, HW.out.m, HW.out.l, HW.out.p1, HW.out.p2⟩
  case hnp => rfl
  case hv => first | exact ⟨_, fun _ => rfl⟩ | exact ⟨undef, fun _ => rfl⟩
  apply obl_det
  case hrun =>
    intro D y wz hW hD R hR
    have HRR := Lib.hid hR
    clear hR
    have HW := Lib.hid hW
    clear hW hD
    go_wp2_with fail
    exact HRR.out _ ⟨HW.out.bs, HW.out.m, HW.out.l, HW.out.p1, HW.out.p2⟩
  case hnp => rfl
  case hv => first | exact ⟨_, fun _ => rfl⟩ | exact ⟨undef, fun _ => rfl⟩
  apply obl_det
  case hrun =>
    intro D y wz hW hD R hR
    have HRR := Lib.hid hR
    clear hR
    have HW := Lib.hid hW
    clear hW hD
    go_wp2_with fail
    exact HRR.out _ ⟨HW.out.bs, HW.out.m, HW.out.l, HW.out.p1, HW.out.p2⟩
  case hnp => rfl
  case hv => first | exact ⟨_, fun _ => rfl⟩ | exact ⟨undef, fun _ => rfl⟩
  apply obl_det
  case hrun =>
    intro D y wz hW hD R hR
    have HRR := Lib.hid hR
    clear hR
    have HW := Lib.hid hW
    clear hW hD
    go_wp2_with fail
    exact HRR.out _ ⟨HW.out.bs, HW.out.m, HW.out.l, HW.out.p1, HW.out.p2⟩
  case hnp => rfl
  case hv => first | exact ⟨_, fun _ => rfl⟩ | exact ⟨undef, fun _ => rfl⟩
  apply obl_det
  case hrun =>
    intro D y wz hW hD R hR
    have HRR := Lib.hid hR
    clear hR
    have HW := Lib.hid hW
    clear hW hD
    go_wp2_with fail
    exact HRR.out _ ⟨HW.out.bs, HW.out.m, HW.out.l, HW.out.p1, HW.out.p2⟩
  case hnp => rfl
  case hv => first | exact ⟨_, fun _ => rfl⟩ | exact ⟨undef, fun _ => rfl⟩
  apply obl_det
  case hrun =>
    intro D y wz hW hD R hR
    have HRR := Lib.hid hR
    clear hR
    have HW := Lib.hid hW
    clear hW hD
    go_wp2_with fail
    exact HRR.out _ ⟨HW.out.bs, HW.out.m, HW.out.l, HW.out.p1, HW.out.p2⟩
  case hnp => rfl
  case hv => first | exact ⟨_, fun _ => rfl⟩ | exact ⟨undef, fun _ => rfl⟩
  apply obl_det
  case hrun =>
    intro D y wz hW hD R hR
    have HRR := Lib.hid hR
    clear hR
    have HW := Lib.hid hW
    clear hW hD
    go_wp2_with fail
    exact HRR.out _ ⟨HW.out.bs, HW.out.m, HW.out.l, HW.out.p1, HW.out.p2⟩
  case hnp => rfl
  case hv => first | exact ⟨_, fun _ => rfl⟩ | exact ⟨undef, fun _ => rfl⟩
  apply obl_det
  case hrun =>
    intro D y wz hW hD R hR
    have HRR := Lib.hid hR
    clear hR
    have HW := Lib.hid hW
    clear hW hD
    go_wp2_with fail
    exact HRR.out _ ⟨HW.out.bs, HW.out.m, HW.out.l, HW.out.p1, HW.out.p2⟩
  case hnp => rfl
  case hv => first | exact ⟨_, fun _ => rfl⟩ | exact ⟨undef, fun _ => rfl⟩
  apply obl_det
  case hrun =>
    intro D y wz hW hD R hR
    have HRR := Lib.hid hR
    clear hR
    have HW := Lib.hid hW
    clear hW hD
    go_wp2_with fail
    exact HRR.out _ ⟨HW.out.bs, HW.out.m, HW.out.l, HW.out.p1, HW.out.p2⟩
  case hnp => rfl
  case hv => first | exact ⟨_, fun _ => rfl⟩ | exact ⟨undef, fun _ => rfl⟩
  apply obl_det
  case hrun =>
    intro D y wz hW hD R hR
    have HRR := Lib.hid hR
    clear hR
    have HW := Lib.hid hW
    clear hW hD
    go_wp2_with fail
    exact HRR.out _ ⟨HW.out.bs, HW.out.m, HW.out.l, HW.out.p1, HW.out.p2⟩
  case hnp => rfl
  case hv => first | exact ⟨_, fun _ => rfl⟩ | exact ⟨undef, fun _ => rfl⟩
  apply obl_det
  case hrun =>
    intro D y wz hW hD R hR
    have HRR := Lib.hid hR
    clear hR
    have HW := Lib.hid hW
    clear hW hD
    go_wp2_with fail
    exact HRR.out _ ⟨HW.out.bs, HW.out.m, HW.out.l, HW.out.p1, HW.out.p2⟩
  case hnp => rfl
  case hv => first | exact ⟨_, fun _ => rfl⟩ | exact ⟨undef, fun _ => rfl⟩
  apply obl_det
  case hrun =>
    intro D y wz hW hD R hR
    have HRR := Lib.hid hR
    clear hR
    have HW := Lib.hid hW
    clear hW hD
    go_wp2_with fail
    exact HRR.out _ ⟨HW.out.bs, HW.out.m, HW.out.l, HW.out.p1, HW.out.p2⟩
  case hnp => rfl
  case hv => first | exact ⟨_, fun _ => rfl⟩ | exact ⟨undef, fun _ => rfl⟩
  apply obl_det
  case hrun =>
    intro D y wz hW hD R hR
    have HRR := Lib.hid hR
    clear hR
    have HW := Lib.hid hW
    clear hW hD
    go_wp2_with fail
    exact HRR.out _ ⟨HW.out.bs, HW.out.m, HW.out.l, HW.out.p1, HW.out.p2⟩
  case hnp => rfl
  case hv => first | exact ⟨_, fun _ => rfl⟩ | exact ⟨undef, fun _ => rfl⟩
  apply obl_det
  case hrun =>
    intro D y wz hW hD R hR
    have HRR := Lib.hid hR
    clear hR
    have HW := Lib.hid hW
    clear hW hD
    go_wp2_with fail
    exact HRR.out _ ⟨HW.out.bs, HW.out.m, HW.out.l, HW.out.p1, HW.out.p2⟩
  case hnp => rfl
  case hv => first | exact ⟨_, fun _ => rfl⟩ | exact ⟨undef, fun _ => rfl⟩
  apply obl_det
  case hrun =>
    intro D y wz hW hD R hR
    have HRR := Lib.hid hR
    clear hR
    have HW := Lib.hid hW
    clear hW hD
    go_wp2_with fail
    exact HRR.out _ ⟨HW.out.bs, HW.out.m, HW.out.l, HW.out.p1, HW.out.p2⟩
  case hnp => rfl
  case hv => first | exact ⟨_, fun _ => rfl⟩ | exact ⟨undef, fun _ => rfl⟩
  apply obl_det
  case hrun =>
    intro D y wz hW hD R hR
    have HRR := Lib.hid hR
    clear hR
    have HW := Lib.hid hW
    clear hW hD
    go_wp2_with fail
    exact HRR.out _ ⟨HW.out.bs, HW.out.m, HW.out.l, HW.out.p1, HW.out.p2⟩
  case hnp => rfl
  case hv => first | exact ⟨_, fun _ => rfl⟩ | exact ⟨undef, fun _ => rfl⟩
  apply obl_det
  case hrun =>
    intro D y wz hW hD R hR
    have HRR := Lib.hid hR
    clear hR
    have HW := Lib.hid hW
    clear hW hD
    go_wp2_with fail
    exact HRR.out _ ⟨HW.out.bs, HW.out.m, HW.out.l, HW.out.p1, HW.out.p2⟩
  case hnp => rfl
  case hv => first | exact ⟨_, fun _ => rfl⟩ | exact ⟨undef, fun _ => rfl⟩
  apply obl_det
  case hrun =>
    intro D y wz hW hD R hR
    have HRR := Lib.hid hR
    clear hR
    have HW := Lib.hid hW
    clear hW hD
    go_wp2_with fail
    exact HRR.out _ ⟨HW.out.bs, HW.out.m, HW.out.l, HW.out.p1, HW.out.p2⟩
  case hnp => rfl
  case hv => first | exact ⟨_, fun _ => rfl⟩ | exact ⟨undef, fun _ => rfl⟩
  apply obl_det
  case hrun =>
    intro D y wz hW hD R hR
    have HRR := Lib.hid hR
    clear hR
    have HW := Lib.hid hW
    clear hW hD
    go_wp2_with fail
    exact HRR.out _ ⟨HW.out.bs, HW.out.m, HW.out.l, HW.out.p1, HW.out.p2⟩
  case hnp => rfl
  case hv => first | exact ⟨_, fun _ => rfl⟩ | exact ⟨undef, fun _ => rfl⟩
  apply obl_det
  case hrun =>
    intro D y wz hW hD R hR
    have HRR := Lib.hid hR
    clear hR
    have HW := Lib.hid hW
    clear hW hD
    go_wp2_with fail
    exact HRR.out _ ⟨HW.out.bs, HW.out.m, HW.out.l, HW.out.p1, HW.out.p2⟩
  case hnp => rfl
  case hv => first | exact ⟨_, fun _ => rfl⟩ | exact ⟨undef, fun _ => rfl⟩
  apply obl_det
  case hrun =>
    intro D y wz hW hD R hR
    have HRR := Lib.hid hR
    clear hR
    have HW := Lib.hid hW
    clear hW hD
    go_wp2_with fail
    exact HRR.out _ ⟨HW.out.bs, HW.out.m, HW.out.l, HW.out.p1, HW.out.p2⟩
  case hnp => rfl
  case hv => first | exact ⟨_, fun _ => rfl⟩ | exact ⟨undef, fun _ => rfl⟩
  apply obl_det
  case hrun =>
    intro D y wz hW hD R hR
    have HRR := Lib.hid hR
    clear hR
    have HW := Lib.hid hW
    clear hW hD
    refine wpList_load_want rfl 66 _ rfl _ rfl _ _ _ _ (HW.out.bs.get 0 rfl) Tryz.underlying66 rfl infoBurn ?_
    go_simp
    exact HRR.out _ ⟨HW.out.bs, HW.out.m, HW.out.l, HW.out.p1, HW.out.p2⟩
  case hnp => rfl
  case hv => first | exact ⟨_, fun _ => rfl⟩ | exact ⟨undef, fun _ => rfl⟩
  apply obl_det
  case hrun =>
    intro D y wz hW hD R hR
    have HRR := Lib.hid hR
    clear hR
    have HW := Lib.hid hW
    clear hW hD
    go_wp2_with fail
    exact HRR.out _ ⟨HW.out.bs, HW.out.m, HW.out.l, HW.out.p1, HW.out.p2⟩
  case hnp => rfl
  case hv => first | exact ⟨_, fun _ => rfl⟩ | exact ⟨undef, fun _ => rfl⟩
  apply obl_det
  case hrun =>
    intro D y wz hW hD R hR
    have HRR := Lib.hid hR
    clear hR
    have HW := Lib.hid hW
    clear hW hD
    go_wp2_with fail
    exact HRR.out _ ⟨HW.out.bs, HW.out.m, HW.out.l, HW.out.p1, HW.out.p2⟩
  case hnp => rfl
  case hv => first | exact ⟨_, fun _ => rfl⟩ | exact ⟨undef, fun _ => rfl⟩
  apply obl_det
  case hrun =>
    intro D y wz hW hD R hR
    have HRR := Lib.hid hR
    clear hR
    have HW := Lib.hid hW
    clear hW hD
    go_wp2_with fail
    exact HRR.out _ ⟨HW.out.bs, HW.out.m, HW.out.l, HW.out.p1, HW.out.p2⟩
  case hnp => rfl
  case hv => first | exact ⟨_, fun _ => rfl⟩ | exact ⟨undef, fun _ => rfl⟩
  apply obl_det
  case hrun =>
    intro D y wz hW hD R hR
    have HRR := Lib.hid hR
    clear hR
    have HW := Lib.hid hW
    clear hW hD
    go_wp2_with fail
    exact HRR.out _ ⟨HW.out.bs, HW.out.m, HW.out.l, HW.out.p1, HW.out.p2⟩
  case hnp => rfl
  case hv => first | exact ⟨_, fun _ => rfl⟩ | exact ⟨undef, fun _ => rfl⟩
  apply obl_det
  case hrun =>
    intro D y wz hW hD R hR
    have HRR := Lib.hid hR
    clear hR
    have HW := Lib.hid hW
    clear hW hD
    refine wpList_load_want rfl 66 _ rfl _ rfl _ _ _ _ (HW.out.bs.get 1 rfl) Tryz.underlying66 rfl infoBurn ?_
    go_simp
    exact HRR.out _ ⟨HW.out.bs, HW.out.m, HW.out.l, HW.out.p1, HW.out.p2⟩
  case hnp => rfl
  case hv => first | exact ⟨_, fun _ => rfl⟩ | exact ⟨undef, fun _ => rfl⟩
  apply obl_det
  case hrun =>
    intro D y wz hW hD R hR
    have HRR := Lib.hid hR
    clear hR
    have HW := Lib.hid hW
    clear hW hD
    go_wp2_with fail
    exact HRR.out _ ⟨HW.out.bs, HW.out.m, HW.out.l, HW.out.p1, HW.out.p2⟩
  case hnp => rfl
  case hv => first | exact ⟨_, fun _ => rfl⟩ | exact ⟨undef, fun _ => rfl⟩
  apply obl_det
  case hrun =>
    intro D y wz hW hD R hR
    have HRR := Lib.hid hR
    clear hR
    have HW := Lib.hid hW
    clear hW hD
    go_wp2_with fail
    exact HRR.out _ ⟨HW.out.bs, HW.out.m, HW.out.l, HW.out.p1, HW.out.p2⟩
  case hnp => rfl
  case hv => first | exact ⟨_, fun _ => rfl⟩ | exact ⟨undef, fun _ => rfl⟩
  apply obl_det
  case hrun =>
    intro D y wz hW hD R hR
    have HRR := Lib.hid hR
    clear hR
    have HW := Lib.hid hW
    clear hW hD
    go_wp2_with fail
    exact HRR.out _ ⟨HW.out.bs, HW.out.m, HW.out.l, HW.out.p1, HW.out.p2⟩
  case hnp => rfl
  case hv => first | exact ⟨_, fun _ => rfl⟩ | exact ⟨undef, fun _ => rfl⟩
  apply obl_det
  case hrun =>
    intro D y wz hW hD R hR
    have HRR := Lib.hid hR
    clear hR
    have HW := Lib.hid hW
    clear hW hD
    go_wp2_with fail
    exact HRR.out _ ⟨HW.out.bs, HW.out.m, HW.out.l, HW.out.p1, HW.out.p2⟩
  case hnp => rfl
  case hv => first | exact ⟨_, fun _ => rfl⟩ | exact ⟨undef, fun _ => rfl⟩
  apply obl_det
  case hrun =>
    intro D y wz hW hD R hR
    have HRR := Lib.hid hR
    clear hR
    have HW := Lib.hid hW
    clear hW hD
    refine wpList_load_want rfl 66 _ rfl _ rfl _ _ _ _ (HW.out.bs.get 2 rfl) Tryz.underlying66 rfl infoBurn ?_
    go_simp
    exact HRR.out _ ⟨HW.out.bs, HW.out.m, HW.out.l, HW.out.p1, HW.out.p2⟩
  case hnp => rfl
  case hv => first | exact ⟨_, fun _ => rfl⟩ | exact ⟨undef, fun _ => rfl⟩
  apply obl_det
  case hrun =>
    intro D y wz hW hD R hR
    have HRR := Lib.hid hR
    clear hR
    have HW := Lib.hid hW
    clear hW hD
    go_wp2_with fail
    exact HRR.out _ ⟨HW.out.bs, HW.out.m, HW.out.l, HW.out.p1, HW.out.p2⟩
  case hnp => rfl
  case hv => first | exact ⟨_, fun _ => rfl⟩ | exact ⟨undef, fun _ => rfl⟩
  apply obl_det
  case hrun =>
    intro D y wz hW hD R hR
    have HRR := Lib.hid hR
    clear hR
    have HW := Lib.hid hW
    clear hW hD
    go_wp2_with fail
    exact HRR.out _ ⟨HW.out.bs, HW.out.m, HW.out.l, HW.out.p1, HW.out.p2⟩
  case hnp => rfl
  case hv => first | exact ⟨_, fun _ => rfl⟩ | exact ⟨undef, fun _ => rfl⟩
  apply obl_det
  case hrun =>
    intro D y wz hW hD R hR
    have HRR := Lib.hid hR
    clear hR
    have HW := Lib.hid hW
    clear hW hD
    go_wp2_with fail
    exact HRR.out _ ⟨HW.out.bs, HW.out.m, HW.out.l, HW.out.p1, HW.out.p2⟩
  case hnp => rfl
  case hv => first | exact ⟨_, fun _ => rfl⟩ | exact ⟨undef, fun _ => rfl⟩
  apply obl_det
  case hrun =>
    intro D y wz hW hD R hR
    have HRR := Lib.hid hR
    clear hR
    have HW := Lib.hid hW
    clear hW hD
    go_wp2_with fail
    exact HRR.out _ ⟨HW.out.bs, HW.out.m, HW.out.l, HW.out.p1, HW.out.p2⟩
  case hnp => rfl
  case hv => first | exact ⟨_, fun _ => rfl⟩ | exact ⟨undef, fun _ => rfl⟩
  apply obl_det
  case hrun =>
    intro D y wz hW hD R hR
    have HRR := Lib.hid hR
    clear hR
    have HW := Lib.hid hW
    clear hW hD
    go_wp2_with fail
    exact HRR.out _ ⟨HW.out.bs, HW.out.m, HW.out.l, HW.out.p1, HW.out.p2⟩
  case hnp => rfl
  case hv => first | exact ⟨_, fun _ => rfl⟩ | exact ⟨undef, fun _ => rfl⟩
  apply obl_priv 115
  case hd => rfl
  case hp => rfl
  case hrun =>
    intro D y wz hW hD R hR
    have HRR := Lib.hid hR
    clear hR
    have HW := Lib.hid hW
    clear hW hD
    have HN := Lib.hid (HW.out.next (allocU wz (.cells #[.int .i64 1, .int .i64 4] 3)))
    go_wp2_with fail
    refine HRR.out _ _ ?_
    exact ⟨HN.out.bs, HN.out.m, HN.out.l, fun _ => intsIn_blk (l := [1, 4]) (heap_alloc_new wz (.cells #[.int .i64 1, .int .i64 4] 3)) rfl (by decide) rfl, HN.out.p2⟩
  apply obl_det
  case hrun =>
    intro D y wz hW hD R hR
    have HRR := Lib.hid hR
    clear hR
    have HD : Hid (D 47 = true) := hD.pre _ 47 rfl (by kernel_rfl)
    have HW := Lib.hid hW
    clear hW hD
    go_wp2_with fail
    refine (ints_same _ v6 (y 115) wz HW.out.m (HW.out.p1 HD.out)).mono ?_
    rintro e w' ⟨rfl, hb⟩
    have HW2 := Lib.hid (HW.out.next hb)
    clear hb
    go_wp2_with fail
    exact HRR.out _ ⟨HW2.out.bs, HW2.out.m, HW2.out.l, HW2.out.p1, HW2.out.p2⟩
  case hnp => rfl
  case hv => first | exact ⟨_, fun _ => rfl⟩ | exact ⟨undef, fun _ => rfl⟩
  apply obl_det
  case hrun =>
    intro D y wz hW hD R hR
    have HRR := Lib.hid hR
    clear hR
    have HW := Lib.hid hW
    clear hW hD
    go_wp2_with fail
    exact HRR.out _ ⟨HW.out.bs, HW.out.m, HW.out.l, HW.out.p1, HW.out.p2⟩
  case hnp => rfl
  case hv => first | exact ⟨_, fun _ => rfl⟩ | exact ⟨undef, fun _ => rfl⟩
  apply obl_det
  case hrun =>
    intro D y wz hW hD R hR
    have HRR := Lib.hid hR
    clear hR
    have HW := Lib.hid hW
    clear hW hD
    go_wp2_with fail
    exact HRR.out _ ⟨HW.out.bs, HW.out.m, HW.out.l, HW.out.p1, HW.out.p2⟩
  case hnp => rfl
  case hv => first | exact ⟨_, fun _ => rfl⟩ | exact ⟨undef, fun _ => rfl⟩
  apply obl_det
  case hrun =>
    intro D y wz hW hD R hR
    have HRR := Lib.hid hR
    clear hR
    have HW := Lib.hid hW
    clear hW hD
    go_wp2_with fail
    exact HRR.out _ ⟨HW.out.bs, HW.out.m, HW.out.l, HW.out.p1, HW.out.p2⟩
  case hnp => rfl
  case hv => first | exact ⟨_, fun _ => rfl⟩ | exact ⟨undef, fun _ => rfl⟩
  apply obl_priv 120
  case hd => rfl
  case hp => rfl
  case hrun =>
    intro D y wz hW hD R hR
    have HRR := Lib.hid hR
    clear hR
    have HW := Lib.hid hW
    clear hW hD
    have HN := Lib.hid (HW.out.next (allocU wz (.cells #[.int .i64 1] 3)))
    go_wp2_with fail
    refine HRR.out _ _ ?_
    exact ⟨HN.out.bs, HN.out.m, HN.out.l, HN.out.p1, fun _ => intsIn_blk (l := [1]) (heap_alloc_new wz (.cells #[.int .i64 1] 3)) rfl (by decide) rfl⟩
  apply obl_det
  case hrun =>
    intro D y wz hW hD R hR
    have HRR := Lib.hid hR
    clear hR
    have HD : Hid (D 52 = true) := hD.pre _ 52 rfl (by kernel_rfl)
    have HW := Lib.hid hW
    clear hW hD
    go_wp2_with fail
    refine (ints_same _ v8 (y 120) wz HW.out.l (HW.out.p2 HD.out)).mono ?_
    rintro e w' ⟨rfl, hb⟩
    have HW2 := Lib.hid (HW.out.next hb)
    clear hb
    go_wp2_with fail
    exact HRR.out _ ⟨HW2.out.bs, HW2.out.m, HW2.out.l, HW2.out.p1, HW2.out.p2⟩
  case hnp => rfl
  case hv => first | exact ⟨_, fun _ => rfl⟩ | exact ⟨undef, fun _ => rfl⟩
  apply obl_det
  case hrun =>
    intro D y wz hW hD R hR
    have HRR := Lib.hid hR
    clear hR
    have HW := Lib.hid hW
    clear hW hD
    go_wp2_with fail
    exact HRR.out _ ⟨HW.out.bs, HW.out.m, HW.out.l, HW.out.p1, HW.out.p2⟩
  case hnp => rfl
  case hv => first | exact ⟨_, fun _ => rfl⟩ | exact ⟨undef, fun _ => rfl⟩
  apply obl_det
  case hrun =>
    intro D y wz hW hD R hR
    have HRR := Lib.hid hR
    clear hR
    have HW := Lib.hid hW
    clear hW hD
    go_wp2_with fail
    exact HRR.out _ ⟨HW.out.bs, HW.out.m, HW.out.l, HW.out.p1, HW.out.p2⟩
  case hnp => rfl
  case hv => first | exact ⟨_, fun _ => rfl⟩ | exact ⟨undef, fun _ => rfl⟩
  apply obl_det
  case hrun =>
    intro D y wz hW hD R hR
    have HRR := Lib.hid hR
    clear hR
    have HW := Lib.hid hW
    clear hW hD
    go_wp2_with fail
    exact HRR.out _ ⟨HW.out.bs, HW.out.m, HW.out.l, HW.out.p1, HW.out.p2⟩
  case hnp => rfl
  case hv => first | exact ⟨_, fun _ => rfl⟩ | exact ⟨undef, fun _ => rfl⟩
  apply obl_det
  case hrun =>
    intro D y wz hW hD R hR
    have HRR := Lib.hid hR
    clear hR
    have HW := Lib.hid hW
    clear hW hD
    go_wp2_with fail
    exact HRR.out _ ⟨HW.out.bs, HW.out.m, HW.out.l, HW.out.p1, HW.out.p2⟩
  case hnp => rfl
  case hv => first | exact ⟨_, fun _ => rfl⟩ | exact ⟨undef, fun _ => rfl⟩
  apply obl_det
  case hrun =>
    intro D y wz hW hD R hR
    have HRR := Lib.hid hR
    clear hR
    have HW := Lib.hid hW
    clear hW hD
    go_wp2_with fail
    exact HRR.out _ ⟨HW.out.bs, HW.out.m, HW.out.l, HW.out.p1, HW.out.p2⟩
  case hnp => rfl
  case hv => first | exact ⟨_, fun _ => rfl⟩ | exact ⟨undef, fun _ => rfl⟩
  apply obl_det
  case hrun =>
    intro D y wz hW hD R hR
    have HRR := Lib.hid hR
    clear hR
    have HW := Lib.hid hW
    clear hW hD
    go_wp2_with fail
    exact HRR.out _ ⟨HW.out.bs, HW.out.m, HW.out.l, HW.out.p1, HW.out.p2⟩
  case hnp => rfl
  case hv => first | exact ⟨_, fun _ => rfl⟩ | exact ⟨undef, fun _ => rfl⟩
  apply obl_det
  case hrun =>
    intro D y wz hW hD R hR
    have HRR := Lib.hid hR
    clear hR
    have HW := Lib.hid hW
    clear hW hD
    refine wpList_load_want rfl 25 _ rfl _ rfl _ _ _ _ (HW.out.bs.get 3 rfl) Tryz.underlying25 rfl infoSpan ?_
    go_simp
    exact HRR.out _ ⟨HW.out.bs, HW.out.m, HW.out.l, HW.out.p1, HW.out.p2⟩
  case hnp => rfl
  case hv => first | exact ⟨_, fun _ => rfl⟩ | exact ⟨undef, fun _ => rfl⟩
  apply obl_det
  case hrun =>
    intro D y wz hW hD R hR
    have HRR := Lib.hid hR
    clear hR
    have HW := Lib.hid hW
    clear hW hD
    go_wp2_with fail
    refine (span32w 291 356 _).mono ?_
    rintro e w' ⟨rfl, hb⟩
    have HW2 := Lib.hid (HW.out.next hb)
    clear hb
    go_wp2_with fail
    exact HRR.out _ ⟨HW2.out.bs, HW2.out.m, HW2.out.l, HW2.out.p1, HW2.out.p2⟩
  case hnp => rfl
  case hv => first | exact ⟨_, fun _ => rfl⟩ | exact ⟨undef, fun _ => rfl⟩
  apply obl_det
  case hrun =>
    intro D y wz hW hD R hR
    have HRR := Lib.hid hR
    clear hR
    have HW := Lib.hid hW
    clear hW hD
    go_wp2_with fail
    exact HRR.out _ ⟨HW.out.bs, HW.out.m, HW.out.l, HW.out.p1, HW.out.p2⟩
  case hnp => rfl
  case hv => first | exact ⟨_, fun _ => rfl⟩ | exact ⟨undef, fun _ => rfl⟩
  apply obl_det
  case hrun =>
    intro D y wz hW hD R hR
    have HRR := Lib.hid hR
    clear hR
    have HW := Lib.hid hW
    clear hW hD
    go_wp2_with fail
    exact HRR.out _ ⟨HW.out.bs, HW.out.m, HW.out.l, HW.out.p1, HW.out.p2⟩
  case hnp => rfl
  case hv => first | exact ⟨_, fun _ => rfl⟩ | exact ⟨undef, fun _ => rfl⟩
  apply obl_det
  case hrun =>
    intro D y wz hW hD R hR
    have HRR := Lib.hid hR
    clear hR
    have HW := Lib.hid hW
    clear hW hD
    go_wp2_with fail
    exact HRR.out _ ⟨HW.out.bs, HW.out.m, HW.out.l, HW.out.p1, HW.out.p2⟩
  case hnp => rfl
  case hv => first | exact ⟨_, fun _ => rfl⟩ | exact ⟨undef, fun _ => rfl⟩
  apply obl_det
  case hrun =>
    intro D y wz hW hD R hR
    have HRR := Lib.hid hR
    clear hR
    have HW := Lib.hid hW
    clear hW hD
    refine wpList_load_want rfl 25 _ rfl _ rfl _ _ _ _ (HW.out.bs.get 4 rfl) Tryz.underlying25 rfl infoSpan ?_
    go_simp
    exact HRR.out _ ⟨HW.out.bs, HW.out.m, HW.out.l, HW.out.p1, HW.out.p2⟩
  case hnp => rfl
  case hv => first | exact ⟨_, fun _ => rfl⟩ | exact ⟨undef, fun _ => rfl⟩
  apply obl_det
  case hrun =>
    intro D y wz hW hD R hR
    have HRR := Lib.hid hR
    clear hR
    have HW := Lib.hid hW
    clear hW hD
    go_wp2_with fail
    refine (span32w 2272 3334 _).mono ?_
    rintro e w' ⟨rfl, hb⟩
    have HW2 := Lib.hid (HW.out.next hb)
    clear hb
    go_wp2_with fail
    exact HRR.out _ ⟨HW2.out.bs, HW2.out.m, HW2.out.l, HW2.out.p1, HW2.out.p2⟩
  case hnp => rfl
  case hv => first | exact ⟨_, fun _ => rfl⟩ | exact ⟨undef, fun _ => rfl⟩
  apply obl_det
  case hrun =>
    intro D y wz hW hD R hR
    have HRR := Lib.hid hR
    clear hR
    have HW := Lib.hid hW
    clear hW hD
    go_wp2_with fail
    exact HRR.out _ ⟨HW.out.bs, HW.out.m, HW.out.l, HW.out.p1, HW.out.p2⟩
  case hnp => rfl
  case hv => first | exact ⟨_, fun _ => rfl⟩ | exact ⟨undef, fun _ => rfl⟩
  apply obl_det
  case hrun =>
    intro D y wz hW hD R hR
    have HRR := Lib.hid hR
    clear hR
    have HW := Lib.hid hW
    clear hW hD
    go_wp2_with fail
    exact HRR.out _ ⟨HW.out.bs, HW.out.m, HW.out.l, HW.out.p1, HW.out.p2⟩
  case hnp => rfl
  case hv => first | exact ⟨_, fun _ => rfl⟩ | exact ⟨undef, fun _ => rfl⟩
  apply obl_det
  case hrun =>
    intro D y wz hW hD R hR
    have HRR := Lib.hid hR
    clear hR
    have HW := Lib.hid hW
    clear hW hD
    go_wp2_with fail
    exact HRR.out _ ⟨HW.out.bs, HW.out.m, HW.out.l, HW.out.p1, HW.out.p2⟩
  case hnp => rfl
  case hv => first | exact ⟨_, fun _ => rfl⟩ | exact ⟨undef, fun _ => rfl⟩
  apply obl_nil
  intro D y w8 hall hW
  have HBel := Lib.hid hW.bs.bel
  clear hW hall
  go_wp2_with fail
  go_ret
  exact ⟨rfl, HBel.out⟩
end Go.Proofs.YtpkggjobdmchlaaGreatDoor
