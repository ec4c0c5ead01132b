/- stearinlaw02.Awake. -/
import Derived.Test.YtohglbfeahofhaaGreatD26
import Derived.Test.YtohglbfeahofhaaGreatK6
import Derived.Test.YtohglbfeahofhaaGreatK8
namespace Go.Proofs.YtohglbfeahofhaaGreat
open Go.RowKit
theorem raise_ex (v : Value) (w : World) (hv : BWaxesIn w.heap.size w v exL) : Calls Tryz.prog 15 #[v, .int .i64 2, .int .i64 3] w fun e w' => e = .returned (.tuple #[.int .i64 25, .int .i64 0]) ∧ Below w.heap.size w w' := by
  have h := raise_ok exL_ok 2 (by decide) 3 (by decide) v w hv
  rw [ex_raise] at h
  exact h
theorem none_ex (v : Value) (w : World) (hv : BWaxesIn w.heap.size w v exL) : Calls Tryz.prog 15 #[v, .int .i64 3, .int .i64 0] w fun e w' => e = .returned (.tuple #[.int .i64 0, .int .i64 4]) ∧ Below w.heap.size w w' :=
  raise_none exL_ok 3 (by decide) 0 v w hv
theorem value_ex (v rv : Value) (w : World) (hv : BWaxesIn w.heap.size w v exL) (hrv : IntsIn .i64 w.heap.size w rv exR) : Calls Tryz.prog 17 #[v, rv] w fun e w' => e = .returned (.tuple #[.agg #[.int .i64 11470, .int .i64 12160], .agg #[.int .i64 2070, .int .i64 2720], .int .i64 8200, .int .i64 0]) ∧ Below w.heap.size w w' := by
  have h := value_ok exR_ok v rv w hv hrv
  rw [show endsV (exL.zip exR) = ((11470, 12160), (2070, 2720)) from by kernel_rfl, show sumG gPrice (exL.zip exR) (exL.zip exR).length = 8200 from by kernel_rfl] at h
  exact h
theorem softR_ok : ROk 3 [4, 16, 0] := ⟨rfl, fun i hi => by
  have h3 : i = 0 ∨ i = 1 ∨ i = 2 := by omega
  rcases h3 with rfl | rfl | rfl <;> decide, by kernel_rfl⟩
theorem fits_ex (v rv : Value) (pb : Nat) (w : World) (hv : BWaxesIn w.heap.size w v exL) (hrv : IntsIn .i64 w.heap.size w rv [4, 16, 0]) (hp : SpansIn w.heap.size w (.slice (some ⟨pb, 0, none⟩) 3 3) exW) :
    Calls Tryz.prog 19 #[v, .agg (wishC (.slice (some ⟨pb, 0, none⟩) 3 3)), rv] w fun e w' => e = .returned (.tuple #[.int .i64 2, .int .i64 0]) ∧ Below w.heap.size w w' := by
  have h := fits_ok softR_ok v rv pb w hv hrv hp
  rw [show whyV [4, 16, 0] = 2 from by kernel_rfl] at h
  exact h
theorem weigh_ex (v rv : Value) (w : World) (hv : BWaxesIn w.heap.size w v exL) (hrv : IntsIn .i64 w.heap.size w rv exR) : Calls Tryz.prog 7 #[v, rv, .int .i64 1001] w fun e w' => ∃ u, e = .returned (.tuple #[u, .int .i64 0]) ∧ IntsIn .i64 w'.heap.size w' u [200, 750, 51] ∧ Below w.heap.size w w' := by
  have h := weigh_ok exL_ok (r := exR) exR_ok (g := 1001) (by decide) v rv w hv hrv
  rw [show weighV exR 1001 = [200, 750, 51] from by kernel_rfl] at h
  exact h
theorem lots_in {g : Nat} {w : World} (h : w.heap[g]? = some (.cells #[.int .i64 630, .int .i64 90, .int .i64 560, .int .i64 130, .int .i64 700, .int .i64 60] 66)) : SpansIn w.heap.size w (.slice (some ⟨g, 0, none⟩) 3 3) exLots := by
  refine ⟨_, _, rfl, by decide, by decide, .inr ⟨g, 0, rfl, block_lt h, fun i hi => ?_⟩⟩
  have h3 : i = 0 ∨ i = 1 ∨ i = 2 := by simp [exLots] at hi; omega
  rcases h3 with rfl | rfl | rfl <;> exact ⟨cell_of_row _ _ _ _ _ _ h, cell_of_row _ _ _ _ _ _ h⟩
theorem lots_in2 (w : World) (A : Obj) : SpansIn ((w.alloc A).alloc (.cells #[.int .i64 630, .int .i64 90, .int .i64 560, .int .i64 130, .int .i64 700, .int .i64 60] 66)).heap.size ((w.alloc A).alloc (.cells #[.int .i64 630, .int .i64 90, .int .i64 560, .int .i64 130, .int .i64 700, .int .i64 60] 66)) (.slice (some ⟨w.heap.size + 1, 0, none⟩) 3 3) exLots := by
  have h := heap_alloc_new (w.alloc A) (.cells #[.int .i64 630, .int .i64 90, .int .i64 560, .int .i64 130, .int .i64 700, .int .i64 60] 66)
  rw [World.size_alloc] at h
  exact lots_in h
/-- What holds amid Awake's last statement. -/
structure AwB (w0 : World) (L : List (Nat × Obj)) (v6 v8 : Value) (d1 d2 : Bool) (y1 y2 : Value) (w : World) : Prop where
  bs : Bs w0 L w
  m : IntsIn .i64 w.heap.size w v6 [4, 15, 1]
  l : IntsIn .i64 w.heap.size w v8 [200, 750, 51]
  p1 : d1 = true → IntsIn .i64 w.heap.size w y1 [4, 15, 1]
  p2 : d2 = true → IntsIn .i64 w.heap.size w y2 [200, 750, 51]
theorem AwB.next {w0 w w' : World} {L : List (Nat × Obj)} {v6 v8 y1 y2 : Value} {d1 d2 : Bool} (h : AwB w0 L v6 v8 d1 d2 y1 y2 w) (hb : Below w.heap.size w w') : AwB w0 L v6 v8 d1 d2 y1 y2 w' :=
  ⟨h.bs.call hb, h.m.next hb, h.l.next hb, fun e => (h.p1 e).next hb, fun e => (h.p2 e).next hb⟩
set_option maxRecDepth 100000 in
set_option maxHeartbeats 16000000 in
theorem awake2_any (w : World) : Calls Tryz.prog 5 #[] w (fun e w' => e = .returned (.bool true) ∧ Below w.heap.size w w') := by
  have C0 : Hid (Bs w [] w) := Bs.nil w
  go_enter Tryz.func5, Tryz.ntmps5
  go_wp2_with fail
  refine (waxes_ex _).mono ?_
  rintro e w1 ⟨vw1, rfl, hs, hb⟩
  have C1 := Lib.hid (C0.out.call hb)
  have HS := Lib.hid hs
  clear hs
  clear hb C0
  go_wp2_with fail
  refine (raise_ex vw1 _ HS.out).mono ?_
  rintro e w2 ⟨rfl, hb⟩
  have C2 := Lib.hid (C1.out.call hb)
  have HS := Lib.hid (HS.out.next hb)
  clear HS
  clear hb C1
  go_wp2_with fail
  refine (waxes_ex _).mono ?_
  rintro e w3 ⟨vw3, rfl, hs, hb⟩
  have C3 := Lib.hid (C2.out.call hb)
  have HS := Lib.hid hs
  clear hs
  clear hb C2
  go_wp2_with fail
  have hb := allocU (w3) (.cells #[.int .i64 4, .int .i64 15, .int .i64 1] 3)
  have HR := Lib.hid (intsIn_blk (l := exR) (heap_alloc_new (w3) (.cells #[.int .i64 4, .int .i64 15, .int .i64 1] 3)) rfl (by decide) rfl)
  have C3a := Lib.hid (C3.out.call hb)
  have HS := Lib.hid (HS.out.next hb)
  clear hb C3
  refine (value_ex vw3 _ _ HS.out HR.out).mono ?_
  rintro e w4 ⟨rfl, hb⟩
  have C4 := Lib.hid (C3a.out.call hb)
  clear HS HR
  clear hb C3a
  have CP0 := Lib.hid (((Bs.nil w4).push _ rfl (.cells #[.int .i64 0, .int .i64 0] 41)).push (w4.heap.size + 1) (by simp) (.cells #[.int .i64 0, .int .i64 0] 41))
  go_wp2_with (first | (refine wpList_store_bs rfl 41 _ _ rfl CP0.out 0 _ #[.int .i64 11470, .int .i64 12160] _ _ rfl rfl rfl infoSpan rfl (by simp [Value.oneCell']) ?_; intro w4s0 hC; have CP1 : Hid (Bs w4 [(w4.heap.size, .cells #[.int .i64 11470, .int .i64 12160] 41), (w4.heap.size + 1, .cells #[.int .i64 0, .int .i64 0] 41)] w4s0) := hC; clear hC CP0) | (refine wpList_store_bs rfl 41 _ _ rfl CP1.out 1 _ #[.int .i64 2070, .int .i64 2720] _ _ rfl rfl rfl infoSpan rfl (by simp [Value.oneCell']) ?_; intro w4s hC; have CP2 : Hid (Bs w4 [(w4.heap.size, .cells #[.int .i64 11470, .int .i64 12160] 41), (w4.heap.size + 1, .cells #[.int .i64 2070, .int .i64 2720] 41)] w4s) := hC; clear hC CP1))
  have hb := CP2.out.bel
  have CS : Hid (Bs w [(w4.heap.size, .cells #[.int .i64 11470, .int .i64 12160] 41), (w4.heap.size + 1, .cells #[.int .i64 2070, .int .i64 2720] 41)] w4s) := Lib.hid (C4.out.snocB2 hb (CP2.out.get 0 rfl) (CP2.out.get 1 rfl))
  clear hb C4 CP2
  have C4s := Lib.hid CS.out
  clear CS
  refine (waxes_ex _).mono ?_
  rintro e w5 ⟨vw5, rfl, hs, hb⟩
  have C5 := Lib.hid (C4s.out.call hb)
  have HS := Lib.hid hs
  clear hs
  clear hb C4s
  go_wp2_with fail
  have hb := allocU (w5) (.cells #[.int .i64 4, .int .i64 15, .int .i64 1] 3)
  have HR := Lib.hid (intsIn_blk (l := exR) (heap_alloc_new (w5) (.cells #[.int .i64 4, .int .i64 15, .int .i64 1] 3)) rfl (by decide) rfl)
  have C5a := Lib.hid (C5.out.call hb)
  have HS := Lib.hid (HS.out.next hb)
  clear hb C5
  have hb := allocU ((w5).alloc (.cells #[.int .i64 4, .int .i64 15, .int .i64 1] 3)) (.cells #[.int .i64 630, .int .i64 90, .int .i64 560, .int .i64 130, .int .i64 700, .int .i64 60] 66)
  have HL := Lib.hid (lots_in2 w5 (.cells #[.int .i64 4, .int .i64 15, .int .i64 1] 3))
  have C5aa := Lib.hid (C5a.out.call hb)
  have HS := Lib.hid (HS.out.next hb)
  have HR := Lib.hid (HR.out.next hb)
  clear hb C5a
  refine (bmade_ok vw5 _ _ _ HS.out HR.out HL.out).mono ?_
  rintro e w6 ⟨rfl, hb⟩
  have C6 := Lib.hid (C5aa.out.call hb)
  clear HS HR HL
  clear hb C5aa
  go_wp2_with fail
  refine (waxes_ex _).mono ?_
  rintro e w7 ⟨vw7, rfl, hs, hb⟩
  have C7 := Lib.hid (C6.out.call hb)
  have HS := Lib.hid hs
  clear hs
  clear hb C6
  go_wp2_with fail
  refine (wish_ex _).mono ?_
  rintro e w8 ⟨pb8, rfl, hp, hb⟩
  have C8 := Lib.hid (C7.out.call hb)
  have HS := Lib.hid (HS.out.next hb)
  have HP := Lib.hid hp
  clear hp
  clear hb C7
  go_wp2_with fail
  have hb := allocU (w8) (.cells #[.int .i64 4, .int .i64 16, .int .i64 0] 3)
  have HR := Lib.hid (intsIn_blk (l := [4, 16, 0]) (heap_alloc_new (w8) (.cells #[.int .i64 4, .int .i64 16, .int .i64 0] 3)) rfl (by decide) rfl)
  have C8a := Lib.hid (C8.out.call hb)
  have HS := Lib.hid (HS.out.next hb)
  have HP := Lib.hid (HP.out.next hb)
  clear hb C8
  refine (fits_ex vw7 _ pb8 _ HS.out HR.out HP.out).mono ?_
  rintro e w9 ⟨rfl, hb⟩
  have C9 := Lib.hid (C8a.out.call hb)
  clear HS HR HP
  clear hb C8a
  go_wp2_with fail
  refine (waxes_ex _).mono ?_
  rintro e w10 ⟨vw10, rfl, hs, hb⟩
  have C10 := Lib.hid (C9.out.call hb)
  have HS := Lib.hid hs
  clear hs
  clear hb C9
  go_wp2_with fail
  refine (wish_ex _).mono ?_
  rintro e w11 ⟨pb11, rfl, hp, hb⟩
  have C11 := Lib.hid (C10.out.call hb)
  have HS := Lib.hid (HS.out.next hb)
  have HP := Lib.hid hp
  clear hp
  clear hb C10
  go_wp2_with fail
  refine (cheapest_ok vw10 pb11 _ HS.out HP.out).mono ?_
  rintro e w12 ⟨v6, rfl, hi, hb⟩
  have C12 := Lib.hid (C11.out.call hb)
  have HI6 := Lib.hid hi
  clear hi
  clear HS HP
  clear hb C11
  go_wp2_with fail
  refine (waxes_ex _).mono ?_
  rintro e w13 ⟨vw13, rfl, hs, hb⟩
  have C13 := Lib.hid (C12.out.call hb)
  have HI6 := Lib.hid (HI6.out.next hb)
  have HS := Lib.hid hs
  clear hs
  clear hb C12
  go_wp2_with fail
  refine (wish_ex _).mono ?_
  rintro e w14 ⟨pb14, rfl, hp, hb⟩
  have C14 := Lib.hid (C13.out.call hb)
  have HI6 := Lib.hid (HI6.out.next hb)
  have HS := Lib.hid (HS.out.next hb)
  have HP := Lib.hid hp
  clear hp
  clear hb C13
  go_wp2_with fail
  have hb := allocU (w14) (.cells #[.int .i64 4, .int .i64 15, .int .i64 1] 3)
  have HR := Lib.hid (intsIn_blk (l := exR) (heap_alloc_new (w14) (.cells #[.int .i64 4, .int .i64 15, .int .i64 1] 3)) rfl (by decide) rfl)
  have C14a := Lib.hid (C14.out.call hb)
  have HI6 := Lib.hid (HI6.out.next hb)
  have HS := Lib.hid (HS.out.next hb)
  have HP := Lib.hid (HP.out.next hb)
  clear hb C14
  refine (stays_ok vw13 _ pb14 _ HS.out HP.out HR.out).mono ?_
  rintro e w15 ⟨rfl, hb⟩
  have C15 := Lib.hid (C14a.out.call hb)
  have HI6 := Lib.hid (HI6.out.next hb)
  clear HS HR HP
  clear hb C14a
  have CP0 := Lib.hid ((Bs.nil w15).push _ rfl (.cells #[.int .i64 0, .int .i64 0] 41))
  go_wp2_with (first | (refine wpList_store_bs rfl 41 _ _ rfl CP0.out 0 _ #[.int .i64 400, .int .i64 100000] _ _ rfl rfl rfl infoSpan rfl (by simp [Value.oneCell']) ?_; intro w15s hC; have CP1 : Hid (Bs w15 [(w15.heap.size, .cells #[.int .i64 400, .int .i64 100000] 41)] w15s) := hC; clear hC CP0))
  have hb := CP1.out.bel
  have CS : Hid (Bs w [(w4.heap.size, .cells #[.int .i64 11470, .int .i64 12160] 41), (w4.heap.size + 1, .cells #[.int .i64 2070, .int .i64 2720] 41), (w15.heap.size, .cells #[.int .i64 400, .int .i64 100000] 41)] w15s) := Lib.hid (C15.out.snocB hb (CP1.out.get 0 rfl))
  have HI6 := Lib.hid (HI6.out.next hb)
  clear hb C15 CP1
  have C15s := Lib.hid CS.out
  clear CS
  refine (waxes_ex _).mono ?_
  rintro e w16 ⟨vw16, rfl, hs, hb⟩
  have C16 := Lib.hid (C15s.out.call hb)
  have HI6 := Lib.hid (HI6.out.next hb)
  have HS := Lib.hid hs
  clear hs
  clear hb C15s
  go_wp2_with fail
  have hb := allocU (w16) (.cells #[.int .i64 4, .int .i64 15, .int .i64 1] 3)
  have HR := Lib.hid (intsIn_blk (l := exR) (heap_alloc_new (w16) (.cells #[.int .i64 4, .int .i64 15, .int .i64 1] 3)) rfl (by decide) rfl)
  have C16a := Lib.hid (C16.out.call hb)
  have HI6 := Lib.hid (HI6.out.next hb)
  have HS := Lib.hid (HS.out.next hb)
  clear hb C16
  refine (weigh_ex vw16 _ _ HS.out HR.out).mono ?_
  rintro e w17 ⟨v8, rfl, hi, hb⟩
  have C17 := Lib.hid (C16a.out.call hb)
  have HI6 := Lib.hid (HI6.out.next hb)
  have HI8 := Lib.hid hi
  clear hi
  clear HS HR
  clear hb C16a
  go_wp2_with fail
  refine (waxes_ex _).mono ?_
  rintro e w18 ⟨vw18, rfl, hs, hb⟩
  have C18 := Lib.hid (C17.out.call hb)
  have HI6 := Lib.hid (HI6.out.next hb)
  have HI8 := Lib.hid (HI8.out.next hb)
  have HS := Lib.hid hs
  clear hs
  clear hb C17
  go_wp2_with fail
  refine (none_ex vw18 _ HS.out).mono ?_
  rintro e w19 ⟨rfl, hb⟩
  have C19 := Lib.hid (C18.out.call hb)
  have HI6 := Lib.hid (HI6.out.next hb)
  have HI8 := Lib.hid (HI8.out.next hb)
  clear HS
  clear hb C18
  go_upto_region 9 with fail
  have H0 : Hid (∀ y1 y2 : Value, AwB w [(w4.heap.size, .cells #[.int .i64 11470, .int .i64 12160] 41), (w4.heap.size + 1, .cells #[.int .i64 2070, .int .i64 2720] 41), (w15.heap.size, .cells #[.int .i64 400, .int .i64 100000] 41)] v6 v8 false false y1 y2 w19.drew) := fun y1 y2 => AwB.next (w := w19) ⟨C19.out, HI6.out, HI8.out, fun h => (by cases h), fun h => (by cases h)⟩ (Below.refl _ _).drew
  clear C19 HI6 HI8
  refine wp_region_inv1 (by kernel_rfl) (by kernel_rfl) [139, 153] (fun D y w' => AwB w [(w4.heap.size, .cells #[.int .i64 11470, .int .i64 12160] 41), (w4.heap.size + 1, .cells #[.int .i64 2070, .int .i64 2720] 41), (w15.heap.size, .cells #[.int .i64 400, .int .i64 100000] 41)] v6 v8 (D 62) (D 76) (y 139) (y 153) w') (H0.out _ _) ?FX ?hFX ?_
  clear H0
  case hFX =>
    intro y
    simp only [fill, List.foldl, Act.put, List.setIfInBounds_toArray, List.set]
    exact rfl
  apply obl_det
  case hrun =>
    intro D y wz hW hD R hR
    have HRR := Lib.hid hR
    clear hR
    have HW := Lib.hid hW
    clear hW hD
    go_wp2_with fail
    exact HRR.out _ ⟨HW.out.bs, HW.out.m, HW.out.l, HW.out.p1, HW.out.p2⟩
  case hnp => rfl
  case hv => first | exact ⟨_, fun _ => rfl⟩ | exact ⟨undef, fun _ => rfl⟩
  apply obl_det
  case hrun =>
    intro D y wz hW hD R hR
    have HRR := Lib.hid hR
    clear hR
    have HW := Lib.hid hW
    clear hW hD
    go_wp2_with fail
    exact HRR.out _ ⟨HW.out.bs, HW.out.m, HW.out.l, HW.out.p1, HW.out.p2⟩
  case hnp => rfl
  case hv => first | exact ⟨_, fun _ => rfl⟩ | exact ⟨undef, fun _ => rfl⟩
  apply obl_det
  case hrun =>
    intro D y wz hW hD R hR
    have HRR := Lib.hid hR
    clear hR
    have HW := Lib.hid hW
    clear hW hD
    go_wp2_with fail
    exact HRR.out _ ⟨HW.out.bs, HW.out.m, HW.out.l, HW.out.p1, HW.out.p2⟩
  case hnp => rfl
  case hv => first | exact ⟨_, fun _ => rfl⟩ | exact ⟨undef, fun _ => rfl⟩
  apply obl_det
  case hrun =>
    intro D y wz hW hD R hR
    have HRR := Lib.hid hR
    clear hR
    have HW := Lib.hid hW
    clear hW hD
    go_wp2_with fail
    exact HRR.out _ ⟨HW.out.bs, HW.out.m, HW.out.l, HW.out.p1, HW.out.p2⟩
  case hnp => rfl
  case hv => first | exact ⟨_, fun _ => rfl⟩ | exact ⟨undef, fun _ => rfl⟩
  apply obl_det
  case hrun =>
    intro D y wz hW hD R hR
    have HRR := Lib.hid hR
    clear hR
    have HW := Lib.hid hW
    clear hW hD
    go_wp2_with fail
    exact HRR.out _ ⟨HW.out.bs, HW.out.m, HW.out.l, HW.out.p1, HW.out.p2⟩
  case hnp => rfl
  case hv => first | exact ⟨_, fun _ => rfl⟩ | exact ⟨undef, fun _ => rfl⟩
  apply obl_det
  case hrun =>
    intro D y wz hW hD R hR
    have HRR := Lib.hid hR
    clear hR
    have HW := Lib.hid hW
    clear hW hD
    go_wp2_with fail
    exact HRR.out _ ⟨HW.out.bs, HW.out.m, HW.out.l, HW.out.p1, HW.out.p2⟩
  case hnp => rfl
  case hv => first | exact ⟨_, fun _ => rfl⟩ | exact ⟨undef, fun _ => rfl⟩
  apply obl_det
  case hrun =>
    intro D y wz hW hD R hR
    have HRR := Lib.hid hR
    clear hR
    have HW := Lib.hid hW
    clear hW hD
    go_wp2_with fail
    exact HRR.out _ ⟨HW.out.bs, HW.out.m, HW.out.l, HW.out.p1, HW.out.p2⟩
  case hnp => rfl
  case hv => first | exact ⟨_, fun _ => rfl⟩ | exact ⟨undef, fun _ => rfl⟩
  apply obl_det
  case hrun =>
    intro D y wz hW hD R hR
    have HRR := Lib.hid hR
    clear hR
    have HW := Lib.hid hW
    clear hW hD
    go_wp2_with fail
    exact HRR.out _ ⟨HW.out.bs, HW.out.m, HW.out.l, HW.out.p1, HW.out.p2⟩
  case hnp => rfl
  case hv => first | exact ⟨_, fun _ => rfl⟩ | exact ⟨undef, fun _ => rfl⟩
  apply obl_det
  case hrun =>
    intro D y wz hW hD R hR
    have HRR := Lib.hid hR
    clear hR
    have HW := Lib.hid hW
    clear hW hD
    go_wp2_with fail
    exact HRR.out _ ⟨HW.out.bs, HW.out.m, HW.out.l, HW.out.p1, HW.out.p2⟩
  case hnp => rfl
  case hv => first | exact ⟨_, fun _ => rfl⟩ | exact ⟨undef, fun _ => rfl⟩
  apply obl_det
  case hrun =>
    intro D y wz hW hD R hR
    have HRR := Lib.hid hR
    clear hR
    have HW := Lib.hid hW
    clear hW hD
    go_wp2_with fail
    exact HRR.out _ ⟨HW.out.bs, HW.out.m, HW.out.l, HW.out.p1, HW.out.p2⟩
  case hnp => rfl
  case hv => first | exact ⟨_, fun _ => rfl⟩ | exact ⟨undef, fun _ => rfl⟩
  apply obl_det
  case hrun =>
    intro D y wz hW hD R hR
    have HRR := Lib.hid hR
    clear hR
    have HW := Lib.hid hW
    clear hW hD
    go_wp2_with fail
    exact HRR.out _ ⟨HW.out.bs, HW.out.m, HW.out.l, HW.out.p1, HW.out.p2⟩
  case hnp => rfl
  case hv => first | exact ⟨_, fun _ => rfl⟩ | exact ⟨undef, fun _ => rfl⟩
  apply obl_det
  case hrun =>
    intro D y wz hW hD R hR
    have HRR := Lib.hid hR
    clear hR
    have HW := Lib.hid hW
    clear hW hD
    go_wp2_with fail
    exact HRR.out _ ⟨HW.out.bs, HW.out.m, HW.out.l, HW.out.p1, HW.out.p2⟩
  case hnp => rfl
  case hv => first | exact ⟨_, fun _ => rfl⟩ | exact ⟨undef, fun _ => rfl⟩
  apply obl_det
  case hrun =>
    intro D y wz hW hD R hR
    have HRR := Lib.hid hR
    clear hR
    have HW := Lib.hid hW
    clear hW hD
    go_wp2_with fail
    exact HRR.out _ ⟨HW.out.bs, HW.out.m, HW.out.l, HW.out.p1, HW.out.p2⟩
  case hnp => rfl
  case hv => first | exact ⟨_, fun _ => rfl⟩ | exact ⟨undef, fun _ => rfl⟩
  apply obl_det
  case hrun =>
    intro D y wz hW hD R hR
    have HRR := Lib.hid hR
    clear hR
    have HW := Lib.hid hW
    clear hW hD
    go_wp2_with fail
    exact HRR.out _ ⟨HW.out.bs, HW.out.m, HW.out.l, HW.out.p1, HW.out.p2⟩
  case hnp => rfl
  case hv => first | exact ⟨_, fun _ => rfl⟩ | exact ⟨undef, fun _ => rfl⟩
  apply obl_det
  case hrun =>
    intro D y wz hW hD R hR
    have HRR := Lib.hid hR
    clear hR
    have HW := Lib.hid hW
    clear hW hD
    go_wp2_with fail
    exact HRR.out _ ⟨HW.out.bs, HW.out.m, HW.out.l, HW.out.p1, HW.out.p2⟩
  case hnp => rfl
  case hv => first | exact ⟨_, fun _ => rfl⟩ | exact ⟨undef, fun _ => rfl⟩
  apply obl_det
  case hrun =>
    intro D y wz hW hD R hR
    have HRR := Lib.hid hR
    clear hR
    have HW := Lib.hid hW
    clear hW hD
    go_wp2_with fail
    exact HRR.out _ ⟨HW.out.bs, HW.out.m, HW.out.l, HW.out.p1, HW.out.p2⟩
  case hnp => rfl
  case hv => first | exact ⟨_, fun _ => rfl⟩ | exact ⟨undef, fun _ => rfl⟩
  apply obl_det
  case hrun =>
    intro D y wz hW hD R hR
    have HRR := Lib.hid hR
    clear hR
    have HW := Lib.hid hW
    clear hW hD
    go_wp2_with fail
    exact HRR.out _ ⟨HW.out.bs, HW.out.m, HW.out.l, HW.out.p1, HW.out.p2⟩
  case hnp => rfl
  case hv => first | exact ⟨_, fun _ => rfl⟩ | exact ⟨undef, fun _ => rfl⟩
  apply obl_det
  case hrun =>
    intro D y wz hW hD R hR
    have HRR := Lib.hid hR
    clear hR
    have HW := Lib.hid hW
    clear hW hD
    go_wp2_with fail
    exact HRR.out _ ⟨HW.out.bs, HW.out.m, HW.out.l, HW.out.p1, HW.out.p2⟩
  case hnp => rfl
  case hv => first | exact ⟨_, fun _ => rfl⟩ | exact ⟨undef, fun _ => rfl⟩
  apply obl_det
  case hrun =>
    intro D y wz hW hD R hR
    have HRR := Lib.hid hR
    clear hR
    have HW := Lib.hid hW
    clear hW hD
    go_wp2_with fail
    exact HRR.out _ ⟨HW.out.bs, HW.out.m, HW.out.l, HW.out.p1, HW.out.p2⟩
  case hnp => rfl
  case hv => first | exact ⟨_, fun _ => rfl⟩ | exact ⟨undef, fun _ => rfl⟩
  apply obl_det
  case hrun =>
    intro D y wz hW hD R hR
    have HRR := Lib.hid hR
    clear hR
    have HW := Lib.hid hW
    clear hW hD
    go_wp2_with fail
    exact HRR.out _ ⟨HW.out.bs, HW.out.m, HW.out.l, HW.out.p1, HW.out.p2⟩
  case hnp => rfl
  case hv => first | exact ⟨_, fun _ => rfl⟩ | exact ⟨undef, fun _ => rfl⟩
  apply obl_det
  case hrun =>
    intro D y wz hW hD R hR
    have HRR := Lib.hid hR
    clear hR
    have HW := Lib.hid hW
    clear hW hD
    go_wp2_with fail
    exact HRR.out _ ⟨HW.out.bs, HW.out.m, HW.out.l, HW.out.p1, HW.out.p2⟩
  case hnp => rfl
  case hv => first | exact ⟨_, fun _ => rfl⟩ | exact ⟨undef, fun _ => rfl⟩
  apply obl_det
  case hrun =>
    intro D y wz hW hD R hR
    have HRR := Lib.hid hR
    clear hR
    have HW := Lib.hid hW
    clear hW hD
    go_wp2_with fail
    exact HRR.out _ ⟨HW.out.bs, HW.out.m, HW.out.l, HW.out.p1, HW.out.p2⟩
  case hnp => rfl
  case hv => first | exact ⟨_, fun _ => rfl⟩ | exact ⟨undef, fun _ => rfl⟩
  apply obl_det
  case hrun =>
    intro D y wz hW hD R hR
    have HRR := Lib.hid hR
    clear hR
    have HW := Lib.hid hW
    clear hW hD
    go_wp2_with fail
    exact HRR.out _ ⟨HW.out.bs, HW.out.m, HW.out.l, HW.out.p1, HW.out.p2⟩
  case hnp => rfl
  case hv => first | exact ⟨_, fun _ => rfl⟩ | exact ⟨undef, fun _ => rfl⟩
  apply obl_det
  case hrun =>
    intro D y wz hW hD R hR
    have HRR := Lib.hid hR
    clear hR
    have HW := Lib.hid hW
    clear hW hD
    go_wp2_with fail
    exact HRR.out _ ⟨HW.out.bs, HW.out.m, HW.out.l, HW.out.p1, HW.out.p2⟩
  case hnp => rfl
  case hv => first | exact ⟨_, fun _ => rfl⟩ | exact ⟨undef, fun _ => rfl⟩
  apply obl_det
  case hrun =>
    intro D y wz hW hD R hR
    have HRR := Lib.hid hR
    clear hR
    have HW := Lib.hid hW
    clear hW hD
    go_wp2_with fail
    exact HRR.out _ ⟨HW.out.bs, HW.out.m, HW.out.l, HW.out.p1, HW.out.p2⟩
  case hnp => rfl
  case hv => first | exact ⟨_, fun _ => rfl⟩ | exact ⟨undef, fun _ => rfl⟩
  apply obl_det
  case hrun =>
    intro D y wz hW hD R hR
    have HRR := Lib.hid hR
    clear hR
    have HW := Lib.hid hW
    clear hW hD
    go_wp2_with fail
    exact HRR.out _ ⟨HW.out.bs, HW.out.m, HW.out.l, HW.out.p1, HW.out.p2⟩
  case hnp => rfl
  case hv => first | exact ⟨_, fun _ => rfl⟩ | exact ⟨undef, fun _ => rfl⟩
  apply obl_det
  case hrun =>
    intro D y wz hW hD R hR
    have HRR := Lib.hid hR
    clear hR
    have HW := Lib.hid hW
    clear hW hD
    go_wp2_with fail
    exact HRR.out _ ⟨HW.out.bs, HW.out.m, HW.out.l, HW.out.p1, HW.out.p2⟩
  case hnp => rfl
  case hv => first | exact ⟨_, fun _ => rfl⟩ | exact ⟨undef, fun _ => rfl⟩
  apply obl_det
  case hrun =>
    intro D y wz hW hD R hR
    have HRR := Lib.hid hR
    clear hR
    have HW := Lib.hid hW
    clear hW hD
    go_wp2_with fail
    exact HRR.out _ ⟨HW.out.bs, HW.out.m, HW.out.l, HW.out.p1, HW.out.p2⟩
  case hnp => rfl
  case hv => first | exact ⟨_, fun _ => rfl⟩ | exact ⟨undef, fun _ => rfl⟩
  apply obl_det
  case hrun =>
    intro D y wz hW hD R hR
    have HRR := Lib.hid hR
    clear hR
    have HW := Lib.hid hW
    clear hW hD
    go_wp2_with fail
    exact HRR.out _ ⟨HW.out.bs, HW.out.m, HW.out.l, HW.out.p1, HW.out.p2⟩
  case hnp => rfl
  case hv => first | exact ⟨_, fun _ => rfl⟩ | exact ⟨undef, fun _ => rfl⟩
  apply obl_det
  case hrun =>
    intro D y wz hW hD R hR
    have HRR := Lib.hid hR
    clear hR
    have HW := Lib.hid hW
    clear hW hD
    go_wp2_with fail
    exact HRR.out _ ⟨HW.out.bs, HW.out.m, HW.out.l, HW.out.p1, HW.out.p2⟩
  case hnp => rfl
  case hv => first | exact ⟨_, fun _ => rfl⟩ | exact ⟨undef, fun _ => rfl⟩
  apply obl_det
  case hrun =>
    intro D y wz hW hD R hR
    have HRR := Lib.hid hR
    clear hR
    have HW := Lib.hid hW
    clear hW hD
    go_wp2_with fail
    exact HRR.out _ ⟨HW.out.bs, HW.out.m, HW.out.l, HW.out.p1, HW.out.p2⟩
  case hnp => rfl
  case hv => first | exact ⟨_, fun _ => rfl⟩ | exact ⟨undef, fun _ => rfl⟩
  apply obl_det
  case hrun =>
    intro D y wz hW hD R hR
    have HRR := Lib.hid hR
    clear hR
    have HW := Lib.hid hW
    clear hW hD
    go_wp2_with fail
    exact HRR.out _ ⟨HW.out.bs, HW.out.m, HW.out.l, HW.out.p1, HW.out.p2⟩
  case hnp => rfl
  case hv => first | exact ⟨_, fun _ => rfl⟩ | exact ⟨undef, fun _ => rfl⟩
  apply obl_det
  case hrun =>
    intro D y wz hW hD R hR
    have HRR := Lib.hid hR
    clear hR
    have HW := Lib.hid hW
    clear hW hD
    go_wp2_with fail
    exact HRR.out _ ⟨HW.out.bs, HW.out.m, HW.out.l, HW.out.p1, HW.out.p2⟩
  case hnp => rfl
  case hv => first | exact ⟨_, fun _ => rfl⟩ | exact ⟨undef, fun _ => rfl⟩
  apply obl_det
  case hrun =>
    intro D y wz hW hD R hR
    have HRR := Lib.hid hR
    clear hR
    have HW := Lib.hid hW
    clear hW hD
    go_wp2_with fail
    exact HRR.out _ ⟨HW.out.bs, HW.out.m, HW.out.l, HW.out.p1, HW.out.p2⟩
  case hnp => rfl
  case hv => first | exact ⟨_, fun _ => rfl⟩ | exact ⟨undef, fun _ => rfl⟩
  apply obl_det
  case hrun =>
    intro D y wz hW hD R hR
    have HRR := Lib.hid hR
    clear hR
    have HW := Lib.hid hW
    clear hW hD
    go_wp2_with fail
    exact HRR.out _ ⟨HW.out.bs, HW.out.m, HW.out.l, HW.out.p1, HW.out.p2⟩
  case hnp => rfl
  case hv => first | exact ⟨_, fun _ => rfl⟩ | exact ⟨undef, fun _ => rfl⟩
  apply obl_det
  case hrun =>
    intro D y wz hW hD R hR
    have HRR := Lib.hid hR
    clear hR
    have HW := Lib.hid hW
    clear hW hD
    refine wpList_load_want rfl 41 _ rfl _ rfl _ _ _ _ (HW.out.bs.get 0 rfl) Tryz.underlying41 rfl infoSpan ?_
    go_simp
    exact HRR.out _ ⟨HW.out.bs, HW.out.m, HW.out.l, HW.out.p1, HW.out.p2⟩
  case hnp => rfl
  case hv => first | exact ⟨_, fun _ => rfl⟩ | exact ⟨undef, fun _ => rfl⟩
  apply obl_det
  case hrun =>
    intro D y wz hW hD R hR
    have HRR := Lib.hid hR
    clear hR
    have HW := Lib.hid hW
    clear hW hD
    go_wp2_with fail
    refine (span2w 11470 12160 _).mono ?_
    rintro e w' ⟨rfl, hb⟩
    have HW2 := Lib.hid (HW.out.next hb)
    clear hb
    go_wp2_with fail
    exact HRR.out _ ⟨HW2.out.bs, HW2.out.m, HW2.out.l, HW2.out.p1, HW2.out.p2⟩
  case hnp => rfl
  case hv => first | exact ⟨_, fun _ => rfl⟩ | exact ⟨undef, fun _ => rfl⟩
  apply obl_det
  case hrun =>
    intro D y wz hW hD R hR
    have HRR := Lib.hid hR
    clear hR
    have HW := Lib.hid hW
    clear hW hD
    go_wp2_with fail
    exact HRR.out _ ⟨HW.out.bs, HW.out.m, HW.out.l, HW.out.p1, HW.out.p2⟩
  case hnp => rfl
  case hv => first | exact ⟨_, fun _ => rfl⟩ | exact ⟨undef, fun _ => rfl⟩
  apply obl_det
  case hrun =>
    intro D y wz hW hD R hR
    have HRR := Lib.hid hR
    clear hR
    have HW := Lib.hid hW
    clear hW hD
    go_wp2_with fail
    exact HRR.out _ ⟨HW.out.bs, HW.out.m, HW.out.l, HW.out.p1, HW.out.p2⟩
  case hnp => rfl
  case hv => first | exact ⟨_, fun _ => rfl⟩ | exact ⟨undef, fun _ => rfl⟩
  apply obl_det
  case hrun =>
    intro D y wz hW hD R hR
    have HRR := Lib.hid hR
    clear hR
    have HW := Lib.hid hW
    clear hW hD
    go_wp2_with fail
    exact HRR.out _ ⟨HW.out.bs, HW.out.m, HW.out.l, HW.out.p1, HW.out.p2⟩
  case hnp => rfl
  case hv => first | exact ⟨_, fun _ => rfl⟩ | exact ⟨undef, fun _ => rfl⟩
  apply obl_det
  case hrun =>
    intro D y wz hW hD R hR
    have HRR := Lib.hid hR
    clear hR
    have HW := Lib.hid hW
    clear hW hD
    refine wpList_load_want rfl 41 _ rfl _ rfl _ _ _ _ (HW.out.bs.get 1 rfl) Tryz.underlying41 rfl infoSpan ?_
    go_simp
    exact HRR.out _ ⟨HW.out.bs, HW.out.m, HW.out.l, HW.out.p1, HW.out.p2⟩
  case hnp => rfl
  case hv => first | exact ⟨_, fun _ => rfl⟩ | exact ⟨undef, fun _ => rfl⟩
  apply obl_det
  case hrun =>
    intro D y wz hW hD R hR
    have HRR := Lib.hid hR
    clear hR
    have HW := Lib.hid hW
    clear hW hD
    go_wp2_with fail
    refine (span2w 2070 2720 _).mono ?_
    rintro e w' ⟨rfl, hb⟩
    have HW2 := Lib.hid (HW.out.next hb)
    clear hb
    go_wp2_with fail
    exact HRR.out _ ⟨HW2.out.bs, HW2.out.m, HW2.out.l, HW2.out.p1, HW2.out.p2⟩
  case hnp => rfl
  case hv => first | exact ⟨_, fun _ => rfl⟩ | exact ⟨undef, fun _ => rfl⟩
  apply obl_det
  case hrun =>
    intro D y wz hW hD R hR
    have HRR := Lib.hid hR
    clear hR
    have HW := Lib.hid hW
    clear hW hD
    go_wp2_with fail
    exact HRR.out _ ⟨HW.out.bs, HW.out.m, HW.out.l, HW.out.p1, HW.out.p2⟩
  case hnp => rfl
  case hv => first | exact ⟨_, fun _ => rfl⟩ | exact ⟨undef, fun _ => rfl⟩
  apply obl_det
  case hrun =>
    intro D y wz hW hD R hR
    have HRR := Lib.hid hR
    clear hR
    have HW := Lib.hid hW
    clear hW hD
    go_wp2_with fail
    exact HRR.out _ ⟨HW.out.bs, HW.out.m, HW.out.l, HW.out.p1, HW.out.p2⟩
  case hnp => rfl
  case hv => first | exact ⟨_, fun _ => rfl⟩ | exact ⟨undef, fun _ => rfl⟩
  apply obl_det
  case hrun =>
    intro D y wz hW hD R hR
    have HRR := Lib.hid hR
    clear hR
    have HW := Lib.hid hW
    clear hW hD
    go_wp2_with fail
    exact HRR.out _ ⟨HW.out.bs, HW.out.m, HW.out.l, HW.out.p1, HW.out.p2⟩
  case hnp => rfl
  case hv => first | exact ⟨_, fun _ => rfl⟩ | exact ⟨undef, fun _ => rfl⟩
  apply obl_det
  case hrun =>
    intro D y wz hW hD R hR
    have HRR := Lib.hid hR
    clear hR
    have HW := Lib.hid hW
    clear hW hD
    go_wp2_with fail
    exact HRR.out _ ⟨HW.out.bs, HW.out.m, HW.out.l, HW.out.p1, HW.out.p2⟩
  case hnp => rfl
  case hv => first | exact ⟨_, fun _ => rfl⟩ | exact ⟨undef, fun _ => rfl⟩
  apply obl_det
  case hrun =>
    intro D y wz hW hD R hR
    have HRR := Lib.hid hR
    clear hR
    have HW := Lib.hid hW
    clear hW hD
    go_wp2_with fail
    exact HRR.out _ ⟨HW.out.bs, HW.out.m, HW.out.l, HW.out.p1, HW.out.p2⟩
  case hnp => rfl
  case hv => first | exact ⟨_, fun _ => rfl⟩ | exact ⟨undef, fun _ => rfl⟩
  apply obl_det
  case hrun =>
    intro D y wz hW hD R hR
    have HRR := Lib.hid hR
    clear hR
    have HW := Lib.hid hW
    clear hW hD
    go_wp2_with fail
    exact HRR.out _ ⟨HW.out.bs, HW.out.m, HW.out.l, HW.out.p1, HW.out.p2⟩
  case hnp => rfl
  case hv => first | exact ⟨_, fun _ => rfl⟩ | exact ⟨undef, fun _ => rfl⟩
  apply obl_det
  case hrun =>
    intro D y wz hW hD R hR
    have HRR := Lib.hid hR
    clear hR
    have HW := Lib.hid hW
    clear hW hD
    go_wp2_with fail
    exact HRR.out _ ⟨HW.out.bs, HW.out.m, HW.out.l, HW.out.p1, HW.out.p2⟩
  case hnp => rfl
  case hv => first | exact ⟨_, fun _ => rfl⟩ | exact ⟨undef, fun _ => rfl⟩
  apply obl_det
  case hrun =>
    intro D y wz hW hD R hR
    have HRR := Lib.hid hR
    clear hR
    have HW := Lib.hid hW
    clear hW hD
    go_wp2_with fail
    exact HRR.out _ ⟨HW.out.bs, HW.out.m, HW.out.l, HW.out.p1, HW.out.p2⟩
  case hnp => rfl
  case hv => first | exact ⟨_, fun _ => rfl⟩ | exact ⟨undef, fun _ => rfl⟩
  apply obl_det
  case hrun =>
    intro D y wz hW hD R hR
    have HRR := Lib.hid hR
    clear hR
    have HW := Lib.hid hW
    clear hW hD
    go_wp2_with fail
    exact HRR.out _ ⟨HW.out.bs, HW.out.m, HW.out.l, HW.out.p1, HW.out.p2⟩
  case hnp => rfl
  case hv => first | exact ⟨_, fun _ => rfl⟩ | exact ⟨undef, fun _ => rfl⟩
  apply obl_det
  case hrun =>
    intro D y wz hW hD R hR
    have HRR := Lib.hid hR
    clear hR
    have HW := Lib.hid hW
    clear hW hD
    go_wp2_with fail
    exact HRR.out _ ⟨HW.out.bs, HW.out.m, HW.out.l, HW.out.p1, HW.out.p2⟩
  case hnp => rfl
  case hv => first | exact ⟨_, fun _ => rfl⟩ | exact ⟨undef, fun _ => rfl⟩
  apply obl_det
  case hrun =>
    intro D y wz hW hD R hR
    have HRR := Lib.hid hR
    clear hR
    have HW := Lib.hid hW
    clear hW hD
    go_wp2_with fail
    exact HRR.out _ ⟨HW.out.bs, HW.out.m, HW.out.l, HW.out.p1, HW.out.p2⟩
  case hnp => rfl
  case hv => first | exact ⟨_, fun _ => rfl⟩ | exact ⟨undef, fun _ => rfl⟩
  apply obl_det
  case hrun =>
    intro D y wz hW hD R hR
    have HRR := Lib.hid hR
    clear hR
    have HW := Lib.hid hW
    clear hW hD
    go_wp2_with fail
    exact HRR.out _ ⟨HW.out.bs, HW.out.m, HW.out.l, HW.out.p1, HW.out.p2⟩
  case hnp => rfl
  case hv => first | exact ⟨_, fun _ => rfl⟩ | exact ⟨undef, fun _ => rfl⟩
  apply obl_det
  case hrun =>
    intro D y wz hW hD R hR
    have HRR := Lib.hid hR
    clear hR
    have HW := Lib.hid hW
    clear hW hD
    go_wp2_with fail
    exact HRR.out _ ⟨HW.out.bs, HW.out.m, HW.out.l, HW.out.p1, HW.out.p2⟩
  case hnp => rfl
  case hv => first | exact ⟨_, fun _ => rfl⟩ | exact ⟨undef, fun _ => rfl⟩
  apply obl_det
  case hrun =>
    intro D y wz hW hD R hR
    have HRR := Lib.hid hR
    clear hR
    have HW := Lib.hid hW
    clear hW hD
    go_wp2_with fail
    exact HRR.out _ ⟨HW.out.bs, HW.out.m, HW.out.l, HW.out.p1, HW.out.p2⟩
  case hnp => rfl
  case hv => first | exact ⟨_, fun _ => rfl⟩ | exact ⟨undef, fun _ => rfl⟩
  apply obl_det
  case hrun =>
    intro D y wz hW hD R hR
    have HRR := Lib.hid hR
    clear hR
    have HW := Lib.hid hW
    clear hW hD
    go_wp2_with fail
    exact HRR.out _ ⟨HW.out.bs, HW.out.m, HW.out.l, HW.out.p1, HW.out.p2⟩
  case hnp => rfl
  case hv => first | exact ⟨_, fun _ => rfl⟩ | exact ⟨undef, fun _ => rfl⟩
  apply obl_det
  case hrun =>
    intro D y wz hW hD R hR
    have HRR := Lib.hid hR
    clear hR
    have HW := Lib.hid hW
    clear hW hD
    go_wp2_with fail
    exact HRR.out _ ⟨HW.out.bs, HW.out.m, HW.out.l, HW.out.p1, HW.out.p2⟩
  case hnp => rfl
  case hv => first | exact ⟨_, fun _ => rfl⟩ | exact ⟨undef, fun _ => rfl⟩
  apply obl_det
  case hrun =>
    intro D y wz hW hD R hR
    have HRR := Lib.hid hR
    clear hR
    have HW := Lib.hid hW
    clear hW hD
    go_wp2_with fail
    exact HRR.out _ ⟨HW.out.bs, HW.out.m, HW.out.l, HW.out.p1, HW.out.p2⟩
  case hnp => rfl
  case hv => first | exact ⟨_, fun _ => rfl⟩ | exact ⟨undef, fun _ => rfl⟩
  apply obl_det
  case hrun =>
    intro D y wz hW hD R hR
    have HRR := Lib.hid hR
    clear hR
    have HW := Lib.hid hW
    clear hW hD
    go_wp2_with fail
    exact HRR.out _ ⟨HW.out.bs, HW.out.m, HW.out.l, HW.out.p1, HW.out.p2⟩
  case hnp => rfl
  case hv => first | exact ⟨_, fun _ => rfl⟩ | exact ⟨undef, fun _ => rfl⟩
  apply obl_det
  case hrun =>
    intro D y wz hW hD R hR
    have HRR := Lib.hid hR
    clear hR
    have HW := Lib.hid hW
    clear hW hD
    go_wp2_with fail
    exact HRR.out _ ⟨HW.out.bs, HW.out.m, HW.out.l, HW.out.p1, HW.out.p2⟩
  case hnp => rfl
  case hv => first | exact ⟨_, fun _ => rfl⟩ | exact ⟨undef, fun _ => rfl⟩
  apply obl_det
  case hrun =>
    intro D y wz hW hD R hR
    have HRR := Lib.hid hR
    clear hR
    have HW := Lib.hid hW
    clear hW hD
    go_wp2_with fail
    exact HRR.out _ ⟨HW.out.bs, HW.out.m, HW.out.l, HW.out.p1, HW.out.p2⟩
  case hnp => rfl
  case hv => first | exact ⟨_, fun _ => rfl⟩ | exact ⟨undef, fun _ => rfl⟩
  apply obl_priv 139
  case hd => rfl
  case hp => rfl
  case hrun =>
    intro D y wz hW hD R hR
    have HRR := Lib.hid hR
    clear hR
    have HW := Lib.hid hW
    clear hW hD
    have HN := Lib.hid (HW.out.next (allocU wz (.cells #[.int .i64 4, .int .i64 15, .int .i64 1] 3)))
    go_wp2_with fail
    refine HRR.out _ _ ?_
    exact ⟨HN.out.bs, HN.out.m, HN.out.l, fun _ => intsIn_blk (l := [4, 15, 1]) (heap_alloc_new wz (.cells #[.int .i64 4, .int .i64 15, .int .i64 1] 3)) rfl (by decide) rfl, HN.out.p2⟩
  apply obl_det
  case hrun =>
    intro D y wz hW hD R hR
    have HRR := Lib.hid hR
    clear hR
    have HD : Hid (D 62 = true) := hD.pre _ 62 rfl (by kernel_rfl)
    have HW := Lib.hid hW
    clear hW hD
    go_wp2_with fail
    refine (ints_same _ v6 (y 139) wz HW.out.m (HW.out.p1 HD.out)).mono ?_
    rintro e w' ⟨rfl, hb⟩
    have HW2 := Lib.hid (HW.out.next hb)
    clear hb
    go_wp2_with fail
    exact HRR.out _ ⟨HW2.out.bs, HW2.out.m, HW2.out.l, HW2.out.p1, HW2.out.p2⟩
  case hnp => rfl
  case hv => first | exact ⟨_, fun _ => rfl⟩ | exact ⟨undef, fun _ => rfl⟩
  apply obl_det
  case hrun =>
    intro D y wz hW hD R hR
    have HRR := Lib.hid hR
    clear hR
    have HW := Lib.hid hW
    clear hW hD
    go_wp2_with fail
    exact HRR.out _ ⟨HW.out.bs, HW.out.m, HW.out.l, HW.out.p1, HW.out.p2⟩
  case hnp => rfl
  case hv => first | exact ⟨_, fun _ => rfl⟩ | exact ⟨undef, fun _ => rfl⟩
  apply obl_det
  case hrun =>
    intro D y wz hW hD R hR
    have HRR := Lib.hid hR
    clear hR
    have HW := Lib.hid hW
    clear hW hD
    go_wp2_with fail
    exact HRR.out _ ⟨HW.out.bs, HW.out.m, HW.out.l, HW.out.p1, HW.out.p2⟩
  case hnp => rfl
  case hv => first | exact ⟨_, fun _ => rfl⟩ | exact ⟨undef, fun _ => rfl⟩
  apply obl_det
  case hrun =>
    intro D y wz hW hD R hR
    have HRR := Lib.hid hR
    clear hR
    have HW := Lib.hid hW
    clear hW hD
    go_wp2_with fail
    exact HRR.out _ ⟨HW.out.bs, HW.out.m, HW.out.l, HW.out.p1, HW.out.p2⟩
  case hnp => rfl
  case hv => first | exact ⟨_, fun _ => rfl⟩ | exact ⟨undef, fun _ => rfl⟩
  apply obl_det
  case hrun =>
    intro D y wz hW hD R hR
    have HRR := Lib.hid hR
    clear hR
    have HW := Lib.hid hW
    clear hW hD
    go_wp2_with fail
    exact HRR.out _ ⟨HW.out.bs, HW.out.m, HW.out.l, HW.out.p1, HW.out.p2⟩
  case hnp => rfl
  case hv => first | exact ⟨_, fun _ => rfl⟩ | exact ⟨undef, fun _ => rfl⟩
  apply obl_det
  case hrun =>
    intro D y wz hW hD R hR
    have HRR := Lib.hid hR
    clear hR
    have HW := Lib.hid hW
    clear hW hD
    go_wp2_with fail
    exact HRR.out _ ⟨HW.out.bs, HW.out.m, HW.out.l, HW.out.p1, HW.out.p2⟩
  case hnp => rfl
  case hv => first | exact ⟨_, fun _ => rfl⟩ | exact ⟨undef, fun _ => rfl⟩
  apply obl_det
  case hrun =>
    intro D y wz hW hD R hR
    have HRR := Lib.hid hR
    clear hR
    have HW := Lib.hid hW
    clear hW hD
    go_wp2_with fail
    exact HRR.out _ ⟨HW.out.bs, HW.out.m, HW.out.l, HW.out.p1, HW.out.p2⟩
  case hnp => rfl
  case hv => first | exact ⟨_, fun _ => rfl⟩ | exact ⟨undef, fun _ => rfl⟩
  apply obl_det
  case hrun =>
    intro D y wz hW hD R hR
    have HRR := Lib.hid hR
    clear hR
    have HW := Lib.hid hW
    clear hW hD
    refine wpList_load_want rfl 41 _ rfl _ rfl _ _ _ _ (HW.out.bs.get 2 rfl) Tryz.underlying41 rfl infoSpan ?_
    go_simp
    exact HRR.out _ ⟨HW.out.bs, HW.out.m, HW.out.l, HW.out.p1, HW.out.p2⟩
  case hnp => rfl
  case hv => first | exact ⟨_, fun _ => rfl⟩ | exact ⟨undef, fun _ => rfl⟩
  apply obl_det
  case hrun =>
    intro D y wz hW hD R hR
    have HRR := Lib.hid hR
    clear hR
    have HW := Lib.hid hW
    clear hW hD
    go_wp2_with fail
    refine (span2w 400 100000 _).mono ?_
    rintro e w' ⟨rfl, hb⟩
    have HW2 := Lib.hid (HW.out.next hb)
    clear hb
    go_wp2_with fail
    exact HRR.out _ ⟨HW2.out.bs, HW2.out.m, HW2.out.l, HW2.out.p1, HW2.out.p2⟩
  case hnp => rfl
  case hv => first | exact ⟨_, fun _ => rfl⟩ | exact ⟨undef, fun _ => rfl⟩
  apply obl_det
  case hrun =>
    intro D y wz hW hD R hR
    have HRR := Lib.hid hR
    clear hR
    have HW := Lib.hid hW
    clear hW hD
    go_wp2_with fail
    exact HRR.out _ ⟨HW.out.bs, HW.out.m, HW.out.l, HW.out.p1, HW.out.p2⟩
  case hnp => rfl
  case hv => first | exact ⟨_, fun _ => rfl⟩ | exact ⟨undef, fun _ => rfl⟩
  apply obl_det
  case hrun =>
    intro D y wz hW hD R hR
    have HRR := Lib.hid hR
    clear hR
    have HW := Lib.hid hW
    clear hW hD
    go_wp2_with fail
    exact HRR.out _ ⟨HW.out.bs, HW.out.m, HW.out.l, HW.out.p1, HW.out.p2⟩
  case hnp => rfl
  case hv => first | exact ⟨_, fun _ => rfl⟩ | exact ⟨undef, fun _ => rfl⟩
  apply obl_det
  case hrun =>
    intro D y wz hW hD R hR
    have HRR := Lib.hid hR
    clear hR
    have HW := Lib.hid hW
    clear hW hD
    go_wp2_with fail
    exact HRR.out _ ⟨HW.out.bs, HW.out.m, HW.out.l, HW.out.p1, HW.out.p2⟩
  case hnp => rfl
  case hv => first | exact ⟨_, fun _ => rfl⟩ | exact ⟨undef, fun _ => rfl⟩
  apply obl_det
  case hrun =>
    intro D y wz hW hD R hR
    have HRR := Lib.hid hR
    clear hR
    have HW := Lib.hid hW
    clear hW hD
    go_wp2_with fail
    exact HRR.out _ ⟨HW.out.bs, HW.out.m, HW.out.l, HW.out.p1, HW.out.p2⟩
  case hnp => rfl
  case hv => first | exact ⟨_, fun _ => rfl⟩ | exact ⟨undef, fun _ => rfl⟩
  apply obl_priv 153
  case hd => rfl
  case hp => rfl
  case hrun =>
    intro D y wz hW hD R hR
    have HRR := Lib.hid hR
    clear hR
    have HW := Lib.hid hW
    clear hW hD
    have HN := Lib.hid (HW.out.next (allocU wz (.cells #[.int .i64 200, .int .i64 750, .int .i64 51] 3)))
    go_wp2_with fail
    refine HRR.out _ _ ?_
    exact ⟨HN.out.bs, HN.out.m, HN.out.l, HN.out.p1, fun _ => intsIn_blk (l := [200, 750, 51]) (heap_alloc_new wz (.cells #[.int .i64 200, .int .i64 750, .int .i64 51] 3)) rfl (by decide) rfl⟩
  apply obl_det
  case hrun =>
    intro D y wz hW hD R hR
    have HRR := Lib.hid hR
    clear hR
    have HD : Hid (D 76 = true) := hD.pre _ 76 rfl (by kernel_rfl)
    have HW := Lib.hid hW
    clear hW hD
    go_wp2_with fail
    refine (ints_same _ v8 (y 153) wz HW.out.l (HW.out.p2 HD.out)).mono ?_
    rintro e w' ⟨rfl, hb⟩
    have HW2 := Lib.hid (HW.out.next hb)
    clear hb
    go_wp2_with fail
    exact HRR.out _ ⟨HW2.out.bs, HW2.out.m, HW2.out.l, HW2.out.p1, HW2.out.p2⟩
  case hnp => rfl
  case hv => first | exact ⟨_, fun _ => rfl⟩ | exact ⟨undef, fun _ => rfl⟩
  apply obl_det
  case hrun =>
    intro D y wz hW hD R hR
    have HRR := Lib.hid hR
    clear hR
    have HW := Lib.hid hW
    clear hW hD
    go_wp2_with fail
    exact HRR.out _ ⟨HW.out.bs, HW.out.m, HW.out.l, HW.out.p1, HW.out.p2⟩
  case hnp => rfl
  case hv => first | exact ⟨_, fun _ => rfl⟩ | exact ⟨undef, fun _ => rfl⟩
  apply obl_det
  case hrun =>
    intro D y wz hW hD R hR
    have HRR := Lib.hid hR
    clear hR
    have HW := Lib.hid hW
    clear hW hD
    go_wp2_with fail
    exact HRR.out _ ⟨HW.out.bs, HW.out.m, HW.out.l, HW.out.p1, HW.out.p2⟩
  case hnp => rfl
  case hv => first | exact ⟨_, fun _ => rfl⟩ | exact ⟨undef, fun _ => rfl⟩
  apply obl_nil
  intro D y w8 hall hW
  have HBel := Lib.hid hW.bs.bel
  clear hW hall
  go_wp2_with fail
  go_ret
  exact ⟨rfl, HBel.out⟩
end Go.Proofs.YtohglbfeahofhaaGreat
