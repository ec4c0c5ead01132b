/- stearinref04: in, Taper, numbers. -/
import Derived.Test.YtpkggjobdmchlaaGreatDoorE6
import Derived.Deep.Cut
import Derived.Deep.CutBlock
namespace Go.Proofs.YtpkggjobdmchlaaGreatDoor
open Go.RowKit
theorem in4_r (r : Bool) (n lo hi : Int) (w : World) (hr : inB n lo hi = r) : Calls Tryz.prog 16 #[.int .i64 n, .int .i64 lo, .int .i64 hi] w fun e w' => e = .returned (.bool r) ∧ w = w' := by
  subst hr
  unfold inB
  go_enter Tryz.func16, Tryz.ntmps16
  by_cases h : lo ≤ n
  · have h1 : decide (lo ≤ n) = true := by simpa using h
    go_wp2
    all_goals (go_ret; exact ⟨by simp [h], rfl⟩)
  · have h1 : decide (lo ≤ n) = false := by simpa using h
    go_wp2
    all_goals (go_ret; exact ⟨by simp, rfl⟩)
theorem inB_true {n lo hi : Int} (h : inB n lo hi = true) : lo ≤ n ∧ n ≤ hi := by
  rw [inB_out] at h
  exact outOneF.1 (by simpa using h)
theorem taper4_ref (t : DTap) (w : World) : Calls Tryz.prog 6 #[.agg (tapC t)] w fun e w' => ∃ E : Int, e = .returned (.int .i64 E) ∧ (E = 0 → TapOk t) ∧ Below w.heap.size w w' := by
  obtain ⟨wk, tp, ft⟩ := t
  have C0 := Lib.hid ((Bs.nil w).push _ rfl (.cells (tapC ⟨wk, tp, ft⟩) 34))
  have c_0 := C0.out.cell 0 rfl 0
  have c_1 := C0.out.cell 0 rfl 1
  have c_2 := C0.out.cell 0 rfl 2
  go_enter Tryz.func6, Tryz.ntmps6
  obtain ⟨r0, HR0⟩ : ∃ r, Hid (inB (wk) 0 100000 = r) := ⟨_, rfl⟩
  go_wp2_with fail
  refine (in4_r r0 _ _ _ _ HR0.out).mono ?_
  rintro e w' ⟨rfl, rfl⟩
  cases r0
  · go_wp2_with (first | go_skip | fail)
    go_ret
    exact ⟨7, rfl, fun h => absurd h (by decide), C0.out.bel⟩
  obtain ⟨r1, HR1⟩ : ∃ r, Hid (inB (tp) 0 100000 = r) := ⟨_, rfl⟩
  go_wp2_with fail
  refine (in4_r r1 _ _ _ _ HR1.out).mono ?_
  rintro e w' ⟨rfl, rfl⟩
  cases r1
  · go_wp2_with (first | go_skip | fail)
    go_ret
    exact ⟨7, rfl, fun h => absurd h (by decide), C0.out.bel⟩
  obtain ⟨r2, HR2⟩ : ∃ r, Hid (inB (ft) 0 100000 = r) := ⟨_, rfl⟩
  go_wp2_with fail
  refine (in4_r r2 _ _ _ _ HR2.out).mono ?_
  rintro e w' ⟨rfl, rfl⟩
  cases r2
  · go_wp2_with (first | go_skip | fail)
    go_ret
    exact ⟨7, rfl, fun h => absurd h (by decide), C0.out.bel⟩
  by_cases h1 : tp < wk
  · go_wp2_with (first | go_skip | fail)
    go_ret
    exact ⟨2, rfl, fun h => absurd h (by decide), C0.out.bel⟩
  by_cases h2 : ft < wk
  · go_wp2_with (first | go_skip | fail)
    go_ret
    exact ⟨2, rfl, fun h => absurd h (by decide), C0.out.bel⟩
  go_wp2_with (first | go_skip | fail)
  go_ret
  have a0 := inB_true HR0.out
  have a1 := inB_true HR1.out
  have a2 := inB_true HR2.out
  exact ⟨0, rfl, fun _ => ⟨by simp only; omega, by simp only; omega, by simp only; omega⟩, C0.out.bel⟩
/-- The numbers of a shop are in order. -/
structure NumOk (s : DShop) : Prop where
  melt : 0 ≤ s.melt ∧ s.melt ≤ 2000
  coat : 0 ≤ s.coat ∧ s.coat ≤ 5000
  thin : 0 ≤ s.thin ∧ s.thin ≤ 100
  back : 0 ≤ s.back ∧ s.back ≤ 10
  hold : 0 ≤ s.hold ∧ s.hold ≤ 600
  draw : 0 ≤ s.draw ∧ s.draw ≤ 600
  set : 0 ≤ s.set ∧ s.set ≤ 600
  run : 0 ≤ s.run ∧ s.run ≤ 50
def NumR (s : DShop) (w : World) : Ending → World → Prop := fun e w' => ∃ r : Bool, e = .returned (.bool r) ∧ (r = true → NumOk s) ∧ Below w.heap.size w w'
theorem NumR.mk {s : DShop} {w w' : World} (r : Bool) (h1 : r = true → NumOk s) (h2 : Below w.heap.size w w') : NumR s w (.returned (.bool r)) w' := ⟨r, rfl, h1, h2⟩
set_option maxHeartbeats 8000000 in
theorem numbers_ref (s : DShop) (v : Value) (w : World) : Calls Tryz.prog 15 #[.agg (dshopC s v)] w (NumR s w) := by
  obtain ⟨melt, coat, thin, hold, back, draw, st, run, baths⟩ := s
  have C00 := Lib.hid ((Bs.nil w).push _ rfl (.cells (dshopC ⟨melt, coat, thin, hold, back, draw, st, run, baths⟩ v) 30))
  have c_3 := C00.out.cell 0 rfl 3
  have c_5 := C00.out.cell 0 rfl 5
  have c_6 := C00.out.cell 0 rfl 6
  obtain ⟨w1, HW1⟩ : ∃ z, Hid (((w.alloc (.cells (dshopC ⟨melt, coat, thin, hold, back, draw, st, run, baths⟩ v) 30)).alloc (.cells #[.int .i64 hold, .int .i64 draw, .int .i64 st] 3)) = z) := ⟨_, rfl⟩
  have C0 : Hid (Bs w [(w.heap.size, .cells (dshopC ⟨melt, coat, thin, hold, back, draw, st, run, baths⟩ v) 30), (w.heap.size + 1, .cells #[.int .i64 hold, .int .i64 draw, .int .i64 st] 3)] w1) := by rw [← HW1.out]; exact C00.out.push (w.heap.size + 1) (by simp) (.cells #[.int .i64 hold, .int .i64 draw, .int .i64 st] 3)
  have HLI : Hid (∀ k, k < 3 → w1.cell? ⟨w.heap.size + 1, k, none⟩ = some (.int .i64 (([hold, draw, st] : List Int).getD k 0))) := fun k hk => (C0.out.cell 1 rfl k).trans (ints_get [hold, draw, st] k hk)
  go_enter Tryz.func15, Tryz.ntmps15
  go_upto_region 2 with fail
  rw [HW1.out]
  clear c_3 c_5 c_6 C00 HW1
  go_wp2_with fail
  go_loopw [4] (fun iv wr => ∃ k : Nat, iv = .int .i64 k ∧ k ≤ 3 ∧ wr = w1 ∧ ∀ j, j < k → inB (([hold, draw, st] : List Int).getD j 0) 0 600 = true) (fun iv _ => 3 - (intOf iv).toNat)
  case atStart => exact ⟨0, rfl, by omega, rfl, fun j h => by omega⟩
  case round =>
    obtain ⟨k, rfl, hk, rfl, hall⟩ := hrel
    have HALL := Lib.hid hall
    clear hall
    by_cases hkl : k < 3
    · have hki : (k : Int) < 3 := by omega
      have c_k := HLI.out k hkl
      obtain ⟨x, HX⟩ : ∃ x, Hid (([hold, draw, st] : List Int).getD k 0 = x) := ⟨_, rfl⟩
      rw [HX.out] at c_k
      obtain ⟨r, HR⟩ : ∃ r, Hid (inB x 0 600 = r) := ⟨_, rfl⟩
      go_wp2_with fail
      refine (in4_r r _ _ _ _ HR.out).mono ?_
      rintro e w' ⟨rfl, rfl⟩
      cases r with
      | false =>
        go_wp2_with fail
        go_ret
        exact NumR.mk false (fun h => by cases h) C0.out.bel
      | true =>
        go_wp2_with fail
        refine ⟨⟨k + 1, by push_cast; rfl, by omega, by first | rfl | trivial, fun j hj => ?_⟩, ?_⟩
        · by_cases e : j = k
          · rw [e, HX.out]; exact HR.out
          · exact HALL.out j (by omega)
        · simp [intOf]; omega
    · obtain rfl : k = 3 := by omega
      have c_0 := C0.out.cell 0 rfl 0
      have c_1 := C0.out.cell 0 rfl 1
      have c_2 := C0.out.cell 0 rfl 2
      have c_4 := C0.out.cell 0 rfl 4
      have c_7 := C0.out.cell 0 rfl 7
      obtain ⟨r0, HR0⟩ : ∃ r, Hid (inB (melt) 0 2000 = r) := ⟨_, rfl⟩
      go_wp2_with fail
      refine (in4_r r0 _ _ _ _ HR0.out).mono ?_
      rintro e w' ⟨rfl, rfl⟩
      cases r0
      · go_wp2_with (first | go_skip | fail)
        go_ret
        exact NumR.mk false (fun h => by cases h) C0.out.bel
      obtain ⟨r1, HR1⟩ : ∃ r, Hid (inB (coat) 0 5000 = r) := ⟨_, rfl⟩
      go_wp2_with fail
      refine (in4_r r1 _ _ _ _ HR1.out).mono ?_
      rintro e w' ⟨rfl, rfl⟩
      cases r1
      · go_wp2_with (first | go_skip | fail)
        go_ret
        exact NumR.mk false (fun h => by cases h) C0.out.bel
      obtain ⟨r2, HR2⟩ : ∃ r, Hid (inB (thin) 0 100 = r) := ⟨_, rfl⟩
      go_wp2_with fail
      refine (in4_r r2 _ _ _ _ HR2.out).mono ?_
      rintro e w' ⟨rfl, rfl⟩
      cases r2
      · go_wp2_with (first | go_skip | fail)
        go_ret
        exact NumR.mk false (fun h => by cases h) C0.out.bel
      obtain ⟨r3, HR3⟩ : ∃ r, Hid (inB (back) 0 10 = r) := ⟨_, rfl⟩
      go_wp2_with fail
      refine (in4_r r3 _ _ _ _ HR3.out).mono ?_
      rintro e w' ⟨rfl, rfl⟩
      cases r3
      · go_wp2_with (first | go_skip | fail)
        go_ret
        exact NumR.mk false (fun h => by cases h) C0.out.bel
      obtain ⟨r4, HR4⟩ : ∃ r, Hid (inB (run) 0 50 = r) := ⟨_, rfl⟩
      go_wp2_with fail
      refine (in4_r r4 _ _ _ _ HR4.out).mono ?_
      rintro e w' ⟨rfl, rfl⟩
      cases r4
      · go_wp2_with (first | go_skip | fail)
        go_ret
        exact NumR.mk false (fun h => by cases h) C0.out.bel
      have b0 := inB_true (HALL.out 0 (by omega))
      have b1 := inB_true (HALL.out 1 (by omega))
      have b2 := inB_true (HALL.out 2 (by omega))
      simp only [List.getD_cons_zero, List.getD_cons_succ] at b0 b1 b2
      have a0 := inB_true HR0.out
      have a1 := inB_true HR1.out
      have a2 := inB_true HR2.out
      have a3 := inB_true HR3.out
      have a4 := inB_true HR4.out
      go_wp2_with fail
      go_ret
      exact NumR.mk true (fun _ => ⟨a0, a1, a2, a3, b0, b1, b2, a4⟩) C0.out.bel
end Go.Proofs.YtpkggjobdmchlaaGreatDoor
/- stearinref04: bath, Check. -/
namespace Go.Proofs.YtpkggjobdmchlaaGreatDoor
open Go.RowKit
/-- A bath is in order. -/
structure BathOk (s : DShop) (i : Nat) : Prop where
  name : nameB (s.baths.getD i default).name = true
  twice : ∀ j, j < i → sameN (s.baths.getD j default).name (s.baths.getD i default).name = false
  warm : s.melt ≤ (s.baths.getD i default).warm.1 ∧ (s.baths.getD i default).warm.1 ≤ (s.baths.getD i default).warm.2 ∧ (s.baths.getD i default).warm.2 ≤ 2000
def BathR (s : DShop) (i : Nat) (w : World) : Ending → World → Prop := fun e w' => ∃ E : Int, e = .returned (.int .i64 E) ∧ (E = 0 → BathOk s i) ∧ Below w.heap.size w w'
theorem BathR.mk {s : DShop} {i : Nat} {w w' : World} (E : Int) (h1 : E = 0 → BathOk s i) (h2 : Below w.heap.size w w') : BathR s i w (.returned (.int .i64 E)) w' := ⟨E, rfl, h1, h2⟩
theorem take_any {α : Type} [Inhabited α] {l : List α} {f : α → Bool} {i : Nat} (h : ∀ j, j < i → f (l.getD j default) = false) : (l.take i).any f = false := by
  rw [List.any_eq_false]
  intro x hx
  obtain ⟨j, hj, rfl⟩ := List.getElem_of_mem hx
  rw [List.length_take] at hj
  have h1 := h j (by omega)
  rw [List.getD_eq_getElem?_getD, List.getElem?_eq_getElem (by omega)] at h1
  rw [List.getElem_take]
  simpa using h1
set_option maxRecDepth 100000 in
set_option maxHeartbeats 8000000 in
theorem bath4_ref (s : DShop) (i : Nat) (hi : i < s.baths.length) (v : Value) (w : World) (hv : DBathsIn w.heap.size w v s.baths) : Calls Tryz.prog 17 #[.agg (dshopC s v), .int .i64 i] w (BathR s i w) := by
  obtain ⟨va, vc, rfl, -, hlm⟩ := sl_shape hv
  obtain ⟨b, o, he, hbl, -⟩ := hv.at' hi
  subst he
  have HBL : Hid (b < w.heap.size) := hbl
  have HC0 : Hid (∀ k, k < s.baths.length → w.cell? ⟨b, o + k * 3, none⟩ = some (.string (s.baths.getD k default).name) ∧ (s.baths.getD k default).name.size ≤ 1000000000000000 ∧ w.cell? ⟨b, o + k * 3 + 1, none⟩ = some (.int .i64 (s.baths.getD k default).warm.1) ∧ w.cell? ⟨b, o + k * 3 + 2, none⟩ = some (.int .i64 (s.baths.getD k default).warm.2)) := fun k hk => by
    obtain ⟨b', o', he, -, h1, h2, h3, h4⟩ := hv.at' hk
    cases he
    exact ⟨h1, h2, h3, h4⟩
  have hii : (i : Int) < (s.baths.length : Int) := by omega
  obtain ⟨q0, q1, q2, q3⟩ := HC0.out i hi
  have HIL := Lib.hid hi
  have HBK : ∀ (E : Int) (w' : World), Hid (BathOk s i → BathOk s i) := fun _ _ => Lib.hid id
  clear HBK hbl hv hi
  obtain ⟨B, HBE⟩ : ∃ B, Hid (s.baths.getD i default = B) := ⟨_, rfl⟩
  rw [HBE.out] at q0 q1 q2 q3
  have HSZ := Lib.hid q1
  have C1 := Lib.hid ((Bs.nil w).push _ rfl (.cells (dshopC s (.slice (some ⟨b, o, none⟩) s.baths.length vc)) 30))
  have c_8 := C1.out.cell 0 rfl 8
  have p0 := (C1.out.bel.cell (p := ⟨b, o + i * 3, none⟩) HBL.out).trans q0
  have p1 := (C1.out.bel.cell (p := ⟨b, o + i * 3 + 1, none⟩) HBL.out).trans q2
  have p2 := (C1.out.bel.cell (p := ⟨b, o + i * 3 + 2, none⟩) HBL.out).trans q3
  have CP : Hid (Bs w [(w.heap.size, .cells (dshopC s (.slice (some ⟨b, o, none⟩) s.baths.length vc)) 30), (w.heap.size + 1, .cells #[.string ByteArray.empty, .int .i64 0, .int .i64 0] 124)] _) := Lib.hid (C1.out.push (w.heap.size + 1) (by simp) (.cells #[.string ByteArray.empty, .int .i64 0, .int .i64 0] 124))
  clear q0 q1 q2 q3
  go_enter Tryz.func17, Tryz.ntmps17
  go_upto_region 2 with (refine wpList_store_bs rfl 124 _ _ rfl CP.out 1 _ (bathC B) _ _ rfl rfl rfl infoDB rfl (by simp [Value.oneCell']) ?_; intro w2 hC; have C2 : Hid (Bs w [(w.heap.size, .cells (dshopC s (.slice (some ⟨b, o, none⟩) s.baths.length vc)) 30), (w.heap.size + 1, .cells (bathC B) 124)] w2) := hC; clear hC CP C1 c_8 p0 p1 p2)
  have c_n := C2.out.cell 1 rfl 0
  go_wp2_with fail
  refine (refName_any B.name _ HSZ.out).mono ?_
  rintro e w3 ⟨rfl, rfl⟩
  have C3 := Lib.hid C2.out
  clear C2 c_n
  obtain ⟨rn, HRN⟩ : ∃ r, Hid (nameB B.name = r) := ⟨_, rfl⟩
  rw [HRN.out]
  cases rn with
  | false =>
    go_wp2_with fail
    go_ret
    exact BathR.mk 6 (fun h => absurd h (by decide)) C3.out.bel
  | true =>
  go_wp2_with fail
  go_loopw [6] (fun iv wr => ∃ k : Nat, iv = .int .i64 k ∧ k ≤ i ∧ Bs w [(w.heap.size, .cells (dshopC s (.slice (some ⟨b, o, none⟩) s.baths.length vc)) 30), (w.heap.size + 1, .cells (bathC B) 124)] wr ∧ ∀ j, j < k → sameN (s.baths.getD j default).name B.name = false) (fun iv _ => i - (intOf iv).toNat)
  case atStart => exact ⟨0, rfl, by omega, C3.out, fun j h => by omega⟩
  case round =>
    obtain ⟨k, rfl, hk, hbs, hall⟩ := hrel
    have HALL := Lib.hid hall
    have C4 := Lib.hid hbs
    clear hall hbs C3
    by_cases hkl : k < i
    · have hki : (k : Int) < (i : Int) := by omega
      have hkn : (k : Int) < (s.baths.length : Int) := by omega
      have HKN : Hid (k < s.baths.length) := by unfold Hid; omega
      obtain ⟨nk, HNK⟩ : ∃ z, Hid ((s.baths.getD k default).name = z) := ⟨_, rfl⟩
      obtain ⟨sb, HSB⟩ : ∃ r, Hid ((nk.toList == B.name.toList) = r) := ⟨_, rfl⟩
      have HCK : Hid (w.cell? ⟨b, o + k * 3, none⟩ = some (.string nk)) := by rw [← HNK.out]; exact (HC0.out k HKN.out).1
      go_upto_region 7 with fail
      refine wp_region_inv0 (by kernel_rfl) (by kernel_rfl) (fun D w' => Bs w [(w.heap.size, .cells (dshopC s (.slice (some ⟨b, o, none⟩) s.baths.length vc)) 30), (w.heap.size + 1, .cells (bathC B) 124)] w') C4.out.drew ?_
      apply obl_det
      case hrun =>
        intro D y wz hW hD R hR
        have HRR := Lib.hid hR
        clear hR
        have HW := Lib.hid hW
        clear hW hD
        go_wp2_with fail
        exact HRR.out _ HW.out
      case hnp => rfl
      case hv => first | exact ⟨_, fun _ => rfl⟩ | exact ⟨undef, fun _ => rfl⟩
      apply obl_det
      case hrun =>
        intro D y wz hW hD R hR
        have HRR := Lib.hid hR
        clear hR
        have HW := Lib.hid hW
        have c_8 := HW.out.cell 0 rfl 8
        clear hW hD
        go_wp2_with fail
        exact HRR.out _ HW.out
      case hnp => rfl
      case hv => first | exact ⟨_, fun _ => rfl⟩ | exact ⟨undef, fun _ => rfl⟩
      iterate 3
        (apply obl_det
         case hrun =>
           intro D y wz hW hD R hR
           have HRR := Lib.hid hR
           clear hR
           have HW := Lib.hid hW
           clear hW hD
           go_wp2_with fail
           exact HRR.out _ HW.out
         case hnp => rfl
         case hv => first | exact ⟨_, fun _ => rfl⟩ | exact ⟨undef, fun _ => rfl⟩)
      apply obl_det
      case hrun =>
        intro D y wz hW hD R hR
        have HRR := Lib.hid hR
        clear hR
        have HW := Lib.hid hW
        have c_n := (HW.out.bel.cell (p := ⟨b, o + k * 3, none⟩) HBL.out).trans HCK.out
        clear hW hD
        go_wp2_with fail
        exact HRR.out _ HW.out
      case hnp => rfl
      case hv => first | exact ⟨_, fun _ => rfl⟩ | exact ⟨undef, fun _ => rfl⟩
      apply obl_det
      case hrun =>
        intro D y wz hW hD R hR
        have HRR := Lib.hid hR
        clear hR
        have HW := Lib.hid hW
        clear hW hD
        go_wp2_with fail
        exact HRR.out _ HW.out
      case hnp => rfl
      case hv => first | exact ⟨_, fun _ => rfl⟩ | exact ⟨undef, fun _ => rfl⟩
      apply obl_det
      case hrun =>
        intro D y wz hW hD R hR
        have HRR := Lib.hid hR
        clear hR
        have HW := Lib.hid hW
        have c_m := HW.out.cell 1 rfl 0
        clear hW hD
        go_wp2_with fail
        exact HRR.out _ HW.out
      case hnp => rfl
      case hv => first | exact ⟨_, fun _ => rfl⟩ | exact ⟨undef, fun _ => rfl⟩
      apply obl_det
      case hrun =>
        intro D y wz hW hD R hR
        have HRR := Lib.hid hR
        clear hR
        have HW := Lib.hid hW
        clear hW hD
        go_wp2_with fail
        exact HRR.out _ HW.out
      case hnp => rfl
      case hv => first | exact ⟨_, fun _ => rfl⟩ | exact ⟨undef, fun _ => rfl⟩
      apply obl_nil
      intro D y w8 hall hW
      have C5 := Lib.hid hW
      clear hW hall C4
      rw [HSB.out]
      cases sb with
      | true =>
        go_wp2_with fail
        go_ret
        exact BathR.mk 5 (fun h => absurd h (by decide)) C5.out.bel
      | false =>
        go_wp2_with fail
        refine ⟨⟨k + 1, by push_cast; rfl, by omega, C5.out, fun j hj => ?_⟩, ?_⟩
        · by_cases e : j = k
          · rw [e, HNK.out, sameN_comm]; exact HSB.out
          · exact HALL.out j (by omega)
        · simp [intOf]; omega
    · obtain rfl : k = i := by omega
      have c_1 := C4.out.cell 1 rfl 1
      have c_2 := C4.out.cell 1 rfl 2
      have c_0 := C4.out.cell 0 rfl 0
      obtain ⟨r0, HR0⟩ : ∃ r, Hid (inB (B.warm.1) 0 2000 = r) := ⟨_, rfl⟩
      go_wp2_with fail
      refine (in4_r r0 _ _ _ _ HR0.out).mono ?_
      rintro e w' ⟨rfl, rfl⟩
      cases r0
      · go_wp2_with (first | go_skip | fail)
        go_ret
        exact BathR.mk 7 (fun h => absurd h (by decide)) C4.out.bel
      obtain ⟨r1, HR1⟩ : ∃ r, Hid (inB (B.warm.2) 0 2000 = r) := ⟨_, rfl⟩
      go_wp2_with fail
      refine (in4_r r1 _ _ _ _ HR1.out).mono ?_
      rintro e w' ⟨rfl, rfl⟩
      cases r1
      · go_wp2_with (first | go_skip | fail)
        go_ret
        exact BathR.mk 7 (fun h => absurd h (by decide)) C4.out.bel
      by_cases h1 : B.warm.1 < s.melt
      · go_wp2_with (first | go_skip | fail)
        go_ret
        exact BathR.mk 9 (fun h => absurd h (by decide)) C4.out.bel
      by_cases h2 : B.warm.2 < B.warm.1
      · go_wp2_with (first | go_skip | fail)
        go_ret
        exact BathR.mk 2 (fun h => absurd h (by decide)) C4.out.bel
      go_wp2_with (first | go_skip | fail)
      go_ret
      have a0 := inB_true HR0.out
      have a1 := inB_true HR1.out
      refine BathR.mk 0 (fun _ => ⟨?_, ?_, ?_⟩) C4.out.bel
      · rw [HBE.out]; exact HRN.out
      · rw [HBE.out]; exact HALL.out
      · rw [HBE.out]; omega
end Go.Proofs.YtpkggjobdmchlaaGreatDoor
/- stearinref04: Check, Plan. -/
namespace Go.Proofs.YtpkggjobdmchlaaGreatDoor
open Go.RowKit
def CheckR (s : DShop) (w : World) : Ending → World → Prop := fun e w' => ∃ p i E : Int, e = .returned (.tuple #[.int .i64 p, .int .i64 i, .int .i64 E]) ∧ (E = 0 → DOk s) ∧ Below w.heap.size w w'
theorem CheckR.mk {s : DShop} {w w' : World} (p i E : Int) (h1 : E = 0 → DOk s) (h2 : Below w.heap.size w w') : CheckR s w (.returned (.tuple #[.int .i64 p, .int .i64 i, .int .i64 E])) w' := ⟨p, i, E, rfl, h1, h2⟩
theorem dok_of {s : DShop} (h : NumOk s) (h1 : 1 ≤ s.baths.length) (h6 : s.baths.length ≤ 6) (hb : ∀ i, i < s.baths.length → BathOk s i) : DOk s :=
  ⟨h.melt, h.coat, h.thin, h.back, h.hold, h.draw, h.set, h.run, h1, h6, fun i hi => (hb i hi).name, fun i hi => take_any (fun j hj => (hb i hi).twice j hj), fun i hi => (hb i hi).warm⟩
set_option maxHeartbeats 8000000 in
theorem check4_ref (s : DShop) (v : Value) (w : World) (hv : DBathsIn w.heap.size w v s.baths) : Calls Tryz.prog 4 #[.agg (dshopC s v)] w (CheckR s w) := by
  obtain ⟨va, vc, rfl, -, hlm⟩ := sl_shape hv
  have HV := Lib.hid hv
  have C1 : Hid (Bs w [(w.heap.size, .cells (dshopC s (.slice va s.baths.length vc)) 30)] _) := Lib.hid ((Bs.nil w).push _ rfl (.cells (dshopC s (.slice va s.baths.length vc)) 30))
  have HB4 := fun (i : Nat) (hi : i < s.baths.length) (v : Value) w h => Lib.hid (bath4_ref s i hi v w h)
  clear hv
  go_enter Tryz.func4, Tryz.ntmps4
  go_wp2_with (refine wpList_load_row rfl 30 _ rfl _ rfl _ _ _ _ (C1.out.get 0 rfl) Tryz.underlying30 rfl infoDS ?_)
  refine (numbers_ref s (.slice va s.baths.length vc) _).mono ?_
  rintro e w2 ⟨rn, rfl, hn, hb⟩
  have HN := Lib.hid hn
  have C2 := Lib.hid (C1.out.call hb)
  clear hn hb C1
  cases rn with
  | false =>
    go_wp2_with fail
    go_ret3
    exact CheckR.mk 1 0 7 (fun h => absurd h (by decide)) C2.out.bel
  | true =>
  have c_8 := C2.out.cell 0 rfl 8
  obtain ⟨r1, HR1⟩ : ∃ r, Hid (inB (s.baths.length : Int) 1 6 = r) := ⟨_, rfl⟩
  go_wp2_with fail
  refine (in4_r r1 _ _ _ _ HR1.out).mono ?_
  rintro e w' ⟨rfl, rfl⟩
  cases r1 with
  | false =>
    go_wp2_with fail
    go_ret3
    exact CheckR.mk 2 0 3 (fun h => absurd h (by decide)) C2.out.bel
  | true =>
  go_wp2_with fail
  go_loopw [5] (fun iv wr => ∃ k : Nat, iv = .int .i64 k ∧ k ≤ s.baths.length ∧ Bs w [(w.heap.size, .cells (dshopC s (.slice va s.baths.length vc)) 30)] wr ∧ ∀ j, j < k → BathOk s j) (fun iv _ => s.baths.length - (intOf iv).toNat)
  case atStart => exact ⟨0, rfl, by omega, C2.out, fun j h => by omega⟩
  case round =>
    obtain ⟨k, rfl, hk, hbs, hall⟩ := hrel
    have HALL := Lib.hid hall
    have C3 := Lib.hid hbs
    clear hall hbs C2 c_8
    have c_8 := C3.out.cell 0 rfl 8
    by_cases hkl : k < s.baths.length
    · have hki : (k : Int) < (s.baths.length : Int) := by omega
      go_wp2_with (refine wpList_load_row rfl 30 _ rfl _ rfl _ _ _ _ (C3.out.get 0 rfl) Tryz.underlying30 rfl infoDS ?_)
      refine (HB4 k hkl _ _ ((HV.out.below C3.out.bel).mono C3.out.bel.size)).out.mono ?_
      rintro e w4 ⟨E, rfl, hE, hb⟩
      have HE := Lib.hid hE
      have C4 := Lib.hid (C3.out.call hb)
      clear hE hb C3 c_8
      by_cases hz : E = 0
      · subst hz
        go_wp2_with fail
        refine ⟨⟨k + 1, by push_cast; rfl, by omega, C4.out, fun j hj => ?_⟩, ?_⟩
        · by_cases e : j = k
          · rw [e]; exact HE.out (by first | rfl | trivial)
          · exact HALL.out j (by omega)
        · simp [intOf]; omega
      · have hq : (E != 0) = true := by simpa using hz
        have HZ := Lib.hid hz
        clear hz
        go_wp2_with fail
        go_ret3
        exact CheckR.mk 2 _ E (fun h => absurd h HZ.out) C4.out.bel
    · obtain rfl : k = s.baths.length := by omega
      go_wp2_with fail
      go_ret3
      have a1 := inB_true HR1.out
      exact CheckR.mk 0 0 0 (fun _ => dok_of (HN.out (by first | rfl | trivial)) (by omega) (by omega) HALL.out) C3.out.bel
def PlanR (s : DShop) (l : List DDip) (w : World) : Ending → World → Prop := fun e w' => ∃ E : Int, e = .returned (.int .i64 E) ∧ (E = 0 ↔ PlanOk s l) ∧ Below w.heap.size w w'
theorem PlanR.mk {s : DShop} {l : List DDip} {w w' : World} (E : Int) (h1 : E = 0 ↔ PlanOk s l) (h2 : Below w.heap.size w w') : PlanR s l w (.returned (.int .i64 E)) w' := ⟨E, rfl, h1, h2⟩
theorem inB_false {n lo hi : Int} (h : inB n lo hi = false) : ¬ (lo ≤ n ∧ n ≤ hi) := by
  rw [inB_out] at h
  intro h1
  rw [outOneF.2 h1] at h
  cases h
set_option maxRecDepth 100000 in
set_option maxHeartbeats 8000000 in
theorem plan4_ref (s : DShop) (l : List DDip) (v lv : Value) (w : World) (hv : ∃ va vc, v = .slice va s.baths.length vc) (hb6 : s.baths.length ≤ 1000) (hl : DipsIn w.heap.size w lv l) : Calls Tryz.prog 11 #[.agg (dshopC s v), lv] w (PlanR s l w) := by
  obtain ⟨va, vc, rfl⟩ := hv
  obtain ⟨a, cap, rfl, -, hlm⟩ := sl_shape hl
  have HL := Lib.hid hl
  have C1 : Hid (Bs w [(w.heap.size, .cells (dshopC s (.slice va s.baths.length vc)) 30)] _) := Lib.hid ((Bs.nil w).push _ rfl (.cells (dshopC s (.slice va s.baths.length vc)) 30))
  have HWL : Hid (wrap64 ((s.baths.length : Int) - 1) = (s.baths.length : Int) - 1) := wrapU (by omega)
  clear hl hb6
  by_cases h30 : 30 < l.length
  · have hii : (30 : Int) < (l.length : Int) := by omega
    go_enter Tryz.func11, Tryz.ntmps11
    go_wp2_with fail
    go_ret
    exact PlanR.mk 3 ⟨fun h => absurd h (by decide), fun h => absurd h.1 (by omega)⟩ C1.out.bel
  · have hii : ¬ (30 : Int) < (l.length : Int) := by omega
    go_enter Tryz.func11, Tryz.ntmps11
    go_wp2_with fail
    go_loopw [5] (fun iv wr => ∃ k : Nat, iv = .int .i64 k ∧ k ≤ l.length ∧ Bs w [(w.heap.size, .cells (dshopC s (.slice va s.baths.length vc)) 30)] wr ∧ ∀ j, j < k → DipOk s (l.getD j default)) (fun iv _ => l.length - (intOf iv).toNat)
    case atStart => exact ⟨0, rfl, by omega, C1.out, fun j h => by omega⟩
    case round =>
      obtain ⟨k, rfl, hk, hbs, hall⟩ := hrel
      have HALL := Lib.hid hall
      have C3 := Lib.hid hbs
      clear hall hbs C1
      by_cases hkl : k < l.length
      · have hki : (k : Int) < (l.length : Int) := by omega
        have HKL := Lib.hid hkl
        obtain ⟨b, o, he, hbl, hx0, hx1, hx2, hx3⟩ := HL.out.at' hkl
        subst he
        obtain ⟨B, HBE⟩ : ∃ B, Hid (l.getD k default = B) := ⟨_, rfl⟩
        rw [HBE.out] at hx0 hx1 hx2 hx3
        have hy0 := (C3.out.bel.cell (p := ⟨b, o + k * 4, none⟩) hbl).trans hx0
        have hy1 := (C3.out.bel.cell (p := ⟨b, o + k * 4 + 1, none⟩) hbl).trans hx1
        have hy2 := (C3.out.bel.cell (p := ⟨b, o + k * 4 + 2, none⟩) hbl).trans hx2
        have hy3 := (C3.out.bel.cell (p := ⟨b, o + k * 4 + 3, none⟩) hbl).trans hx3
        have CP : Hid (Bs w [(w.heap.size, .cells (dshopC s (.slice va s.baths.length vc)) 30), (wr.heap.size, .cells #[.int .i64 0, .int .i64 0, .int .i64 0, .bool false] 54)] _) := Lib.hid (C3.out.push wr.heap.size rfl (.cells #[.int .i64 0, .int .i64 0, .int .i64 0, .bool false] 54))
        clear hx0 hx1 hx2 hx3 hbl
        go_upto_region 7 with (refine wpList_store_bs rfl 54 _ _ rfl CP.out 1 _ (dipC B) _ _ rfl rfl rfl infoDD rfl (by simp [Value.oneCell']) ?_; intro w5 hC; have C5 : Hid (Bs w [(w.heap.size, .cells (dshopC s (.slice va s.baths.length vc)) 30), (wr.heap.size, .cells (dipC B) 54)] w5) := hC; clear hC CP hy0 hy1 hy2 hy3)
        have d0 := C5.out.cell 1 rfl 0
        have d1 := C5.out.cell 1 rfl 1
        have d2 := C5.out.cell 1 rfl 2
        have c_8 := C5.out.cell 0 rfl 8
        have c_5 := C5.out.cell 0 rfl 5
        obtain ⟨r0, HR0⟩ : ∃ r, Hid (inB B.bath 0 ((s.baths.length : Int) - 1) = r) := ⟨_, rfl⟩
        go_wp2_with fail
        rw [HWL.out]
        refine (in4_r r0 _ _ _ _ HR0.out).mono ?_
        rintro e w' ⟨rfl, rfl⟩
        cases r0
        · go_wp2_with (first | go_skip | fail)
          go_ret
          exact PlanR.mk 4 ⟨fun h => absurd h (by decide), fun h => by
            have hd := h.2 k HKL.out
            rw [HBE.out] at hd
            have hx := inB_false HR0.out
            exact absurd (by have := hd.bath; omega) hx⟩ C5.out.bel
        obtain ⟨r1, HR1⟩ : ∃ r, Hid (inB B.seconds 0 600 = r) := ⟨_, rfl⟩
        go_wp2_with fail
        refine (in4_r r1 _ _ _ _ HR1.out).mono ?_
        rintro e w' ⟨rfl, rfl⟩
        cases r1
        · go_wp2_with (first | go_skip | fail)
          go_ret
          exact PlanR.mk 7 ⟨fun h => absurd h (by decide), fun h => by
            have hd := h.2 k HKL.out
            rw [HBE.out] at hd
            have hx := inB_false HR1.out
            exact absurd hd.seconds hx⟩ C5.out.bel
        obtain ⟨r2, HR2⟩ : ∃ r, Hid (inB B.pause 0 600 = r) := ⟨_, rfl⟩
        go_wp2_with fail
        refine (in4_r r2 _ _ _ _ HR2.out).mono ?_
        rintro e w' ⟨rfl, rfl⟩
        cases r2
        · go_wp2_with (first | go_skip | fail)
          go_ret
          exact PlanR.mk 7 ⟨fun h => absurd h (by decide), fun h => by
            have hd := h.2 k HKL.out
            rw [HBE.out] at hd
            have hx := inB_false HR2.out
            exact absurd hd.pause hx⟩ C5.out.bel
        by_cases hsd : B.seconds ≤ s.draw
        · go_wp2_with fail
          go_ret
          exact PlanR.mk 2 ⟨fun h => absurd h (by decide), fun h => by
            have hd := (h.2 k HKL.out).draw
            rw [HBE.out] at hd
            omega⟩ C5.out.bel
        have a0 := inB_true HR0.out
        have a1 := inB_true HR1.out
        have a2 := inB_true HR2.out
        have HD : Hid (DipOk s B) := ⟨by omega, a1, a2, by omega⟩
        go_wp2_with fail
        refine ⟨⟨k + 1, by push_cast; rfl, by omega, C5.out.sub _ (by simp), fun j hj => ?_⟩, ?_⟩
        · by_cases e : j = k
          · rw [e, HBE.out]; exact HD.out
          · exact HALL.out j (by omega)
        · simp [intOf]; omega
      · obtain rfl : k = l.length := by omega
        go_wp2_with fail
        go_ret
        exact PlanR.mk 0 ⟨fun _ => ⟨by omega, HALL.out⟩, fun _ => rfl⟩ C3.out.bel
end Go.Proofs.YtpkggjobdmchlaaGreatDoor
