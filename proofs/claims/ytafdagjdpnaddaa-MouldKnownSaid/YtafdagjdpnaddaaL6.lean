/- MouldKnown: the walk. -/
import Derived.Test.YtafdagjdpnaddaaAW
namespace Go.Proofs.Ytafdagjdpnaddaa
open Go.RowKit
/-- A block that is laid and filled amid a statement. -/
structure AlW (wr : World) (z v : Array Value) (t : TypeId) (d9 d10 : Bool) (yp : Value) (w : World) : Prop where
  bel : Below wr.heap.size wr w
  al : d9 = true → ∃ g, yp = .pointer (some ⟨g, 0, none⟩) ∧ wr.heap.size ≤ g ∧ (d10 = false → w.heap[g]? = some (.cells z t)) ∧ (d10 = true → w.heap[g]? = some (.cells v t))
section
variable {wr w w' : World} {z v : Array Value} {t : TypeId} {d9 d10 : Bool} {yp : Value}
theorem AlW.next (h : AlW wr z v t d9 d10 yp w) (hb : Below w.heap.size w w') : AlW wr z v t d9 d10 yp w' :=
  ⟨h.bel.trans (hb.mono h.bel.size), fun e => (by obtain ⟨g, h1, h2, h3, h4⟩ := h.al e; exact ⟨g, h1, h2, fun e => block_keep (h3 e) hb, fun e => block_keep (h4 e) hb⟩)⟩
theorem AlW.laid (h : AlW wr z v t d9 d10 yp w) (hd : d10 = false) : AlW wr z v t true d10 (.pointer (some ⟨w.heap.size, 0, none⟩)) (w.alloc (.cells z t)) :=
  ⟨h.bel.alloc h.bel.size _, fun _ => ⟨w.heap.size, rfl, h.bel.size, fun _ => heap_alloc_new _ _, fun e => (by rw [hd] at e; cases e)⟩⟩
theorem AlW.put (h : AlW wr z v t d9 d10 yp w) (_hd : d9 = true) {g : Nat} (hy : yp = .pointer (some ⟨g, 0, none⟩)) (hg : wr.heap.size ≤ g) (hh : w.heap[g]? = some (.cells z t)) : AlW wr z v t d9 true yp (w.setRow g v) :=
  ⟨below_setRow h.bel hg _, fun _ => ⟨g, hy, hg, fun e => (by cases e), fun _ => setRow_heap _ _ _ _ _ _ hh⟩⟩
end
/-- What round k of the examples finds. -/
def Round (W : World) (bm bw bp be k : Nat) : Prop := ∃ (mk lo hi : Int) (pl : List Int) (e1 e2 e3 e4 : Int) (pv : Value),
  skinV (exM 150) mk = ((lo, hi), 0) ∧ hollowV (exM 150) pl = ((e1, e2), (e3, e4), 0) ∧ IntsIn .i64 W.heap.size W pv pl ∧
  W.cell? ⟨bm, k, none⟩ = some (.int .i64 mk) ∧ W.cell? ⟨bw, k * 2, none⟩ = some (.int .i64 lo) ∧ W.cell? ⟨bw, k * 2 + 1, none⟩ = some (.int .i64 hi) ∧ W.cell? ⟨bp, k, none⟩ = some pv ∧
  W.cell? ⟨be, k * 4, none⟩ = some (.int .i64 e1) ∧ W.cell? ⟨be, k * 4 + 1, none⟩ = some (.int .i64 e2) ∧ W.cell? ⟨be, k * 4 + 2, none⟩ = some (.int .i64 e3) ∧ W.cell? ⟨be, k * 4 + 3, none⟩ = some (.int .i64 e4)
set_option maxRecDepth 100000 in
set_option maxHeartbeats 16000000 in
theorem known_law (w : World) : Calls Try.prog 6 #[] w (fun e w' => e = .returned (.bool true) ∧ Below w.heap.size w w') := by
  have HB : Hid (Below w.heap.size w w) := Below.refl _ _
  go_enter Try.func6, Try.ntmps6
  go_wp2_with fail
  refine (mould35 150 _).mono ?_
  rintro e w1 ⟨rfl, hb⟩
  have HB := Lib.hid (HB.out.trans (hb.mono HB.out.size))
  clear hb
  unfold exA
  go_wp2_with fail
  have HP := Lib.hid (intsIn_fit w1 [800, 800] 2 2 w1.heap.size rfl (by simp) rfl)
  have hb : Below w1.heap.size w1 (w1.alloc (.cells (ints [800, 800]) 3)) := (Below.refl _ _).alloc (Nat.le_refl _) _
  have HB := Lib.hid (HB.out.trans (hb.mono HB.out.size))
  clear hb
  have HQ := Lib.hid (intsIn_fit (w1.alloc (.cells (ints [800, 800]) 3)) [200, 200, 200, 200] 4 4 (w1.heap.size + 1) (by simp) (by simp) rfl)
  have hb : Below (w1.alloc (.cells (ints [800, 800]) 3)).heap.size (w1.alloc (.cells (ints [800, 800]) 3)) ((w1.alloc (.cells (ints [800, 800]) 3)).alloc (.cells (ints [200, 200, 200, 200]) 3)) := (Below.refl _ _).alloc (Nat.le_refl _) _
  have HP := Lib.hid (HP.out.next hb)
  have HB := Lib.hid (HB.out.trans (hb.mono HB.out.size))
  clear hb
  have hc : Calls Try.prog 20 #[.agg (exA 150), .agg #[.slice (some ⟨w1.heap.size, 0, none⟩) 2 2, .slice (some ⟨w1.heap.size + 1, 0, none⟩) 4 4]] ((w1.alloc (.cells (ints [800, 800]) 3)).alloc (.cells (ints [200, 200, 200, 200]) 3)) _ := cool_any (exM 150) (.slice (some ⟨w1.heap.size, 0, none⟩) 2 2) (.slice (some ⟨w1.heap.size + 1, 0, none⟩) 4 4) [800, 800] [200, 200, 200, 200] _ HP.out HQ.out
  rw [ex_cool4] at hc
  refine hc.mono ?_
  rintro e w2 ⟨v1, rfl, hi, hb⟩
  clear hc HP HQ
  have HB := Lib.hid (HB.out.trans (hb.mono HB.out.size))
  have HA := Lib.hid (hi.ints (by simp))
  clear hi hb
  go_wp2_with fail
  refine (mould35 150 _).mono ?_
  rintro e w3 ⟨rfl, hb⟩
  have HB := Lib.hid (HB.out.trans (hb.mono HB.out.size))
  have HA := Lib.hid (HA.out.next hb)
  clear hb
  unfold exA
  go_wp2_with fail
  have hc : Calls Try.prog 23 #[.agg (exA 150), .int .i64 1] w3 _ := warm_any (exM 150) 1 w3
  rw [ex_warm1] at hc
  refine hc.mono ?_
  rintro e w4 ⟨v3, rfl, hi, hb⟩
  clear hc
  have HB := Lib.hid (HB.out.trans (hb.mono HB.out.size))
  have HA := Lib.hid (HA.out.next hb)
  have HW := Lib.hid (hi.spans (by simp))
  clear hi hb
  go_wp2_with fail
  have C1 := Lib.hid (((Bs.nil w).call HB.out).push w4.heap.size rfl (.cells #[.int .i64 0, .int .i64 2, .int .i64 3] 3))
  have hb : Below w4.heap.size w4 (w4.alloc (.cells #[.int .i64 0, .int .i64 2, .int .i64 3] 3)) := (Below.refl _ _).alloc (Nat.le_refl _) _
  have HB := Lib.hid (HB.out.trans (hb.mono HB.out.size))
  have HA := Lib.hid (HA.out.next hb)
  have HW := Lib.hid (HW.out.next hb)
  clear hb
  refine (span36 0 0 _).mono ?_
  rintro e w5 ⟨rfl, hb⟩
  have C1 := Lib.hid (C1.out.call hb)
  have HB := Lib.hid (HB.out.trans (hb.mono HB.out.size))
  have HA := Lib.hid (HA.out.next hb)
  have HW := Lib.hid (HW.out.next hb)
  clear hb
  go_wp2_with fail
  refine (span36 0 1 _).mono ?_
  rintro e w6 ⟨rfl, hb⟩
  have C1 := Lib.hid (C1.out.call hb)
  have HB := Lib.hid (HB.out.trans (hb.mono HB.out.size))
  have HA := Lib.hid (HA.out.next hb)
  have HW := Lib.hid (HW.out.next hb)
  clear hb
  go_wp2_with fail
  refine (span36 1 1 _).mono ?_
  rintro e w7 ⟨rfl, hb⟩
  have C1 := Lib.hid (C1.out.call hb)
  have HB := Lib.hid (HB.out.trans (hb.mono HB.out.size))
  have HA := Lib.hid (HA.out.next hb)
  have HW := Lib.hid (HW.out.next hb)
  clear hb
  go_wp2_with fail
  have C2 := Lib.hid ((((C1.out.push w7.heap.size rfl (.cells #[.int .i64 0, .int .i64 0, .int .i64 0, .int .i64 1, .int .i64 1, .int .i64 1] 23)).push (w7.heap.size + 1) (by simp) (.cells #[.int .i64 2] 3)).push (w7.heap.size + 1 + 1) (by simp) (.cells #[.int .i64 3] 3)).push (w7.heap.size + 1 + 1 + 1) (by simp) (.cells #[.slice none 0 0, .slice (some ⟨w7.heap.size + 1, 0, none⟩) 1 1, .slice (some ⟨w7.heap.size + 1 + 1, 0, none⟩) 1 1] 26))
  have hb : Below w7.heap.size w7 ((((w7.alloc (.cells #[.int .i64 0, .int .i64 0, .int .i64 0, .int .i64 1, .int .i64 1, .int .i64 1] 23)).alloc (.cells #[.int .i64 2] 3)).alloc (.cells #[.int .i64 3] 3)).alloc (.cells #[.slice none 0 0, .slice (some ⟨w7.heap.size + 1, 0, none⟩) 1 1, .slice (some ⟨w7.heap.size + 1 + 1, 0, none⟩) 1 1] 26)) := ((((Below.refl w7.heap.size w7).alloc (Nat.le_refl _) _).alloc (by simp) _).alloc (by simp; omega) _).alloc (by simp; omega) _
  have HB := Lib.hid (HB.out.trans (hb.mono HB.out.size))
  have HA := Lib.hid (HA.out.next hb)
  have HW := Lib.hid (HW.out.next hb)
  clear hb C1
  refine (end37 400 400 0 0 _).mono ?_
  rintro e w8 ⟨rfl, hb⟩
  have C2 := Lib.hid (C2.out.call hb)
  have HB := Lib.hid (HB.out.trans (hb.mono HB.out.size))
  have HA := Lib.hid (HA.out.next hb)
  have HW := Lib.hid (HW.out.next hb)
  clear hb
  go_wp2_with fail
  refine (end37 150 400 0 250 _).mono ?_
  rintro e w9 ⟨rfl, hb⟩
  have C2 := Lib.hid (C2.out.call hb)
  have HB := Lib.hid (HB.out.trans (hb.mono HB.out.size))
  have HA := Lib.hid (HA.out.next hb)
  have HW := Lib.hid (HW.out.next hb)
  clear hb
  go_wp2_with fail
  refine (end37 150 150 250 250 _).mono ?_
  rintro e w10 ⟨rfl, hb⟩
  have C2 := Lib.hid (C2.out.call hb)
  have HB := Lib.hid (HB.out.trans (hb.mono HB.out.size))
  have HA := Lib.hid (HA.out.next hb)
  have HW := Lib.hid (HW.out.next hb)
  clear hb
  go_wp2_with fail
  have C3 := Lib.hid (C2.out.push w10.heap.size rfl (.cells #[.int .i64 400, .int .i64 400, .int .i64 0, .int .i64 0, .int .i64 150, .int .i64 400, .int .i64 0, .int .i64 250, .int .i64 150, .int .i64 150, .int .i64 250, .int .i64 250] 45))
  have hb : Below w10.heap.size w10 (w10.alloc (.cells #[.int .i64 400, .int .i64 400, .int .i64 0, .int .i64 0, .int .i64 150, .int .i64 400, .int .i64 0, .int .i64 250, .int .i64 150, .int .i64 150, .int .i64 250, .int .i64 250] 45)) := (Below.refl _ _).alloc (Nat.le_refl _) _
  have HB := Lib.hid (HB.out.trans (hb.mono HB.out.size))
  have HA := Lib.hid (HA.out.next hb)
  have HW := Lib.hid (HW.out.next hb)
  clear hb C2
  have HRD : Hid (∀ k, k < 3 → Round (w10.alloc (.cells #[.int .i64 400, .int .i64 400, .int .i64 0, .int .i64 0, .int .i64 150, .int .i64 400, .int .i64 0, .int .i64 250, .int .i64 150, .int .i64 150, .int .i64 250, .int .i64 250] 45)) w4.heap.size w7.heap.size (w7.heap.size + 1 + 1 + 1) w10.heap.size k) := fun k hk => by
    have c0 := C3.out.cell 0 rfl
    have c1 := C3.out.cell 1 rfl
    have c4 := C3.out.cell 4 rfl
    have c5 := C3.out.cell 5 rfl
    match k, hk with
    | 0, _ => exact ⟨0, 0, 0, [], 400, 400, 0, 0, .slice none 0 0, ex_skin0, ex_hol0, ⟨none, 0, rfl, by simp, .inl rfl⟩, c0 0, c1 0, c1 1, c4 0, c5 0, c5 1, c5 2, c5 3⟩
    | 1, _ => exact ⟨2, 0, 1, [2], 150, 400, 0, 250, .slice (some ⟨w7.heap.size + 1, 0, none⟩) 1 1, ex_skin2, ex_hol2, intsIn_row (l := [2]) (C3.out.get 2 rfl) (by simp), c0 1, c1 2, c1 3, c4 1, c5 4, c5 5, c5 6, c5 7⟩
    | 2, _ => exact ⟨3, 1, 1, [3], 150, 150, 250, 250, .slice (some ⟨w7.heap.size + 1 + 1, 0, none⟩) 1 1, ex_skin3, ex_hol3, intsIn_row (l := [3]) (C3.out.get 3 rfl) (by simp), c0 2, c1 4, c1 5, c4 2, c5 8, c5 9, c5 10, c5 11⟩
  have HL0 : Hid (w4.heap.size < (w10.alloc (.cells #[.int .i64 400, .int .i64 400, .int .i64 0, .int .i64 0, .int .i64 150, .int .i64 400, .int .i64 0, .int .i64 250, .int .i64 150, .int .i64 150, .int .i64 250, .int .i64 250] 45)).heap.size) := C3.out.lt 0 rfl
  have HL1 : Hid (w7.heap.size < (w10.alloc (.cells #[.int .i64 400, .int .i64 400, .int .i64 0, .int .i64 0, .int .i64 150, .int .i64 400, .int .i64 0, .int .i64 250, .int .i64 150, .int .i64 150, .int .i64 250, .int .i64 250] 45)).heap.size) := C3.out.lt 1 rfl
  have HL4 : Hid ((w7.heap.size + 1 + 1 + 1) < (w10.alloc (.cells #[.int .i64 400, .int .i64 400, .int .i64 0, .int .i64 0, .int .i64 150, .int .i64 400, .int .i64 0, .int .i64 250, .int .i64 150, .int .i64 150, .int .i64 250, .int .i64 250] 45)).heap.size) := C3.out.lt 4 rfl
  have HL5 : Hid (w10.heap.size < (w10.alloc (.cells #[.int .i64 400, .int .i64 400, .int .i64 0, .int .i64 0, .int .i64 150, .int .i64 400, .int .i64 0, .int .i64 250, .int .i64 150, .int .i64 150, .int .i64 250, .int .i64 250] 45)).heap.size) := C3.out.lt 5 rfl
  clear C3
  have HBF := Lib.hid HB.out
  have HAF := Lib.hid HA.out
  have HWF := Lib.hid HW.out
  clear HB HA HW
  generalize w10.alloc (.cells #[.int .i64 400, .int .i64 400, .int .i64 0, .int .i64 0, .int .i64 150, .int .i64 400, .int .i64 0, .int .i64 250, .int .i64 150, .int .i64 150, .int .i64 250, .int .i64 250] 45) = W0 at *
  generalize (w7.heap.size + 1 + 1 + 1) = bp at *
  generalize w4.heap.size = bm at *
  generalize w7.heap.size = bw at *
  generalize w10.heap.size = be at *
  go_loopw [9] (fun iv wr => ∃ k : Nat, iv = .int .i64 k ∧ k ≤ 3 ∧ Below W0.heap.size W0 wr) (fun iv _ => 3 - (intOf iv).toNat)
  case atStart => exact ⟨0, rfl, by omega, Below.refl _ _⟩
  case round =>
    obtain ⟨k, rfl, hk, hb⟩ := hrel
    have CB := Lib.hid hb
    clear hb
    by_cases hlt : k < 3
    · have hki : (k : Int) < 3 := by omega
      obtain ⟨mk, lo, hi, pl, e1, e2, e3, e4, pv, r1, r2, r3, r4, r5, r6, r7, r8, r9, r10, r11⟩ := HRD.out k hlt
      have R1 := Lib.hid r1
      have R2 := Lib.hid r2
      have R3 := Lib.hid r3
      have R4 := Lib.hid r4
      have R5 := Lib.hid r5
      have R6 := Lib.hid r6
      have R7 := Lib.hid r7
      have R8 := Lib.hid r8
      have R9 := Lib.hid r9
      have R10 := Lib.hid r10
      have R11 := Lib.hid r11
      clear r1 r2 r3 r4 r5 r6 r7 r8 r9 r10 r11
      go_wp2_with fail
      refine wp_region_inv1 (by kernel_rfl) (by kernel_rfl) [10] (fun D y w' => AlW wr #[.int .i64 0, .int .i64 0] #[.int .i64 lo, .int .i64 hi] 23 (D 9) (D 10) (y 10) w') ⟨(Below.refl _ _).drew, fun h => (by cases h)⟩ ?FR ?hFS ?_
      case hFS =>
        intro y
        simp only [fill, List.foldl, Act.put, List.setIfInBounds_toArray, List.set]
        exact rfl
      apply obl_det
      case hrun =>
        intro D y wz hW hD R hR
        have HRR := Lib.hid hR
        clear hR
        have HW := Lib.hid hW
        clear hW hD
        go_wp2_with fail
        refine (mould35 150 _).mono ?_
        rintro e w' ⟨rfl, hb⟩
        have HW2 := Lib.hid (HW.out.next hb)
        clear hb
        unfold exA
        go_wp2_with fail
        exact HRR.out _ HW2.out
      case hnp => rfl
      case hv => first | exact ⟨_, fun _ => rfl⟩ | exact ⟨undef, fun _ => rfl⟩
      apply obl_det
      case hrun =>
        intro D y wz hW hD R hR
        have HRR := Lib.hid hR
        clear hR
        have HW := Lib.hid hW
        clear hW hD
        go_wp2
        exact HRR.out _ HW.out
      case hnp => rfl
      case hv => first | exact ⟨_, fun _ => rfl⟩ | exact ⟨undef, fun _ => rfl⟩
      apply obl_det
      case hrun =>
        intro D y wz hW hD R hR
        have HRR := Lib.hid hR
        clear hR
        have HW := Lib.hid hW
        clear hW hD
        go_wp2
        exact HRR.out _ HW.out
      case hnp => rfl
      case hv => first | exact ⟨_, fun _ => rfl⟩ | exact ⟨undef, fun _ => rfl⟩
      apply obl_det
      case hrun =>
        intro D y wz hW hD R hR
        have HRR := Lib.hid hR
        clear hR
        have HW := Lib.hid hW
        clear hW hD
        go_wp2
        exact HRR.out _ HW.out
      case hnp => rfl
      case hv => first | exact ⟨_, fun _ => rfl⟩ | exact ⟨undef, fun _ => rfl⟩
      apply obl_det
      case hrun =>
        intro D y wz hW hD R hR
        have HRR := Lib.hid hR
        clear hR
        have HW := Lib.hid hW
        have cm := (hW.bel.cell (p := ⟨bm, k, none⟩) (show bm < wr.heap.size from by have := HL0.out; have := CB.out.size; omega)).trans ((CB.out.cell (p := ⟨bm, k, none⟩) HL0.out).trans R4.out)
        clear hW hD
        go_wp2
        exact HRR.out _ HW.out
      case hnp => rfl
      case hv => first | exact ⟨_, fun _ => rfl⟩ | exact ⟨undef, fun _ => rfl⟩
      apply obl_det
      case hrun =>
        intro D y wz hW hD R hR
        have HRR := Lib.hid hR
        clear hR
        have HW := Lib.hid hW
        clear hW hD
        go_wp2_with fail
        have hc : Calls Try.prog 29 #[.agg (exA 150), .int .i64 mk] wz _ := skinM_any (exM 150) mk wz
        rw [R1.out] at hc
        refine hc.mono ?_
        rintro e w' ⟨rfl, hb⟩
        have HW2 := Lib.hid (HW.out.next hb)
        clear hb hc
        go_wp2_with fail
        exact HRR.out _ HW2.out
      case hnp => rfl
      case hv => first | exact ⟨_, fun _ => rfl⟩ | exact ⟨undef, fun _ => rfl⟩
      apply obl_det
      case hrun =>
        intro D y wz hW hD R hR
        have HRR := Lib.hid hR
        clear hR
        have HW := Lib.hid hW
        clear hW hD
        go_wp2
        exact HRR.out _ HW.out
      case hnp => rfl
      case hv => first | exact ⟨_, fun _ => rfl⟩ | exact ⟨undef, fun _ => rfl⟩
      apply obl_det
      case hrun =>
        intro D y wz hW hD R hR
        have HRR := Lib.hid hR
        clear hR
        have HW := Lib.hid hW
        clear hW hD
        go_wp2
        exact HRR.out _ HW.out
      case hnp => rfl
      case hv => first | exact ⟨_, fun _ => rfl⟩ | exact ⟨undef, fun _ => rfl⟩
      apply obl_det
      case hrun =>
        intro D y wz hW hD R hR
        have HRR := Lib.hid hR
        clear hR
        have HW := Lib.hid hW
        clear hW hD
        go_wp2
        exact HRR.out _ HW.out
      case hnp => rfl
      case hv => first | exact ⟨_, fun _ => rfl⟩ | exact ⟨undef, fun _ => rfl⟩
      apply obl_priv 10
      case hd => rfl
      case hp => rfl
      case hrun =>
        intro D y wz hW hD R hR
        have HRR := Lib.hid hR
        clear hR
        have h10 : D 10 = false := hD.post _ 10 rfl (by kernel_rfl)
        have HW := Lib.hid hW
        have H10 := Lib.hid h10
        clear hW hD h10
        go_wp2_with fail
        refine HRR.out _ _ ?_
        show AlW wr #[.int .i64 0, .int .i64 0] #[.int .i64 lo, .int .i64 hi] 23 true (D 10) (.pointer (some ⟨wz.heap.size, 0, none⟩)) _
        exact HW.out.laid H10.out
      apply obl_det
      case hrun =>
        intro D y wz hW hD R hR
        have HRR := Lib.hid hR
        clear hR
        have HW := Lib.hid hW
        have H9 : Hid (D 9 = true) := hD.pre _ 9 rfl (by kernel_rfl)
        have H10 : Hid (D 10 = false) := hD.not
        obtain ⟨g, hy, hgl, h3, -⟩ := hW.al H9.out
        have HY := Lib.hid hy
        have HG := Lib.hid (h3 H10.out)
        clear hW hD hy h3
        refine wpList_store_row rfl 23 _ _ rfl g #[.int .i64 lo, .int .i64 hi] HY.out rfl 23 _ HG.out info23 rfl (by simp [Value.oneCell']) ?_
        exact HRR.out _ (HW.out.put H9.out HY.out hgl HG.out)
      case hnp => rfl
      case hv => first | exact ⟨_, fun _ => rfl⟩ | exact ⟨undef, fun _ => rfl⟩
      apply obl_det
      case hrun =>
        intro D y wz hW hD R hR
        have HRR := Lib.hid hR
        clear hR
        have HW := Lib.hid hW
        clear hW hD
        go_wp2
        exact HRR.out _ HW.out
      case hnp => rfl
      case hv => first | exact ⟨_, fun _ => rfl⟩ | exact ⟨undef, fun _ => rfl⟩
      apply obl_nil
      intro D y w8 hall hW
      obtain ⟨gFS, hy, hglFS, -, hg⟩ := hW.al (hall 9 (by decide))
      have HGFS := Lib.hid (hg (hall 10 (by decide)))
      have HBL := Lib.hid hW.bel
      clear hW hall hg
      generalize y 10 = yy at *
      subst hy
      have CQ := Lib.hid (CB.out.trans (HBL.out.mono CB.out.size))
      clear HBL CB
      rename_i wq
      go_wp2_with fail
      refine wp_region_inv1 (by kernel_rfl) (by kernel_rfl) [12] (fun D y w' => AlW w8 #[.int .i64 0, .int .i64 0, .int .i64 0, .int .i64 0] #[.int .i64 e1, .int .i64 e2, .int .i64 e3, .int .i64 e4] 45 (D 9) (D 10) (y 12) w') ⟨(Below.refl _ _).drew, fun h => (by cases h)⟩ ?FT ?hFT ?_
      case hFT =>
        intro y
        simp only [fill, List.foldl, Act.put, List.setIfInBounds_toArray, List.set]
        exact rfl
      apply obl_det
      case hrun =>
        intro D y wz hW hD R hR
        have HRR := Lib.hid hR
        clear hR
        have HW := Lib.hid hW
        clear hW hD
        go_wp2_with fail
        refine (mould35 150 _).mono ?_
        rintro e w' ⟨rfl, hb⟩
        have HW2 := Lib.hid (HW.out.next hb)
        clear hb
        unfold exA
        go_wp2_with fail
        exact HRR.out _ HW2.out
      case hnp => rfl
      case hv => first | exact ⟨_, fun _ => rfl⟩ | exact ⟨undef, fun _ => rfl⟩
      apply obl_det
      case hrun =>
        intro D y wz hW hD R hR
        have HRR := Lib.hid hR
        clear hR
        have HW := Lib.hid hW
        clear hW hD
        go_wp2
        exact HRR.out _ HW.out
      case hnp => rfl
      case hv => first | exact ⟨_, fun _ => rfl⟩ | exact ⟨undef, fun _ => rfl⟩
      apply obl_det
      case hrun =>
        intro D y wz hW hD R hR
        have HRR := Lib.hid hR
        clear hR
        have HW := Lib.hid hW
        clear hW hD
        go_wp2
        exact HRR.out _ HW.out
      case hnp => rfl
      case hv => first | exact ⟨_, fun _ => rfl⟩ | exact ⟨undef, fun _ => rfl⟩
      apply obl_det
      case hrun =>
        intro D y wz hW hD R hR
        have HRR := Lib.hid hR
        clear hR
        have HW := Lib.hid hW
        clear hW hD
        go_wp2
        exact HRR.out _ HW.out
      case hnp => rfl
      case hv => first | exact ⟨_, fun _ => rfl⟩ | exact ⟨undef, fun _ => rfl⟩
      apply obl_det
      case hrun =>
        intro D y wz hW hD R hR
        have HRR := Lib.hid hR
        clear hR
        have HW := Lib.hid hW
        have cm := (hW.bel.cell (p := ⟨bp, k, none⟩) (show bp < w8.heap.size from by have := HL4.out; have := CQ.out.size; omega)).trans ((CQ.out.cell (p := ⟨bp, k, none⟩) HL4.out).trans R7.out)
        clear hW hD
        go_wp2
        exact HRR.out _ HW.out
      case hnp => rfl
      case hv => first | exact ⟨_, fun _ => rfl⟩ | exact ⟨undef, fun _ => rfl⟩
      apply obl_det
      case hrun =>
        intro D y wz hW hD R hR
        have HRR := Lib.hid hR
        clear hR
        have HW := Lib.hid hW
        clear hW hD
        go_wp2_with fail
        have hc : Calls Try.prog 31 #[.agg (exA 150), pv] wz _ := hollow_any (exM 150) pl pv wz ((R3.out.next CQ.out).next HW.out.bel)
        rw [R2.out] at hc
        refine hc.mono ?_
        rintro e w' ⟨rfl, hb⟩
        have HW2 := Lib.hid (HW.out.next hb)
        clear hb hc
        go_wp2_with fail
        exact HRR.out _ HW2.out
      case hnp => rfl
      case hv => first | exact ⟨_, fun _ => rfl⟩ | exact ⟨undef, fun _ => rfl⟩
      apply obl_det
      case hrun =>
        intro D y wz hW hD R hR
        have HRR := Lib.hid hR
        clear hR
        have HW := Lib.hid hW
        clear hW hD
        go_wp2
        exact HRR.out _ HW.out
      case hnp => rfl
      case hv => first | exact ⟨_, fun _ => rfl⟩ | exact ⟨undef, fun _ => rfl⟩
      apply obl_det
      case hrun =>
        intro D y wz hW hD R hR
        have HRR := Lib.hid hR
        clear hR
        have HW := Lib.hid hW
        clear hW hD
        go_wp2
        exact HRR.out _ HW.out
      case hnp => rfl
      case hv => first | exact ⟨_, fun _ => rfl⟩ | exact ⟨undef, fun _ => rfl⟩
      apply obl_det
      case hrun =>
        intro D y wz hW hD R hR
        have HRR := Lib.hid hR
        clear hR
        have HW := Lib.hid hW
        clear hW hD
        go_wp2
        exact HRR.out _ HW.out
      case hnp => rfl
      case hv => first | exact ⟨_, fun _ => rfl⟩ | exact ⟨undef, fun _ => rfl⟩
      apply obl_priv 12
      case hd => rfl
      case hp => rfl
      case hrun =>
        intro D y wz hW hD R hR
        have HRR := Lib.hid hR
        clear hR
        have h10 : D 10 = false := hD.post _ 10 rfl (by kernel_rfl)
        have HW := Lib.hid hW
        have H10 := Lib.hid h10
        clear hW hD h10
        go_wp2_with fail
        refine HRR.out _ _ ?_
        show AlW w8 #[.int .i64 0, .int .i64 0, .int .i64 0, .int .i64 0] #[.int .i64 e1, .int .i64 e2, .int .i64 e3, .int .i64 e4] 45 true (D 10) (.pointer (some ⟨wz.heap.size, 0, none⟩)) _
        exact HW.out.laid H10.out
      apply obl_det
      case hrun =>
        intro D y wz hW hD R hR
        have HRR := Lib.hid hR
        clear hR
        have HW := Lib.hid hW
        have H9 : Hid (D 9 = true) := hD.pre _ 9 rfl (by kernel_rfl)
        have H10 : Hid (D 10 = false) := hD.not
        obtain ⟨g, hy, hgl, h3, -⟩ := hW.al H9.out
        have HY := Lib.hid hy
        have HG := Lib.hid (h3 H10.out)
        clear hW hD hy h3
        refine wpList_store_row rfl 45 _ _ rfl g #[.int .i64 e1, .int .i64 e2, .int .i64 e3, .int .i64 e4] HY.out rfl 45 _ HG.out info45 rfl (by simp [Value.oneCell']) ?_
        exact HRR.out _ (HW.out.put H9.out HY.out hgl HG.out)
      case hnp => rfl
      case hv => first | exact ⟨_, fun _ => rfl⟩ | exact ⟨undef, fun _ => rfl⟩
      apply obl_det
      case hrun =>
        intro D y wz hW hD R hR
        have HRR := Lib.hid hR
        clear hR
        have HW := Lib.hid hW
        clear hW hD
        go_wp2
        exact HRR.out _ HW.out
      case hnp => rfl
      case hv => first | exact ⟨_, fun _ => rfl⟩ | exact ⟨undef, fun _ => rfl⟩
      apply obl_nil
      intro D y w9 hall hW
      obtain ⟨gFT, hy, hglFT, -, hg⟩ := hW.al (hall 9 (by decide))
      have HGFT := Lib.hid (hg (hall 10 (by decide)))
      have HBL := Lib.hid hW.bel
      clear hW hall hg
      generalize y 12 = yy at *
      subst hy
      have HGFS := Lib.hid (block_keep HGFS.out HBL.out)
      have CF := Lib.hid (CQ.out.trans (HBL.out.mono CQ.out.size))
      clear HBL CQ
      have f1 := cell_of_row _ gFS 0 _ _ _ HGFS.out
      have f2 := cell_of_row _ gFS 1 _ _ _ HGFS.out
      have g1 := cell_of_row _ gFT 0 _ _ _ HGFT.out
      have g2 := cell_of_row _ gFT 1 _ _ _ HGFT.out
      have g3 := cell_of_row _ gFT 2 _ _ _ HGFT.out
      have g4 := cell_of_row _ gFT 3 _ _ _ HGFT.out
      have s1 := (CF.out.cell (p := ⟨bw, k * 2, none⟩) HL1.out).trans R5.out
      have s2 := (CF.out.cell (p := ⟨bw, k * 2 + 1, none⟩) HL1.out).trans R6.out
      have s3 := (CF.out.cell (p := ⟨be, k * 4, none⟩) HL5.out).trans R8.out
      have s4 := (CF.out.cell (p := ⟨be, k * 4 + 1, none⟩) HL5.out).trans R9.out
      have s5 := (CF.out.cell (p := ⟨be, k * 4 + 2, none⟩) HL5.out).trans R10.out
      have s6 := (CF.out.cell (p := ⟨be, k * 4 + 3, none⟩) HL5.out).trans R11.out
      simp only [List.getElem?_toArray, List.getElem?_cons_zero, List.getElem?_cons_succ] at f1 f2 g1 g2 g3 g4
      go_wp2_with fail
      go_quiet (fail)
      simp only [Exit.then]
      go_wp2_with fail
      refine ⟨⟨k + 1, by push_cast; rfl, by omega, below_drewN CF.out _⟩, ?_⟩
      simp [intOf]
      omega
    obtain rfl : k = 3 := by omega
    have hki : ¬ (((3 : Nat) : Int) < 3) := by omega
    have hb := CB.out
    have HB := Lib.hid (HBF.out.trans (hb.mono HBF.out.size))
    have HA := Lib.hid (HAF.out.next hb)
    have HW := Lib.hid (HWF.out.next hb)
    clear hb CB HRD HL0 HL1 HL4 HL5
    go_wp2_with fail
    refine (mould35 400 _).mono ?_
    rintro e w41 ⟨rfl, hb⟩
    have HB := Lib.hid (HB.out.trans (hb.mono HB.out.size))
    have HA := Lib.hid (HA.out.next hb)
    have HW := Lib.hid (HW.out.next hb)
    clear hb
    unfold exA
    go_wp2_with fail
    have hc : Calls Try.prog 33 #[.agg (exA 400)] w41 _ := few_any (exM 400) w41
    rw [ex_few400] at hc
    refine hc.mono ?_
    rintro e w42 ⟨v14, rfl, hi, hb⟩
    clear hc
    obtain ⟨a14, c14, rfl, -⟩ := hi.ints (by simp)
    have HB := Lib.hid (HB.out.trans (hb.mono HB.out.size))
    have HA := Lib.hid (HA.out.next hb)
    have HW := Lib.hid (HW.out.next hb)
    clear hi hb
    go_wp2_with fail
    refine (mould35 150 _).mono ?_
    rintro e w43 ⟨rfl, hb⟩
    have HB := Lib.hid (HB.out.trans (hb.mono HB.out.size))
    have HA := Lib.hid (HA.out.next hb)
    have HW := Lib.hid (HW.out.next hb)
    clear hb
    unfold exA
    go_wp2_with fail
    have HP := Lib.hid (intsIn_fit w43 [4] 1 1 w43.heap.size rfl (by simp) rfl)
    have hb : Below w43.heap.size w43 (w43.alloc (.cells (ints [4]) 3)) := (Below.refl _ _).alloc (Nat.le_refl _) _
    have HB := Lib.hid (HB.out.trans (hb.mono HB.out.size))
    have HA := Lib.hid (HA.out.next hb)
    have HW := Lib.hid (HW.out.next hb)
    clear hb
    have hc : Calls Try.prog 31 #[.agg (exA 150), .slice (some ⟨w43.heap.size, 0, none⟩) 1 1] (w43.alloc (.cells (ints [4]) 3)) _ := hollow_any (exM 150) [4] (.slice (some ⟨w43.heap.size, 0, none⟩) 1 1) _ HP.out
    rw [ex_hol4] at hc
    refine hc.mono ?_
    rintro e w44 ⟨rfl, hb⟩
    clear hc HP
    have HB := Lib.hid (HB.out.trans (hb.mono HB.out.size))
    have HA := Lib.hid (HA.out.next hb)
    have HW := Lib.hid (HW.out.next hb)
    clear hb
    go_wp2_with fail
    have hb : Below w44.heap.size w44 (w44.alloc (.cells #[.int .i64 0, .int .i64 0, .int .i64 0, .int .i64 0] 45)) := (Below.refl _ _).alloc (Nat.le_refl _) _
    have HB := Lib.hid (HB.out.trans (hb.mono HB.out.size))
    have HA := Lib.hid (HA.out.next hb)
    have HW := Lib.hid (HW.out.next hb)
    clear hb
    have hsz : (w44.alloc (.cells #[.int .i64 0, .int .i64 0, .int .i64 0, .int .i64 0] 45)).heap.size = w44.heap.size + 1 := by simp
    generalize w44.alloc (.cells #[.int .i64 0, .int .i64 0, .int .i64 0, .int .i64 0] 45) = w45 at *
    have HP := Lib.hid (intsIn_fit w45 [387, 500] 2 2 (w44.heap.size + 1) hsz (by simp) rfl)
    clear hsz
    have hb : Below w45.heap.size w45 (w45.alloc (.cells (ints [387, 500]) 3)) := (Below.refl _ _).alloc (Nat.le_refl _) _
    have HB := Lib.hid (HB.out.trans (hb.mono HB.out.size))
    have HA := Lib.hid (HA.out.next hb)
    have HW := Lib.hid (HW.out.next hb)
    clear hb
    refine (ints_same [387, 500] v1 (.slice (some ⟨w44.heap.size + 1, 0, none⟩) 2 2) (w45.alloc (.cells (ints [387, 500]) 3)) HA.out HP.out).mono ?_
    rintro e w46 ⟨rfl, hb⟩
    clear HP
    have HB := Lib.hid (HB.out.trans (hb.mono HB.out.size))
    have HW := Lib.hid (HW.out.next hb)
    clear hb HA
    go_wp2_with fail
    refine (span36 500 550 _).mono ?_
    rintro e w47 ⟨rfl, hb⟩
    have HB := Lib.hid (HB.out.trans (hb.mono HB.out.size))
    have HW := Lib.hid (HW.out.next hb)
    clear hb
    go_wp2_with fail
    refine (span36 800 800 _).mono ?_
    rintro e w48 ⟨rfl, hb⟩
    have HB := Lib.hid (HB.out.trans (hb.mono HB.out.size))
    have HW := Lib.hid (HW.out.next hb)
    clear hb
    go_wp2_with fail
    have HP := Lib.hid (spansIn_fit w48 [(500, 550), (800, 800)] #[.int .i64 500, .int .i64 550, .int .i64 800, .int .i64 800] rfl 2 2 w48.heap.size rfl (by simp) rfl (by omega))
    have hb : Below w48.heap.size w48 (w48.alloc (.cells #[.int .i64 500, .int .i64 550, .int .i64 800, .int .i64 800] 23)) := (Below.refl _ _).alloc (Nat.le_refl _) _
    have HB := Lib.hid (HB.out.trans (hb.mono HB.out.size))
    have HW := Lib.hid (HW.out.next hb)
    clear hb
    refine (spans_same [(500, 550), (800, 800)] v3 (.slice (some ⟨w48.heap.size, 0, none⟩) 2 2) _ HW.out HP.out).mono ?_
    rintro e w49 ⟨rfl, hb⟩
    clear HP
    have HB := Lib.hid (HB.out.trans (hb.mono HB.out.size))
    clear hb HW
    go_wp2_with fail
    refine (awake_any _).mono ?_
    rintro e w60 ⟨rfl, hb⟩
    have HB := Lib.hid (HB.out.trans (hb.mono HB.out.size))
    clear hb
    go_wp2
    go_ret
    exact ⟨rfl, HB.out⟩
end Go.Proofs.Ytafdagjdpnaddaa
