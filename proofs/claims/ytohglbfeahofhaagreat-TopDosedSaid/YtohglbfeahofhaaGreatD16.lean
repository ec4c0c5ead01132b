/- blend.odd at the example. -/
import Derived.Deep.Cut
import Derived.Deep.CutBlock
import Derived.Test.YtohglbfeahofhaaGreatD15
namespace Go.Proofs.YtohglbfeahofhaaGreat
open Go.RowKit
theorem kout_v (r : Bool) (lo hi : Int) (l : List Int) (hl : l.length ≤ 1000) (hr : outB lo hi l = r) (v : Value) (w : World) (h : ∃ b, v = .slice (some ⟨b, 0, none⟩) l.length l.length ∧ w.heap[b]? = some (.cells (ints l) 3)) :
    Calls Tryz.prog 37 #[.int .i64 lo, .int .i64 hi, v] w fun e w' => e = .returned (.bool r) ∧ Below w.heap.size w w' := by
  obtain ⟨b, rfl, hb⟩ := h
  exact kout_row r lo hi l _ rfl hl hr b _ rfl w hb
/-- A row that is built and read once, in a region that draws. -/
def RowP (xs : List Int) (d e : Bool) (y : Value) (w' : World) : Prop := d = true → e = false → ∃ b, y = .slice (some ⟨b, 0, none⟩) xs.length xs.length ∧ w'.heap[b]? = some (.cells (ints xs) 3)
theorem RowP.below {xs : List Int} {d e : Bool} {y : Value} {w w' : World} (h : RowP xs d e y w) (hb : Below w.heap.size w w') : RowP xs d e y w' := fun h1 h2 => by
  obtain ⟨b, h3, h4⟩ := h h1 h2
  exact ⟨b, h3, block_keep h4 hb⟩
theorem exW_in : ∀ i, i < 3 → 0 ≤ (exW.getD i default).1 ∧ (exW.getD i default).1 ≤ (exW.getD i default).2 ∧ (exW.getD i default).2 ≤ 20 := by
  intro i hi
  have h3 : i = 0 ∨ i = 1 ∨ i = 2 := by omega
  rcases h3 with rfl | rfl | rfl <;> decide
set_option maxRecDepth 100000 in
set_option maxHeartbeats 16000000 in
theorem odd_ok (v : Value) (pb : Nat) (w : World) (hv : BWaxesIn w.heap.size w v exL) (hp : SpansIn w.heap.size w (.slice (some ⟨pb, 0, none⟩) 3 3) exW) :
    Calls Tryz.prog 52 #[v, .agg (wishC (.slice (some ⟨pb, 0, none⟩) 3 3))] w fun e w' => e = .returned (.int .i64 0) ∧ Below w.heap.size w w' := by
  obtain ⟨a, cap, rfl, hcap, -⟩ := sl_shape hv
  have hl3 : exL.length = 3 := rfl
  have HV := Lib.hid hv
  have HP := Lib.hid hp
  rw [hl3] at HV ⊢
  have HCK := fun v w h => Lib.hid (bcheck_ok exL_ok v w h)
  clear hv hp hl3 hcap
  have C0 : Hid (Bs w [(w.heap.size, .cells (wishC (.slice (some ⟨pb, 0, none⟩) 3 3)) 70)] _) := Lib.hid ((Bs.nil w).push _ rfl (.cells (wishC (.slice (some ⟨pb, 0, none⟩) 3 3)) 70))
  go_enter Tryz.func52, Tryz.ntmps52
  go_wp2_with fail
  refine (HCK _ _ ((HV.out.below C0.out.bel).mono C0.out.bel.size)).out.mono ?_
  rintro e w1 ⟨rfl, hb⟩
  have C1 := Lib.hid (C0.out.call hb)
  clear hb C0
  have c0 := C1.out.cell 0 rfl 0
  have c1 := C1.out.cell 0 rfl 1
  have c2 := C1.out.cell 0 rfl 2
  have c3 := C1.out.cell 0 rfl 3
  have c4 := C1.out.cell 0 rfl 4
  go_wp2_with fail
  refine (kout_row false 0 2000 [560, 620] 2 rfl (by simp) (by decide) _ _ rfl _ (heap_alloc_new _ _)).mono ?_
  rintro e w2 ⟨rfl, hb⟩
  have C2 := Lib.hid ((C1.out.alloc _).call hb)
  clear hb C1 c0 c1 c2 c3 c4
  have c3 := C2.out.cell 0 rfl 3
  have c4 := C2.out.cell 0 rfl 4
  go_wp2_with fail
  refine (kout_row false 0 1000 [0, 140] 2 rfl (by simp) (by decide) _ _ rfl _ (heap_alloc_new _ _)).mono ?_
  rintro e w3 ⟨rfl, hb⟩
  have C3 := Lib.hid ((C2.out.alloc _).call hb)
  clear hb C2 c3 c4
  have c0 := C3.out.cell 0 rfl 0
  go_wp2_with fail
  clear c0
  go_loopw [8, 9, 64] (fun tv wv iv wr => tv = .bool false ∧ wv = .bool false ∧ ∃ i : Nat, iv = .int .i64 i ∧ i ≤ 3 ∧ Bs w [(w.heap.size, .cells (wishC (.slice (some ⟨pb, 0, none⟩) 3 3)) 70)] wr) (fun _ _ iv _ => 3 - (intOf iv).toNat)
  case atStart => exact ⟨rfl, rfl, 0, rfl, by omega, C3.out⟩
  case round =>
    clear C3
    obtain ⟨rfl, rfl, i, rfl, hi, hbs⟩ := hrel
    have CI := Lib.hid hbs
    clear hbs
    by_cases hil : i < 3
    · have hii : (i : Int) < 3 := by omega
      obtain ⟨b, o, he, hbl, hx1, hx2⟩ : ∃ b o, some (⟨pb, 0, none⟩ : Addr) = some ⟨b, o, none⟩ ∧ b < w.heap.size ∧ w.cell? ⟨b, o + i * 2, none⟩ = some (.int .i64 (exW.getD i default).1) ∧ w.cell? ⟨b, o + i * 2 + 1, none⟩ = some (.int .i64 (exW.getD i default).2) := HP.out.at' (i := i) hil
      cases he
      rw [Nat.zero_add] at hx1 hx2
      have hy1 : wr.cell? ⟨pb, i * 2, none⟩ = some (.int .i64 (exW.getD i default).1) := (CI.out.bel.cell (p := ⟨pb, i * 2, none⟩) hbl).trans hx1
      have hy2 : wr.cell? ⟨pb, i * 2 + 1, none⟩ = some (.int .i64 (exW.getD i default).2) := (CI.out.bel.cell (p := ⟨pb, i * 2 + 1, none⟩) hbl).trans hx2
      have hin := exW_in i hil
      clear hx1 hx2 hbl
      generalize exW.getD i default = p at *
      obtain ⟨p1, p2⟩ := p
      simp only at hy1 hy2 hin
      have HIN := Lib.hid hin
      have HII := Lib.hid hii
      have HIL := Lib.hid hil
      clear hin
      have CP := Lib.hid (CI.out.push _ rfl (.cells #[.int .i64 0, .int .i64 0] 41))
      go_wp2_with (refine wpList_store_bs rfl 41 _ _ rfl CP.out 1 _ _ _ _ rfl rfl rfl infoSpan rfl (by simp [Value.oneCell']) ?_; intro w5 hC; have C5 : Hid (Bs w [(w.heap.size, .cells (wishC (.slice (some ⟨pb, 0, none⟩) 3 3)) 70), (wr.heap.size, .cells #[.int .i64 p1, .int .i64 p2] 41)] w5) := hC; clear hC CP CI hy1 hy2)
      go_upto_region 11 with fail
      have hgt : decide (p2 < p1) = false := by have := HIN.out; simp; omega
      have HGT := Lib.hid hgt
      clear hgt
      refine wp_region_inv1 (by kernel_rfl) (by kernel_rfl) [82] (fun D y w' => Bs w [(w.heap.size, .cells (wishC (.slice (some ⟨pb, 0, none⟩) 3 3)) 70), (wr.heap.size, .cells #[.int .i64 p1, .int .i64 p2] 41)] w' ∧ RowP [p1, p2] (D 14) (D 15) (y 82) w') ⟨C5.out.drew, fun h => (by cases h)⟩ ?F1 ?hF1 ?_
      case hF1 =>
        intro y
        simp only [fill, List.foldl, Act.put, List.setIfInBounds_toArray, List.set]
        exact rfl
      iterate 14
        (apply obl_det
         case hrun =>
           intro D y wz hW hD R hR
           have HRR := Lib.hid hR
           clear hR
           have HW := Lib.hid hW
           have z0 := HW.out.1.cell 1 rfl 0
           have z1 := HW.out.1.cell 1 rfl 1
           have hgt := HGT.out
           clear hW hD
           go_wp2
           exact HRR.out _ HW.out
         case hnp => rfl
         case hv => first | exact ⟨_, fun _ => rfl⟩ | exact ⟨undef, fun _ => rfl⟩)
      apply obl_priv 82
      case hd => rfl
      case hp => rfl
      case hrun =>
        intro D y wz hW hD R hR
        have HRR := Lib.hid hR
        clear hR
        have HW := Lib.hid hW
        have z0 := HW.out.1.cell 1 rfl 0
        have z1 := HW.out.1.cell 1 rfl 1
        have hgt := HGT.out
        clear hW hD
        go_wp2
        refine HRR.out _ _ ?_
        refine ⟨HW.out.1.alloc _, fun _ _ => ⟨_, rfl, heap_alloc_new _ _⟩⟩
      apply obl_det
      case hrun =>
        intro D y wz hW hD R hR
        have HRR := Lib.hid hR
        clear hR
        have hRow := hW.2 (hD.pre _ 14 rfl (by kernel_rfl)) hD.not
        have HRow := Lib.hid hRow
        clear hRow
        replace hW := hW.1
        have HW := Lib.hid hW
        clear hW hD
        go_wp2_with fail
        refine (kout_v false 0 20 [p1, p2] (by simp) (outB_in (by have := HIN.out; simp; omega)) _ _ HRow.out).mono ?_
        rintro e w' ⟨rfl, hb⟩
        have HB2 := Lib.hid (HW.out.call hb)
        clear hb
        go_wp2_with fail
        refine HRR.out _ ?_
        exact ⟨HB2.out, fun _ h => (by cases h)⟩
      case hnp => rfl
      case hv => first | exact ⟨_, fun _ => rfl⟩ | exact ⟨undef, fun _ => rfl⟩
      iterate 3
        (apply obl_det
         case hrun =>
           intro D y wz hW hD R hR
           have HRR := Lib.hid hR
           clear hR
           have HW := Lib.hid hW
           have z0 := HW.out.1.cell 1 rfl 0
           have z1 := HW.out.1.cell 1 rfl 1
           have hgt := HGT.out
           clear hW hD
           go_wp2
           exact HRR.out _ HW.out
         case hnp => rfl
         case hv => first | exact ⟨_, fun _ => rfl⟩ | exact ⟨undef, fun _ => rfl⟩)
      apply obl_nil
      intro D y w8 hall hW
      have C8 := Lib.hid hW.1
      clear hall hW C5
      go_wp2_with fail
      refine ⟨⟨rfl, rfl, i + 1, by push_cast; rfl, by omega, C8.out.sub _ (by simp)⟩, ?_⟩
      simp [intOf]; omega
    · obtain rfl : i = 3 := by omega
      go_wp2_with fail
      go_ret
      exact ⟨rfl, CI.out.bel⟩
end Go.Proofs.YtohglbfeahofhaaGreat
