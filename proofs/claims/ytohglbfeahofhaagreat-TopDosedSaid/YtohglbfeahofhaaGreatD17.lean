/- blend.why and blend.Fits at the example. -/
import Derived.Deep.Cut
import Derived.Deep.CutBlock
import Derived.Test.YtohglbfeahofhaaGreatD16
namespace Go.Proofs.YtohglbfeahofhaaGreat
open Go.RowKit
def outsW (r : List Int) (k : Nat) : Bool := (List.range k).any fun i => outOne (exW.getD i default).1 (exW.getD i default).2 (r.getD i 0)
theorem outsW_succ (r : List Int) (k : Nat) : outsW r (k + 1) = (outsW r k || outOne (exW.getD k default).1 (exW.getD k default).2 (r.getD k 0)) := by
  unfold outsW
  rw [List.range_succ, List.any_append]
  simp
theorem outsW_up {r : List Int} {k : Nat} (h : outsW r k = true) : ∀ d, outsW r (k + d) = true
  | 0 => h
  | d + 1 => by rw [← Nat.add_assoc, outsW_succ, outsW_up h d]; rfl
/-- Why a recipe does not fit. -/
def whyE (e : (Int × Int) × (Int × Int)) : Int := if e.1.1 < 11200 then 2 else if 12400 < e.1.2 then 3 else if e.2.1 < 0 then 4 else if 2800 < e.2.2 then 4 else 0
def whyV (r : List Int) : Int := if outsW r 3 = true then 1 else whyE (endsV (exL.zip r))
set_option maxRecDepth 100000 in
set_option maxHeartbeats 16000000 in
theorem why_ok {r : List Int} (hr : R3 r) (v rv : Value) (pb : Nat) (w : World) (hv : BWaxesIn w.heap.size w v exL) (hrv : IntsIn .i64 w.heap.size w rv r) (hp : SpansIn w.heap.size w (.slice (some ⟨pb, 0, none⟩) 3 3) exW) :
    Calls Tryz.prog 54 #[v, .agg (wishC (.slice (some ⟨pb, 0, none⟩) 3 3)), rv] w fun e w' => e = .returned (.int .i64 (whyV r)) ∧ Below w.heap.size w w' := by
  obtain ⟨a, cap, rfl, hcap, -⟩ := sl_shape hv
  obtain ⟨ra, rcap, rfl, -⟩ := id hrv
  have hl3 : exL.length = 3 := rfl
  have HV := Lib.hid hv
  have HRV := Lib.hid hrv
  have HP := Lib.hid hp
  have HR := Lib.hid hr
  rw [hl3] at HV ⊢
  rw [hr.len] at HRV ⊢
  have HBL := fun v rv w h1 h2 => Lib.hid (blend_ok exL r (by decide) (by decide) hr.len v rv w h1 h2)
  have HEN := fun v w h => Lib.hid (ends_ok (exL.zip r) (ex_psok hr) (by rw [ex_pslen hr]; decide) v w h)
  have HWV : Hid (whyV r = if outsW r 3 = true then 1 else whyE (endsV (exL.zip r))) := rfl
  rw [hl3] at HBL
  generalize exL.zip r = ps at *
  generalize whyV r = R at *
  clear hv hrv hp hl3 hcap hr
  have C0 : Hid (Bs w [(w.heap.size, .cells (wishC (.slice (some ⟨pb, 0, none⟩) 3 3)) 70)] _) := Lib.hid ((Bs.nil w).push _ rfl (.cells (wishC (.slice (some ⟨pb, 0, none⟩) 3 3)) 70))
  go_enter Tryz.func54, Tryz.ntmps54
  go_wp2_with fail
  go_loopw [13] (fun iv wr => ∃ i : Nat, iv = .int .i64 i ∧ i ≤ 3 ∧ outsW r i = false ∧ Bs w [(w.heap.size, .cells (wishC (.slice (some ⟨pb, 0, none⟩) 3 3)) 70)] wr) (fun iv _ => 3 - (intOf iv).toNat)
  case atStart => exact ⟨0, rfl, by omega, rfl, C0.out⟩
  case round =>
    clear C0
    obtain ⟨i, rfl, hi, ho, hbs⟩ := hrel
    have CI := Lib.hid hbs
    have HO := Lib.hid ho
    clear hbs ho
    by_cases hil : i < 3
    · have hii : (i : Int) < 3 := by omega
      obtain ⟨b, o, he, hbl, hx1, hx2⟩ : ∃ b o, some (⟨pb, 0, none⟩ : Addr) = some ⟨b, o, none⟩ ∧ b < w.heap.size ∧ w.cell? ⟨b, o + i * 2, none⟩ = some (.int .i64 (exW.getD i default).1) ∧ w.cell? ⟨b, o + i * 2 + 1, none⟩ = some (.int .i64 (exW.getD i default).2) := HP.out.at' (i := i) hil
      cases he
      rw [Nat.zero_add] at hx1 hx2
      obtain ⟨rb, ro, he, hrbl, hrx⟩ : ∃ b o, ra = some ⟨b, o, none⟩ ∧ b < w.heap.size ∧ w.cell? ⟨b, o + i, none⟩ = some (.int .i64 (r.getD i 0)) := HRV.out.atU (by rw [HR.out.len]; exact hil)
      cases he
      have hy0 := (CI.out.bel.cell (p := ⟨rb, ro + i, none⟩) hrbl).trans hrx
      have HX1 := Lib.hid hx1
      have HX2 := Lib.hid hx2
      have HBB := Lib.hid hbl
      have HOS := Lib.hid (outsW_succ r i)
      have HOU := Lib.hid (fun h => outsW_up (r := r) (k := i + 1) h (2 - i))
      clear hx1 hx2 hbl hrbl hrx
      generalize exW.getD i default = p at *
      generalize r.getD i 0 = n at *
      obtain ⟨p1, p2⟩ := p
      simp only at HX1 HX2 HOS
      rw [HO.out, Bool.false_or] at HOS
      have HII := Lib.hid hii
      have HIL := Lib.hid hil
      go_wp2_with fail
      clear hy0
      cases hq : outOne p1 p2 n with
      | true =>
        have HQ := Lib.hid hq
        clear hq
        rw [HQ.out] at HOS
        go_upto_region 4 with fail
        refine wp_region_inv1 (by kernel_rfl) (by kernel_rfl) [31] (fun D y w' => Bs w [(w.heap.size, .cells (wishC (.slice (some ⟨pb, 0, none⟩) 3 3)) 70)] w' ∧ RowP [n] (D 13) (D 14) (y 31) w') ⟨CI.out.drew, fun h => (by cases h)⟩ ?F2 ?hF2 ?_
        case hF2 =>
          intro y
          simp only [fill, List.foldl, Act.put, List.setIfInBounds_toArray, List.set]
          exact rfl
        iterate 13
          (apply obl_det
           case hrun =>
             intro D y wz hW hD R hR
             have HRR := Lib.hid hR
             clear hR
             have HW := Lib.hid hW
             have z0 := HW.out.1.cell 0 rfl 0
             have hy1 := (HW.out.1.bel.cell (p := ⟨pb, i * 2, none⟩) HBB.out).trans HX1.out
             have hy2 := (HW.out.1.bel.cell (p := ⟨pb, i * 2 + 1, none⟩) HBB.out).trans HX2.out
             have hii := HII.out
             have hil := HIL.out
             clear hW hD
             go_wp2
             exact HRR.out _ HW.out
           case hnp => rfl
           case hv => first | exact ⟨_, fun _ => rfl⟩ | exact ⟨undef, fun _ => rfl⟩)
        apply obl_priv 31
        case hd => rfl
        case hp => rfl
        case hrun =>
          intro D y wz hW hD R hR
          have HRR := Lib.hid hR
          clear hR
          have HW := Lib.hid hW
          have z0 := HW.out.1.cell 0 rfl 0
          have hy1 := (HW.out.1.bel.cell (p := ⟨pb, i * 2, none⟩) HBB.out).trans HX1.out
          have hy2 := (HW.out.1.bel.cell (p := ⟨pb, i * 2 + 1, none⟩) HBB.out).trans HX2.out
          have hii := HII.out
          have hil := HIL.out
          clear hW hD
          go_wp2
          refine HRR.out _ _ ?_
          refine ⟨HW.out.1.alloc _, fun _ _ => ⟨_, rfl, heap_alloc_new _ _⟩⟩
        apply obl_det
        case hrun =>
          intro D y wz hW hD R hR
          have HRR := Lib.hid hR
          clear hR
          have hRow := hW.2 (hD.pre _ 13 rfl (by kernel_rfl)) hD.not
          have HRow := Lib.hid hRow
          clear hRow
          replace hW := hW.1
          have HW := Lib.hid hW
          clear hW hD
          go_wp2_with fail
          refine (kout_v true p1 p2 [n] (by simp) (by rw [outB_one]; exact HQ.out) _ _ HRow.out).mono ?_
          rintro e w' ⟨rfl, hb⟩
          have HB2 := Lib.hid (HW.out.call hb)
          clear hb
          go_wp2_with fail
          refine HRR.out _ ?_
          exact ⟨HB2.out, fun _ h => (by cases h)⟩
        case hnp => rfl
        case hv => first | exact ⟨_, fun _ => rfl⟩ | exact ⟨undef, fun _ => rfl⟩
        apply obl_nil
        intro D y w8 hall hW
        have C8 := Lib.hid hW.1
        clear hall hW CI
        go_wp2_with fail
        go_ret
        refine ⟨ret_int ?_, C8.out.bel⟩
        have h := HOU.out HOS.out
        rw [show i + 1 + (2 - i) = 3 by have := HIL.out; omega] at h
        rw [HWV.out, if_pos h]
      | false =>
        have HQ := Lib.hid hq
        clear hq
        rw [HQ.out] at HOS
        go_upto_region 4 with fail
        refine wp_region_inv1 (by kernel_rfl) (by kernel_rfl) [31] (fun D y w' => Bs w [(w.heap.size, .cells (wishC (.slice (some ⟨pb, 0, none⟩) 3 3)) 70)] w' ∧ RowP [n] (D 13) (D 14) (y 31) w') ⟨CI.out.drew, fun h => (by cases h)⟩ ?F3 ?hF3 ?_
        case hF3 =>
          intro y
          simp only [fill, List.foldl, Act.put, List.setIfInBounds_toArray, List.set]
          exact rfl
        iterate 13
          (apply obl_det
           case hrun =>
             intro D y wz hW hD R hR
             have HRR := Lib.hid hR
             clear hR
             have HW := Lib.hid hW
             have z0 := HW.out.1.cell 0 rfl 0
             have hy1 := (HW.out.1.bel.cell (p := ⟨pb, i * 2, none⟩) HBB.out).trans HX1.out
             have hy2 := (HW.out.1.bel.cell (p := ⟨pb, i * 2 + 1, none⟩) HBB.out).trans HX2.out
             have hii := HII.out
             have hil := HIL.out
             clear hW hD
             go_wp2
             exact HRR.out _ HW.out
           case hnp => rfl
           case hv => first | exact ⟨_, fun _ => rfl⟩ | exact ⟨undef, fun _ => rfl⟩)
        apply obl_priv 31
        case hd => rfl
        case hp => rfl
        case hrun =>
          intro D y wz hW hD R hR
          have HRR := Lib.hid hR
          clear hR
          have HW := Lib.hid hW
          have z0 := HW.out.1.cell 0 rfl 0
          have hy1 := (HW.out.1.bel.cell (p := ⟨pb, i * 2, none⟩) HBB.out).trans HX1.out
          have hy2 := (HW.out.1.bel.cell (p := ⟨pb, i * 2 + 1, none⟩) HBB.out).trans HX2.out
          have hii := HII.out
          have hil := HIL.out
          clear hW hD
          go_wp2
          refine HRR.out _ _ ?_
          refine ⟨HW.out.1.alloc _, fun _ _ => ⟨_, rfl, heap_alloc_new _ _⟩⟩
        apply obl_det
        case hrun =>
          intro D y wz hW hD R hR
          have HRR := Lib.hid hR
          clear hR
          have hRow := hW.2 (hD.pre _ 13 rfl (by kernel_rfl)) hD.not
          have HRow := Lib.hid hRow
          clear hRow
          replace hW := hW.1
          have HW := Lib.hid hW
          clear hW hD
          go_wp2_with fail
          refine (kout_v false p1 p2 [n] (by simp) (by rw [outB_one]; exact HQ.out) _ _ HRow.out).mono ?_
          rintro e w' ⟨rfl, hb⟩
          have HB2 := Lib.hid (HW.out.call hb)
          clear hb
          go_wp2_with fail
          refine HRR.out _ ?_
          exact ⟨HB2.out, fun _ h => (by cases h)⟩
        case hnp => rfl
        case hv => first | exact ⟨_, fun _ => rfl⟩ | exact ⟨undef, fun _ => rfl⟩
        apply obl_nil
        intro D y w8 hall hW
        have C8 := Lib.hid hW.1
        clear hall hW CI
        go_wp2_with fail
        refine ⟨⟨i + 1, by push_cast; rfl, by omega, HOS.out, C8.out⟩, ?_⟩
        simp [intOf]; omega
    · obtain rfl : i = 3 := by omega
      rw [if_neg (by rw [HO.out]; decide)] at HWV
      go_wp2_with fail
      refine (HBL _ _ _ ((HV.out.below CI.out.bel).mono CI.out.bel.size) ((HRV.out.below CI.out.bel).mono CI.out.bel.size)).out.mono ?_
      rintro e w2 ⟨rfl, hpp, hb⟩
      have C2 := Lib.hid (CI.out.call hb)
      have HPP := Lib.hid hpp
      clear hb CI hpp
      go_wp2_with fail
      refine (HEN _ _ HPP.out).out.mono ?_
      rintro e w3 ⟨rfl, hb⟩
      have C3 := Lib.hid (C2.out.call hb)
      clear hb C2 HPP HEN HBL
      generalize endsV ps = E at *
      obtain ⟨⟨e1, e2⟩, e3, e4⟩ := E
      have HWV : Hid (R = if e1 < 11200 then 2 else if 12400 < e2 then 3 else if e3 < 0 then 4 else if 2800 < e4 then 4 else 0) := HWV
      have C4 := Lib.hid ((C3.out.push _ rfl (.cells #[.int .i64 0, .int .i64 0] 41)).push (w3.heap.size + 1) (by simp) (.cells #[.int .i64 0, .int .i64 0] 41))
      clear C3
      go_wp2_with (first | (refine wpList_store_bs rfl 41 _ _ rfl C4.out 1 _ _ _ _ rfl rfl rfl infoSpan rfl (by simp [Value.oneCell']) ?_; intro w4 hC; have C5 : Hid (Bs w [(w.heap.size, .cells (wishC (.slice (some ⟨pb, 0, none⟩) 3 3)) 70), (w3.heap.size, .cells #[.int .i64 e1, .int .i64 e2] 41), (w3.heap.size + 1, .cells #[.int .i64 0, .int .i64 0] 41)] w4) := hC; clear hC C4) | (refine wpList_store_bs rfl 41 _ _ rfl C5.out 2 _ _ _ _ rfl rfl rfl infoSpan rfl (by simp [Value.oneCell']) ?_; intro w5 hC; have C6 : Hid (Bs w [(w.heap.size, .cells (wishC (.slice (some ⟨pb, 0, none⟩) 3 3)) 70), (w3.heap.size, .cells #[.int .i64 e1, .int .i64 e2] 41), (w3.heap.size + 1, .cells #[.int .i64 e3, .int .i64 e4] 41)] w5) := hC; clear hC C5; have c1 := C6.out.cell 0 rfl 1; have c2 := C6.out.cell 0 rfl 2; have c3 := C6.out.cell 0 rfl 3; have c4 := C6.out.cell 0 rfl 4; have d0 := C6.out.cell 1 rfl 0; have d1 := C6.out.cell 1 rfl 1; have d2 := C6.out.cell 2 rfl 0; have d3 := C6.out.cell 2 rfl 1))
      all_goals go_ret
      all_goals (refine ⟨ret_int ?_, C6.out.bel⟩; rw [HWV.out]; (repeat' split) <;> first | rfl | omega)
set_option maxHeartbeats 4000000 in
theorem fits_ok {r : List Int} (hr : ROk 3 r) (v rv : Value) (pb : Nat) (w : World) (hv : BWaxesIn w.heap.size w v exL) (hrv : IntsIn .i64 w.heap.size w rv r) (hp : SpansIn w.heap.size w (.slice (some ⟨pb, 0, none⟩) 3 3) exW) :
    Calls Tryz.prog 19 #[v, .agg (wishC (.slice (some ⟨pb, 0, none⟩) 3 3)), rv] w fun e w' => e = .returned (.tuple #[.int .i64 (whyV r), .int .i64 0]) ∧ Below w.heap.size w w' := by
  obtain ⟨a, cap, rfl, hcap, -⟩ := sl_shape hv
  obtain ⟨ra, rcap, rfl, -⟩ := id hrv
  have HV := Lib.hid hv
  have HRV := Lib.hid hrv
  have HP := Lib.hid hp
  have HOD := fun v w h1 h2 => Lib.hid (odd_ok v pb w h1 h2)
  have HST := fun v rv w h1 h2 => Lib.hid (strange_ok (l := exL) (r := r) hr (by decide) v rv w h1 h2)
  have HWY := fun v rv w h1 h2 h3 => Lib.hid (why_ok (R3.of hr) v rv pb w h1 h2 h3)
  generalize whyV r = R at *
  clear hv hrv hp hcap
  have C0 : Hid (Bs w [(w.heap.size, .cells (wishC (.slice (some ⟨pb, 0, none⟩) 3 3)) 70)] _) := Lib.hid ((Bs.nil w).push _ rfl (.cells (wishC (.slice (some ⟨pb, 0, none⟩) 3 3)) 70))
  go_enter Tryz.func19, Tryz.ntmps19
  go_wp2_with (refine wpList_load_row rfl 70 _ rfl _ rfl _ _ _ _ (C0.out.get 0 rfl) Tryz.underlying70 rfl infoWish ?_)
  refine (HOD _ _ ((HV.out.below C0.out.bel).mono C0.out.bel.size) ((HP.out.below C0.out.bel).mono C0.out.bel.size)).out.mono ?_
  rintro e w1 ⟨rfl, hb⟩
  have C1 := Lib.hid (C0.out.call hb)
  clear hb C0 HOD
  go_wp2_with fail
  refine (HST _ _ _ ((HV.out.below C1.out.bel).mono C1.out.bel.size) ((HRV.out.below C1.out.bel).mono C1.out.bel.size)).out.mono ?_
  rintro e w2 ⟨rfl, hb⟩
  have C2 := Lib.hid (C1.out.call hb)
  clear hb C1 HST
  go_wp2_with (refine wpList_load_row rfl 70 _ rfl _ rfl _ _ _ _ (C2.out.get 0 rfl) Tryz.underlying70 rfl infoWish ?_)
  refine (HWY _ _ _ ((HV.out.below C2.out.bel).mono C2.out.bel.size) ((HRV.out.below C2.out.bel).mono C2.out.bel.size) ((HP.out.below C2.out.bel).mono C2.out.bel.size)).out.mono ?_
  rintro e w3 ⟨rfl, hb⟩
  have C3 := Lib.hid (C2.out.call hb)
  clear hb C2 HWY
  go_wp2_with fail
  go_ret2
  exact ⟨rfl, C3.out.bel⟩
end Go.Proofs.YtohglbfeahofhaaGreat
