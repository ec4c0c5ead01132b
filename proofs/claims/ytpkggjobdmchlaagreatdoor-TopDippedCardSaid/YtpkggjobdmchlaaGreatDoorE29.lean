/- dip.Write at the example. -/
import Derived.Deep.Cut
import Derived.Deep.CutBlock
import Derived.Test.YtpkggjobdmchlaaGreatDoorE25
import Derived.Test.YtpkggjobdmchlaaGreatDoorE16
import Derived.Test.YtpkggjobdmchlaaGreatDoorSH
namespace Go.Proofs.YtpkggjobdmchlaaGreatDoor
open Go.RowKit
def exP : List DDip := [⟨0, 3, 40, false⟩, ⟨0, 3, 30, true⟩]
def exTxt : Nat → List UInt8
  | 0 => []
  | 1 => [108, 111, 119, 32, 51, 32, 52, 48, 10]
  | _ => [108, 111, 119, 32, 51, 32, 52, 48, 10, 108, 111, 119, 32, 51, 32, 51, 48, 32, 116, 117, 114, 110, 101, 100, 10]
abbrev exText : ByteArray := ⟨#[108, 111, 119, 32, 51, 32, 52, 48, 10, 108, 111, 119, 32, 51, 32, 51, 48, 32, 116, 117, 114, 110, 101, 100, 10]⟩
theorem exP_plan : planE exS exP = 0 := by kernel_rfl
theorem IsBuilder.keep {T e : TypeId} {B b : Nat} {bs : List Value} {w w' : World} (h : Lib.IsBuilder T e B b bs w) (hb : Below w.heap.size w w') : Lib.IsBuilder T e B b bs w' := by
  rcases h with ⟨h1, v, h2, h3, h4⟩ | ⟨h1, v, h2, h3, h4⟩
  · exact .inl ⟨h1, v, block_keep h2 hb, ownsRow.below h3 hb, h4⟩
  · exact .inr ⟨h1, v, block_keep h2 hb, ownsRow.below h3 hb, h4⟩
set_option maxRecDepth 100000 in
set_option maxHeartbeats 16000000 in
theorem write37 (v lv : Value) (w : World) (hv : DBathsIn w.heap.size w v exS.baths) (hl : DipsIn w.heap.size w lv exP) :
    Calls Tryz.prog 37 #[.agg (dshopC exS v), lv] w fun e w' => e = .returned (.tuple #[.string exText, .int .i64 0]) ∧ Below w.heap.size w w' := by
  obtain ⟨va, vc, rfl, -, -⟩ := sl_shape hv
  obtain ⟨nb, no, he, hnb, hn0, -, -, -⟩ := hv.at' (i := 0) (by decide)
  subst he
  obtain ⟨lo, lp, lc, rfl, hlc, hlb, hlr⟩ := hl.row (by simp [exP])
  obtain ⟨a0, a1, a2, a3⟩ := hlr 0 (by simp [exP])
  obtain ⟨b0, b1, b2, b3⟩ := hlr 1 (by simp [exP])
  have HV := Lib.hid hv
  have HL := Lib.hid hl
  have hlen : exS.baths.length = 2 := rfl
  rw [hlen] at HV ⊢
  have hlen1 : exP.length = 2 := rfl
  rw [hlen1] at HL hlc ⊢
  have HOP := fun v lv w h1 h2 => Lib.hid (dopen_ok exS_ok (t := ⟨0, 0, 0⟩) ⟨by decide, by decide, by decide⟩ exP v lv w h1 h2)
  rw [exP_plan] at HOP
  have HN0 : Hid (w.cell? ⟨nb, no, none⟩ = some (.string ⟨#[108, 111, 119]⟩)) := hn0
  have HNB : Hid (nb < w.heap.size) := hnb
  have HX00 : Hid (w.cell? ⟨lo, lp, none⟩ = some (.int .i64 0)) := a0
  have HX01 : Hid (w.cell? ⟨lo, lp + 1, none⟩ = some (.int .i64 3)) := a1
  have HX02 : Hid (w.cell? ⟨lo, lp + 2, none⟩ = some (.int .i64 40)) := a2
  have HX03 : Hid (w.cell? ⟨lo, lp + 3, none⟩ = some (.bool false)) := a3
  have HX10 : Hid (w.cell? ⟨lo, lp + 4, none⟩ = some (.int .i64 0)) := b0
  have HX11 : Hid (w.cell? ⟨lo, lp + 4 + 1, none⟩ = some (.int .i64 3)) := b1
  have HX12 : Hid (w.cell? ⟨lo, lp + 4 + 2, none⟩ = some (.int .i64 30)) := b2
  have HX13 : Hid (w.cell? ⟨lo, lp + 4 + 3, none⟩ = some (.bool true)) := b3
  have HLB : Hid (lo < w.heap.size) := hlb
  have HI3 : ∀ w : World, Hid (Calls Tryz.prog 66 #[.int .i64 3] w fun e w' => e = .returned (.string ⟨#[51]⟩) ∧ w' = w) := fun w => Lib.hid (by
    have h := Tryz.strconv_Itoa_small 3 (by omega) w
    have e : Lib.decDigits 3 = [51] := by simp [Lib.decDigits]
    rw [e] at h; exact h)
  have HI40 : ∀ w : World, Hid (Calls Tryz.prog 66 #[.int .i64 40] w fun e w' => e = .returned (.string ⟨#[52, 48]⟩) ∧ w' = w) := fun w => Lib.hid (by
    have h := Tryz.strconv_Itoa_small 40 (by omega) w
    have e : Lib.decDigits 40 = [52, 48] := by simp [Lib.decDigits]
    rw [e] at h; exact h)
  have HI30 : ∀ w : World, Hid (Calls Tryz.prog 66 #[.int .i64 30] w fun e w' => e = .returned (.string ⟨#[51, 48]⟩) ∧ w' = w) := fun w => Lib.hid (by
    have h := Tryz.strconv_Itoa_small 30 (by omega) w
    have e : Lib.decDigits 30 = [51, 48] := by simp [Lib.decDigits]
    rw [e] at h; exact h)
  clear hv hl hlr hlb hnb hn0 a0 a1 a2 a3 b0 b1 b2 b3 hlen hlen1
  have C0 : Hid (Bs w [(w.heap.size, .cells (dshopC exS (.slice (some ⟨nb, no, none⟩) 2 vc)) 30)] _) := Lib.hid ((Bs.nil w).push _ rfl (.cells (dshopC exS (.slice (some ⟨nb, no, none⟩) 2 vc)) 30))
  go_enter Tryz.func37, Tryz.ntmps37
  go_upto_region 1 with fail
  go_wp2_with (refine wpList_load_row rfl 30 _ rfl _ rfl _ _ _ _ (C0.out.get 0 rfl) Tryz.underlying30 rfl infoDS ?_)
  refine (HOP _ _ _ ((HV.out.below C0.out.bel).mono C0.out.bel.size) ((HL.out.below C0.out.bel).mono C0.out.bel.size)).out.mono ?_
  rintro e w1 ⟨rfl, hb⟩
  have C1 := Lib.hid (C0.out.call hb)
  clear hb HOP C0
  have CP : Hid (Bs w1 [(w1.heap.size, .cells #[.int .i64 0, .int .i64 0, .int .i64 0, .int .i64 0, .int .i64 0, .int .i64 0, .int .i64 0, .int .i64 0, .slice none 0 0] 106)] _) := Lib.hid ((Bs.nil w1).push w1.heap.size rfl (.cells #[.int .i64 0, .int .i64 0, .int .i64 0, .int .i64 0, .int .i64 0, .int .i64 0, .int .i64 0, .int .i64 0, .slice none 0 0] 106))
  go_upto_region 2 with (refine wpList_store_bs rfl 106 _ _ rfl CP.out 0 _ (dshopC exS (.slice (some ⟨nb, no, none⟩) 2 vc)) _ _ rfl rfl rfl infoDsh rfl (by simp [Value.oneCell']) ?_; intro w2 hC; have D2 : Hid (Bs w1 [(w1.heap.size, .cells (dshopC exS (.slice (some ⟨nb, no, none⟩) 2 vc)) 106)] w2) := hC; clear hC CP)
  have HX8 := Lib.hid (D2.out.cell 0 rfl 8)
  have HXL : Hid (w1.heap.size < w2.heap.size) := D2.out.lt 0 rfl
  have C2 := Lib.hid (C1.out.call D2.out.bel)
  have HB0 := Lib.hid (Lib.fresh_isBuilder 150 5 w2)
  have HM0 : Hid (Below w2.heap.size w2 (w2.alloc (.cells #[.pointer none, .slice none 0 0] 150))) := (Below.refl _ _).alloc (Nat.le_refl _) _
  go_upto_region 5 with fail
  go_wp2_with fail
  go_loopw [24] (fun iv wr => ∃ k : Nat, iv = .int .i64 k ∧ k ≤ 2 ∧ Below w2.heap.size w2 wr ∧ Lib.IsBuilder 150 5 w2.heap.size w2.heap.size (Lib.byteCells (exTxt k)) wr) (fun iv _ => 2 - (intOf iv).toNat)
  case atStart => exact ⟨0, rfl, by omega, HM0.out, HB0.out⟩
  case round =>
    obtain ⟨k, rfl, hk, hm, hbd⟩ := hrel
    have HM := Lib.hid hm
    have HB := Lib.hid hbd
    clear hm hbd HB0 HM0
    have HBW : Hid (Below w.heap.size w wr) := C2.out.bel.trans (HM.out.mono C2.out.bel.size)
    have HXL2 : Hid (w1.heap.size < wr.heap.size) := Nat.lt_of_lt_of_le HXL.out HM.out.size
    have HX8w := Lib.hid ((HM.out.cell (p := ⟨w1.heap.size, 8, none⟩) HXL.out).trans HX8.out)
    have HN0w := Lib.hid ((HBW.out.cell (p := ⟨nb, no, none⟩) HNB.out).trans HN0.out)
    have HNBw : Hid (nb < wr.heap.size) := Nat.lt_of_lt_of_le HNB.out HBW.out.size
    rcases (by omega : k = 0 ∨ k = 1 ∨ k = 2) with rfl | rfl | rfl
    · have HB : Hid (Lib.IsBuilder 150 5 w2.heap.size w2.heap.size (Lib.byteCells []) wr) := HB
      have x0 := (HBW.out.cell (p := ⟨lo, lp, none⟩) HLB.out).trans HX00.out
      have x1 := (HBW.out.cell (p := ⟨lo, lp + 1, none⟩) HLB.out).trans HX01.out
      have x2 := (HBW.out.cell (p := ⟨lo, lp + 2, none⟩) HLB.out).trans HX02.out
      have x3 := (HBW.out.cell (p := ⟨lo, lp + 3, none⟩) HLB.out).trans HX03.out
      have FP : Hid (Bs wr [(wr.heap.size, .cells #[.int .i64 0, .int .i64 0, .int .i64 0, .bool false] 54)] _) := Lib.hid ((Bs.nil wr).push wr.heap.size rfl (.cells #[.int .i64 0, .int .i64 0, .int .i64 0, .bool false] 54))
      go_upto_region 8 with (refine wpList_store_bs rfl 54 _ _ rfl FP.out 0 _ #[.int .i64 0, .int .i64 3, .int .i64 40, .bool false] _ _ rfl rfl rfl infoDD rfl (by simp [Value.oneCell']) ?_; intro w6 hC; have F6 : Hid (Bs wr [(wr.heap.size, .cells #[.int .i64 0, .int .i64 3, .int .i64 40, .bool false] 54)] w6) := hC; clear hC FP x0 x1 x2 x3)
      obtain ⟨VW, HV⟩ : ∃ z, Hid (w6.drew = z) := ⟨_, rfl⟩
      obtain ⟨V1, HV1⟩ : ∃ z, Hid (VW.alloc (.cells #[.string ⟨#[108, 111, 119]⟩, .string ⟨#[51]⟩, .string ⟨#[52, 48]⟩, .string ⟨#[116, 117, 114, 110, 101, 100]⟩] 9) = z) := ⟨_, rfl⟩
      refine wp_region_inv0 (by kernel_rfl) (by kernel_rfl) (fun D w' => AlC wr [(wr.heap.size, .cells #[.int .i64 0, .int .i64 3, .int .i64 40, .bool false] 54)] VW V1 (D 14) false w') ⟨F6.out.drew, fun _ => HV.out.symm ▸ rfl⟩ ?_
      iterate 2
        (apply obl_det
         case hrun =>
           intro D y wz hW hD R hR
           have HRR := Lib.hid hR
           clear hR
           have HW := Lib.hid hW
           clear hW hD
           go_wp2_with fail
           exact HRR.out _ HW.out
         case hnp => rfl
         case hv => first | exact ⟨_, fun _ => rfl⟩ | exact ⟨undef, fun _ => rfl⟩)
      apply obl_det
      case hrun =>
        intro D y wz hW hD R hR
        have HRR := Lib.hid hR
        clear hR
        have HW := Lib.hid hW
        have c_8 := (HW.out.bs.bel.cell (p := ⟨w1.heap.size, 8, none⟩) HXL2.out).trans HX8w.out
        clear hW hD
        go_wp2_with fail
        exact HRR.out _ HW.out
      case hnp => rfl
      case hv => first | exact ⟨_, fun _ => rfl⟩ | exact ⟨undef, fun _ => rfl⟩
      apply obl_det
      case hrun =>
        intro D y wz hW hD R hR
        have HRR := Lib.hid hR
        clear hR
        have HW := Lib.hid hW
        clear hW hD
        go_wp2_with fail
        exact HRR.out _ HW.out
      case hnp => rfl
      case hv => first | exact ⟨_, fun _ => rfl⟩ | exact ⟨undef, fun _ => rfl⟩
      apply obl_det
      case hrun =>
        intro D y wz hW hD R hR
        have HRR := Lib.hid hR
        clear hR
        have HW := Lib.hid hW
        have c_d := HW.out.bs.cell 0 rfl 0
        clear hW hD
        go_wp2_with fail
        exact HRR.out _ HW.out
      case hnp => rfl
      case hv => first | exact ⟨_, fun _ => rfl⟩ | exact ⟨undef, fun _ => rfl⟩
      iterate 2
        (apply obl_det
         case hrun =>
           intro D y wz hW hD R hR
           have HRR := Lib.hid hR
           clear hR
           have HW := Lib.hid hW
           clear hW hD
           go_wp2_with fail
           exact HRR.out _ HW.out
         case hnp => rfl
         case hv => first | exact ⟨_, fun _ => rfl⟩ | exact ⟨undef, fun _ => rfl⟩)
      apply obl_det
      case hrun =>
        intro D y wz hW hD R hR
        have HRR := Lib.hid hR
        clear hR
        have HW := Lib.hid hW
        have c_n := (HW.out.bs.bel.cell (p := ⟨nb, no, none⟩) HNBw.out).trans HN0w.out
        clear hW hD
        go_wp2_with fail
        exact HRR.out _ HW.out
      case hnp => rfl
      case hv => first | exact ⟨_, fun _ => rfl⟩ | exact ⟨undef, fun _ => rfl⟩
      apply obl_det
      case hrun =>
        intro D y wz hW hD R hR
        have HRR := Lib.hid hR
        clear hR
        have HW := Lib.hid hW
        clear hW hD
        go_wp2_with fail
        exact HRR.out _ HW.out
      case hnp => rfl
      case hv => first | exact ⟨_, fun _ => rfl⟩ | exact ⟨undef, fun _ => rfl⟩
      apply obl_det
      case hrun =>
        intro D y wz hW hD R hR
        have HRR := Lib.hid hR
        clear hR
        have HW := Lib.hid hW
        have c_d := HW.out.bs.cell 0 rfl 1
        clear hW hD
        go_wp2_with fail
        exact HRR.out _ HW.out
      case hnp => rfl
      case hv => first | exact ⟨_, fun _ => rfl⟩ | exact ⟨undef, fun _ => rfl⟩
      apply obl_det
      case hrun =>
        intro D y wz hW hD R hR
        have HRR := Lib.hid hR
        clear hR
        have h14 : D 14 = false := hD.post _ 14 rfl (by kernel_rfl)
        have hz : wz = VW := by rw [hW.ex rfl, h14]; rfl
        have HZ := Lib.hid hz
        clear h14 hz
        have HW := Lib.hid hW
        clear hW hD
        go_wp2_with fail
        refine (HI3 _).out.mono ?_
        rintro e w' ⟨rfl, rfl⟩
        go_wp2_with fail
        exact HRR.out _ HW.out
      case hnp => rfl
      case hv => first | exact ⟨_, fun _ => rfl⟩ | exact ⟨undef, fun _ => rfl⟩
      apply obl_det
      case hrun =>
        intro D y wz hW hD R hR
        have HRR := Lib.hid hR
        clear hR
        have HW := Lib.hid hW
        clear hW hD
        go_wp2_with fail
        exact HRR.out _ HW.out
      case hnp => rfl
      case hv => first | exact ⟨_, fun _ => rfl⟩ | exact ⟨undef, fun _ => rfl⟩
      apply obl_det
      case hrun =>
        intro D y wz hW hD R hR
        have HRR := Lib.hid hR
        clear hR
        have HW := Lib.hid hW
        have c_d := HW.out.bs.cell 0 rfl 2
        clear hW hD
        go_wp2_with fail
        exact HRR.out _ HW.out
      case hnp => rfl
      case hv => first | exact ⟨_, fun _ => rfl⟩ | exact ⟨undef, fun _ => rfl⟩
      apply obl_det
      case hrun =>
        intro D y wz hW hD R hR
        have HRR := Lib.hid hR
        clear hR
        have h14 : D 14 = false := hD.post _ 14 rfl (by kernel_rfl)
        have hz : wz = VW := by rw [hW.ex rfl, h14]; rfl
        have HZ := Lib.hid hz
        clear h14 hz
        have HW := Lib.hid hW
        clear hW hD
        go_wp2_with fail
        refine (HI40 _).out.mono ?_
        rintro e w' ⟨rfl, rfl⟩
        go_wp2_with fail
        exact HRR.out _ HW.out
      case hnp => rfl
      case hv => first | exact ⟨_, fun _ => rfl⟩ | exact ⟨undef, fun _ => rfl⟩
      apply obl_det
      case hrun =>
        intro D y wz hW hD R hR
        have HRR := Lib.hid hR
        clear hR
        have h14 : D 14 = false := hD.not
        have hz : wz = VW := by rw [hW.ex rfl, h14]; rfl
        subst hz
        clear h14
        have HW := Lib.hid hW
        clear hW hD
        go_wp2_with fail
        rw [HV1.out]
        refine HRR.out _ ⟨by rw [← HV1.out]; exact HW.out.bs.alloc _, fun _ => rfl⟩
      case hnp => rfl
      case hv => first | exact ⟨_, fun _ => rfl⟩ | exact ⟨undef, fun _ => rfl⟩
      apply obl_det
      case hrun =>
        intro D y wz hW hD R hR
        have HRR := Lib.hid hR
        clear hR
        have HW := Lib.hid hW
        clear hW hD
        go_wp2_with fail
        exact HRR.out _ HW.out
      case hnp => rfl
      case hv => first | exact ⟨_, fun _ => rfl⟩ | exact ⟨undef, fun _ => rfl⟩
      apply obl_nil
      intro D y w8 hall hW
      have hw8 : w8 = V1 := by rw [hW.ex rfl, hall 14 (by decide)]; rfl
      have F8 := Lib.hid hW.bs
      have hr8 : w8.heap[VW.heap.size]? = some (.cells #[.string ⟨#[108, 111, 119]⟩, .string ⟨#[51]⟩, .string ⟨#[52, 48]⟩, .string ⟨#[116, 117, 114, 110, 101, 100]⟩] 9) := by rw [hw8, ← HV1.out]; exact heap_alloc_new _ _
      have HR8 := Lib.hid hr8
      have HRL8 : Hid (VW.heap.size < w8.heap.size) := block_lt hr8
      clear hW hall hw8 hr8 F6 HV HV1
      have c_3 := F8.out.cell 0 rfl 3
      go_wp2_with fail
      refine (Tryz.strings_Join VW.heap.size 0 4 [⟨#[108, 111, 119]⟩, ⟨#[51]⟩, ⟨#[52, 48]⟩] ⟨#[32]⟩ _ (fun j x hj => ?_) HRL8.out (by simp) (by simp) ?_).mono ?_
      · rcases (by have := List.getElem?_eq_some_iff.1 hj; obtain ⟨h, -⟩ := this; simp at h; omega : j = 0 ∨ j = 1 ∨ j = 2) with rfl | rfl | rfl <;> (simp at hj; subst hj; exact cell_of_row _ _ _ _ _ _ HR8.out)
      · decide
      rintro e w9 ⟨rfl, hb⟩
      have F9 := Lib.hid (F8.out.call hb)
      have hjn : (Lib.join (([⟨#[108, 111, 119]⟩, ⟨#[51]⟩, ⟨#[52, 48]⟩] : List ByteArray).map (·.data.toList)) (⟨#[32]⟩ : ByteArray).data.toList) = [108, 111, 119, 32, 51, 32, 52, 48] := by decide
      rw [hjn]
      clear hb hjn c_3
      have HB9 := Lib.hid (IsBuilder.keep HB.out F9.out.bel)
      go_wp2_with fail
      refine (Tryz.Builder_WriteString w2.heap.size w2.heap.size _ ⟨#[108, 111, 119, 32, 51, 32, 52, 48, 10]⟩ _ HB9.out (by simp [Lib.byteCells]; decide) (Nat.le_trans HM.out.size F9.out.bel.size)).mono ?_
      rintro e w10 ⟨rfl, hbb, hb⟩
      have HM2 := Lib.hid ((HM.out.trans (F9.out.bel.mono HM.out.size)).trans hb)
      have HB10 : Hid (Lib.IsBuilder 150 5 w2.heap.size w2.heap.size (Lib.byteCells [108, 111, 119, 32, 51, 32, 52, 48, 10]) w10) := Or.inr hbb
      clear hbb hb
      go_wp2_with fail
      refine ⟨⟨1, rfl, by omega, HM2.out, HB10.out⟩, ?_⟩
      simp [intOf]

    · have HB : Hid (Lib.IsBuilder 150 5 w2.heap.size w2.heap.size (Lib.byteCells [108, 111, 119, 32, 51, 32, 52, 48, 10]) wr) := HB
      have x0 := (HBW.out.cell (p := ⟨lo, lp + 4, none⟩) HLB.out).trans HX10.out
      have x1 := (HBW.out.cell (p := ⟨lo, lp + 4 + 1, none⟩) HLB.out).trans HX11.out
      have x2 := (HBW.out.cell (p := ⟨lo, lp + 4 + 2, none⟩) HLB.out).trans HX12.out
      have x3 := (HBW.out.cell (p := ⟨lo, lp + 4 + 3, none⟩) HLB.out).trans HX13.out
      have FP : Hid (Bs wr [(wr.heap.size, .cells #[.int .i64 0, .int .i64 0, .int .i64 0, .bool false] 54)] _) := Lib.hid ((Bs.nil wr).push wr.heap.size rfl (.cells #[.int .i64 0, .int .i64 0, .int .i64 0, .bool false] 54))
      go_upto_region 8 with (refine wpList_store_bs rfl 54 _ _ rfl FP.out 0 _ #[.int .i64 0, .int .i64 3, .int .i64 30, .bool true] _ _ rfl rfl rfl infoDD rfl (by simp [Value.oneCell']) ?_; intro w6 hC; have F6 : Hid (Bs wr [(wr.heap.size, .cells #[.int .i64 0, .int .i64 3, .int .i64 30, .bool true] 54)] w6) := hC; clear hC FP x0 x1 x2 x3)
      obtain ⟨VW, HV⟩ : ∃ z, Hid (w6.drew = z) := ⟨_, rfl⟩
      obtain ⟨V1, HV1⟩ : ∃ z, Hid (VW.alloc (.cells #[.string ⟨#[108, 111, 119]⟩, .string ⟨#[51]⟩, .string ⟨#[51, 48]⟩, .string ⟨#[116, 117, 114, 110, 101, 100]⟩] 9) = z) := ⟨_, rfl⟩
      refine wp_region_inv0 (by kernel_rfl) (by kernel_rfl) (fun D w' => AlC wr [(wr.heap.size, .cells #[.int .i64 0, .int .i64 3, .int .i64 30, .bool true] 54)] VW V1 (D 14) false w') ⟨F6.out.drew, fun _ => HV.out.symm ▸ rfl⟩ ?_
      iterate 2
        (apply obl_det
         case hrun =>
           intro D y wz hW hD R hR
           have HRR := Lib.hid hR
           clear hR
           have HW := Lib.hid hW
           clear hW hD
           go_wp2_with fail
           exact HRR.out _ HW.out
         case hnp => rfl
         case hv => first | exact ⟨_, fun _ => rfl⟩ | exact ⟨undef, fun _ => rfl⟩)
      apply obl_det
      case hrun =>
        intro D y wz hW hD R hR
        have HRR := Lib.hid hR
        clear hR
        have HW := Lib.hid hW
        have c_8 := (HW.out.bs.bel.cell (p := ⟨w1.heap.size, 8, none⟩) HXL2.out).trans HX8w.out
        clear hW hD
        go_wp2_with fail
        exact HRR.out _ HW.out
      case hnp => rfl
      case hv => first | exact ⟨_, fun _ => rfl⟩ | exact ⟨undef, fun _ => rfl⟩
      apply obl_det
      case hrun =>
        intro D y wz hW hD R hR
        have HRR := Lib.hid hR
        clear hR
        have HW := Lib.hid hW
        clear hW hD
        go_wp2_with fail
        exact HRR.out _ HW.out
      case hnp => rfl
      case hv => first | exact ⟨_, fun _ => rfl⟩ | exact ⟨undef, fun _ => rfl⟩
      apply obl_det
      case hrun =>
        intro D y wz hW hD R hR
        have HRR := Lib.hid hR
        clear hR
        have HW := Lib.hid hW
        have c_d := HW.out.bs.cell 0 rfl 0
        clear hW hD
        go_wp2_with fail
        exact HRR.out _ HW.out
      case hnp => rfl
      case hv => first | exact ⟨_, fun _ => rfl⟩ | exact ⟨undef, fun _ => rfl⟩
      iterate 2
        (apply obl_det
         case hrun =>
           intro D y wz hW hD R hR
           have HRR := Lib.hid hR
           clear hR
           have HW := Lib.hid hW
           clear hW hD
           go_wp2_with fail
           exact HRR.out _ HW.out
         case hnp => rfl
         case hv => first | exact ⟨_, fun _ => rfl⟩ | exact ⟨undef, fun _ => rfl⟩)
      apply obl_det
      case hrun =>
        intro D y wz hW hD R hR
        have HRR := Lib.hid hR
        clear hR
        have HW := Lib.hid hW
        have c_n := (HW.out.bs.bel.cell (p := ⟨nb, no, none⟩) HNBw.out).trans HN0w.out
        clear hW hD
        go_wp2_with fail
        exact HRR.out _ HW.out
      case hnp => rfl
      case hv => first | exact ⟨_, fun _ => rfl⟩ | exact ⟨undef, fun _ => rfl⟩
      apply obl_det
      case hrun =>
        intro D y wz hW hD R hR
        have HRR := Lib.hid hR
        clear hR
        have HW := Lib.hid hW
        clear hW hD
        go_wp2_with fail
        exact HRR.out _ HW.out
      case hnp => rfl
      case hv => first | exact ⟨_, fun _ => rfl⟩ | exact ⟨undef, fun _ => rfl⟩
      apply obl_det
      case hrun =>
        intro D y wz hW hD R hR
        have HRR := Lib.hid hR
        clear hR
        have HW := Lib.hid hW
        have c_d := HW.out.bs.cell 0 rfl 1
        clear hW hD
        go_wp2_with fail
        exact HRR.out _ HW.out
      case hnp => rfl
      case hv => first | exact ⟨_, fun _ => rfl⟩ | exact ⟨undef, fun _ => rfl⟩
      apply obl_det
      case hrun =>
        intro D y wz hW hD R hR
        have HRR := Lib.hid hR
        clear hR
        have h14 : D 14 = false := hD.post _ 14 rfl (by kernel_rfl)
        have hz : wz = VW := by rw [hW.ex rfl, h14]; rfl
        have HZ := Lib.hid hz
        clear h14 hz
        have HW := Lib.hid hW
        clear hW hD
        go_wp2_with fail
        refine (HI3 _).out.mono ?_
        rintro e w' ⟨rfl, rfl⟩
        go_wp2_with fail
        exact HRR.out _ HW.out
      case hnp => rfl
      case hv => first | exact ⟨_, fun _ => rfl⟩ | exact ⟨undef, fun _ => rfl⟩
      apply obl_det
      case hrun =>
        intro D y wz hW hD R hR
        have HRR := Lib.hid hR
        clear hR
        have HW := Lib.hid hW
        clear hW hD
        go_wp2_with fail
        exact HRR.out _ HW.out
      case hnp => rfl
      case hv => first | exact ⟨_, fun _ => rfl⟩ | exact ⟨undef, fun _ => rfl⟩
      apply obl_det
      case hrun =>
        intro D y wz hW hD R hR
        have HRR := Lib.hid hR
        clear hR
        have HW := Lib.hid hW
        have c_d := HW.out.bs.cell 0 rfl 2
        clear hW hD
        go_wp2_with fail
        exact HRR.out _ HW.out
      case hnp => rfl
      case hv => first | exact ⟨_, fun _ => rfl⟩ | exact ⟨undef, fun _ => rfl⟩
      apply obl_det
      case hrun =>
        intro D y wz hW hD R hR
        have HRR := Lib.hid hR
        clear hR
        have h14 : D 14 = false := hD.post _ 14 rfl (by kernel_rfl)
        have hz : wz = VW := by rw [hW.ex rfl, h14]; rfl
        have HZ := Lib.hid hz
        clear h14 hz
        have HW := Lib.hid hW
        clear hW hD
        go_wp2_with fail
        refine (HI30 _).out.mono ?_
        rintro e w' ⟨rfl, rfl⟩
        go_wp2_with fail
        exact HRR.out _ HW.out
      case hnp => rfl
      case hv => first | exact ⟨_, fun _ => rfl⟩ | exact ⟨undef, fun _ => rfl⟩
      apply obl_det
      case hrun =>
        intro D y wz hW hD R hR
        have HRR := Lib.hid hR
        clear hR
        have h14 : D 14 = false := hD.not
        have hz : wz = VW := by rw [hW.ex rfl, h14]; rfl
        subst hz
        clear h14
        have HW := Lib.hid hW
        clear hW hD
        go_wp2_with fail
        rw [HV1.out]
        refine HRR.out _ ⟨by rw [← HV1.out]; exact HW.out.bs.alloc _, fun _ => rfl⟩
      case hnp => rfl
      case hv => first | exact ⟨_, fun _ => rfl⟩ | exact ⟨undef, fun _ => rfl⟩
      apply obl_det
      case hrun =>
        intro D y wz hW hD R hR
        have HRR := Lib.hid hR
        clear hR
        have HW := Lib.hid hW
        clear hW hD
        go_wp2_with fail
        exact HRR.out _ HW.out
      case hnp => rfl
      case hv => first | exact ⟨_, fun _ => rfl⟩ | exact ⟨undef, fun _ => rfl⟩
      apply obl_nil
      intro D y w8 hall hW
      have hw8 : w8 = V1 := by rw [hW.ex rfl, hall 14 (by decide)]; rfl
      have F8 := Lib.hid hW.bs
      have hr8 : w8.heap[VW.heap.size]? = some (.cells #[.string ⟨#[108, 111, 119]⟩, .string ⟨#[51]⟩, .string ⟨#[51, 48]⟩, .string ⟨#[116, 117, 114, 110, 101, 100]⟩] 9) := by rw [hw8, ← HV1.out]; exact heap_alloc_new _ _
      have HR8 := Lib.hid hr8
      have HRL8 : Hid (VW.heap.size < w8.heap.size) := block_lt hr8
      clear hW hall hw8 hr8 F6 HV HV1
      have c_3 := F8.out.cell 0 rfl 3
      go_wp2_with fail
      refine (Tryz.strings_Join VW.heap.size 0 4 [⟨#[108, 111, 119]⟩, ⟨#[51]⟩, ⟨#[51, 48]⟩, ⟨#[116, 117, 114, 110, 101, 100]⟩] ⟨#[32]⟩ _ (fun j x hj => ?_) HRL8.out (by simp) (by simp) ?_).mono ?_
      · rcases (by have := List.getElem?_eq_some_iff.1 hj; obtain ⟨h, -⟩ := this; simp at h; omega : j = 0 ∨ j = 1 ∨ j = 2 ∨ j = 3) with rfl | rfl | rfl | rfl <;> (simp at hj; subst hj; exact cell_of_row _ _ _ _ _ _ HR8.out)
      · decide
      rintro e w9 ⟨rfl, hb⟩
      have F9 := Lib.hid (F8.out.call hb)
      have hjn : (Lib.join (([⟨#[108, 111, 119]⟩, ⟨#[51]⟩, ⟨#[51, 48]⟩, ⟨#[116, 117, 114, 110, 101, 100]⟩] : List ByteArray).map (·.data.toList)) (⟨#[32]⟩ : ByteArray).data.toList) = [108, 111, 119, 32, 51, 32, 51, 48, 32, 116, 117, 114, 110, 101, 100] := by decide
      rw [hjn]
      clear hb hjn c_3
      have HB9 := Lib.hid (IsBuilder.keep HB.out F9.out.bel)
      go_wp2_with fail
      refine (Tryz.Builder_WriteString w2.heap.size w2.heap.size _ ⟨#[108, 111, 119, 32, 51, 32, 51, 48, 32, 116, 117, 114, 110, 101, 100, 10]⟩ _ HB9.out (by simp [Lib.byteCells]; decide) (Nat.le_trans HM.out.size F9.out.bel.size)).mono ?_
      rintro e w10 ⟨rfl, hbb, hb⟩
      have HM2 := Lib.hid ((HM.out.trans (F9.out.bel.mono HM.out.size)).trans hb)
      have HB10 : Hid (Lib.IsBuilder 150 5 w2.heap.size w2.heap.size (Lib.byteCells [108, 111, 119, 32, 51, 32, 52, 48, 10, 108, 111, 119, 32, 51, 32, 51, 48, 32, 116, 117, 114, 110, 101, 100, 10]) w10) := Or.inr hbb
      clear hbb hb
      go_wp2_with fail
      refine ⟨⟨2, rfl, by omega, HM2.out, HB10.out⟩, ?_⟩
      simp [intOf]

    · have HB : Hid (Lib.IsBuilder 150 5 w2.heap.size w2.heap.size (Lib.byteCells [108, 111, 119, 32, 51, 32, 52, 48, 10, 108, 111, 119, 32, 51, 32, 51, 48, 32, 116, 117, 114, 110, 101, 100, 10]) wr) := HB
      go_wp2_with fail
      refine (Tryz.Builder_String_any w2.heap.size w2.heap.size _ _ HB.out HM.out.size).mono ?_
      rintro e w9 ⟨rfl, hb⟩
      have HE : Hid (Below w.heap.size w w9) := C2.out.bel.trans ((HM.out.trans hb).mono C2.out.bel.size)
      clear hb
      go_wp2_with fail
      go_ret2
      exact ⟨rfl, HE.out⟩
end Go.Proofs.YtpkggjobdmchlaaGreatDoor
