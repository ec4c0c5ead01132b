/- blend.Made at the example. -/
import Derived.Deep.Cut
import Derived.Deep.CutBlock
import Derived.Test.YtohglbfeahofhaaGreatD25
namespace Go.Proofs.YtohglbfeahofhaaGreat
open Go.RowKit
def exLots : List (Int × Int) := [(630, 90), (560, 130), (700, 60)]
theorem exLots_in : ∀ i, i < 3 → (exL.getD i default).melt.1 ≤ (exLots.getD i default).1 ∧ (exLots.getD i default).1 ≤ (exL.getD i default).melt.2 ∧ (exL.getD i default).shrink.1 ≤ (exLots.getD i default).2 ∧ (exLots.getD i default).2 ≤ (exL.getD i default).shrink.2 ∧ 0 ≤ (exLots.getD i default).1 ∧ (exLots.getD i default).1 ≤ 2000 ∧ 0 ≤ (exLots.getD i default).2 ∧ (exLots.getD i default).2 ≤ 2000 := by
  intro i hi
  have h3 : i = 0 ∨ i = 1 ∨ i = 2 := by omega
  rcases h3 with rfl | rfl | rfl <;> exact ⟨by decide, by decide, by decide, by decide, by decide, by decide, by decide, by decide⟩
theorem lots_g (j : Bool) : ∀ i, i < 3 → 0 ≤ exR.getD i 0 * (if j then (exLots.getD i default).1 else (exLots.getD i default).2) ∧ exR.getD i 0 * (if j then (exLots.getD i default).1 else (exLots.getD i default).2) ≤ 100000 := by
  intro i hi
  have h3 : i = 0 ∨ i = 1 ∨ i = 2 := by omega
  rcases h3 with rfl | rfl | rfl <;> cases j <;> exact ⟨by decide, by decide⟩
set_option maxRecDepth 100000 in
set_option maxHeartbeats 16000000 in
theorem bmade_ok (v rv lv : Value) (w : World) (hv : BWaxesIn w.heap.size w v exL) (hrv : IntsIn .i64 w.heap.size w rv exR) (hlv : SpansIn w.heap.size w lv exLots) :
    Calls Tryz.prog 18 #[v, rv, lv] w fun e w' => e = .returned (.tuple #[.int .i64 11820, .int .i64 2370, .int .i64 0]) ∧ Below w.heap.size w w' := by
  obtain ⟨a, cap, rfl, hcap, -⟩ := sl_shape hv
  obtain ⟨ra, rcap, rfl, -⟩ := id hrv
  obtain ⟨la, lcap, rfl, hlcap, -⟩ := sl_shape hlv
  have hl3 : exL.length = 3 := rfl
  have hr3 : exR.length = 3 := rfl
  have hs3 : exLots.length = 3 := rfl
  have HV := Lib.hid hv
  have HRV := Lib.hid hrv
  have HLV := Lib.hid hlv
  rw [hl3] at HV hcap ⊢
  rw [hr3] at HRV ⊢
  rw [hs3] at HLV hlcap ⊢
  have HIC := Lib.hid hcap
  have HAS := fun v rv w h1 h2 => Lib.hid (asked_ok exL_ok (r := exR) exR_ok v rv w h1 h2)
  have HBL := fun v rv w h1 h2 => Lib.hid (blend_ok exL exR (by decide) (by decide) exR_ok.len v rv w h1 h2)
  have HWH := fun v w h => Lib.hid (whole_raise (exL.zip exR) (ex_psok (R3.of exR_ok)) (by rw [ex_pslen (R3.of exR_ok)]; decide) v w h)
  rw [show sumG gRaise (exL.zip exR) (exL.zip exR).length = 200 from by kernel_rfl] at HWH
  rw [hl3] at HBL
  clear hv hrv hlv hl3 hr3 hs3
  have C0 : Hid (Bs w [(w.heap.size, .cells #[.slice ra 3 rcap] 30)] _) := Lib.hid ((Bs.nil w).push _ rfl (.cells #[.slice ra 3 rcap] 30))
  have c0 := C0.out.cell 0 rfl 0
  go_enter Tryz.func18, Tryz.ntmps18
  go_wp2_with fail
  refine (HAS _ _ _ ((HV.out.below C0.out.bel).mono C0.out.bel.size) ((HRV.out.below C0.out.bel).mono C0.out.bel.size)).out.mono ?_
  rintro e w1 ⟨rfl, hb⟩
  have C1 := Lib.hid (C0.out.call hb)
  clear hb C0 c0 HAS
  go_wp2_with fail
  go_loopw [24] (fun iv wr => ∃ i : Nat, iv = .int .i64 i ∧ i ≤ 3 ∧ Bs w [(w.heap.size, .cells #[.slice ra 3 rcap] 30)] wr) (fun iv _ => 3 - (intOf iv).toNat)
  case atStart => exact ⟨0, rfl, by omega, C1.out⟩
  case round =>
    clear C1
    obtain ⟨i, rfl, hi, hbs⟩ := hrel
    have CI := Lib.hid hbs
    clear hbs
    by_cases hil : i < 3
    · have hii : (i : Int) < 3 := by omega
      obtain ⟨lb, lo, he, hlbl, hy1, hy2⟩ : ∃ b o, la = some ⟨b, o, none⟩ ∧ b < w.heap.size ∧ w.cell? ⟨b, o + i * 2, none⟩ = some (.int .i64 (exLots.getD i default).1) ∧ w.cell? ⟨b, o + i * 2 + 1, none⟩ = some (.int .i64 (exLots.getD i default).2) := HLV.out.at' (i := i) hil
      subst he
      obtain ⟨b, o, he, hbl, -, -, -, hx2, hx3, hx4, hx5, -⟩ := HV.out.at' (i := i) hil
      subst he
      have hin := exLots_in i hil
      have HBB := Lib.hid hbl
      have HX2 := Lib.hid hx2
      have HX3 := Lib.hid hx3
      have HX4 := Lib.hid hx4
      have HX5 := Lib.hid hx5
      have hz1 := (CI.out.bel.cell (p := ⟨lb, lo + i * 2, none⟩) hlbl).trans hy1
      have hz2 := (CI.out.bel.cell (p := ⟨lb, lo + i * 2 + 1, none⟩) hlbl).trans hy2
      clear hx2 hx3 hx4 hx5 hbl hy1 hy2 hlbl
      generalize exLots.getD i default = pq at *
      generalize exL.getD i default = x at *
      obtain ⟨p, q⟩ := pq
      obtain ⟨nm, pr, ⟨m1, m2⟩, ⟨s1, s2⟩, cu⟩ := x
      simp only at hin hz1 hz2 HX2 HX3 HX4 HX5
      have HIN := Lib.hid hin
      have HII := Lib.hid hii
      clear hin
      have CP := Lib.hid (CI.out.push _ rfl (.cells #[.int .i64 0, .int .i64 0] 66))
      go_wp2_with (refine wpList_store_bs rfl 66 _ _ rfl CP.out 1 _ _ _ _ rfl rfl rfl infoLot rfl (by simp [Value.oneCell']) ?_; intro w5 hC; have C5 : Hid (Bs w [(w.heap.size, .cells #[.slice ra 3 rcap] 30), (wr.heap.size, .cells #[.int .i64 p, .int .i64 q] 66)] w5) := hC; clear hC CP CI hz1 hz2)
      go_upto_region 9 with fail
      refine wp_region_inv1 (by kernel_rfl) (by kernel_rfl) [43, 60] (fun D y w' => Bs w [(w.heap.size, .cells #[.slice ra 3 rcap] 30), (wr.heap.size, .cells #[.int .i64 p, .int .i64 q] 66)] w' ∧ RowP [p] (D 14) (D 15) (y 43) w' ∧ RowP [q] (D 31) (D 32) (y 60) w') ⟨C5.out.drew, fun h => (by cases h), fun h => (by cases h)⟩ ?O1 ?hO1 ?_
      case hO1 =>
        intro y
        simp only [fill, List.foldl, Act.put, List.setIfInBounds_toArray, List.set]
        exact rfl
      iterate 14
        (apply obl_det
         case hrun =>
           intro D y wz hW hD R hR
           have HRR := Lib.hid hR
           clear hR
           have HW := Lib.hid hW
           have z0 := HW.out.1.cell 1 rfl 0
           have z1 := HW.out.1.cell 1 rfl 1
           have g2 : wz.cell? ⟨b, o + i * 7 + 2, none⟩ = some (.int .i64 m1) := (HW.out.1.bel.cell (p := ⟨b, _, none⟩) HBB.out).trans HX2.out
           have g3 : wz.cell? ⟨b, o + i * 7 + 2 + 1, none⟩ = some (.int .i64 m2) := (HW.out.1.bel.cell (p := ⟨b, _, none⟩) HBB.out).trans HX3.out
           have g4 : wz.cell? ⟨b, o + i * 7 + 4, none⟩ = some (.int .i64 s1) := (HW.out.1.bel.cell (p := ⟨b, _, none⟩) HBB.out).trans HX4.out
           have g5 : wz.cell? ⟨b, o + i * 7 + 4 + 1, none⟩ = some (.int .i64 s2) := (HW.out.1.bel.cell (p := ⟨b, _, none⟩) HBB.out).trans HX5.out
           have hii := HII.out
           have hic := HIC.out
           clear hW hD
           go_wp2
           exact HRR.out _ HW.out
         case hnp => rfl
         case hv => first | exact ⟨_, fun _ => rfl⟩ | exact ⟨undef, fun _ => rfl⟩)
      apply obl_priv 43
      case hd => rfl
      case hp => rfl
      case hrun =>
        intro D y wz hW hD R hR
        have HRR := Lib.hid hR
        clear hR
        have HW := Lib.hid hW
        have z0 := HW.out.1.cell 1 rfl 0
        have z1 := HW.out.1.cell 1 rfl 1
        have g2 : wz.cell? ⟨b, o + i * 7 + 2, none⟩ = some (.int .i64 m1) := (HW.out.1.bel.cell (p := ⟨b, _, none⟩) HBB.out).trans HX2.out
        have g3 : wz.cell? ⟨b, o + i * 7 + 2 + 1, none⟩ = some (.int .i64 m2) := (HW.out.1.bel.cell (p := ⟨b, _, none⟩) HBB.out).trans HX3.out
        have g4 : wz.cell? ⟨b, o + i * 7 + 4, none⟩ = some (.int .i64 s1) := (HW.out.1.bel.cell (p := ⟨b, _, none⟩) HBB.out).trans HX4.out
        have g5 : wz.cell? ⟨b, o + i * 7 + 4 + 1, none⟩ = some (.int .i64 s2) := (HW.out.1.bel.cell (p := ⟨b, _, none⟩) HBB.out).trans HX5.out
        have hii := HII.out
        have hic := HIC.out
        clear hW hD
        go_wp2
        refine HRR.out _ _ ?_
        refine ⟨HW.out.1.alloc _, fun _ _ => ⟨_, rfl, heap_alloc_new _ _⟩, HW.out.2.2.below ((Below.refl _ _).alloc (Nat.le_refl _) _)⟩
      apply obl_det
      case hrun =>
        intro D y wz hW hD R hR
        have HRR := Lib.hid hR
        clear hR
        have hRow := hW.2.1 (hD.pre _ 14 rfl (by kernel_rfl)) hD.not
        have HRow := Lib.hid hRow
        clear hRow
        have HW := Lib.hid hW
        clear hW hD
        go_wp2_with fail
        refine (kout_v false m1 m2 [p] (by simp) (by rw [outB_one, outOne_ff]; have := HIN.out; omega) _ _ HRow.out).mono ?_
        rintro e w' ⟨rfl, hb⟩
        have HB2 := Lib.hid (HW.out.1.call hb)
        have HBb := Lib.hid hb
        clear hb
        go_wp2_with fail
        refine HRR.out _ ?_
        exact ⟨HB2.out, fun _ h => (by cases h), HW.out.2.2.below HBb.out⟩
      case hnp => rfl
      case hv => first | exact ⟨_, fun _ => rfl⟩ | exact ⟨undef, fun _ => rfl⟩
      iterate 15
        (apply obl_det
         case hrun =>
           intro D y wz hW hD R hR
           have HRR := Lib.hid hR
           clear hR
           have HW := Lib.hid hW
           have z0 := HW.out.1.cell 1 rfl 0
           have z1 := HW.out.1.cell 1 rfl 1
           have g2 : wz.cell? ⟨b, o + i * 7 + 2, none⟩ = some (.int .i64 m1) := (HW.out.1.bel.cell (p := ⟨b, _, none⟩) HBB.out).trans HX2.out
           have g3 : wz.cell? ⟨b, o + i * 7 + 2 + 1, none⟩ = some (.int .i64 m2) := (HW.out.1.bel.cell (p := ⟨b, _, none⟩) HBB.out).trans HX3.out
           have g4 : wz.cell? ⟨b, o + i * 7 + 4, none⟩ = some (.int .i64 s1) := (HW.out.1.bel.cell (p := ⟨b, _, none⟩) HBB.out).trans HX4.out
           have g5 : wz.cell? ⟨b, o + i * 7 + 4 + 1, none⟩ = some (.int .i64 s2) := (HW.out.1.bel.cell (p := ⟨b, _, none⟩) HBB.out).trans HX5.out
           have hii := HII.out
           have hic := HIC.out
           clear hW hD
           go_wp2
           exact HRR.out _ HW.out
         case hnp => rfl
         case hv => first | exact ⟨_, fun _ => rfl⟩ | exact ⟨undef, fun _ => rfl⟩)
      apply obl_priv 60
      case hd => rfl
      case hp => rfl
      case hrun =>
        intro D y wz hW hD R hR
        have HRR := Lib.hid hR
        clear hR
        have HW := Lib.hid hW
        have z0 := HW.out.1.cell 1 rfl 0
        have z1 := HW.out.1.cell 1 rfl 1
        have g2 : wz.cell? ⟨b, o + i * 7 + 2, none⟩ = some (.int .i64 m1) := (HW.out.1.bel.cell (p := ⟨b, _, none⟩) HBB.out).trans HX2.out
        have g3 : wz.cell? ⟨b, o + i * 7 + 2 + 1, none⟩ = some (.int .i64 m2) := (HW.out.1.bel.cell (p := ⟨b, _, none⟩) HBB.out).trans HX3.out
        have g4 : wz.cell? ⟨b, o + i * 7 + 4, none⟩ = some (.int .i64 s1) := (HW.out.1.bel.cell (p := ⟨b, _, none⟩) HBB.out).trans HX4.out
        have g5 : wz.cell? ⟨b, o + i * 7 + 4 + 1, none⟩ = some (.int .i64 s2) := (HW.out.1.bel.cell (p := ⟨b, _, none⟩) HBB.out).trans HX5.out
        have hii := HII.out
        have hic := HIC.out
        clear hW hD
        go_wp2
        refine HRR.out _ _ ?_
        refine ⟨HW.out.1.alloc _, HW.out.2.1.below ((Below.refl _ _).alloc (Nat.le_refl _) _), fun _ _ => ⟨_, rfl, heap_alloc_new _ _⟩⟩
      apply obl_det
      case hrun =>
        intro D y wz hW hD R hR
        have HRR := Lib.hid hR
        clear hR
        have hRow := hW.2.2 (hD.pre _ 31 rfl (by kernel_rfl)) hD.not
        have HRow := Lib.hid hRow
        clear hRow
        have HW := Lib.hid hW
        clear hW hD
        go_wp2_with fail
        refine (kout_v false s1 s2 [q] (by simp) (by rw [outB_one, outOne_ff]; have := HIN.out; omega) _ _ HRow.out).mono ?_
        rintro e w' ⟨rfl, hb⟩
        have HB2 := Lib.hid (HW.out.1.call hb)
        have HBb := Lib.hid hb
        clear hb
        go_wp2_with fail
        refine HRR.out _ ?_
        exact ⟨HB2.out, HW.out.2.1.below HBb.out, fun _ h => (by cases h)⟩
      case hnp => rfl
      case hv => first | exact ⟨_, fun _ => rfl⟩ | exact ⟨undef, fun _ => rfl⟩
      apply obl_det
      case hrun =>
        intro D y wz hW hD R hR
        have HRR := Lib.hid hR
        clear hR
        have HW := Lib.hid hW
        have z0 := HW.out.1.cell 1 rfl 0
        have z1 := HW.out.1.cell 1 rfl 1
        have g2 : wz.cell? ⟨b, o + i * 7 + 2, none⟩ = some (.int .i64 m1) := (HW.out.1.bel.cell (p := ⟨b, _, none⟩) HBB.out).trans HX2.out
        have g3 : wz.cell? ⟨b, o + i * 7 + 2 + 1, none⟩ = some (.int .i64 m2) := (HW.out.1.bel.cell (p := ⟨b, _, none⟩) HBB.out).trans HX3.out
        have g4 : wz.cell? ⟨b, o + i * 7 + 4, none⟩ = some (.int .i64 s1) := (HW.out.1.bel.cell (p := ⟨b, _, none⟩) HBB.out).trans HX4.out
        have g5 : wz.cell? ⟨b, o + i * 7 + 4 + 1, none⟩ = some (.int .i64 s2) := (HW.out.1.bel.cell (p := ⟨b, _, none⟩) HBB.out).trans HX5.out
        have hii := HII.out
        have hic := HIC.out
        clear hW hD
        go_wp2
        exact HRR.out _ HW.out
      case hnp => rfl
      case hv => first | exact ⟨_, fun _ => rfl⟩ | exact ⟨undef, fun _ => rfl⟩
      apply obl_nil
      intro D y w8 hall hW
      have C8 := Lib.hid hW.1
      clear hall hW C5
      go_wp2_with fail
      refine ⟨⟨i + 1, by push_cast; rfl, by omega, C8.out.sub _ (by simp)⟩, ?_⟩
      simp [intOf]; omega
    · obtain rfl : i = 3 := by omega
      have c0 := CI.out.cell 0 rfl 0
      go_wp2_with fail
      refine (HBL _ _ _ ((HV.out.below CI.out.bel).mono CI.out.bel.size) ((HRV.out.below CI.out.bel).mono CI.out.bel.size)).out.mono ?_
      rintro e w2 ⟨rfl, hpp, hb⟩
      have C2 := Lib.hid (CI.out.call hb)
      have HPP := Lib.hid hpp
      clear hb CI hpp c0
      go_wp2_with fail
      refine (HWH _ _ HPP.out).out.mono ?_
      rintro e w3 ⟨rfl, hb⟩
      have C3 := Lib.hid (C2.out.call hb)
      clear hb C2 HPP HWH HBL
      go_wp2_with fail
      refine (sum50_ok (fun i => exR.getD i 0 * (exLots.getD i default).1) exLots rfl (lots_g true) w.heap.size _ _ ((HLV.out.below C3.out.bel).mono C3.out.bel.size) (fun i hi w' hw => ?_)).mono ?_
      · have hc := C3.out.call hw
        exact made50_ok (R3.of exR_ok) i hi _ _ (by have := exLots_in i hi; omega) ra rcap _ w' (hc.get 0 rfl) ((HRV.out.below hc.bel).mono hc.bel.size)
      rintro e w4 ⟨rfl, hb⟩
      have C4 := Lib.hid (C3.out.call hb)
      clear hb C3
      rw [show sumN (fun i => exR.getD i 0 * (exLots.getD i default).1) 3 = 11620 from by kernel_rfl]
      go_wp2_with fail
      refine (sum51_ok (fun i => exR.getD i 0 * (exLots.getD i default).2) exLots rfl (lots_g false) w.heap.size _ _ ((HLV.out.below C4.out.bel).mono C4.out.bel.size) (fun i hi w' hw => ?_)).mono ?_
      · have hc := C4.out.call hw
        exact made51_ok (R3.of exR_ok) i hi _ _ (by have := exLots_in i hi; omega) ra rcap _ w' (hc.get 0 rfl) ((HRV.out.below hc.bel).mono hc.bel.size)
      rintro e w5 ⟨rfl, hb⟩
      have C5 := Lib.hid (C4.out.call hb)
      clear hb C4
      rw [show sumN (fun i => exR.getD i 0 * (exLots.getD i default).2) 3 = 2370 from by kernel_rfl]
      go_wp2_with fail
      go_ret3
      exact ⟨rfl, C5.out.bel⟩
end Go.Proofs.YtohglbfeahofhaaGreat
