/- The law on a batch that is weighed by a recipe. -/
import Derived.Deep.Cut
import Derived.Deep.CutBlock
import Derived.Test.YtohglbfeahofhaaGreatD28
import Derived.Test.YtohglbfeahofhaaGreatD6
import Derived.Test.YtohglbfeahofhaaGreatD4
import Derived.Test.YtohglbfeahofhaaGreatK8
namespace Go.Proofs.YtohglbfeahofhaaGreat
open Go.RowKit
theorem infoA3 : (Tryz.prog.info? 25).map (·.size) = some 3 := by kernel_rfl
theorem infoThing : (Tryz.prog.info? 35).map (·.size) = some 5 := by kernel_rfl
theorem infoShop : (Tryz.prog.info? 39).map (·.size) = some 2 := by kernel_rfl
set_option maxRecDepth 100000 in
set_option maxHeartbeats 32000000 in
theorem dosed_law (AW2 : ∀ w : World, Calls Tryz.prog 5 #[] w (fun e w' => e = .returned (.bool true) ∧ Below w.heap.size w w')) (l : List BWax) (x : List Int) (hx : TurnsH x) (x0 x1 x2 : Int) (hx0 : 0 ≤ x0 ∧ x0 ≤ 4294967295) (hx1 : 0 ≤ x1 ∧ x1 ≤ 4294967295) (hx2 : 0 ≤ x2 ∧ x2 ≤ 4294967295) (v rv : Value) (w : World) (hv : BWaxesIn w.heap.size w v l) (hrv : IntsIn .u16 w.heap.size w rv x) :
    Calls Tryz.prog 3 #[v, rv, .agg #[.int .u32 x0, .int .u32 x1, .int .u32 x2]] w (fun e w' => e = .returned (.bool true) ∧ Below w.heap.size w w') := by
  have HA2 := Lib.hid AW2
  have HV := Lib.hid hv
  have HRV := Lib.hid hrv
  have HXT := Lib.hid hx
  obtain ⟨a, cap, rfl, hcap, -⟩ := sl_shape hv
  obtain ⟨xa, xc, rfl, -⟩ := id hrv
  have HX0 := Lib.hid hx0
  have HX1 := Lib.hid hx1
  have HX2 := Lib.hid hx2
  have HCP := Lib.hid hcap
  clear AW2 hv hrv hx hx0 hx1 hx2 hcap
  have C0 : Hid (Bs w [(w.heap.size, .cells #[.int .u32 x0, .int .u32 x1, .int .u32 x2] 25)] _) := Lib.hid ((Bs.nil w).push _ rfl (.cells #[.int .u32 x0, .int .u32 x1, .int .u32 x2] 25))
  go_enter Tryz.func3, Tryz.ntmps3
  go_wp2_with fail
  refine (check2_ref l _ _ ((HV.out.below C0.out.bel).mono C0.out.bel.size)).mono ?_
  rintro e w1 ⟨p, i, E, rfl, hE, hb⟩
  have C1 := Lib.hid (C0.out.call hb)
  have HE := Lib.hid hE
  clear hb C0 hE
  by_cases hE : E = 0
  case neg =>
    have hq : (E != 0) = true := by simpa using hE
    clear HE hE
    go_wp2_with fail
    refine (HA2.out _).mono ?_
    rintro e w2 ⟨rfl, hb⟩
    have C2 := Lib.hid (C1.out.call hb)
    clear hb C1
    go_wp2_with fail
    refine (awake_any _).mono ?_
    rintro e w3 ⟨rfl, hb⟩
    have C3 := Lib.hid (C2.out.call hb)
    clear hb C2
    go_wp2_with fail
    go_ret
    exact ⟨rfl, C3.out.bel⟩
  have hq : (E != 0) = false := by simpa using hE
  have HOK := Lib.hid (HE.out hE)
  clear HE hE
  have n1 := HOK.out.n1
  have n5 := HOK.out.n5
  go_wp2_with fail
  clear hq
  go_upto_region 4 with fail
  refine wp_region_inv0 (by kernel_rfl) (by kernel_rfl) (fun D w' => Bs w [(w.heap.size, .cells #[.int .u32 x0, .int .u32 x1, .int .u32 x2] 25)] w') C1.out.drew ?_
  iterate 16
    (apply obl_det
     case hrun =>
       intro D y wz hW hD R hR
       have HRR := Lib.hid hR
       clear hR
       have HW := Lib.hid hW
       have c0 := HW.out.cell 0 rfl 0
       have c1 := HW.out.cell 0 rfl 1
       have c2 := HW.out.cell 0 rfl 2
       clear hW hD
       go_wp2
       exact HRR.out _ HW.out
     case hnp => rfl
     case hv => first | exact ⟨_, fun _ => rfl⟩ | exact ⟨undef, fun _ => rfl⟩)
  apply obl_nil
  intro D y w8 hall hW
  have C2 := Lib.hid hW
  clear hW hall C1
  have ht0 : x0.tmod 100000 = x0 % 100000 := Int.tmod_eq_emod_of_nonneg HX0.out.1
  have ht1 : x1.tmod 1000001 = x1 % 1000001 := Int.tmod_eq_emod_of_nonneg HX1.out.1
  have ht2 : x2.tmod 10000001 = x2 % 10000001 := Int.tmod_eq_emod_of_nonneg HX2.out.1
  obtain ⟨G, HG⟩ : ∃ g, Hid (wrap64 (1 + wrap64 (x0.tmod 100000)) = g) := ⟨_, rfl⟩
  obtain ⟨M, HM⟩ : ∃ g, Hid (wrap64 (x1.tmod 1000001) = g) := ⟨_, rfl⟩
  obtain ⟨A, HA⟩ : ∃ g, Hid (wrap64 (x2.tmod 10000001) = g) := ⟨_, rfl⟩
  have hG : 1 ≤ G ∧ G ≤ 100000 := by rw [← HG.out, ht0, wrapU (x := x0 % 100000) (by omega), wrapU (by omega)]; omega
  have hM : 0 ≤ M ∧ M ≤ 1000000 := by rw [← HM.out, ht1, wrapU (by omega)]; omega
  have hA : 0 ≤ A ∧ A ≤ 10000000 := by rw [← HA.out, ht2, wrapU (by omega)]; omega
  rw [HG.out, HM.out, HA.out]
  have HGG := Lib.hid hG
  have HMM := Lib.hid hM
  have HAA := Lib.hid hA
  clear hG hM hA ht0 ht1 ht2 HG HM HA
  obtain ⟨RC, HR⟩ : ∃ R, Hid (partedV (turnH x) l.length = R) := ⟨_, rfl⟩
  have HRO : Hid (ROk l.length RC) := by rw [← HR.out]; exact parted_ok (turnH x) n1
  have HPA := fun v w h => Lib.hid (parted_any x HXT.out l.length n1 n5 v w h)
  rw [HR.out] at HPA
  have HWG := fun v rv w h1 h2 => Lib.hid (weigh_ok HOK.out HRO.out (g := G) (by have := HGG.out; omega) v rv w h1 h2)
  go_wp2_with fail
  refine (HPA _ _ ((HRV.out.below C2.out.bel).mono C2.out.bel.size)).out.mono ?_
  rintro e w3 ⟨ru, rfl, hru, hb⟩
  have C3 := Lib.hid (C2.out.call hb)
  have HRU := Lib.hid hru
  clear hb hru C2 HPA
  go_wp2_with fail
  refine (HWG _ _ _ ((HV.out.below C3.out.bel).mono C3.out.bel.size) HRU.out).out.mono ?_
  rintro e w4 ⟨wu, rfl, hwu, hb⟩
  have C4 := Lib.hid ((C3.out.call hb).sub [] (by simp))
  have HWU := Lib.hid hwu
  have hwl : (weighV RC G).length = l.length := by rw [weigh_len, HRO.out.len]
  obtain ⟨wa, wc, rfl, -⟩ := id hwu
  rw [hwl] at HWU ⊢
  clear hb hwu C3 HRU HWG hwl
  have hq2 : ((l.length : Int) != (l.length : Int)) = false := by simp
  have HB4 := Lib.hid C4.out.bel
  have HV4 := Lib.hid ((HV.out.below HB4.out).mono HB4.out.size)
  go_upto_region 8 with fail
  clear hq2 C4
  have C5 : Hid (Bs w4 [(w4.heap.size, .cells #[.string ⟨#[116, 104, 105, 110, 103]⟩, .int .i64 0, .int .i64 M, .int .i64 0, .int .i64 0] 35), (w4.heap.size + 1, .cells #[.slice none 0 0, .slice none 0 0] 39)] _) := Lib.hid (((Bs.nil w4).push _ rfl (.cells #[.string ⟨#[116, 104, 105, 110, 103]⟩, .int .i64 0, .int .i64 M, .int .i64 0, .int .i64 0] 35)).push (w4.heap.size + 1) (by simp) (.cells #[.slice none 0 0, .slice none 0 0] 39))
  go_wp2_with (refine wpList_store_bs rfl 39 _ _ rfl C5.out 1 _ #[.slice (some ⟨w4.heap.size, 0, none⟩) 1 1, .slice none 0 0] _ _ rfl rfl rfl infoShop rfl (by simp [Value.oneCell']) ?_; intro w5 hC; have C6 : Hid (Bs w4 [(w4.heap.size, .cells #[.string ⟨#[116, 104, 105, 110, 103]⟩, .int .i64 0, .int .i64 M, .int .i64 0, .int .i64 0] 35), (w4.heap.size + 1, .cells #[.slice (some ⟨w4.heap.size, 0, none⟩) 1 1, .slice none 0 0] 39)] w5) := hC; clear hC C5)
  obtain ⟨NMF, HNM⟩ : ∃ f : Nat → ByteArray, Hid (∀ i, f i = (l.getD i default).name) := ⟨fun i => (l.getD i default).name, fun _ => rfl⟩
  obtain ⟨BB, HBB⟩ : ∃ b, Hid (w5.heap.size = b) := ⟨_, rfl⟩
  have HG2 : Hid (w4.heap.size + 1 < BB) := by rw [← HBB.out]; exact C6.out.lt 1 rfl
  go_loopw [15] (fun iv wr => ∃ (i : Nat) (R : Value) (xs : List Value), iv = .int .i64 i ∧ i ≤ l.length ∧ Bs w4 [(w4.heap.size, .cells #[.string ⟨#[116, 104, 105, 110, 103]⟩, .int .i64 0, .int .i64 M, .int .i64 0, .int .i64 0] 35), (w4.heap.size + 1, .cells #[.slice (some ⟨w4.heap.size, 0, none⟩) 1 1, R] 39)] wr ∧ BB ≤ wr.heap.size ∧ LotRow BB wr R i xs NMF (fun _ => [(0, 0)])) (fun iv _ => l.length - (intOf iv).toNat)
  case atStart => exact ⟨0, _, [], rfl, by omega, C6.out, Nat.le_of_eq HBB.out.symm, LotRow.nil _ _⟩
  case round =>
    obtain ⟨i, R, xs, rfl, hi, hbs, hle, hrow⟩ := hrel
    clear C6
    have CI := Lib.hid hbs
    have HLE := Lib.hid hle
    have HRW := Lib.hid hrow
    clear hbs hle hrow
    by_cases hil : i < l.length
    · have hii : (i : Int) < (l.length : Int) := by omega
      obtain ⟨b, o, he, hbl, hx0, hsz, -⟩ := HV4.out.at' hil
      subst he
      have HN1 : Hid (w4.cell? ⟨b, o + i * 7, none⟩ = some (.string (NMF i))) := by rw [HNM.out i]; exact hx0
      have HUL := Lib.hid hbl
      have HII := Lib.hid hii
      have HIL := Lib.hid hil
      obtain ⟨R1, R2, rfl⟩ := ownsRow_slice HRW.out.row
      clear hx0 hsz hbl
      go_upto_region 12 with fail
      refine wp_region_inv1 (by kernel_rfl) (by kernel_rfl) [82, 83, 84, 85] (fun D y w' => FnW w4 (w4.heap.size, .cells #[.string ⟨#[116, 104, 105, 110, 103]⟩, .int .i64 0, .int .i64 M, .int .i64 0, .int .i64 0] 35) (w4.heap.size + 1) BB (.slice (some ⟨w4.heap.size, 0, none⟩) 1 1) (.slice R1 i R2) i xs NMF (fun _ => [(0, 0)]) (D 7) (D 8) (D 9) (D 10) (D 12) (y 82) (y 83) (y 84) (y 85) w') ?N1 ?N2 ?N3 ?_
      case N1 => exact FnW.drew ⟨CI.out, HLE.out, HG2.out, by have := HG2.out; omega, by have := HG2.out; simp only; omega, fun _ => HRW.out, fun h => (by cases h), fun h => (by cases h), fun h => (by cases h), fun h => (by cases h), fun _ => rfl, fun _ => rfl, fun _ => rfl, fun _ => rfl⟩
      case N3 =>
        intro y
        simp only [fill, List.foldl, Act.put, List.setIfInBounds_toArray, List.set]
        exact rfl
      apply obl_det
      case hrun =>
        intro D y wz hW hD R hR
        have HRR := Lib.hid hR
        clear hR
        have HW := Lib.hid hW
        clear hW hD
        go_wp2_with fail
        exact HRR.out _ HW.out
      case hnp => rfl
      case hv => first | exact ⟨_, fun _ => rfl⟩ | exact ⟨undef, fun _ => rfl⟩
      apply obl_det
      case hrun =>
        intro D y wz hW hD R hR
        have HRR := Lib.hid hR
        clear hR
        have h21 : D 12 = false := hD.post _ 12 rfl (by kernel_rfl)
        have H21 := Lib.hid h21
        have h1 := hW.bs.cell 1 rfl 1
        rw [h21] at h1
        simp only [cond] at h1
        clear h21
        have HW := Lib.hid hW
        clear hW hD
        go_wp2_with fail
        exact HRR.out _ HW.out
      case hnp => rfl
      case hv => first | exact ⟨_, fun _ => rfl⟩ | exact ⟨undef, fun _ => rfl⟩
      apply obl_det
      case hrun =>
        intro D y wz hW hD R hR
        have HRR := Lib.hid hR
        clear hR
        have HW := Lib.hid hW
        clear hW hD
        go_wp2_with fail
        exact HRR.out _ HW.out
      case hnp => rfl
      case hv => first | exact ⟨_, fun _ => rfl⟩ | exact ⟨undef, fun _ => rfl⟩
      apply obl_det
      case hrun =>
        intro D y wz hW hD R hR
        have HRR := Lib.hid hR
        clear hR
        have HW := Lib.hid hW
        clear hW hD
        go_wp2_with fail
        exact HRR.out _ HW.out
      case hnp => rfl
      case hv => first | exact ⟨_, fun _ => rfl⟩ | exact ⟨undef, fun _ => rfl⟩
      apply obl_det
      case hrun =>
        intro D y wz hW hD R hR
        have HRR := Lib.hid hR
        clear hR
        have HW := Lib.hid hW
        have hii := HII.out
        have hil := HIL.out
        clear hW hD
        go_wp2_with fail
        exact HRR.out _ HW.out
      case hnp => rfl
      case hv => first | exact ⟨_, fun _ => rfl⟩ | exact ⟨undef, fun _ => rfl⟩
      apply obl_det
      case hrun =>
        intro D y wz hW hD R hR
        have HRR := Lib.hid hR
        clear hR
        have HW := Lib.hid hW
        clear hW hD
        go_wp2_with fail
        exact HRR.out _ HW.out
      case hnp => rfl
      case hv => first | exact ⟨_, fun _ => rfl⟩ | exact ⟨undef, fun _ => rfl⟩
      apply obl_det
      case hrun =>
        intro D y wz hW hD R hR
        have HRR := Lib.hid hR
        clear hR
        have HW := Lib.hid hW
        have h1 := (HW.out.bs.bel.cell (p := ⟨b, o + i * 7, none⟩) HUL.out).trans HN1.out
        clear hW hD
        go_wp2_with fail
        exact HRR.out _ HW.out
      case hnp => rfl
      case hv => first | exact ⟨_, fun _ => rfl⟩ | exact ⟨undef, fun _ => rfl⟩
      apply obl_priv 82
      case hd => rfl
      case hp => rfl
      case hrun =>
        intro D y wz hW hD R hR
        have HRR := Lib.hid hR
        clear hR
        have h7 : D 7 = false := hD.not
        rw [h7] at hW
        have HW := Lib.hid hW
        have hBz := hW.hB
        clear hW hD h7
        have hmk := made_span
        go_wp2_with fail
        have HN := Lib.hid (HW.out.put16 (allocU wz (.cells #[.int .i64 0, .int .i64 0] 41)) (own_span BB wz hBz))
        refine HRR.out _ _ ?_
        show FnW w4 (w4.heap.size, .cells #[.string ⟨#[116, 104, 105, 110, 103]⟩, .int .i64 0, .int .i64 M, .int .i64 0, .int .i64 0] 35) (w4.heap.size + 1) BB (.slice (some ⟨w4.heap.size, 0, none⟩) 1 1) (.slice R1 i R2) i xs NMF (fun _ => [(0, 0)]) true (D 8) (D 9) (D 10) (D 12) _ (y 83) (y 84) (y 85) _
        exact HN.out
      apply obl_priv 83
      case hd => rfl
      case hp => rfl
      case hrun =>
        intro D y wz hW hD R hR
        have HRR := Lib.hid hR
        clear hR
        have h16 : D 7 = true := hD.pre _ 7 rfl (by kernel_rfl)
        have h17 : D 8 = false := hD.not
        rw [h16, h17] at hW
        obtain ⟨ua, uc, eu⟩ := ownsRow_slice (hW.u rfl)
        have HW := Lib.hid hW.put17
        have H16 := Lib.hid h16
        have EU := Lib.hid eu
        clear hW hD h16 h17 eu
        refine wpList_bdU rfl 47 _ rfl #[(0, .string (NMF i)), (1, y 82)] (by simp only [List.map_toArray, List.map]; rfl) #[.string (NMF i), y 82] (by rw [EU.out]; exact run_buildLot _ _ _ _ _) ?_
        refine HRR.out _ _ ?_
        show FnW w4 (w4.heap.size, .cells #[.string ⟨#[116, 104, 105, 110, 103]⟩, .int .i64 0, .int .i64 M, .int .i64 0, .int .i64 0] 35) (w4.heap.size + 1) BB (.slice (some ⟨w4.heap.size, 0, none⟩) 1 1) (.slice R1 i R2) i xs NMF (fun _ => [(0, 0)]) (D 7) true (D 9) (D 10) (D 12) (y 82) _ (y 84) (y 85) _
        rw [H16.out]
        exact HW.out
      apply obl_priv 84
      case hd => rfl
      case hp => rfl
      case hrun =>
        intro D y wz hW hD R hR
        have HRR := Lib.hid hR
        clear hR
        have h17 : D 8 = true := hD.pre _ 8 rfl (by kernel_rfl)
        have h18 : D 9 = false := hD.not
        rw [h17, h18] at hW
        have eb := hW.b rfl
        have HW := Lib.hid hW.put18
        have H17 := Lib.hid h17
        have EB := Lib.hid eb
        clear hW hD h17 h18 eb
        obtain ⟨i0, hi0, hz0, hz1, hz2⟩ := info83'
        refine wpList_buildSlice rfl 37 47 1 #[(0, .tmp 83)] rfl #[.string (NMF i), y 82] i0 _ Tryz.underlying37 hi0 hz0 (by omega) (by omega) (by simp only [List.map_toArray, List.map]; show Instr.fill _ _ [(0, y 83)] = _; rw [EB.out]; exact fill83 _ _ i0 hz1) ?_
        refine HRR.out _ _ ?_
        show FnW w4 (w4.heap.size, .cells #[.string ⟨#[116, 104, 105, 110, 103]⟩, .int .i64 0, .int .i64 M, .int .i64 0, .int .i64 0] 35) (w4.heap.size + 1) BB (.slice (some ⟨w4.heap.size, 0, none⟩) 1 1) (.slice R1 i R2) i xs NMF (fun _ => [(0, 0)]) (D 7) (D 8) true (D 10) (D 12) (y 82) (y 83) _ (y 85) _
        rw [H17.out]
        exact HW.out
      apply obl_priv 85
      case hd => rfl
      case hp => rfl
      case hrun =>
        intro D y wz hW hD R hR
        have HRR := Lib.hid hR
        clear hR
        have h18 : D 9 = true := hD.pre _ 9 rfl (by kernel_rfl)
        have h19 : D 10 = false := hD.not
        have h17 : D 8 = true := by
          cases e : D 8
          · have := hW.i17 e; rw [h18] at this; cases this
          · rfl
        have h16 : D 7 = true := by
          cases e : D 7
          · have := hW.i16 e; rw [h17] at this; cases this
          · rfl
        rw [h16, h17, h18, h19] at hW
        have HR := Lib.hid (hW.row rfl).row
        obtain ⟨gn, en, hcn⟩ := hW.s rfl rfl
        have hBz := hW.hB
        obtain ⟨ua, uc, eu⟩ := ownsRow_slice (hW.u rfl)
        have HO6 : Hid ((y 82).oneCell' = true) := by unfold Hid; rw [eu]; rfl
        clear eu
        have HW := Lib.hid hW
        have HEN := Lib.hid en
        have HCN := Lib.hid hcn
        have H16 := Lib.hid h16
        have H17 := Lib.hid h17
        have H18 := Lib.hid h18
        clear hW hD h16 h17 h18 h19 en hcn
        obtain ⟨i0, hi0, hz0, hz1, hz2⟩ := info83'
        refine wpList_append_own _ rfl _ _ 37 rfl BB 47 i0 (.agg #[.string ByteArray.empty, .slice none 0 0]) 2 40 Tryz.underlying37 hi0 hz0 hz1 hz2 rfl (by decide) _ _ _ rfl HR.out ⟨gn, 0, none⟩ 1 1 [.string (NMF i), y 82] HEN.out rfl (cell_news _ _ _ _ HCN.out) (by intro u hu; simp only [List.mem_cons, List.not_mem_nil, or_false] at hu; rcases hu with rfl | rfl; exact rfl; exact HO6.out) (by unfold maxLen; omega) (by omega) hBz ?_
        intro v' w12 hown hgrow _
        have HN := Lib.hid (FnW.put19 HW.out hown hgrow)
        clear hown hgrow
        refine HRR.out _ _ ?_
        show FnW w4 (w4.heap.size, .cells #[.string ⟨#[116, 104, 105, 110, 103]⟩, .int .i64 0, .int .i64 M, .int .i64 0, .int .i64 0] 35) (w4.heap.size + 1) BB (.slice (some ⟨w4.heap.size, 0, none⟩) 1 1) (.slice R1 i R2) i xs NMF (fun _ => [(0, 0)]) (D 7) (D 8) (D 9) true (D 12) (y 82) (y 83) (y 84) _ _
        rw [H16.out, H17.out, H18.out]
        exact HN.out
      apply obl_det
      case hrun =>
        intro D y wz hW hD R hR
        have HRR := Lib.hid hR
        clear hR
        have HW := Lib.hid hW
        clear hW hD
        go_wp2_with fail
        exact HRR.out _ HW.out
      case hnp => rfl
      case hv => first | exact ⟨_, fun _ => rfl⟩ | exact ⟨undef, fun _ => rfl⟩
      apply obl_det
      case hrun =>
        intro D y wz hW hD R hR
        have HRR := Lib.hid hR
        clear hR
        have h21 : D 12 = false := hD.not
        have h16 : D 7 = true := hD.pre _ 7 rfl (by kernel_rfl)
        have h17 : D 8 = true := hD.pre _ 8 rfl (by kernel_rfl)
        have h18 : D 9 = true := hD.pre _ 9 rfl (by kernel_rfl)
        have h19 : D 10 = true := hD.pre _ 10 rfl (by kernel_rfl)
        rw [h16, h17, h18, h19, h21] at hW
        obtain ⟨ga, gc, e69⟩ := ownsRow_slice (hW.got rfl).row
        have HO9 : Hid ((y 85).oneCell' = true) := by unfold Hid; rw [e69]; rfl
        have HW := Lib.hid hW
        have H16 := Lib.hid h16
        have H17 := Lib.hid h17
        have H18 := Lib.hid h18
        have H19 := Lib.hid h19
        clear hW hD h16 h17 h18 h19 h21 e69
        refine wpList_cell_bb rfl 37 _ _ rfl HW.out.bs 1 (w4.heap.size + 1) 1 _ 39 rfl rfl (y 85) rfl (by simp) HO9.out infoLots ?_
        intro wq hC4 hB4
        have HN := Lib.hid (FnW.put21 HW.out hC4 hB4)
        clear hC4 hB4
        simp only [Act.put]
        refine HRR.out _ ?_
        show FnW w4 (w4.heap.size, .cells #[.string ⟨#[116, 104, 105, 110, 103]⟩, .int .i64 0, .int .i64 M, .int .i64 0, .int .i64 0] 35) (w4.heap.size + 1) BB (.slice (some ⟨w4.heap.size, 0, none⟩) 1 1) (.slice R1 i R2) i xs NMF (fun _ => [(0, 0)]) (D 7) (D 8) (D 9) (D 10) true (y 82) (y 83) (y 84) (y 85) _
        rw [H16.out, H17.out, H18.out, H19.out]
        exact HN.out
      case hnp => rfl
      case hv => first | exact ⟨_, fun _ => rfl⟩ | exact ⟨undef, fun _ => rfl⟩
      apply obl_nil
      intro D y w8 hall hW
      rw [hall 7 (by decide), hall 8 (by decide), hall 9 (by decide), hall 10 (by decide), hall 12 (by decide)] at hW
      have HBS := Lib.hid hW.bs
      have HGT := Lib.hid (hW.got rfl)
      have HB8 := Lib.hid hW.hB
      clear hall hW
      generalize y 85 = y69 at *
      go_wp2_with fail
      refine ⟨⟨i + 1, y69, _, by push_cast; rfl, by omega, HBS.out, HB8.out, HGT.out⟩, ?_⟩
      simp [intOf]; omega
    · obtain rfl : i = l.length := by omega
      obtain ⟨R1, R2, rfl⟩ := ownsRow_slice HRW.out.row
      have HLT := Lib.hid (LotRow.lots HRW.out (by omega) (fun _ _ => by decide) (doseS l M).lots (by simp [doseS]) (fun i hi => by
        obtain ⟨b, o, -, -, -, hsz, -⟩ := HV4.out.at' hi
        have e1 : (doseS l M).lots.getD i default = doseL (l.getD i default) := by simp [doseS, List.getD, hi]
        rw [e1]
        exact ⟨(HNM.out i).symm, by rw [HNM.out i]; exact hsz, rfl⟩))
      have H0 := CI.out.get 0 rfl
      have HTH : Hid (ThingsIn wr.heap.size wr (.slice (some ⟨w4.heap.size, 0, none⟩) 1 1) (doseS l M).things) := ⟨_, _, rfl, by simp [doseS], by simp [doseS], .inr ⟨w4.heap.size, 0, rfl, block_lt H0, fun i hi => by
        obtain rfl : i = 0 := by simp [doseS] at hi; omega
        exact ⟨cell_of_row _ _ _ _ _ _ H0, cell_of_row _ _ _ _ _ _ H0, cell_of_row _ _ _ _ _ _ H0, cell_of_row _ _ _ _ _ _ H0, cell_of_row _ _ _ _ _ _ H0, (show ByteArray.size ⟨#[116, 104, 105, 110, 103]⟩ ≤ 1000000000000000 by decide)⟩⟩⟩
      clear H0 HRW HNM HLE HBB HG2 HCP
      have CW : Hid (Bs w4 [(w4.heap.size, .cells #[.string ⟨#[116, 104, 105, 110, 103]⟩, .int .i64 0, .int .i64 M, .int .i64 0, .int .i64 0] 35), (w4.heap.size + 1, .cells #[.slice (some ⟨w4.heap.size, 0, none⟩) 1 1, .slice R1 l.length R2] 39), (wr.heap.size, .cells #[.int .i64 0, .int .i64 A] 41), (wr.heap.size + 1, .cells #[.slice wa l.length wc, .slice none 0 0, .slice (some ⟨wr.heap.size, 0, none⟩) 1 1] 49)] _) := Lib.hid ((CI.out.push _ rfl (.cells #[.int .i64 0, .int .i64 A] 41)).push (wr.heap.size + 1) (by simp) (.cells #[.slice wa l.length wc, .slice none 0 0, .slice (some ⟨wr.heap.size, 0, none⟩) 1 1] 49))
      obtain ⟨W6, hW6⟩ : ∃ W, Hid ((wr.alloc (.cells #[.int .i64 0, .int .i64 A] 41)).alloc (.cells #[.slice wa l.length wc, .slice none 0 0, .slice (some ⟨wr.heap.size, 0, none⟩) 1 1] 49) = W) := ⟨_, rfl⟩
      have HB6 : Hid (Below wr.heap.size wr W6) := by rw [← hW6.out]; exact ((Below.refl _ _).alloc (Nat.le_refl _) _).alloc (by simp) _
      rw [hW6.out] at CW
      have HSH : Hid (ShopAt W6.heap.size W6 (.slice (some ⟨w4.heap.size, 0, none⟩) 1 1) (.slice R1 l.length R2) (doseS l M)) := ⟨HTH.out.next HB6.out, HLT.out.next HB6.out⟩
      have H2 := CW.out.get 2 rfl
      have H3 := CW.out.get 3 rfl
      have HBT : Hid (BatsIn W6.heap.size W6 (.slice (some ⟨wr.heap.size + 1, 0, none⟩) 1 1) [doseB RC G A]) := ⟨_, _, rfl, by simp, by simp, .inr ⟨wr.heap.size + 1, 0, rfl, block_lt H3, fun i hi => by
        obtain rfl : i = 0 := by simp at hi; omega
        exact ⟨_, _, _, cell_of_row _ _ _ _ _ _ H3, cell_of_row _ _ _ _ _ _ H3, cell_of_row _ _ _ _ _ _ H3, HWU.out.next CW.out.bel, ⟨none, 0, rfl, by simp [doseB], .inl rfl⟩, ⟨_, _, rfl, by simp [doseB], by simp [doseB], .inr ⟨wr.heap.size, 0, rfl, block_lt H2, fun j hj => by
          obtain rfl : j = 0 := by simp [doseB] at hj; omega
          exact ⟨cell_of_row _ _ _ _ _ _ H2, cell_of_row _ _ _ _ _ _ H2⟩⟩⟩⟩⟩⟩
      clear H2 H3
      have HLF := fun v w h1 h2 => Lib.hid (left_any (doseS l M) [doseB RC G A] (.slice (some ⟨w4.heap.size, 0, none⟩) 1 1) (.slice R1 l.length R2) v w h1 h2)
      rw [dose_left HOK.out HMM.out HRO.out HGG.out HAA.out, dose_ok HOK.out HMM.out HRO.out HGG.out HAA.out] at HLF
      have HKP := fun v w h1 h2 => Lib.hid (keeps_any (doseS l M) [doseB RC G A] (.slice (some ⟨w4.heap.size, 0, none⟩) 1 1) (.slice R1 l.length R2) v w h1 h2)
      rw [dose_keeps HOK.out HMM.out HRO.out HGG.out HAA.out] at HKP
      have hmb := mulb (a := M) (b := G) (A := 1000000) (B := 100000) (by have := HMM.out; omega) (by have := HGG.out; omega)
      obtain ⟨q, HQ⟩ : ∃ q, Hid (M * G = q) := ⟨_, rfl⟩
      rw [HQ.out] at HKP hmb
      have HP1 : Hid (wrap64 (1000 * A) = 1000 * A) := wrapU (by have := HAA.out; omega)
      have HP2 : Hid (wrap64 (M * G) = q) := by rw [HQ.out]; exact wrapU (by omega)
      clear hmb
      go_upto_region 14 with fail
      rw [hW6.out]
      go_wp2_with (refine wpList_load_row rfl 39 _ rfl _ rfl _ _ _ _ (CW.out.get 1 rfl) Tryz.underlying39 rfl infoShop ?_)
      by_cases hc : 1000 * A ≤ q
      · rw [if_pos hc] at HKP
        refine (HLF _ _ HSH.out HBT.out).out.mono ?_
        rintro e w7 ⟨lv, rfl, hlv, hb⟩
        have C7 := Lib.hid (CW.out.call hb)
        have HSH7 := Lib.hid (HSH.out.next hb)
        have HBT7 := Lib.hid (HBT.out.next hb)
        have HLV := Lib.hid hlv
        obtain ⟨la, lc, rfl, -⟩ := id hlv
        clear hb hlv CW HSH HBT HLF
        go_wp2_with (refine wpList_load_row rfl 39 _ rfl _ rfl _ _ _ _ (C7.out.get 1 rfl) Tryz.underlying39 rfl infoShop ?_)
        refine (HKP _ _ HSH7.out HBT7.out).out.mono ?_
        rintro e w8 ⟨rfl, hb⟩
        have C8 := Lib.hid (C7.out.call hb)
        have HLV8 := Lib.hid (HLV.out.next hb)
        clear hb C7 HSH7 HBT7 HKP HLV
        obtain ⟨gb, go, rfl, hgb, hg0⟩ := HLV8.out.atU (i := 0) (by simp)
        have hg1 : w8.cell? ⟨gb, go, none⟩ = some (.int .i64 G) := hg0
        have hqg : (G != G) = false := by simp
        have hp1 := HP1.out
        have hp2 := HP2.out
        clear hg0 hgb
        go_wp2_with fail
        refine (HA2.out _).mono ?_
        rintro e w9 ⟨rfl, hb⟩
        have C9 := Lib.hid (C8.out.call hb)
        clear hb C8 hg1 HLV8
        go_wp2_with fail
        refine (awake_any _).mono ?_
        rintro e w10 ⟨rfl, hb⟩
        have C10 := Lib.hid (C9.out.call hb)
        clear hb C9
        go_wp2_with fail
        go_ret
        exact ⟨rfl, HB4.out.trans (C10.out.bel.mono HB4.out.size)⟩
      · rw [if_neg hc] at HKP
        refine (HLF _ _ HSH.out HBT.out).out.mono ?_
        rintro e w7 ⟨lv, rfl, hlv, hb⟩
        have C7 := Lib.hid (CW.out.call hb)
        have HSH7 := Lib.hid (HSH.out.next hb)
        have HBT7 := Lib.hid (HBT.out.next hb)
        have HLV := Lib.hid hlv
        obtain ⟨la, lc, rfl, -⟩ := id hlv
        clear hb hlv CW HSH HBT HLF
        go_wp2_with (refine wpList_load_row rfl 39 _ rfl _ rfl _ _ _ _ (C7.out.get 1 rfl) Tryz.underlying39 rfl infoShop ?_)
        refine (HKP _ _ HSH7.out HBT7.out).out.mono ?_
        rintro e w8 ⟨rfl, hb⟩
        have C8 := Lib.hid (C7.out.call hb)
        have HLV8 := Lib.hid (HLV.out.next hb)
        clear hb C7 HSH7 HBT7 HKP HLV
        obtain ⟨gb, go, rfl, hgb, hg0⟩ := HLV8.out.atU (i := 0) (by simp)
        have hg1 : w8.cell? ⟨gb, go, none⟩ = some (.int .i64 G) := hg0
        have hqg : (G != G) = false := by simp
        have hp1 := HP1.out
        have hp2 := HP2.out
        clear hg0 hgb
        go_wp2_with fail
        refine (HA2.out _).mono ?_
        rintro e w9 ⟨rfl, hb⟩
        have C9 := Lib.hid (C8.out.call hb)
        clear hb C8 hg1 HLV8
        go_wp2_with fail
        refine (awake_any _).mono ?_
        rintro e w10 ⟨rfl, hb⟩
        have C10 := Lib.hid (C9.out.call hb)
        clear hb C9
        go_wp2_with fail
        go_ret
        exact ⟨rfl, HB4.out.trans (C10.out.bel.mono HB4.out.size)⟩
end Go.Proofs.YtohglbfeahofhaaGreat
