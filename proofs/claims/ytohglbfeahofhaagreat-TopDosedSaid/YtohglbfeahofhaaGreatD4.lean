/- stearinref02.Check. -/
import Derived.Test.YtohglbfeahofhaaGreatD3
import Derived.Test.YtohglbfeahofhaaGreatK3
namespace Go.Proofs.YtohglbfeahofhaaGreat
open Go.RowKit
theorem named_zero {l : List ByteArray} {n : ByteArray} (h : namedE l n = 0) : nameB n = true ∧ l.any (sameN n) = false := by
  unfold namedE at h
  cases h1 : nameB n
  · rw [h1] at h; simp at h
  · cases h2 : l.any (sameN n)
    · exact ⟨rfl, rfl⟩
    · rw [h1, h2] at h; simp at h
def namesB (l : List BWax) (k : Nat) : List ByteArray := (l.take k).map (·.name)
theorem namesB_snoc (l : List BWax) {k : Nat} (hk : k < l.length) : namesB l (k + 1) = namesB l k ++ [(l.getD k default).name] := by
  unfold namesB; rw [takeU_snoc _ k hk default, List.map_append]; rfl
theorem namesB_len (l : List BWax) {k : Nat} (hk : k ≤ l.length) : (namesB l k).length = k := by unfold namesB; simp; omega
theorem bw1_of {l : List BWax} {x : BWax} (h1 : namedE (l.map (·.name)) x.name = 0) (h2 : inB x.price 0 100000 = true) (h3 : twoE (rangeE 0 2000 x.melt) (rangeE 0 1000 x.shrink) = 0) (h4 : CurOk x.curve) : BW1 l x := by
  obtain ⟨a, b⟩ := named_zero h1
  rw [List.any_map] at b
  obtain ⟨c, d⟩ := twoE_zero h3
  unfold inB at h2
  rw [Bool.and_eq_true, decide_eq_true_eq, decide_eq_true_eq] at h2
  exact ⟨a, b, h2, c, d, h4⟩
set_option maxRecDepth 100000 in
set_option maxHeartbeats 16000000 in
/-- Check: with the error 0 all is in order. -/
theorem check2_ref (l : List BWax) (v : Value) (w : World) (hv : BWaxesIn w.heap.size w v l) :
    Calls Tryz.prog 4 #[v] w fun e w' => ∃ p i E : Int, e = .returned (.tuple #[.int .i64 p, .int .i64 i, .int .i64 E]) ∧ (E = 0 → BOk l) ∧ Below w.heap.size w w' := by
  obtain ⟨a, cap, rfl, -, hlm⟩ := sl_shape hv
  have HV := Lib.hid hv
  have HB0 : Hid (Below w.heap.size w w) := Below.refl _ _
  clear hv
  obtain ⟨r1, hr1⟩ : ∃ r, inB (l.length : Int) 1 5 = r := ⟨_, rfl⟩
  have HR1 := Lib.hid hr1
  clear hr1
  obtain ⟨i0, hi0, hz0, hz1, hz2⟩ := info9U
  have HI0 := Lib.hid hi0
  have HZ0 := Lib.hid hz0
  have HZ1 := Lib.hid hz1
  have HZ2 := Lib.hid hz2
  clear hi0 hz0 hz1 hz2
  go_enter Tryz.func4, Tryz.ntmps4
  go_wp2_with fail
  refine (in2_r r1 _ _ _ _ HR1.out).mono ?_
  rintro e w' ⟨rfl, rfl⟩
  cases r1
  · go_wp2_with fail
    go_ret3
    exact ⟨_, _, _, rfl, fun h => absurd h (by decide), HB0.out⟩
  have hn : 1 ≤ l.length ∧ l.length ≤ 5 := by have h := HR1.out; unfold inB at h; rw [Bool.and_eq_true, decide_eq_true_eq, decide_eq_true_eq] at h; omega
  go_wp2_with fail
  go_loopw [5, 6] (fun tx iv wr => ∃ (k : Nat) (tv : Value), tv = tx ∧ iv = .int .i64 k ∧ k ≤ l.length ∧ Below w.heap.size w wr ∧ wr.ownsRow w.heap.size 9 1 tv k ((namesB l k).map Value.string) ∧ ∀ i, i < k → BW1 (l.take i) (l.getD i default)) (fun _ iv _ => l.length - (intOf iv).toNat)
  case atStart => exact ⟨0, _, rfl, rfl, by omega, HB0.out, World.ownsRow_nil _ _ 9 1, fun i hi => absurd hi (by omega)⟩
  case round =>
    clear HB0
    obtain ⟨k, tv, rfl, rfl, hk, hb, hT, hf⟩ := hrel
    have HB := Lib.hid hb
    have HT := Lib.hid hT
    have HF := Lib.hid hf
    clear hb hT hf
    by_cases hkl : k < l.length
    · have hki : (k : Int) < (l.length : Int) := by omega
      have HKI := Lib.hid hki
      obtain ⟨b, o, he, hbl, hx0, hsz, hx1, hx2, hx3, hx4, hx5, cu, hx6, hcu⟩ := HV.out.at' hkl
      cases he
      have hy0 := (HB.out.cell (p := ⟨b, o + k * 7, none⟩) hbl).trans hx0
      have HX1 := Lib.hid hx1
      have HX2 := Lib.hid hx2
      have HX3 := Lib.hid hx3
      have HX4 := Lib.hid hx4
      have HX5 := Lib.hid hx5
      have HX6 := Lib.hid hx6
      have HCU := Lib.hid hcu
      have HBL := Lib.hid hbl
      have HSN2 : Hid ((namesB l (k + 1)).map Value.string = (namesB l k).map Value.string ++ [.string (l.getD k default).name]) := by unfold Hid; rw [namesB_snoc l hkl, List.map_append]; rfl
      have HLN : Hid ((namesB l k).length = k) := namesB_len l hk
      have HNX : Hid (namedE (namesB l k) (l.getD k default).name = 0 → inB (l.getD k default).price 0 100000 = true → twoE (rangeE 0 2000 (l.getD k default).melt) (rangeE 0 1000 (l.getD k default).shrink) = 0 → CurOk (l.getD k default).curve → ∀ i, i < k + 1 → BW1 (l.take i) (l.getD i default)) := fun a b c d => nextU_all HF.out (bw1_of a b c d)
      clear hx0 hx1 hx2 hx3 hx4 hx5 hx6 hbl HF hcu
      generalize l.getD k default = x at *
      have HSZ := Lib.hid hsz
      clear hsz
      obtain ⟨r3, hr3⟩ : ∃ r, inB x.price 0 100000 = r := ⟨_, rfl⟩
      have HR3 := Lib.hid hr3
      clear hr3
      have HNM : Hid (SlIn rdStr wr.heap.size wr tv (namesB l k)) := ownsRow_strsU (by rw [HLN.out]; exact HT.out) (by rw [HLN.out]; omega)
      have HCALL := Lib.hid (named_any (namesB l k) tv x.name wr HSZ.out HNM.out)
      have HT6 := Lib.hid (HT.out.alloc (.cells #[.string x.name] 9))
      have HB6 := Lib.hid (HB.out.trans ((allocU wr (.cells #[.string x.name] 9)).mono HB.out.size))
      have HNW := Lib.hid (heap_alloc_new wr (.cells #[.string x.name] 9))
      have HLE1 : Hid (w.heap.size ≤ (wr.alloc (.cells #[.string x.name] 9)).heap.size) := HB6.out.size
      clear HNM HT
      generalize namedE (namesB l k) x.name = E1 at *
      go_wp2_with fail
      refine HCALL.out.mono ?_
      rintro e w' ⟨rfl, rfl⟩
      clear HCALL
      by_cases h0 : E1 = 0
      · subst h0
        have HN1 := Lib.hid (HNX.out rfl)
        clear HNX
        go_wp2_with (at_builtin; refine wpList_append_own _ rfl _ _ 55 rfl w.heap.size 9 i0 (.string ByteArray.empty) 1 16 Tryz.underlying55 HI0.out HZ0.out HZ1.out HZ2.out rfl (by decide) _ _ _ rfl HT6.out ⟨wr.heap.size, 0, none⟩ 1 1 [.string x.name] rfl rfl (cell_news _ _ _ _ HNW.out) (one_strU _) (by unfold maxLen; omega) (by omega) HLE1.out ?_; intro v' w12 hown12 hgrow12 _; have HB7 := Lib.hid (HB6.out.trans (grown_below HT6.out hgrow12 (Nat.le_refl _) HLE1.out)); have HTN := Lib.hid hown12; rw [← HSN2.out] at HTN; clear hown12 hgrow12 HT6 HB6 HNW hy0; have hz1 := (HB7.out.cell (p := ⟨b, o + k * 7 + 1, none⟩) HBL.out).trans HX1.out)
        refine (in2_r r3 _ _ _ _ HR3.out).mono ?_
        rintro e w' ⟨rfl, rfl⟩
        cases r3
        · go_wp2_with fail
          go_ret3
          exact ⟨_, _, _, rfl, fun h => absurd h (by decide), HB7.out⟩
        have HN2 := Lib.hid (HN1.out HR3.out)
        have HSP := fun w => Lib.hid (spans2_ref x.melt x.shrink w)
        clear HN1 HR3
        generalize twoE (rangeE 0 2000 x.melt) (rangeE 0 1000 x.shrink) = E2 at *
        go_wp2_with fail
        refine wp_region_inv0 (by kernel_rfl) (by kernel_rfl) (fun D w' => Below w12.heap.size w12 w') (Below.refl _ _).drew ?_
        apply obl_det
        case hrun =>
          intro D y wz hW hD R hR
          have HRR := Lib.hid hR
          clear hR
          have HW := Lib.hid hW
          clear hW hD
          go_wp2_with fail
          exact HRR.out _ HW.out
        case hnp => rfl
        case hv => first | exact ⟨_, fun _ => rfl⟩ | exact ⟨undef, fun _ => rfl⟩
        apply obl_det
        case hrun =>
          intro D y wz hW hD R hR
          have HRR := Lib.hid hR
          clear hR
          have HW := Lib.hid hW
          clear hW hD
          go_wp2_with fail
          exact HRR.out _ HW.out
        case hnp => rfl
        case hv => first | exact ⟨_, fun _ => rfl⟩ | exact ⟨undef, fun _ => rfl⟩
        apply obl_det
        case hrun =>
          intro D y wz hW hD R hR
          have HRR := Lib.hid hR
          clear hR
          have HW := Lib.hid hW
          have h1 := HKI.out
          clear hW hD
          go_wp2_with fail
          exact HRR.out _ HW.out
        case hnp => rfl
        case hv => first | exact ⟨_, fun _ => rfl⟩ | exact ⟨undef, fun _ => rfl⟩
        apply obl_det
        case hrun =>
          intro D y wz hW hD R hR
          have HRR := Lib.hid hR
          clear hR
          have HW := Lib.hid hW
          clear hW hD
          go_wp2_with fail
          exact HRR.out _ HW.out
        case hnp => rfl
        case hv => first | exact ⟨_, fun _ => rfl⟩ | exact ⟨undef, fun _ => rfl⟩
        apply obl_det
        case hrun =>
          intro D y wz hW hD R hR
          have HRR := Lib.hid hR
          clear hR
          have HW := Lib.hid hW
          have HZ := Lib.hid (HB7.out.trans (HW.out.mono HB7.out.size))
          have h1 := (HZ.out.cell (p := ⟨b, o + k * 7 + 2, none⟩) HBL.out).trans HX2.out
          have h2 := (HZ.out.cell (p := ⟨b, o + k * 7 + 3, none⟩) HBL.out).trans HX3.out
          clear hW hD
          go_wp2_with fail
          exact HRR.out _ HW.out
        case hnp => rfl
        case hv => first | exact ⟨_, fun _ => rfl⟩ | exact ⟨undef, fun _ => rfl⟩
        apply obl_det
        case hrun =>
          intro D y wz hW hD R hR
          have HRR := Lib.hid hR
          clear hR
          have HW := Lib.hid hW
          clear hW hD
          go_wp2_with fail
          exact HRR.out _ HW.out
        case hnp => rfl
        case hv => first | exact ⟨_, fun _ => rfl⟩ | exact ⟨undef, fun _ => rfl⟩
        apply obl_det
        case hrun =>
          intro D y wz hW hD R hR
          have HRR := Lib.hid hR
          clear hR
          have HW := Lib.hid hW
          clear hW hD
          go_wp2_with fail
          exact HRR.out _ HW.out
        case hnp => rfl
        case hv => first | exact ⟨_, fun _ => rfl⟩ | exact ⟨undef, fun _ => rfl⟩
        apply obl_det
        case hrun =>
          intro D y wz hW hD R hR
          have HRR := Lib.hid hR
          clear hR
          have HW := Lib.hid hW
          have h1 := HKI.out
          clear hW hD
          go_wp2_with fail
          exact HRR.out _ HW.out
        case hnp => rfl
        case hv => first | exact ⟨_, fun _ => rfl⟩ | exact ⟨undef, fun _ => rfl⟩
        apply obl_det
        case hrun =>
          intro D y wz hW hD R hR
          have HRR := Lib.hid hR
          clear hR
          have HW := Lib.hid hW
          clear hW hD
          go_wp2_with fail
          exact HRR.out _ HW.out
        case hnp => rfl
        case hv => first | exact ⟨_, fun _ => rfl⟩ | exact ⟨undef, fun _ => rfl⟩
        apply obl_det
        case hrun =>
          intro D y wz hW hD R hR
          have HRR := Lib.hid hR
          clear hR
          have HW := Lib.hid hW
          have HZ := Lib.hid (HB7.out.trans (HW.out.mono HB7.out.size))
          have h1 := (HZ.out.cell (p := ⟨b, o + k * 7 + 4, none⟩) HBL.out).trans HX4.out
          have h2 := (HZ.out.cell (p := ⟨b, o + k * 7 + 5, none⟩) HBL.out).trans HX5.out
          clear hW hD
          go_wp2_with fail
          exact HRR.out _ HW.out
        case hnp => rfl
        case hv => first | exact ⟨_, fun _ => rfl⟩ | exact ⟨undef, fun _ => rfl⟩
        apply obl_det
        case hrun =>
          intro D y wz hW hD R hR
          have HRR := Lib.hid hR
          clear hR
          have HW := Lib.hid hW
          clear hW hD
          go_wp2_with fail
          refine (HSP _).out.mono ?_
          rintro e w' ⟨rfl, hb⟩
          have HW2 := Lib.hid (HW.out.trans (hb.mono HW.out.size))
          clear hb
          go_wp2_with fail
          exact HRR.out _ HW2.out
        case hnp => rfl
        case hv => first | exact ⟨_, fun _ => rfl⟩ | exact ⟨undef, fun _ => rfl⟩
        apply obl_det
        case hrun =>
          intro D y wz hW hD R hR
          have HRR := Lib.hid hR
          clear hR
          have HW := Lib.hid hW
          clear hW hD
          go_wp2_with fail
          exact HRR.out _ HW.out
        case hnp => rfl
        case hv => first | exact ⟨_, fun _ => rfl⟩ | exact ⟨undef, fun _ => rfl⟩
        apply obl_nil
        intro D y w13 hall hW
        have HB8 := Lib.hid (HB7.out.trans (hW.mono HB7.out.size))
        have HT8 := Lib.hid (ownsRow.below HTN.out hW)
        clear hall hW HB7 HTN HSP hz1
        by_cases h2 : E2 = 0
        case neg =>
          have h3 : (E2 == 0) = false := by simpa using h2
          have h4 : (E2 != 0) = true := by simpa using h2
          have HNE := Lib.hid h2
          clear h2
          go_wp2_with fail
          go_ret3
          exact ⟨_, _, _, rfl, fun h => absurd h HNE.out, HB8.out⟩
        subst h2
        have HN3 := Lib.hid (HN2.out rfl)
        clear HN2
        have hz6 := (HB8.out.cell (p := ⟨b, o + k * 7 + 6, none⟩) HBL.out).trans HX6.out
        obtain ⟨ca, cq, rfl, -, -⟩ := sl_shape HCU.out
        go_wp2_with fail
        refine (curve2_ref x.curve _ _ ((HCU.out.below HB8.out).mono HB8.out.size)).mono ?_
        rintro e w14 ⟨E4, rfl, hE4, hb⟩
        have HB9 := Lib.hid (HB8.out.trans (hb.mono HB8.out.size))
        have HT9 := Lib.hid (ownsRow.below HT8.out hb)
        have HE4 := Lib.hid hE4
        clear hb hE4 HB8 HT8 hz6
        by_cases h2 : E4 = 0
        · subst h2
          have HN4 := Lib.hid (HN3.out (HE4.out (by simp)))
          clear HN3 HE4
          go_wp2_with fail
          refine ⟨⟨k + 1, _, rfl, by push_cast; rfl, by omega, HB9.out, HT9.out, HN4.out⟩, ?_⟩
          simp [intOf]; omega
        · have h4 : (E4 != 0) = true := by simpa using h2
          have HNE := Lib.hid h2
          clear h2
          go_wp2_with fail
          go_ret3
          exact ⟨_, _, _, rfl, fun h => absurd h HNE.out, HB9.out⟩
      · have h1 : (E1 == 0) = false := by simpa using h0
        have h2 : (E1 != 0) = true := by simpa using h0
        have HNE := Lib.hid h0
        clear h0 HNX HR3
        go_wp2_with (at_builtin; refine wpList_append_own _ rfl _ _ 55 rfl w.heap.size 9 i0 (.string ByteArray.empty) 1 16 Tryz.underlying55 HI0.out HZ0.out HZ1.out HZ2.out rfl (by decide) _ _ _ rfl HT6.out ⟨wr.heap.size, 0, none⟩ 1 1 [.string x.name] rfl rfl (cell_news _ _ _ _ HNW.out) (one_strU _) (by unfold maxLen; omega) (by omega) HLE1.out ?_; intro v' w12 hown12 hgrow12 _; have HB7 := Lib.hid (HB6.out.trans (grown_below HT6.out hgrow12 (Nat.le_refl _) HLE1.out)); have HTN := Lib.hid hown12; rw [← HSN2.out] at HTN; clear hown12 hgrow12 HT6 HB6 HNW hy0)
        go_ret3
        exact ⟨_, _, _, rfl, fun h => absurd h HNE.out, HB7.out⟩
    · obtain rfl : k = l.length := by omega
      go_wp2_with fail
      go_ret3
      exact ⟨_, _, _, rfl, fun _ => bok_of hn.1 hn.2 HF.out, HB.out⟩
end Go.Proofs.YtohglbfeahofhaaGreat
