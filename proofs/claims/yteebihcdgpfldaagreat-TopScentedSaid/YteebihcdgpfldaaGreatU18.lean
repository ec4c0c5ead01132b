/- stearinref03: in, spans; stearinref01.Span. -/
import Derived.Test.YteebihcdgpfldaaGreatU8
namespace Go.Proofs.YteebihcdgpfldaaGreat
open Go.RowKit
theorem in3_r (r : Bool) (n lo hi : Int) (w : World) (hr : inB n lo hi = r) : Calls Tryz.prog 21 #[.int .i64 n, .int .i64 lo, .int .i64 hi] w fun e w' => e = .returned (.bool r) ∧ w = w' := by
 subst hr
 unfold inB
 go_enter Tryz.func21, Tryz.ntmps21
 by_cases h : lo ≤ n
 ·have h1 : decide (lo ≤ n) = true := by simpa using h
  go_wp2
  all_goals (go_ret; exact ⟨by simp [h], rfl⟩)
 ·have h1 : decide (lo ≤ n) = false := by simpa using h
  go_wp2
  all_goals (go_ret; exact ⟨by simp, rfl⟩)
theorem span3_ref (p : Int × Int) (lo hi : Int) (w : World) : Calls Tryz.prog 22 #[.agg #[.int .i64 p.1, .int .i64 p.2], .int .i64 lo, .int .i64 hi] w
 fun e w' => e = .returned (.int .i64 (rangeE lo hi p)) ∧ Below w.heap.size w w' := by
 obtain ⟨x, y⟩ := p
 have C0 := Lib.hid ((Bs.nil w).push _ rfl (.cells #[.int .i64 x, .int .i64 y] 30))
 have HE : Hid (rangeE lo hi (x, y) = if inB x lo hi = false ∨ inB y lo hi = false then 7 else if y < x then 2 else 0) := by
  unfold Hid rangeE
  rw [inB_out, inB_out]
  cases h1 : outOne lo hi x <;> cases h2 : outOne lo hi y <;> simp
 generalize rangeE lo hi (x, y) = E at *
 obtain ⟨r1, hr1⟩ : ∃ r, inB x lo hi = r := ⟨_, rfl⟩
 obtain ⟨r2, hr2⟩ : ∃ r, inB y lo hi = r := ⟨_, rfl⟩
 rw [hr1, hr2] at HE
 have HR1 := Lib.hid hr1
 have HR2 := Lib.hid hr2
 clear hr1 hr2
 go_enter Tryz.func22, Tryz.ntmps22
 go_wp2_with fail
 refine (in1_r r1 _ _ _ _ HR1.out).mono ?_
 rintro e w' ⟨rfl, rfl⟩
 cases r1
 ·go_wp2_with fail
  go_ret
  exact ⟨ret_int (by rw [HE.out]; simp), C0.out.bel⟩
 go_wp2_with fail
 refine (in1_r r2 _ _ _ _ HR2.out).mono ?_
 rintro e w' ⟨rfl, rfl⟩
 cases r2
 ·go_wp2_with fail
  go_ret
  exact ⟨ret_int (by rw [HE.out]; simp), C0.out.bel⟩
 go_wp2_with fail
 all_goals
  go_ret
  exact ⟨ret_int (by rw [HE.out]; simp; omega), C0.out.bel⟩
theorem IntsIn.atU {q : IntKind} {B : Nat} {w : World} {a : Option Addr} {n c : Nat} {l : List Int} (h : IntsIn q B w (.slice a n c) l) {i : Nat} (hi : i < l.length) : ∃ b o, a = some ⟨b, o, none⟩ ∧ b < B ∧ w.cell? ⟨b, o + i, none⟩ = some (.int q (l.getD i 0)) := by
 obtain ⟨a', c', e, -, h⟩ := h
 cases e
 rcases h with rfl | ⟨b, o, rfl, hb, h⟩
 ·simp at hi
 ·exact ⟨b, o, rfl, hb, h i hi⟩
/-- The worst of some errors. -/
def worstTo (e : Nat → Int) : Nat → Int
 | 0 => 0
 | k + 1 => if e k = 7 ∨ worstTo e k = 0 then e k else worstTo e k
theorem worst_zero (e : Nat → Int) : ∀ n, worstTo e n = 0 → ∀ i, i < n → e i = 0
 | 0, _, i, hi => absurd hi (by omega)
 | n + 1, h, i, hi => by
  rw [worstTo] at h
  split at h
  ·rename_i h1
   have h2 : worstTo e n = 0 := by rcases h1 with h1 | h1; (· omega); (· exact h1)
   by_cases h3 : i = n
   ·rw [h3]; exact h
   ·exact worst_zero e n h2 i (by omega)
  ·rename_i h1
   exact absurd h (fun h => h1 (.inr h))
set_option maxHeartbeats 4000000 in
theorem spans3_ref (l : List (Int × Int)) (los his : List Int) (n : Nat) (h1 : l.length = n) (h2 : los.length = n) (h3 : his.length = n) (v vl vh : Value) (w : World) (hv : SpansIn w.heap.size w v l) (hvl : IntsIn .i64 w.heap.size w vl los) (hvh : IntsIn .i64 w.heap.size w vh his) :
 Calls Tryz.prog 65 #[v, vl, vh] w fun e w' => e = .returned (.int .i64 (worstTo (fun i => rangeE (los.getD i 0) (his.getD i 0) (l.getD i default)) n)) ∧ Below w.heap.size w w' := by
 have HV := Lib.hid hv
 have HVL := Lib.hid hvl
 have HVH := Lib.hid hvh
 obtain ⟨a, c, rfl, -, hl⟩ := sl_shape hv
 obtain ⟨la, lc, rfl, -⟩ := id hvl
 obtain ⟨ha, hc, rfl, -⟩ := id hvh
 clear hv hvl hvh
 have HN := Lib.hid h1
 have HN2 := Lib.hid h2
 have HN3 := Lib.hid h3
 rw [h1] at HV hl ⊢
 rw [h2] at HVL ⊢
 rw [h3] at HVH ⊢
 clear h1 h2 h3
 obtain ⟨F, hF⟩ : ∃ F, (fun i => rangeE (los.getD i 0) (his.getD i 0) (l.getD i default)) = F := ⟨_, rfl⟩
 have HF : Hid (∀ i, rangeE (los.getD i 0) (his.getD i 0) (l.getD i default) = F i) := by subst hF; exact fun i => rfl
 rw [hF]
 clear hF
 go_enter Tryz.func65, Tryz.ntmps65
 go_wp2_with fail
 go_loopw [7, 8] (fun ev iv wr => ∃ k : Nat, ev = .int .i64 (worstTo F k) ∧ iv = .int .i64 k ∧ k ≤ n ∧ Below w.heap.size w wr) (fun _ iv _ => n - (intOf iv).toNat)
 case atStart => exact ⟨0, rfl, rfl, by omega, Below.refl _ _⟩
 case round =>
  obtain ⟨k, rfl, rfl, hk, hb⟩ := hrel
  have CB := Lib.hid hb
  clear hb
  by_cases hlt : k < n
  ·obtain ⟨b, o, rfl, hbb, hc1, hc2⟩ := HV.out.at' (i := k) (by rw [HN.out]; exact hlt)
   obtain ⟨b1, o1, rfl, hbb1, hd1⟩ := HVL.out.atU (i := k) (by rw [HN2.out]; exact hlt)
   obtain ⟨b2, o2, rfl, hbb2, he1⟩ := HVH.out.atU (i := k) (by rw [HN3.out]; exact hlt)
   have h1 := (CB.out.cell (p := ⟨b, o + k * 2, none⟩) hbb).trans hc1
   have h2 := (CB.out.cell (p := ⟨b, o + k * 2 + 1, none⟩) hbb).trans hc2
   have h3 := (CB.out.cell (p := ⟨b1, o1 + k, none⟩) hbb1).trans hd1
   have h4 := (CB.out.cell (p := ⟨b2, o2 + k, none⟩) hbb2).trans he1
   have HX := fun w => Lib.hid (span3_ref (l.getD k default) (los.getD k 0) (his.getD k 0) w)
   have HFK := HF.out k
   rw [HFK] at HX
   clear hc1 hc2 hd1 he1 HFK
   have HW : Hid (worstTo F (k + 1) = if F k = 7 ∨ worstTo F k = 0 then F k else worstTo F k) := rfl
   generalize worstTo F k = s at *
   generalize l.getD k default = p at *
   generalize los.getD k 0 = lo at *
   generalize his.getD k 0 = hi at *
   generalize F k = E at *
   have H1 := Lib.hid h1
   have H2 := Lib.hid h2
   have H3 := Lib.hid h3
   have H4 := Lib.hid h4
   have HB1 : Hid (b < wr.heap.size) := Nat.lt_of_lt_of_le hbb CB.out.size
   have HB2 : Hid (b1 < wr.heap.size) := Nat.lt_of_lt_of_le hbb1 CB.out.size
   have HB3 : Hid (b2 < wr.heap.size) := Nat.lt_of_lt_of_le hbb2 CB.out.size
   clear h1 h2 h3 h4 hbb hbb1 hbb2
   go_wp2_with fail
   refine wp_region_inv0 (by kernel_rfl) (by kernel_rfl) (fun D w' => Below wr.heap.size wr w') (Below.refl _ _).drew ?_
   iterate 3
    (apply obl_det
     case hrun =>
      intro D y wz hW hD R hR
      have HRR := Lib.hid hR
      clear hR
      have HW := Lib.hid hW
      clear hW hD
      go_wp2_with fail
      exact HRR.out _ HW.out
     case hnp => rfl
     case hv => first | exact ⟨_, fun _ => rfl⟩ | exact ⟨undef, fun _ => rfl⟩)
   apply obl_det
   case hrun =>
    intro D y wz hW hD R hR
    have HRR := Lib.hid hR
    clear hR
    have HW := Lib.hid hW
    have h1 := (HW.out.cell (p := ⟨b, o + k * 2, none⟩) HB1.out).trans H1.out
    have h2 := (HW.out.cell (p := ⟨b, o + k * 2 + 1, none⟩) HB1.out).trans H2.out
    clear hW hD
    go_wp2_with fail
    exact HRR.out _ HW.out
   case hnp => rfl
   case hv => first | exact ⟨_, fun _ => rfl⟩ | exact ⟨undef, fun _ => rfl⟩
   iterate 3
    (apply obl_det
     case hrun =>
      intro D y wz hW hD R hR
      have HRR := Lib.hid hR
      clear hR
      have HW := Lib.hid hW
      clear hW hD
      go_wp2_with fail
      exact HRR.out _ HW.out
     case hnp => rfl
     case hv => first | exact ⟨_, fun _ => rfl⟩ | exact ⟨undef, fun _ => rfl⟩)
   apply obl_det
   case hrun =>
    intro D y wz hW hD R hR
    have HRR := Lib.hid hR
    clear hR
    have HW := Lib.hid hW
    have h3 := (HW.out.cell (p := ⟨b1, o1 + k, none⟩) HB2.out).trans H3.out
    clear hW hD
    go_wp2_with fail
    exact HRR.out _ HW.out
   case hnp => rfl
   case hv => first | exact ⟨_, fun _ => rfl⟩ | exact ⟨undef, fun _ => rfl⟩
   iterate 3
    (apply obl_det
     case hrun =>
      intro D y wz hW hD R hR
      have HRR := Lib.hid hR
      clear hR
      have HW := Lib.hid hW
      clear hW hD
      go_wp2_with fail
      exact HRR.out _ HW.out
     case hnp => rfl
     case hv => first | exact ⟨_, fun _ => rfl⟩ | exact ⟨undef, fun _ => rfl⟩)
   apply obl_det
   case hrun =>
    intro D y wz hW hD R hR
    have HRR := Lib.hid hR
    clear hR
    have HW := Lib.hid hW
    have h4 := (HW.out.cell (p := ⟨b2, o2 + k, none⟩) HB3.out).trans H4.out
    clear hW hD
    go_wp2_with fail
    exact HRR.out _ HW.out
   case hnp => rfl
   case hv => first | exact ⟨_, fun _ => rfl⟩ | exact ⟨undef, fun _ => rfl⟩
   apply obl_det
   case hrun =>
    intro D y wz hW hD R hR
    have HRR := Lib.hid hR
    clear hR
    have HW := Lib.hid hW
    clear hW hD
    go_wp2_with fail
    refine (HX _).out.mono ?_
    rintro e w' ⟨rfl, hb⟩
    have HW2 := Lib.hid (HW.out.trans (hb.mono HW.out.size))
    clear hb
    go_wp2_with fail
    exact HRR.out _ HW2.out
   case hnp => rfl
   case hv => first | exact ⟨_, fun _ => rfl⟩ | exact ⟨undef, fun _ => rfl⟩
   apply obl_det
   case hrun =>
    intro D y wz hW hD R hR
    have HRR := Lib.hid hR
    clear hR
    have HW := Lib.hid hW
    clear hW hD
    go_wp2_with fail
    exact HRR.out _ HW.out
   case hnp => rfl
   case hv => first | exact ⟨_, fun _ => rfl⟩ | exact ⟨undef, fun _ => rfl⟩
   apply obl_nil
   intro D y w8 hall hW
   have CB := Lib.hid (CB.out.trans (hW.mono CB.out.size))
   clear hall hW H1 H2 H3 H4 HB1 HB2 HB3 HX
   by_cases h7 : E = 7
   ·subst h7
    go_wp2_with fail
    refine ⟨⟨k + 1, by rw [HW.out]; simp, by push_cast; rfl, by omega, CB.out⟩, ?_⟩
    simp [intOf]; omega
   ·have h7b : (E == 7) = false := by simpa using h7
    have H7 := Lib.hid h7
    clear h7
    by_cases h0 : s = 0
    ·subst h0
     go_wp2_with fail
     refine ⟨⟨k + 1, by rw [HW.out]; simp, by push_cast; rfl, by omega, CB.out⟩, ?_⟩
     simp [intOf]; omega
    ·have h0b : (s == 0) = false := by simpa using h0
     have H0 := Lib.hid h0
     clear h0
     go_wp2_with fail
     refine ⟨⟨k + 1, by rw [HW.out, if_neg (by simp [H7.out, H0.out])], by push_cast; rfl, by omega, CB.out⟩, ?_⟩
     simp [intOf]; omega
  ·obtain rfl : k = n := by omega
   go_wp2_with fail
   go_ret
   exact ⟨rfl, CB.out⟩
end Go.Proofs.YteebihcdgpfldaaGreat
