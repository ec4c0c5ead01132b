/- blend.ends. -/
import Derived.Deep.Cut
import Derived.Deep.CutBlock
import Derived.Test.YtohglbfeahofhaaGreatD13
namespace Go.Proofs.YtohglbfeahofhaaGreat
open Go.RowKit
theorem infoA5 : (Tryz.prog.info? 150).map (·.size) = some 5 := by kernel_rfl
theorem info3s : (Tryz.prog.info? 3).map (·.size) = some 1 := by kernel_rfl
/-- What a blend melts and shrinks at: least and most. -/
def endsV (ps : List (BWax × Int)) : (Int × Int) × (Int × Int) := ((sumG gSoft ps ps.length + sumG gRaise ps ps.length, sumG gHard ps ps.length + sumG gRaise ps ps.length), (sumG gLeast ps ps.length, sumG gMost ps ps.length))
theorem sum5 {g : BWax → Int → Int} {ps : List (BWax × Int)} (h : GIn g ps) (h5 : ps.length ≤ 5) : -50000000 ≤ sumG g ps ps.length ∧ sumG g ps ps.length ≤ 50000000 := by
  have := sumG_in h ps.length (Nat.le_refl _)
  omega
theorem idx5_0 (w : World) : (Instr.index 151 (.agg #[.func (.func 82) #[] #[], .func (.func 83) #[] #[], .func (.func 84) #[] #[], .func (.func 85) #[] #[], .func (.func 48) #[] #[]]) (.int .i64 0)).run Tryz.prog w = .ok (.func (.func 82) #[] #[]) w := by kernel_rfl
theorem idx5_1 (w : World) : (Instr.index 151 (.agg #[.func (.func 82) #[] #[], .func (.func 83) #[] #[], .func (.func 84) #[] #[], .func (.func 85) #[] #[], .func (.func 48) #[] #[]]) (.int .i64 1)).run Tryz.prog w = .ok (.func (.func 83) #[] #[]) w := by kernel_rfl
theorem idx5_2 (w : World) : (Instr.index 151 (.agg #[.func (.func 82) #[] #[], .func (.func 83) #[] #[], .func (.func 84) #[] #[], .func (.func 85) #[] #[], .func (.func 48) #[] #[]]) (.int .i64 2)).run Tryz.prog w = .ok (.func (.func 84) #[] #[]) w := by kernel_rfl
theorem idx5_3 (w : World) : (Instr.index 151 (.agg #[.func (.func 82) #[] #[], .func (.func 83) #[] #[], .func (.func 84) #[] #[], .func (.func 85) #[] #[], .func (.func 48) #[] #[]]) (.int .i64 3)).run Tryz.prog w = .ok (.func (.func 85) #[] #[]) w := by kernel_rfl
theorem idx5_4 (w : World) : (Instr.index 151 (.agg #[.func (.func 82) #[] #[], .func (.func 83) #[] #[], .func (.func 84) #[] #[], .func (.func 85) #[] #[], .func (.func 48) #[] #[]]) (.int .i64 4)).run Tryz.prog w = .ok (.func (.func 48) #[] #[]) w := by kernel_rfl
set_option maxRecDepth 100000 in
set_option maxHeartbeats 16000000 in
theorem ends_ok (ps : List (BWax × Int)) (hp : PsOk ps) (h5 : ps.length ≤ 5) (v : Value) (w : World) (hv : PartsIn w.heap.size w v ps) :
    Calls Tryz.prog 44 #[v] w fun e w' => e = .returned (.tuple #[.agg #[.int .i64 (endsV ps).1.1, .int .i64 (endsV ps).1.2], .agg #[.int .i64 (endsV ps).2.1, .int .i64 (endsV ps).2.2]]) ∧ Below w.heap.size w w' := by
  obtain ⟨a, cap, rfl, hcap, -⟩ := sl_shape hv
  have HV := Lib.hid hv
  have HP := Lib.hid hp
  have HW0 := fun v w hv => Lib.hid (whole_softest ps hp h5 v w hv)
  have hs0 := sum5 (gSoft_in hp) h5
  have HW1 := fun v w hv => Lib.hid (whole_hardest ps hp h5 v w hv)
  have hs1 := sum5 (gHard_in hp) h5
  have HW2 := fun v w hv => Lib.hid (whole_least ps hp h5 v w hv)
  have hs2 := sum5 (gLeast_in hp) h5
  have HW3 := fun v w hv => Lib.hid (whole_most ps hp h5 v w hv)
  have hs3 := sum5 (gMost_in hp) h5
  have HW4 := fun v w hv => Lib.hid (whole_raise ps hp h5 v w hv)
  have hs4 := sum5 (gRaise_in hp) h5
  simp only [endsV]
  generalize sumG gSoft ps ps.length = S0 at *
  generalize sumG gHard ps ps.length = S1 at *
  generalize sumG gLeast ps ps.length = S2 at *
  generalize sumG gMost ps ps.length = S3 at *
  generalize sumG gRaise ps ps.length = S4 at *
  have HA0 : Hid (wrap64 (S0 + S4) = S0 + S4) := wrapU (by omega)
  have HA1 : Hid (wrap64 (S1 + S4) = S1 + S4) := wrapU (by omega)
  clear hv hp hs0 hs1 hs2 hs3 hs4
  have C0 : Hid (Bs w [(w.heap.size, .cells #[.int .i64 0, .int .i64 0] 41), (w.heap.size + 1, .cells #[.int .i64 0, .int .i64 0] 41), (w.heap.size + 2, .cells #[.int .i64 0, .int .i64 0, .int .i64 0, .int .i64 0, .int .i64 0] 150)] _) := Lib.hid ((((Bs.nil w).push _ rfl (.cells #[.int .i64 0, .int .i64 0] 41)).push (w.heap.size + 1) (by simp) (.cells #[.int .i64 0, .int .i64 0] 41)).push (w.heap.size + 2) (by simp) (.cells #[.int .i64 0, .int .i64 0, .int .i64 0, .int .i64 0, .int .i64 0] 150))
  go_enter Tryz.func44, Tryz.ntmps44
  go_wp2_with fail
  go_loopw [8] (fun iv wr => (iv = .int .i64 0 ∧ Bs w [(w.heap.size, .cells #[.int .i64 0, .int .i64 0] 41), (w.heap.size + 1, .cells #[.int .i64 0, .int .i64 0] 41), (w.heap.size + 2, .cells #[.int .i64 0, .int .i64 0, .int .i64 0, .int .i64 0, .int .i64 0] 150)] wr) ∨ (iv = .int .i64 1 ∧ Bs w [(w.heap.size, .cells #[.int .i64 0, .int .i64 0] 41), (w.heap.size + 1, .cells #[.int .i64 0, .int .i64 0] 41), (w.heap.size + 2, .cells #[.int .i64 S0, .int .i64 0, .int .i64 0, .int .i64 0, .int .i64 0] 150)] wr) ∨ (iv = .int .i64 2 ∧ Bs w [(w.heap.size, .cells #[.int .i64 0, .int .i64 0] 41), (w.heap.size + 1, .cells #[.int .i64 0, .int .i64 0] 41), (w.heap.size + 2, .cells #[.int .i64 S0, .int .i64 S1, .int .i64 0, .int .i64 0, .int .i64 0] 150)] wr) ∨ (iv = .int .i64 3 ∧ Bs w [(w.heap.size, .cells #[.int .i64 0, .int .i64 0] 41), (w.heap.size + 1, .cells #[.int .i64 0, .int .i64 0] 41), (w.heap.size + 2, .cells #[.int .i64 S0, .int .i64 S1, .int .i64 S2, .int .i64 0, .int .i64 0] 150)] wr) ∨ (iv = .int .i64 4 ∧ Bs w [(w.heap.size, .cells #[.int .i64 0, .int .i64 0] 41), (w.heap.size + 1, .cells #[.int .i64 0, .int .i64 0] 41), (w.heap.size + 2, .cells #[.int .i64 S0, .int .i64 S1, .int .i64 S2, .int .i64 S3, .int .i64 0] 150)] wr) ∨ (iv = .int .i64 5 ∧ Bs w [(w.heap.size, .cells #[.int .i64 0, .int .i64 0] 41), (w.heap.size + 1, .cells #[.int .i64 0, .int .i64 0] 41), (w.heap.size + 2, .cells #[.int .i64 S0, .int .i64 S1, .int .i64 S2, .int .i64 S3, .int .i64 S4] 150)] wr)) (fun iv _ => 5 - (intOf iv).toNat)
  case atStart => exact .inl ⟨rfl, C0.out⟩
  case round =>
    clear C0
    rcases hrel with ⟨rfl, hbs⟩ | ⟨rfl, hbs⟩ | ⟨rfl, hbs⟩ | ⟨rfl, hbs⟩ | ⟨rfl, hbs⟩ | ⟨rfl, hbs⟩
    · have CI := Lib.hid hbs
      clear hbs
      have hix := fun w => idx5_0 w
      go_wp2_with fail
      clear hix
      refine (HW0 _ _ ((HV.out.below CI.out.bel).mono CI.out.bel.size)).out.mono ?_
      rintro e w6 ⟨rfl, hb⟩
      have C6 := Lib.hid (CI.out.call hb)
      clear hb CI
      go_wp2_with (refine wpList_cell_bs rfl 3 _ _ rfl C6.out 2 _ 0 _ _ rfl rfl _ rfl (by simp) rfl info3s ?_; intro w7 hC; have C7 : Hid (Bs w [(w.heap.size, .cells #[.int .i64 0, .int .i64 0] 41), (w.heap.size + 1, .cells #[.int .i64 0, .int .i64 0] 41), (w.heap.size + 2, .cells #[.int .i64 S0, .int .i64 0, .int .i64 0, .int .i64 0, .int .i64 0] 150)] w7) := hC; clear hC C6)
      refine ⟨.inr (.inl ⟨rfl, C7.out⟩), ?_⟩
      simp [intOf]
    · have CI := Lib.hid hbs
      clear hbs
      have hix := fun w => idx5_1 w
      go_wp2_with fail
      clear hix
      refine (HW1 _ _ ((HV.out.below CI.out.bel).mono CI.out.bel.size)).out.mono ?_
      rintro e w6 ⟨rfl, hb⟩
      have C6 := Lib.hid (CI.out.call hb)
      clear hb CI
      go_wp2_with (refine wpList_cell_bs rfl 3 _ _ rfl C6.out 2 _ 1 _ _ rfl rfl _ rfl (by simp) rfl info3s ?_; intro w7 hC; have C7 : Hid (Bs w [(w.heap.size, .cells #[.int .i64 0, .int .i64 0] 41), (w.heap.size + 1, .cells #[.int .i64 0, .int .i64 0] 41), (w.heap.size + 2, .cells #[.int .i64 S0, .int .i64 S1, .int .i64 0, .int .i64 0, .int .i64 0] 150)] w7) := hC; clear hC C6)
      refine ⟨.inr (.inr (.inl ⟨rfl, C7.out⟩)), ?_⟩
      simp [intOf]
    · have CI := Lib.hid hbs
      clear hbs
      have hix := fun w => idx5_2 w
      go_wp2_with fail
      clear hix
      refine (HW2 _ _ ((HV.out.below CI.out.bel).mono CI.out.bel.size)).out.mono ?_
      rintro e w6 ⟨rfl, hb⟩
      have C6 := Lib.hid (CI.out.call hb)
      clear hb CI
      go_wp2_with (refine wpList_cell_bs rfl 3 _ _ rfl C6.out 2 _ 2 _ _ rfl rfl _ rfl (by simp) rfl info3s ?_; intro w7 hC; have C7 : Hid (Bs w [(w.heap.size, .cells #[.int .i64 0, .int .i64 0] 41), (w.heap.size + 1, .cells #[.int .i64 0, .int .i64 0] 41), (w.heap.size + 2, .cells #[.int .i64 S0, .int .i64 S1, .int .i64 S2, .int .i64 0, .int .i64 0] 150)] w7) := hC; clear hC C6)
      refine ⟨.inr (.inr (.inr (.inl ⟨rfl, C7.out⟩))), ?_⟩
      simp [intOf]
    · have CI := Lib.hid hbs
      clear hbs
      have hix := fun w => idx5_3 w
      go_wp2_with fail
      clear hix
      refine (HW3 _ _ ((HV.out.below CI.out.bel).mono CI.out.bel.size)).out.mono ?_
      rintro e w6 ⟨rfl, hb⟩
      have C6 := Lib.hid (CI.out.call hb)
      clear hb CI
      go_wp2_with (refine wpList_cell_bs rfl 3 _ _ rfl C6.out 2 _ 3 _ _ rfl rfl _ rfl (by simp) rfl info3s ?_; intro w7 hC; have C7 : Hid (Bs w [(w.heap.size, .cells #[.int .i64 0, .int .i64 0] 41), (w.heap.size + 1, .cells #[.int .i64 0, .int .i64 0] 41), (w.heap.size + 2, .cells #[.int .i64 S0, .int .i64 S1, .int .i64 S2, .int .i64 S3, .int .i64 0] 150)] w7) := hC; clear hC C6)
      refine ⟨.inr (.inr (.inr (.inr (.inl ⟨rfl, C7.out⟩)))), ?_⟩
      simp [intOf]
    · have CI := Lib.hid hbs
      clear hbs
      have hix := fun w => idx5_4 w
      go_wp2_with fail
      clear hix
      refine (HW4 _ _ ((HV.out.below CI.out.bel).mono CI.out.bel.size)).out.mono ?_
      rintro e w6 ⟨rfl, hb⟩
      have C6 := Lib.hid (CI.out.call hb)
      clear hb CI
      go_wp2_with (refine wpList_cell_bs rfl 3 _ _ rfl C6.out 2 _ 4 _ _ rfl rfl _ rfl (by simp) rfl info3s ?_; intro w7 hC; have C7 : Hid (Bs w [(w.heap.size, .cells #[.int .i64 0, .int .i64 0] 41), (w.heap.size + 1, .cells #[.int .i64 0, .int .i64 0] 41), (w.heap.size + 2, .cells #[.int .i64 S0, .int .i64 S1, .int .i64 S2, .int .i64 S3, .int .i64 S4] 150)] w7) := hC; clear hC C6)
      refine ⟨.inr (.inr (.inr (.inr (.inr (⟨rfl, C7.out⟩))))), ?_⟩
      simp [intOf]
    · have CI := Lib.hid hbs
      clear hbs HV HP HW0 HW1 HW2 HW3 HW4
      go_upto_region 7 with fail
      refine wp_region_inv0 (by kernel_rfl) (by kernel_rfl) (fun D w' => Bs w [(w.heap.size, .cells (bif D 16 then #[.int .i64 (S0 + S4), .int .i64 (S1 + S4)] else #[.int .i64 0, .int .i64 0]) 41), (w.heap.size + 1, .cells (bif D 17 then #[.int .i64 S2, .int .i64 S3] else #[.int .i64 0, .int .i64 0]) 41), (w.heap.size + 2, .cells #[.int .i64 S0, .int .i64 S1, .int .i64 S2, .int .i64 S3, .int .i64 S4] 150)] w') CI.out.drew ?_
      iterate 16
        (apply obl_det
         case hrun =>
           intro D y wz hW hD R hR
           have HRR := Lib.hid hR
           clear hR
           have HW := Lib.hid hW
           have c0 := HW.out.cell 2 rfl 0
           have c1 := HW.out.cell 2 rfl 1
           have c2 := HW.out.cell 2 rfl 2
           have c3 := HW.out.cell 2 rfl 3
           have c4 := HW.out.cell 2 rfl 4
           have ha0 := HA0.out
           have ha1 := HA1.out
           clear hW hD
           go_wp2
           exact HRR.out _ HW.out
         case hnp => rfl
         case hv => first | exact ⟨_, fun _ => rfl⟩ | exact ⟨undef, fun _ => rfl⟩)
      apply obl_det
      case hrun =>
        intro D y wz hW hD R hR
        have HRR := Lib.hid hR
        clear hR
        have h9 : D 16 = false := hD.not
        rw [h9] at hW
        replace hW : Bs w [(w.heap.size, .cells #[.int .i64 0, .int .i64 0] 41), (w.heap.size + 1, .cells (bif D 17 then #[.int .i64 S2, .int .i64 S3] else #[.int .i64 0, .int .i64 0]) 41), (w.heap.size + 2, .cells #[.int .i64 S0, .int .i64 S1, .int .i64 S2, .int .i64 S3, .int .i64 S4] 150)] wz := hW
        have HW := Lib.hid hW
        have c0 := HW.out.cell 2 rfl 0
        have c1 := HW.out.cell 2 rfl 1
        have c2 := HW.out.cell 2 rfl 2
        have c3 := HW.out.cell 2 rfl 3
        have c4 := HW.out.cell 2 rfl 4
        have ha0 := HA0.out
        have ha1 := HA1.out
        clear hW hD
        refine wpList_store_bs rfl 41 _ _ rfl HW.out 0 _ #[.int .i64 (S0 + S4), .int .i64 (S1 + S4)] _ _ rfl rfl rfl infoSpan rfl (by simp [Value.oneCell']) ?_
        intro w' hw'
        go_simp
        exact HRR.out _ hw'
      case hnp => rfl
      case hv => first | exact ⟨_, fun _ => rfl⟩ | exact ⟨undef, fun _ => rfl⟩
      apply obl_det
      case hrun =>
        intro D y wz hW hD R hR
        have HRR := Lib.hid hR
        clear hR
        have h9 : D 17 = false := hD.not
        rw [h9] at hW
        replace hW : Bs w [(w.heap.size, .cells (bif D 16 then #[.int .i64 (S0 + S4), .int .i64 (S1 + S4)] else #[.int .i64 0, .int .i64 0]) 41), (w.heap.size + 1, .cells #[.int .i64 0, .int .i64 0] 41), (w.heap.size + 2, .cells #[.int .i64 S0, .int .i64 S1, .int .i64 S2, .int .i64 S3, .int .i64 S4] 150)] wz := hW
        have HW := Lib.hid hW
        have c0 := HW.out.cell 2 rfl 0
        have c1 := HW.out.cell 2 rfl 1
        have c2 := HW.out.cell 2 rfl 2
        have c3 := HW.out.cell 2 rfl 3
        have c4 := HW.out.cell 2 rfl 4
        have ha0 := HA0.out
        have ha1 := HA1.out
        clear hW hD
        refine wpList_store_bs rfl 41 _ _ rfl HW.out 1 _ #[.int .i64 S2, .int .i64 S3] _ _ rfl rfl rfl infoSpan rfl (by simp [Value.oneCell']) ?_
        intro w' hw'
        go_simp
        exact HRR.out _ hw'
      case hnp => rfl
      case hv => first | exact ⟨_, fun _ => rfl⟩ | exact ⟨undef, fun _ => rfl⟩
      apply obl_nil
      intro D y w8 hall hW
      have C8 : Hid (Bs w [(w.heap.size, .cells #[.int .i64 (S0 + S4), .int .i64 (S1 + S4)] 41), (w.heap.size + 1, .cells #[.int .i64 S2, .int .i64 S3] 41), (w.heap.size + 2, .cells #[.int .i64 S0, .int .i64 S1, .int .i64 S2, .int .i64 S3, .int .i64 S4] 150)] w8) := by
        have h16 := hall 16 (by decide)
        have h17 := hall 17 (by decide)
        rw [h16, h17] at hW
        exact hW
      clear hW hall CI
      go_wp2_with fail
      refine bodyPost_ret (results_row2 (fn := Tryz.f44) rfl _ _ _ _ _ _ _ _ _ _ rfl rfl (C8.out.get 0 rfl) (C8.out.get 1 rfl) Tryz.underlying41 Tryz.underlying41 rfl rfl infoSpan infoSpan) rfl ?_
      exact ⟨rfl, C8.out.bel⟩
end Go.Proofs.YtohglbfeahofhaaGreat
