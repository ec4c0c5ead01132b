/- dip.Read's helpers at the example. -/
import Derived.Deep.Cut
import Derived.Deep.CutBlock
import Derived.Test.YtpkggjobdmchlaaGreatDoorE29
import Derived.Defers
import Derived.Recover
namespace Go.Proofs.YtpkggjobdmchlaaGreatDoor
open Go.RowKit
theorem must74 (w : World) : Calls Tryz.prog 74 #[.bool true] w fun r w' => r = .returned (.tuple #[]) ∧ w' = w := by
  go_enter Tryz.func74, Tryz.ntmps74
  go_wp2
  exact bodyPost_end (results_none rfl _ _ _) rfl ⟨rfl, rfl⟩
theorem number3 (w : World) : Calls Tryz.prog 77 #[.string ⟨#[51]⟩] w fun e w' => e = .returned (.int .i64 3) ∧ Below w.heap.size w w' := by
  have HA : ∀ w : World, Hid (Calls Tryz.prog 104 #[.string ⟨#[51]⟩] w fun e w' => e = .returned (.tuple #[.int .i64 3, .nilIface]) ∧ Below w.heap.size w w') := fun w => Lib.hid ((Tryz.strconv_Atoi ⟨#[51]⟩ 3 (by decide) (by decide) w).mono (by
    rintro e w' ⟨h, t, rfl⟩
    exact ⟨h, rfl, rfl, rfl, by rw [Lib.bytesWorld_size]; omega, fun k hk => Lib.bytesWorld_at_old _ _ _ k (by omega)⟩))
  have HI : ∀ w : World, Hid (Calls Tryz.prog 66 #[.int .i64 3] w fun e w' => e = .returned (.string ⟨#[51]⟩) ∧ w' = w) := fun w => Lib.hid (by
    have h := Tryz.strconv_Itoa_small 3 (by omega) w
    have e : Lib.decDigits 3 = [51] := by simp [Lib.decDigits]
    rw [e] at h; exact h)
  have HM := fun w => Lib.hid (must74 w)
  go_enter Tryz.func77, Tryz.ntmps77
  go_wp2_with fail
  refine (HA _).out.mono ?_
  rintro e w1 ⟨rfl, hb⟩
  have HB := Lib.hid hb
  clear hb
  go_wp2_with fail
  refine (HI _).out.mono ?_
  rintro e w2 ⟨rfl, rfl⟩
  go_wp2_with fail
  refine (HM _).out.mono ?_
  rintro e w3 ⟨rfl, rfl⟩
  go_wp2_with fail
  go_ret
  exact ⟨rfl, HB.out⟩
theorem number40 (w : World) : Calls Tryz.prog 77 #[.string ⟨#[52, 48]⟩] w fun e w' => e = .returned (.int .i64 40) ∧ Below w.heap.size w w' := by
  have HA : ∀ w : World, Hid (Calls Tryz.prog 104 #[.string ⟨#[52, 48]⟩] w fun e w' => e = .returned (.tuple #[.int .i64 40, .nilIface]) ∧ Below w.heap.size w w') := fun w => Lib.hid ((Tryz.strconv_Atoi ⟨#[52, 48]⟩ 40 (by decide) (by decide) w).mono (by
    rintro e w' ⟨h, t, rfl⟩
    exact ⟨h, rfl, rfl, rfl, by rw [Lib.bytesWorld_size]; omega, fun k hk => Lib.bytesWorld_at_old _ _ _ k (by omega)⟩))
  have HI : ∀ w : World, Hid (Calls Tryz.prog 66 #[.int .i64 40] w fun e w' => e = .returned (.string ⟨#[52, 48]⟩) ∧ w' = w) := fun w => Lib.hid (by
    have h := Tryz.strconv_Itoa_small 40 (by omega) w
    have e : Lib.decDigits 40 = [52, 48] := by simp [Lib.decDigits]
    rw [e] at h; exact h)
  have HM := fun w => Lib.hid (must74 w)
  go_enter Tryz.func77, Tryz.ntmps77
  go_wp2_with fail
  refine (HA _).out.mono ?_
  rintro e w1 ⟨rfl, hb⟩
  have HB := Lib.hid hb
  clear hb
  go_wp2_with fail
  refine (HI _).out.mono ?_
  rintro e w2 ⟨rfl, rfl⟩
  go_wp2_with fail
  refine (HM _).out.mono ?_
  rintro e w3 ⟨rfl, rfl⟩
  go_wp2_with fail
  go_ret
  exact ⟨rfl, HB.out⟩
theorem number30 (w : World) : Calls Tryz.prog 77 #[.string ⟨#[51, 48]⟩] w fun e w' => e = .returned (.int .i64 30) ∧ Below w.heap.size w w' := by
  have HA : ∀ w : World, Hid (Calls Tryz.prog 104 #[.string ⟨#[51, 48]⟩] w fun e w' => e = .returned (.tuple #[.int .i64 30, .nilIface]) ∧ Below w.heap.size w w') := fun w => Lib.hid ((Tryz.strconv_Atoi ⟨#[51, 48]⟩ 30 (by decide) (by decide) w).mono (by
    rintro e w' ⟨h, t, rfl⟩
    exact ⟨h, rfl, rfl, rfl, by rw [Lib.bytesWorld_size]; omega, fun k hk => Lib.bytesWorld_at_old _ _ _ k (by omega)⟩))
  have HI : ∀ w : World, Hid (Calls Tryz.prog 66 #[.int .i64 30] w fun e w' => e = .returned (.string ⟨#[51, 48]⟩) ∧ w' = w) := fun w => Lib.hid (by
    have h := Tryz.strconv_Itoa_small 30 (by omega) w
    have e : Lib.decDigits 30 = [51, 48] := by simp [Lib.decDigits]
    rw [e] at h; exact h)
  have HM := fun w => Lib.hid (must74 w)
  go_enter Tryz.func77, Tryz.ntmps77
  go_wp2_with fail
  refine (HA _).out.mono ?_
  rintro e w1 ⟨rfl, hb⟩
  have HB := Lib.hid hb
  clear hb
  go_wp2_with fail
  refine (HI _).out.mono ?_
  rintro e w2 ⟨rfl, rfl⟩
  go_wp2_with fail
  refine (HM _).out.mono ?_
  rintro e w3 ⟨rfl, rfl⟩
  go_wp2_with fail
  go_ret
  exact ⟨rfl, HB.out⟩
theorem clo76 (g wb n c : Nat) (hn : 1 ≤ n) (w : World) (hg : w.cell? ⟨g, 0, none⟩ = some (.slice (some ⟨wb, 0, none⟩) n c)) (hgl : g < w.heap.size) (hb : w.cell? ⟨wb, 0, none⟩ = some (.string ⟨#[108, 111, 119]⟩)) (hbl : wb < w.heap.size) :
    Calls Tryz.prog 76 #[.agg #[.string ⟨#[108, 111, 119]⟩, .int .i64 610, .int .i64 630], .pointer (some ⟨g, 0, none⟩)] w fun e w' => e = .returned (.bool true) ∧ Below w.heap.size w w' := by
  have HG := Lib.hid hg
  have HGL := Lib.hid hgl
  have HB := Lib.hid hb
  have HBL := Lib.hid hbl
  clear hg hgl hb hbl
  have hn0 : (0 : Int) < (n : Int) := by omega
  have C0 : Hid (Bs w [(w.heap.size, .cells #[.string ⟨#[108, 111, 119]⟩, .int .i64 610, .int .i64 630] 124)] _) := Lib.hid ((Bs.nil w).push _ rfl (.cells #[.string ⟨#[108, 111, 119]⟩, .int .i64 610, .int .i64 630] 124))
  go_enter Tryz.func76, Tryz.ntmps76
  go_upto_region 1 with fail
  refine wp_region_inv0 (by kernel_rfl) (by kernel_rfl) (fun D w' => Bs w [(w.heap.size, .cells #[.string ⟨#[108, 111, 119]⟩, .int .i64 610, .int .i64 630] 124)] w') C0.out.drew ?_
  apply obl_det
  case hrun =>
    intro D y wz hW hD R hR
    have HRR := Lib.hid hR
    clear hR
    have HW := Lib.hid hW
    clear hW hD
    go_wp2_with fail
    exact HRR.out _ HW.out
  case hnp => rfl
  case hv => first | exact ⟨_, fun _ => rfl⟩ | exact ⟨undef, fun _ => rfl⟩
  apply obl_det
  case hrun =>
    intro D y wz hW hD R hR
    have HRR := Lib.hid hR
    clear hR
    have HW := Lib.hid hW
    have c_0 := HW.out.cell 0 rfl 0
    clear hW hD
    go_wp2_with fail
    exact HRR.out _ HW.out
  case hnp => rfl
  case hv => first | exact ⟨_, fun _ => rfl⟩ | exact ⟨undef, fun _ => rfl⟩
  apply obl_det
  case hrun =>
    intro D y wz hW hD R hR
    have HRR := Lib.hid hR
    clear hR
    have HW := Lib.hid hW
    have c_g := (HW.out.bel.cell (p := ⟨g, 0, none⟩) HGL.out).trans HG.out
    clear hW hD
    go_wp2_with fail
    exact HRR.out _ HW.out
  case hnp => rfl
  case hv => first | exact ⟨_, fun _ => rfl⟩ | exact ⟨undef, fun _ => rfl⟩
  apply obl_det
  case hrun =>
    intro D y wz hW hD R hR
    have HRR := Lib.hid hR
    clear hR
    have HW := Lib.hid hW
    clear hW hD
    go_wp2_with fail
    exact HRR.out _ HW.out
  case hnp => rfl
  case hv => first | exact ⟨_, fun _ => rfl⟩ | exact ⟨undef, fun _ => rfl⟩
  apply obl_det
  case hrun =>
    intro D y wz hW hD R hR
    have HRR := Lib.hid hR
    clear hR
    have HW := Lib.hid hW
    have c_b := (HW.out.bel.cell (p := ⟨wb, 0, none⟩) HBL.out).trans HB.out
    clear hW hD
    go_wp2_with fail
    exact HRR.out _ HW.out
  case hnp => rfl
  case hv => first | exact ⟨_, fun _ => rfl⟩ | exact ⟨undef, fun _ => rfl⟩
  iterate 2
    (apply obl_det
     case hrun =>
       intro D y wz hW hD R hR
       have HRR := Lib.hid hR
       clear hR
       have HW := Lib.hid hW
       clear hW hD
       go_wp2_with fail
       exact HRR.out _ HW.out
     case hnp => rfl
     case hv => first | exact ⟨_, fun _ => rfl⟩ | exact ⟨undef, fun _ => rfl⟩)
  apply obl_nil
  intro D y w8 hall hW
  have HE := Lib.hid hW.bel
  clear hW hall C0
  go_wp2_with fail
  go_ret
  exact ⟨rfl, HE.out⟩
theorem idx75 (v : Value) (g wb n c : Nat) (hn : 1 ≤ n) (w : World) (hv : DBathsIn w.heap.size w v exS.baths) (hg : w.cell? ⟨g, 0, none⟩ = some (.slice (some ⟨wb, 0, none⟩) n c)) (hgl : g < w.heap.size) (hb : w.cell? ⟨wb, 0, none⟩ = some (.string ⟨#[108, 111, 119]⟩)) (hbl : wb < w.heap.size) :
    Calls Tryz.prog 75 #[v, .func (.func 76) #[] #[.pointer (some ⟨g, 0, none⟩)]] w fun e w' => e = .returned (.int .i64 0) ∧ Below w.heap.size w w' := by
  have HC := Lib.hid (clo76 g wb n c hn w hg hgl hb hbl)
  obtain ⟨va, vc, rfl, -, -⟩ := sl_shape hv
  obtain ⟨b, o, he, -, h0, -, h1, h2⟩ := hv.at' (i := 0) (by decide)
  subst he
  have h0 : w.cell? ⟨b, o, none⟩ = some (.string ⟨#[108, 111, 119]⟩) := h0
  have h1 : w.cell? ⟨b, o + 1, none⟩ = some (.int .i64 610) := h1
  have h2 : w.cell? ⟨b, o + 2, none⟩ = some (.int .i64 630) := h2
  have hlen : exS.baths.length = 2 := rfl
  rw [hlen]
  have H0 := Lib.hid h0
  have H1 := Lib.hid h1
  have H2 := Lib.hid h2
  clear hv hg hgl hb hbl h0 h1 h2 hlen hn
  go_enter Tryz.func75, Tryz.ntmps75
  go_wp2_with fail
  go_loopw [8] (fun i wr => i = .int .i64 0 ∧ wr = w) (fun _ _ => 0)
  case atStart => exact ⟨rfl, rfl⟩
  case round =>
    obtain ⟨rfl, rfl⟩ := hrel
    have h0 := H0.out
    have h1 := H1.out
    have h2 := H2.out
    go_wp2_with fail
    refine HC.out.mono ?_
    rintro e w' ⟨rfl, hbw⟩
    go_wp2_with fail
    go_ret
    exact ⟨rfl, hbw⟩
end Go.Proofs.YtpkggjobdmchlaaGreatDoor
/- dip.Read: what the library says at the example; the deferred closure. -/
namespace Go.Proofs.YtpkggjobdmchlaaGreatDoor
open Go.RowKit
theorem catch71 (p q : Addr) (w : World) :
    CallsD Tryz.prog 71 #[.pointer (some p), .pointer (some q)] .returning w fun e u' w' => e = .returned (.tuple #[]) ∧ u' = .returning ∧ w' = w := by
  refine callsD_of_wpS Tryz.func71 rfl fun c₀ cs hu => ?_
  apply wpS_seq
  apply wpS_region
  simp [wpOpsS, go_sem, recoverD, hu, Tryz.ntmps71, Exit.thenS]
  apply wpS_seq
  apply wpS_region
  simp [wpOpsS, go_sem, Exit.thenS]
  refine wpS_cond (t := false) (by simp [Act.eval, Array.replicate]) ?_
  simp only [Bool.false_eq_true, if_false]
  refine wpS_of_wp (wp_skip ?_)
  cases c₀
  simp_all [bodyPostS, results, Tryz.results71]
theorem infoErr4 : (Tryz.prog.info? 41).map (·.size) = some 1 := by kernel_rfl
theorem infoDDs : (Tryz.prog.info? 35).map (·.size) = some 1 := by kernel_rfl
theorem infoDDx : ∃ i, Tryz.prog.info? 54 = some i ∧ i.zero = some (.agg #[.int .i64 0, .int .i64 0, .int .i64 0, .bool false]) ∧ i.size = 4 ∧ i.bytes = 32 := by
  obtain ⟨i, h1, h2⟩ := Option.map_eq_some_iff.1 (show (Tryz.prog.info? 54).map (fun i => (i.zero, i.size, i.bytes)) = some (some (.agg #[.int .i64 0, .int .i64 0, .int .i64 0, .bool false]), 4, 32) by kernel_rfl)
  simp only [Prod.mk.injEq] at h2
  exact ⟨i, h1, h2⟩
theorem cutX0 (m : Int) (w : World) (hm : w.cell? ⟨0, 0, none⟩ = some (.int .i64 m)) : Calls Tryz.prog 72 #[.string ⟨#[108, 111, 119, 32, 51, 32, 52, 48, 10, 108, 111, 119, 32, 51, 32, 51, 48, 32, 116, 117, 114, 110, 101, 100, 10]⟩, .string ⟨#[10]⟩] w fun e w' => e = .returned (.tuple #[.string ⟨#[108, 111, 119, 32, 51, 32, 52, 48]⟩, .string ⟨#[108, 111, 119, 32, 51, 32, 51, 48, 32, 116, 117, 114, 110, 101, 100, 10]⟩, .bool true]) ∧ Below w.heap.size w w' := by
  refine (Tryz.strings_Cut ⟨#[108, 111, 119, 32, 51, 32, 52, 48, 10, 108, 111, 119, 32, 51, 32, 51, 48, 32, 116, 117, 114, 110, 101, 100, 10]⟩ ⟨#[10]⟩ m w (by decide) hm).mono ?_
  rintro e w' ⟨rfl, n, rfl⟩
  exact ⟨by kernel_rfl, ⟨rfl, rfl, rfl, Nat.le_refl _, fun _ _ => rfl⟩⟩
theorem splitX0 (m : Int) (w : World) (hm : w.cell? ⟨0, 0, none⟩ = some (.int .i64 m)) : Calls Tryz.prog 73 #[.string ⟨#[108, 111, 119, 32, 51, 32, 52, 48]⟩, .string ⟨#[32]⟩] w fun e w' => e = .returned (.slice (some ⟨w.heap.size, 0, none⟩) 3 3) ∧ w' = w.alloc (.cells #[.string ⟨#[108, 111, 119]⟩, .string ⟨#[51]⟩, .string ⟨#[52, 48]⟩] 9) := by
  have h := Tryz.strings_Split ⟨#[108, 111, 119, 32, 51, 32, 52, 48]⟩ ⟨#[32]⟩ m w (by decide) hm (by decide)
  have e1 : Lib.countB ⟨#[108, 111, 119, 32, 51, 32, 52, 48]⟩ ⟨#[32]⟩ = 2 := by kernel_rfl
  have e2 : ((Lib.splitB ⟨#[32]⟩ 0 2 ⟨#[108, 111, 119, 32, 51, 32, 52, 48]⟩).map Value.string).toArray = #[.string ⟨#[108, 111, 119]⟩, .string ⟨#[51]⟩, .string ⟨#[52, 48]⟩] := by kernel_rfl
  rw [e1, e2] at h
  exact h
theorem cutX1 (m : Int) (w : World) (hm : w.cell? ⟨0, 0, none⟩ = some (.int .i64 m)) : Calls Tryz.prog 72 #[.string ⟨#[108, 111, 119, 32, 51, 32, 51, 48, 32, 116, 117, 114, 110, 101, 100, 10]⟩, .string ⟨#[10]⟩] w fun e w' => e = .returned (.tuple #[.string ⟨#[108, 111, 119, 32, 51, 32, 51, 48, 32, 116, 117, 114, 110, 101, 100]⟩, .string ⟨#[]⟩, .bool true]) ∧ Below w.heap.size w w' := by
  refine (Tryz.strings_Cut ⟨#[108, 111, 119, 32, 51, 32, 51, 48, 32, 116, 117, 114, 110, 101, 100, 10]⟩ ⟨#[10]⟩ m w (by decide) hm).mono ?_
  rintro e w' ⟨rfl, n, rfl⟩
  exact ⟨by kernel_rfl, ⟨rfl, rfl, rfl, Nat.le_refl _, fun _ _ => rfl⟩⟩
theorem splitX1 (m : Int) (w : World) (hm : w.cell? ⟨0, 0, none⟩ = some (.int .i64 m)) : Calls Tryz.prog 73 #[.string ⟨#[108, 111, 119, 32, 51, 32, 51, 48, 32, 116, 117, 114, 110, 101, 100]⟩, .string ⟨#[32]⟩] w fun e w' => e = .returned (.slice (some ⟨w.heap.size, 0, none⟩) 4 4) ∧ w' = w.alloc (.cells #[.string ⟨#[108, 111, 119]⟩, .string ⟨#[51]⟩, .string ⟨#[51, 48]⟩, .string ⟨#[116, 117, 114, 110, 101, 100]⟩] 9) := by
  have h := Tryz.strings_Split ⟨#[108, 111, 119, 32, 51, 32, 51, 48, 32, 116, 117, 114, 110, 101, 100]⟩ ⟨#[32]⟩ m w (by decide) hm (by decide)
  have e1 : Lib.countB ⟨#[108, 111, 119, 32, 51, 32, 51, 48, 32, 116, 117, 114, 110, 101, 100]⟩ ⟨#[32]⟩ = 3 := by kernel_rfl
  have e2 : ((Lib.splitB ⟨#[32]⟩ 0 3 ⟨#[108, 111, 119, 32, 51, 32, 51, 48, 32, 116, 117, 114, 110, 101, 100]⟩).map Value.string).toArray = #[.string ⟨#[108, 111, 119]⟩, .string ⟨#[51]⟩, .string ⟨#[51, 48]⟩, .string ⟨#[116, 117, 114, 110, 101, 100]⟩] := by kernel_rfl
  rw [e1, e2] at h
  exact h
end Go.Proofs.YtpkggjobdmchlaaGreatDoor
