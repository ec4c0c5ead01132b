/- StoreTrue: the walk. -/
import Derived.Test.YtddapabmfecidaaAW
import Derived.Test.YtddapabmfecidaaP4
namespace Go.Proofs.Ytddapabmfecidaa
open Go.RowKit
set_option maxRecDepth 100000 in
set_option maxHeartbeats 4000000 in
theorem true_any (s : Sea) (vs wv yv : Value) (way ys : List Int) (hys : ∀ x ∈ ys, 0 ≤ x ∧ x ≤ 65535) (w : World) (hv : StosIn w.heap.size w vs s.stores) (hw : IntsIn .i64 w.heap.size w wv way) (hy : IntsIn .u16 w.heap.size w yv ys) :
    Calls Try.prog 4 #[.agg #[.int .i64 s.bend, .int .i64 s.days, .int .i64 s.jump, .int .i64 s.times, .int .i64 s.move, vs], wv, yv] w (fun e w' => e = .returned (.bool true) ∧ Below w.heap.size w w') := by
  have HV := Lib.hid hv
  have HWV := Lib.hid hw
  have HY := Lib.hid hy
  have HYS := Lib.hid hys
  clear hv hy hys
  have C0 : Hid (Below w.heap.size w (w.alloc (.cells #[.int .i64 s.bend, .int .i64 s.days, .int .i64 s.jump, .int .i64 s.times, .int .i64 s.move, vs] 31))) := (Below.refl _ _).alloc (Nat.le_refl _) _
  have R0 : Hid ((w.alloc (.cells #[.int .i64 s.bend, .int .i64 s.days, .int .i64 s.jump, .int .i64 s.times, .int .i64 s.move, vs] 31)).heap[w.heap.size]? = some (.cells #[.int .i64 s.bend, .int .i64 s.days, .int .i64 s.jump, .int .i64 s.times, .int .i64 s.move, vs] 31)) := heap_alloc_new _ _
  obtain ⟨x, hx⟩ : ∃ x, riskV s way = x := ⟨_, rfl⟩
  have hxe := riskV_err s way
  have hxb := @riskV_bad s way
  rw [hx] at hxe hxb
  obtain ⟨h, j, e⟩ := x
  have HX := Lib.hid hx
  have HXE := Lib.hid hxe
  have HXB := Lib.hid hxb
  clear hx hxe hxb
  obtain ⟨aw, cw, rfl, hwl, -⟩ := hw
  go_enter Try.func4, Try.ntmps4
  go_wp2_with fail
  refine (risks_any s _ _ way _ ((HV.out.below C0.out).mono C0.out.size) ((HWV.out.below C0.out).mono C0.out.size)).mono ?_
  rintro e' w1 ⟨rfl, hbw⟩
  have C1 := Lib.hid (C0.out.trans (hbw.mono C0.out.size))
  have R1 := Lib.hid (block_keep R0.out hbw)
  clear hbw C0 R0
  rw [HX.out]
  by_cases hz : e = 0
  · subst hz
    have he : openE s way = 0 := HXE.out.symm
    have HE := Lib.hid he
    have hoo := openE_ok he
    have HG := Lib.hid (good_of_ok hoo.1)
    have hwo := way_ok hoo.2
    have HWO := Lib.hid hwo
    have hsok : s.ok = true := by unfold Sea.ok; rw [hoo.1]; rfl
    have HWE : Hid (wayE s way = 0) := hoo.2
    have hst := HG.out.stores
    have hl8 := HG.out.len.2
    have hw1 := hwo.1
    have hw2 := hwo.2.1
    clear hoo hwo he
    have cs1 := fun i => cell_of_row w1 _ i _ _ _ R1.out
    go_wp2_with fail
    refine (valid_any s vs _ ((HV.out.below C1.out).mono C1.out.size) _ hsok).mono ?_
    rintro e' w2 ⟨rfl, hbw⟩
    have C2 := Lib.hid (C1.out.trans (hbw.mono C1.out.size))
    have R2 := Lib.hid (block_keep R1.out hbw)
    clear hbw C1 R1 cs1
    have cs2 := fun i => cell_of_row w2 _ i _ _ _ R2.out
    go_wp2_with fail
    refine (way_any s vs _ way _ ((HV.out.below C2.out).mono C2.out.size) (by omega) ((HWV.out.below C2.out).mono C2.out.size)).mono ?_
    rintro e' w3 ⟨rfl, hbw⟩
    have C3 := Lib.hid (C2.out.trans (hbw.mono C2.out.size))
    have R3 := Lib.hid (block_keep R2.out hbw)
    clear hbw C2 R2 cs2
    rw [HWE.out]
    have cs3 := fun i => cell_of_row w3 _ i _ _ _ R3.out
    go_wp2_with fail
    refine (truth_any s HG.out vs _ yv way ys HWO.out.2.1 HWO.out.2.2 HYS.out _ ((HV.out.below C3.out).mono C3.out.size) ((HWV.out.below C3.out).mono C3.out.size) ((HY.out.below C3.out).mono C3.out.size)).mono ?_
    rintro e' w4 ⟨tv, rfl, hti, htc, hbw⟩
    have C4 := Lib.hid (C3.out.trans (hbw.mono C3.out.size))
    have R4 := Lib.hid (block_keep R3.out hbw)
    have HIN := Lib.hid (truthL_in (ys := ys) HG.out HWO.out.2.1 HWO.out.2.2)
    have HTL : Hid ((truthL s way ys way.length).length = way.length) := truthL_len _ _ _ _
    generalize htw : truthL s way ys way.length = warm at *
    have HTI := Lib.hid hti
    have HTC := Lib.hid htc
    clear hbw C3 R3 cs3 htw hti htc
    have cs4 := fun i => cell_of_row w4 _ i _ _ _ R4.out
    go_wp2_with fail
    have hc := counted_any s.bend s.days s.jump s.times warm tv _ HTI.out (by rw [HTL.out]; omega) (by rw [HTL.out]; exact HIN.out.bound HG.out HWO.out.2.1 HWO.out.2.2)
    rw [HTL.out] at hc
    refine hc.mono ?_
    rintro e' w5 ⟨rfl, hbw⟩
    have C5 := Lib.hid (C4.out.trans (hbw.mono C4.out.size))
    have R5 := Lib.hid (block_keep R4.out hbw)
    have HTI5 := Lib.hid ((HTI.out.below hbw).mono hbw.size)
    clear hbw C4 R4 cs4 hc HTI
    have HFA := Lib.hid (fate_in HE.out HTL.out HIN.out)
    have hri := risk_in HE.out HIN.out
    rw [HX.out] at hri
    simp only at hri
    generalize mr s.bend (revTake warm way.length) = a at *
    generalize jr s.jump (revTake warm way.length) = b at *
    have cs5 := fun i => cell_of_row w5 _ i _ _ _ R5.out
    go_wp2_with fail
    have hc := fate_any s vs (.slice aw way.length cw) tv way warm w5 ((HV.out.below C5.out).mono C5.out.size) ((HWV.out.below C5.out).mono C5.out.size) HTI5.out (by rw [HTL.out]; exact HTC.out)
    obtain ⟨f1, f2, hfe, hf1, hf2, hf3, hf4, hf5, hf6⟩ := HFA.out
    rw [hfe] at hc
    refine hc.mono ?_
    rintro e' w6 ⟨rfl, hbw⟩
    have C6 := Lib.hid (C5.out.trans (hbw.mono C5.out.size))
    have R6 := Lib.hid (block_keep R5.out hbw)
    clear hbw C5 R5 cs5 hc hfe HFA
    have C7 := Lib.hid (C6.out.alloc C6.out.size (.cells #[.int .i64 f1, .int .i64 f2] 23))
    have R7 := Lib.hid ((Below.heap_alloc w6 (.cells #[.int .i64 f1, .int .i64 f2] 23) _ (block_lt R6.out)).trans R6.out)
    have F7 := Lib.hid (heap_alloc_new w6 (.cells #[.int .i64 f1, .int .i64 f2] 23))
    have cs7 := fun i => cell_of_row (w6.alloc (.cells #[.int .i64 f1, .int .i64 f2] 23)) _ i _ _ _ R7.out
    have fs7 := fun i => cell_of_row (w6.alloc (.cells #[.int .i64 f1, .int .i64 f2] 23)) _ i _ _ _ F7.out
    have hq1 : decide (a ≤ h) = true := decide_eq_true hri.1
    have hq2 : decide (b ≤ j) = true := decide_eq_true hri.2
    have hq3 : decide (0 ≤ f1) = decide (s.days ≤ a) := decide_eq_decide.2 hf1
    have hq4 : decide (0 ≤ f2) = decide (s.times ≤ b) := decide_eq_decide.2 hf2
    have hq5 : decide (f1 < (way.length : Int)) = true := decide_eq_true hf3
    have hq6 : decide (f2 < (way.length : Int)) = true := decide_eq_true hf4
    clear hf1 hf2 hri
    go_wp2_with fail
    refine (awake_any _).mono ?_
    rintro e' w8 ⟨rfl, hbw⟩
    have C8 := Lib.hid (C7.out.trans (hbw.mono C7.out.size))
    clear hbw
    go_wp2_with fail
    go_ret
    exact ⟨rfl, C8.out⟩
  · have hzz : (e != 0) = true := by simpa using hz
    have hb := HXB.out (by rw [← (HXE.out : e = openE s way)]; exact hz)
    simp only [Prod.mk.injEq] at hb
    obtain ⟨rfl, rfl, -⟩ := hb
    clear hz
    go_wp2_with fail
    refine (awake_any _).mono ?_
    rintro e' w2 ⟨rfl, hbw⟩
    have C2 := Lib.hid (C1.out.trans (hbw.mono C1.out.size))
    clear hbw
    go_wp2_with fail
    go_ret
    exact ⟨rfl, C2.out⟩
end Go.Proofs.Ytddapabmfecidaa
