/- valid, Days, days, Way. -/
import Derived.Test.YtddapabmfecidaaW10
namespace Go.Proofs.Ytddapabmfecidaa
open Go.RowKit

/-- The season is valid. -/
def Sea.ok (s : Sea) : Bool := (checkV s).2.2 == 0

theorem valid_any (s : Sea) (vs : Value) (w : World) (hv : StosIn w.heap.size w vs s.stores) (r : Bool) (hr : s.ok = r) :
    Calls Try.prog 20 #[.agg #[.int .i64 s.bend, .int .i64 s.days, .int .i64 s.jump, .int .i64 s.times, .int .i64 s.move, vs]] w
      fun e w' => e = .returned (.bool r) ∧ Below w.heap.size w w' := by
  have hb := (Below.refl w.heap.size w).alloc (Nat.le_refl _) (.cells #[.int .i64 s.bend, .int .i64 s.days, .int .i64 s.jump, .int .i64 s.times, .int .i64 s.move, vs] 31)
  have HB := Lib.hid hb
  have HV := Lib.hid ((hv.below hb).mono hb.size)
  have HR := Lib.hid hr
  obtain ⟨a, c, rfl, -⟩ := hv
  clear hb hr
  go_enter Try.func20, Try.ntmps20
  go_wp2_with (go_at_call 43; refine (refCheck_any s _ _ HV.out).mono ?_; rintro e w' ⟨rfl, hbw⟩)
  go_ret
  exact ⟨ret_bool HR.out, HB.out.trans (hbw.mono HB.out.size)⟩

/-- How many days a season has. -/
def Sea.len (s : Sea) : Nat := (s.stores.getD 0 default).warm.length

theorem refDays_any (s : Sea) (vs : Value) (w : World) (hv : StosIn w.heap.size w vs s.stores) (hl : 0 < s.stores.length) :
    Calls Try.prog 27 #[.agg #[.int .i64 s.bend, .int .i64 s.days, .int .i64 s.jump, .int .i64 s.times, .int .i64 s.move, vs]] w
      fun e w' => e = .returned (.int .i64 s.len) ∧ Below w.heap.size w w' := by
  have HB := Lib.hid ((Below.refl w.heap.size w).alloc (Nat.le_refl _) (.cells #[.int .i64 s.bend, .int .i64 s.days, .int .i64 s.jump, .int .i64 s.times, .int .i64 s.move, vs] 31))
  obtain ⟨bb, ob, c, rfl, hlc, hbb, _, _, _, vw, hw0, hw⟩ := hv.at hl
  obtain ⟨a0, c0, rfl, hn, _, _⟩ := hw
  rw [Nat.zero_mul, Nat.add_zero] at hw0
  have HL : Hid (s.len = (s.stores.getD 0 default).warm.length) := Lib.hid rfl
  clear hv
  generalize (s.stores.getD 0 default).warm.length = n at *
  go_enter Try.func27, Try.ntmps27
  go_wp2_with fail
  go_ret
  exact ⟨ret_int (by rw [HL.out]), HB.out⟩

theorem seaDays_any (s : Sea) (vs : Value) (w : World) (hv : StosIn w.heap.size w vs s.stores) (hl : 0 < s.stores.length) :
    Calls Try.prog 40 #[.agg #[.int .i64 s.bend, .int .i64 s.days, .int .i64 s.jump, .int .i64 s.times, .int .i64 s.move, vs]] w
      fun e w' => e = .returned (.int .i64 s.len) ∧ Below w.heap.size w w' := by
  have HB := Lib.hid ((Below.refl w.heap.size w).alloc (Nat.le_refl _) (.cells #[.int .i64 s.bend, .int .i64 s.days, .int .i64 s.jump, .int .i64 s.times, .int .i64 s.move, vs] 75))
  obtain ⟨bb, ob, c, rfl, hlc, hbb, _, _, _, vw, hw0, hw⟩ := hv.at hl
  obtain ⟨a0, c0, rfl, hn, _, _⟩ := hw
  rw [Nat.zero_mul, Nat.add_zero] at hw0
  have HL : Hid (s.len = (s.stores.getD 0 default).warm.length) := Lib.hid rfl
  clear hv
  generalize (s.stores.getD 0 default).warm.length = n at *
  go_enter Try.func40, Try.ntmps40
  go_wp2_with fail
  go_ret
  exact ⟨ret_int (by rw [HL.out]), HB.out⟩

/-- The error of a way. -/
def wayE (s : Sea) (way : List Int) : Int := if inB way.length 1 s.len then (if outB 0 ((s.stores.length : Int) - 1) way then 4 else 0) else 3

theorem outB_nil (lo hi : Int) : outB lo hi [] = false := rfl

set_option maxRecDepth 100000 in
set_option maxHeartbeats 4000000 in
/-- stearinref10.Way -/
theorem way_any (s : Sea) (vs wv : Value) (way : List Int) (w : World) (hv : StosIn w.heap.size w vs s.stores) (hl : 0 < s.stores.length) (hw : IntsIn .i64 w.heap.size w wv way) :
    Calls Try.prog 21 #[.agg #[.int .i64 s.bend, .int .i64 s.days, .int .i64 s.jump, .int .i64 s.times, .int .i64 s.move, vs], wv] w
      fun e w' => e = .returned (.int .i64 (wayE s way)) ∧ Below w.heap.size w w' := by
  have HV := Lib.hid hv
  have HWV := Lib.hid hw
  have HB := Lib.hid ((Below.refl w.heap.size w).alloc (Nat.le_refl _) (.cells #[.int .i64 s.bend, .int .i64 s.days, .int .i64 s.jump, .int .i64 s.times, .int .i64 s.move, vs] 31))
  have HS := Lib.hid (heap_alloc_new w (.cells #[.int .i64 s.bend, .int .i64 s.days, .int .i64 s.jump, .int .i64 s.times, .int .i64 s.move, vs] 31))
  have hll := hv.len
  obtain ⟨a, c, rfl, -⟩ := hv
  obtain ⟨aw, cw, rfl, hwl, -⟩ := hw
  obtain ⟨r1, hr1⟩ : ∃ r, inB way.length 1 s.len = r := ⟨_, rfl⟩
  have HR1 := Lib.hid hr1
  clear hr1
  cases r1
  · have HE : Hid (wayE s way = 3) := by unfold Hid wayE; rw [HR1.out]; rfl
    go_enter Try.func21, Try.ntmps21
    go_wp2_with fail
    refine (refDays_any s _ _ ((HV.out.below HB.out).mono HB.out.size) hl).mono ?_
    rintro e w1 ⟨rfl, hbw⟩
    go_wp2_with fail
    refine (in_r _ _ _ _ _ HR1.out).mono ?_
    rintro e w' ⟨rfl, rfl⟩
    go_wp2_with fail
    go_ret
    exact ⟨ret_int HE.out.symm, HB.out.trans (hbw.mono HB.out.size)⟩
  · have HE : Hid (wayE s way = if outB 0 ((s.stores.length : Int) - 1) way then 4 else 0) := by unfold Hid wayE; rw [HR1.out]; rfl
    go_enter Try.func21, Try.ntmps21
    go_wp2_with fail
    refine (refDays_any s _ _ ((HV.out.below HB.out).mono HB.out.size) hl).mono ?_
    rintro e w1 ⟨rfl, hbw⟩
    have HB1 := Lib.hid (HB.out.trans (hbw.mono HB.out.size))
    have HS1 := Lib.hid (block_keep HS.out hbw)
    clear hbw
    go_wp2_with fail
    refine (in_r _ _ _ _ _ HR1.out).mono ?_
    rintro e w' ⟨rfl, rfl⟩
    go_wp2_with fail
    go_loopw [5] (fun i wr => ∃ k : Nat, k ≤ way.length ∧ i = .int .i64 k ∧ Below w.heap.size w wr ∧ wr.heap[w.heap.size]? = some (.cells #[.int .i64 s.bend, .int .i64 s.days, .int .i64 s.jump, .int .i64 s.times, .int .i64 s.move, .slice a s.stores.length c] 31) ∧ outB 0 ((s.stores.length : Int) - 1) way = outB 0 ((s.stores.length : Int) - 1) (way.drop k)) (fun i _ => way.length - (intOf i).toNat)
    case atStart => exact ⟨0, by omega, rfl, HB1.out, HS1.out, by simp⟩
    case round =>
      obtain ⟨k, hk, rfl, hb, hrow, hf⟩ := hrel
      have HF := Lib.hid hf
      have HB := Lib.hid hb
      have HROW := Lib.hid hrow
      have cs := fun i => cell_of_row wr _ i _ _ _ hrow
      clear hf hb hrow
      by_cases hlt : k < way.length
      · obtain ⟨a', c', hvv, _, h⟩ := HWV.out.below HB.out
        cases hvv
        obtain ⟨b, o, rfl, hbb, hc⟩ := h.resolve_left (by intro h; rw [h] at hlt; simp at hlt)
        have hck := hc k hlt
        have HD := Lib.hid (outB_cons 0 ((s.stores.length : Int) - 1) way k hlt)
        clear hc h
        generalize way.getD k 0 = x at hck HD
        obtain ⟨r, hr⟩ : ∃ r, inB x 0 ((s.stores.length : Int) - 1) = r := ⟨_, rfl⟩
        have HO : Hid (outOne 0 ((s.stores.length : Int) - 1) x = !r) := by unfold Hid; rw [← hr, inB_out, Bool.not_not]; simp [outB]
        have HR := Lib.hid hr
        clear hr
        cases r
        · go_wp2_with fail
          go_quiet ((go_at_call 44; exact Calls.quiet_of_same ((in_r _ _ _ _ _ HR.out).mono fun e w' h => ⟨h.1, h.2.symm⟩)))
          go_wp2_with fail
          go_ret
          exact ⟨ret_int (by rw [HE.out, HF.out, HD.out, HO.out]; rfl), below_drewN HB.out _⟩
        · go_wp2_with fail
          go_quiet ((go_at_call 44; exact Calls.quiet_of_same ((in_r _ _ _ _ _ HR.out).mono fun e w' h => ⟨h.1, h.2.symm⟩)))
          go_wp2_with fail
          go_roundw
          case rel => exact ⟨k + 1, by omega, by go_num, below_drewN HB.out _, HROW.out, by rw [HF.out, HD.out, HO.out]; rfl⟩
          case measure => simp [intOf]; omega
      · have : k = way.length := by omega
        subst this
        have HZ : Hid (wayE s way = 0) := by unfold Hid; rw [HE.out, HF.out, List.drop_of_length_le (Nat.le_refl _)]; rfl
        go_wp2_with fail
        go_ret
        exact ⟨ret_int HZ.out.symm, HB.out⟩
end Go.Proofs.Ytddapabmfecidaa
