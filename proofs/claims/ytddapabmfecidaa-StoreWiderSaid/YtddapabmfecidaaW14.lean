/- store.Cost. -/
import Derived.Test.YtddapabmfecidaaW13
namespace Go.Proofs.Ytddapabmfecidaa
open Go.RowKit

def costTo (s : Sea) (way : List Int) : Nat → Int
  | 0 => 0
  | d + 1 => costTo s way d + (s.stores.getD (way.getD d 0).toNat default).rent + (if decide (0 < d) && (way.getD d 0 != way.getD (d - 1) 0) then s.move else 0)
def costV (s : Sea) (way : List Int) : Int × Int := if openE s way = 0 then (costTo s way way.length, 0) else (0, openE s way)

theorem costTo_bound {s : Sea} {way : List Int} (hg : Good s) (hw : ∀ d, d < way.length → 0 ≤ way.getD d 0 ∧ way.getD d 0 < s.stores.length) (k : Nat) (hk : k ≤ way.length) :
    0 ≤ costTo s way k ∧ costTo s way k ≤ 200000 * k := by
  induction k with
  | zero => simp [costTo]
  | succ k ih =>
    have := ih (by omega)
    have h1 := hg.rent (way.getD k 0).toNat (by have := hw k (by omega); omega)
    have h2 := hg.move
    unfold costTo
    split <;> omega

set_option maxRecDepth 100000 in
set_option maxHeartbeats 4000000 in
theorem cost_any (s : Sea) (vs wv : Value) (way : List Int) (w : World) (hv : StosIn w.heap.size w vs s.stores) (hw : IntsIn .i64 w.heap.size w wv way) :
    Calls Try.prog 17 #[.agg #[.int .i64 s.bend, .int .i64 s.days, .int .i64 s.jump, .int .i64 s.times, .int .i64 s.move, vs], wv] w
      fun e w' => e = .returned (.tuple #[.int .i64 (costV s way).1, .int .i64 (costV s way).2]) ∧ Below w.heap.size w w' := by
  have HV := Lib.hid hv
  have HWV := Lib.hid hw
  obtain ⟨a, c, rfl, hll, hlc, hvv⟩ := hv
  obtain ⟨aw, cw, rfl, hwl, hwv⟩ := hw
  have C0 : Hid (Below w.heap.size w (w.alloc (.cells #[.int .i64 s.bend, .int .i64 s.days, .int .i64 s.jump, .int .i64 s.times, .int .i64 s.move, .slice a s.stores.length c] 31))) := (Below.refl _ _).alloc (Nat.le_refl _) _
  clear hwv hvv
  obtain ⟨e, he⟩ : ∃ e, openE s way = e := ⟨_, rfl⟩
  have HE := Lib.hid he
  clear he
  by_cases hz : e = 0
  · subst hz
    have HC : Hid (costV s way = (costTo s way way.length, 0)) := by unfold Hid costV; rw [if_pos HE.out]
    have HG := Lib.hid (good_of_ok (openE_ok HE.out).1)
    have HW := Lib.hid (way_ok (openE_ok HE.out).2)
    go_enter Try.func17, Try.ntmps17
    go_wp2_with fail
    refine (open_any s _ _ way _ ((HV.out.below C0.out).mono C0.out.size) ((HWV.out.below C0.out).mono C0.out.size)).mono ?_
    rintro e w1 ⟨rfl, hbw⟩
    have C1 := Lib.hid (C0.out.trans (hbw.mono C0.out.size))
    clear hbw
    rw [HE.out]
    go_wp2_with fail
    have hR1 : Hid ((w1.alloc (.cells #[.int .i64 s.bend, .int .i64 s.days, .int .i64 s.jump, .int .i64 s.times, .int .i64 s.move, .slice a s.stores.length c] 75)).heap[w1.heap.size]? = some (.cells #[.int .i64 s.bend, .int .i64 s.days, .int .i64 s.jump, .int .i64 s.times, .int .i64 s.move, .slice a s.stores.length c] 75)) := heap_alloc_new _ _
    go_loopw [4, 20] (fun ce i wr => ∃ k : Nat, k ≤ way.length ∧ i = .int .i64 k ∧ ce = .int .i64 (costTo s way k) ∧ Below w.heap.size w wr ∧ wr.heap[w1.heap.size]? = some (.cells #[.int .i64 s.bend, .int .i64 s.days, .int .i64 s.jump, .int .i64 s.times, .int .i64 s.move, .slice a s.stores.length c] 75)) (fun _ i _ => way.length - (intOf i).toNat)
    case atStart => exact ⟨0, Nat.zero_le _, rfl, rfl, C1.out.alloc C1.out.size _, hR1.out⟩
    case round =>
      obtain ⟨k, hk, rfl, rfl, hb, hrow⟩ := hrel
      have HB := Lib.hid hb
      have HROW := Lib.hid hrow
      have cs := fun i => cell_of_row wr _ i _ _ _ hrow
      clear hb hrow
      by_cases hlt : k < way.length
      · obtain ⟨aw', cw', hvv, _, h⟩ := HWV.out.below HB.out
        cases hvv
        obtain ⟨b, o, rfl, hbb, hc⟩ := h.resolve_left (by intro h; rw [h] at hlt; simp at hlt)
        have hck := hc k hlt
        have hkk := HW.out.2.2 k hlt
        have HD : Hid (costTo s way (k + 1) = _) := Lib.hid (costTo.eq_2 s way k)
        have HBD := Lib.hid (costTo_bound HG.out HW.out.2.2 k hk)
        obtain ⟨i, hi⟩ : ∃ i : Nat, way.getD k 0 = i := ⟨(way.getD k 0).toNat, by omega⟩
        have hiv : i < s.stores.length := by omega
        have HRB := Lib.hid (HG.out.rent i hiv)
        have HMV := Lib.hid HG.out.move
        have HD' : Hid (costTo s way (k + 1) = costTo s way k + (s.stores.getD i default).rent + (if decide (0 < k) && ((i : Int) != way.getD (k - 1) 0) then s.move else 0)) := by unfold Hid; rw [HD.out, hi]; rfl
        clear HD
        rw [hi] at hck
        clear hkk
        obtain ⟨bs, os, c', hse, _, hbs, _, hs1, _⟩ := (HV.out.below HB.out).at hiv
        cases hse
        generalize (s.stores.getD i default).rent = rent at hs1 HRB HD'
        have hbd := HBD.out
        have hrb := HRB.out
        have hmv := HMV.out
        have hwl' : way.length ≤ 8 := Nat.le_trans HW.out.2.1 (by have := HG.out.len.2; omega)
        generalize costTo s way k = cost at *
        cases k with
        | zero =>
          clear hc
          rw [Nat.add_zero] at hck
          go_wp2_with fail
          go_roundw
          case rel => exact ⟨1, by omega, rfl, by rw [HD'.out]; simp, HB.out, HROW.out⟩
          case measure => simp [intOf]; omega
        | succ k =>
          have hcp := hc k (by omega)
          clear hc
          rw [Nat.add_sub_cancel] at HD'
          generalize way.getD k 0 = prev at hcp HD'
          obtain ⟨r, hr⟩ : ∃ r, ((i : Int) != prev) = r := ⟨_, rfl⟩
          have hd' : costTo s way (k + 1 + 1) = cost + rent + (if r then s.move else 0) := by rw [HD'.out, hr]; simp
          have HD2 := Lib.hid hd'
          clear HD' hd'
          cases r
          · go_wp2_with fail
            go_roundw
            case rel => exact ⟨k + 1 + 1, by omega, by go_num, by rw [HD2.out]; simp, HB.out, HROW.out⟩
            case measure => simp [intOf]; omega
          · go_wp2_with fail
            go_roundw
            case rel => exact ⟨k + 1 + 1, by omega, by go_num, by rw [HD2.out]; simp, HB.out, HROW.out⟩
            case measure => simp [intOf]; omega
      · have hke : k = way.length := by omega
        subst hke
        go_wp2_with fail
        go_ret2
        exact ⟨by rw [HC.out]; rfl, HB.out⟩
  · have HC : Hid (costV s way = (0, e)) := by unfold Hid costV; rw [HE.out, if_neg hz]
    go_enter Try.func17, Try.ntmps17
    go_wp2_with fail
    refine (open_any s _ _ way _ ((HV.out.below C0.out).mono C0.out.size) ((HWV.out.below C0.out).mono C0.out.size)).mono ?_
    rintro e' w1 ⟨rfl, hbw⟩
    have C1 := Lib.hid (C0.out.trans (hbw.mono C0.out.size))
    clear hbw
    rw [HE.out]
    have hzz : (e != 0) = true := by simpa using hz
    clear hz
    go_wp2_with fail
    go_ret2
    exact ⟨by rw [HC.out]; rfl, C1.out.alloc C1.out.size _⟩
end Go.Proofs.Ytddapabmfecidaa
