/- stearinref05.Pours, Plan. -/
import Derived.Test.YtafdagjdpnaddaaW24
namespace Go.Proofs.Ytafdagjdpnaddaa
open Go.RowKit
theorem pours_drop (m : Mou) (when plan : List Int) (k : Nat) (h : k < plan.length) : poursB m when (plan.drop k) = (decide ((skinN when (plan.getD k 0) : Int) ≤ m.skin) && poursB m when (plan.drop (k + 1))) := by
  unfold poursB
  rw [List.drop_eq_getElem_cons h, List.all_cons]
  simp [List.getD, h]
set_option maxRecDepth 100000 in
set_option maxHeartbeats 4000000 in
theorem pours_r (r : Bool) (m : Mou) (when : List Int) (hwl : when.length ≤ 1000) (plan : List Int) (hr : poursB m when plan = r) (vw vp : Value) (w : World) (hv : IntsIn .i64 w.heap.size w vw when) (hp : IntsIn .i64 w.heap.size w vp plan) :
    Calls Try.prog 46 #[.agg #[.int .i64 m.rings, .int .i64 m.give, .int .i64 m.pl, .int .i64 m.ph, .int .i64 m.wl, .int .i64 m.wh, .int .i64 m.set, .int .i64 m.shrink, .int .i64 m.skin, .int .i64 m.fill, .int .i64 m.gap, .int .i64 m.deep], vw, vp] w fun e w' => e = .returned (.bool r) ∧ Below w.heap.size w w' := by
  have HVW := Lib.hid hv
  have HRR := Lib.hid hr
  have C0 := Lib.hid ((Bs.nil w).push _ rfl (.cells #[.int .i64 m.rings, .int .i64 m.give, .int .i64 m.pl, .int .i64 m.ph, .int .i64 m.wl, .int .i64 m.wh, .int .i64 m.set, .int .i64 m.shrink, .int .i64 m.skin, .int .i64 m.fill, .int .i64 m.gap, .int .i64 m.deep] 25))
  obtain ⟨a2, c2, rfl, -, -⟩ := hv
  obtain ⟨a, c, rfl, hl, hc⟩ := hp
  have HP := Lib.hid hc
  obtain ⟨len, hlen⟩ : ∃ x, plan.length = x := ⟨_, rfl⟩
  have HLEN := Lib.hid hlen
  rw [hlen] at hl ⊢
  obtain ⟨lw, hlw⟩ : ∃ x, when.length = x := ⟨_, rfl⟩
  have HLW := Lib.hid hlw
  rw [hlw] at hwl ⊢
  rw [hlw] at HVW
  clear hc hr hlen hlw
  go_enter Try.func46, Try.ntmps46
  go_wp2_with fail
  go_loopw [7] (fun i wr => ∃ k : Nat, k ≤ len ∧ i = .int .i64 k ∧ poursB m when plan = poursB m when (plan.drop k) ∧ Bs w ([] ++ [(w.heap.size, .cells #[.int .i64 m.rings, .int .i64 m.give, .int .i64 m.pl, .int .i64 m.ph, .int .i64 m.wl, .int .i64 m.wh, .int .i64 m.set, .int .i64 m.shrink, .int .i64 m.skin, .int .i64 m.fill, .int .i64 m.gap, .int .i64 m.deep] 25)]) wr) (fun i _ => len - (intOf i).toNat)
  case atStart => exact ⟨0, by omega, rfl, by rw [List.drop_zero], C0.out⟩
  case round =>
    obtain ⟨k, hk, rfl, hd, hC⟩ := hrel
    have HD := Lib.hid hd
    have C3 := Lib.hid hC
    clear hd
    by_cases hlt : k < len
    · obtain ⟨b, o, rfl, hbB, hc⟩ := HP.out.resolve_left (by intro h; have := HLEN.out; rw [h] at this; simp at this; omega)
      have hck := (hC.bel.cell (p := ⟨b, o + k, none⟩) hbB).trans (hc k (by rw [HLEN.out]; exact hlt))
      have c8 : wr.cell? ⟨w.heap.size, 8, none⟩ = some (.int .i64 m.skin) := hC.cell 0 rfl 8
      have HS := Lib.hid (pours_drop m when plan k (by rw [HLEN.out]; exact hlt))
      generalize plan.getD k 0 = x at *
      have HCC := fun n : Nat => Lib.hid (set_any when (by rw [HLW.out]; exact hwl) x _ _ (HVW.out.next (C3.out.drewN n).bel))
      have hq8 : skinN when x ≤ 1000 := by have := skin_le when x; rw [HLW.out] at this; omega
      have hki : (k : Int) < (len : Int) := by omega
      generalize skinN when x = q at *
      clear hC hc
      by_cases hq : (q : Int) ≤ m.skin
      · have hdq : decide (m.skin < (q : Int)) = false := decide_eq_false (by omega)
        go_wp2
        go_quiet ((go_at_call 42; exact Calls.quiet_of_same (((HCC _).out).mono fun e w' h => ⟨h.1, h.2.symm⟩)))
        go_wp2
        go_roundw
        case rel => exact ⟨k + 1, by omega, by go_num, by rw [HD.out, HS.out, decide_eq_true hq, Bool.true_and], C3.out.drewN _⟩
        case measure => simp [intOf]; omega
      · have hdq : decide (m.skin < (q : Int)) = true := decide_eq_true (by omega)
        go_wp2
        go_quiet ((go_at_call 42; exact Calls.quiet_of_same (((HCC _).out).mono fun e w' h => ⟨h.1, h.2.symm⟩)))
        go_wp2
        go_ret
        exact ⟨ret_bool (by rw [← HRR.out, HD.out, HS.out, decide_eq_false (show ¬ (q : Int) ≤ m.skin by omega), Bool.false_and]), (C3.out.drewN _).bel⟩
    · obtain rfl : k = len := by omega
      have hki : ¬ (k : Int) < (k : Int) := by omega
      go_wp2
      go_ret
      exact ⟨ret_bool (by rw [← HRR.out, HD.out, ← HLEN.out, List.drop_length]; rfl), C3.out.bel⟩
end Go.Proofs.Ytafdagjdpnaddaa
