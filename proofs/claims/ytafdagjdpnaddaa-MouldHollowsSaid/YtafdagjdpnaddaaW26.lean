/- stearinref05.Plan. -/
import Derived.Test.YtafdagjdpnaddaaW24
namespace Go.Proofs.Ytafdagjdpnaddaa
open Go.RowKit
set_option maxRecDepth 100000 in
set_option maxHeartbeats 4000000 in
theorem plan_any (m : Mou) (hg0 : 0 ≤ m.gap) (hg6 : m.gap ≤ 60) (plan : List Int) (vp : Value) (w : World) (hp : IntsIn .i64 w.heap.size w vp plan) :
    Calls Try.prog 43 #[.agg #[.int .i64 m.rings, .int .i64 m.give, .int .i64 m.pl, .int .i64 m.ph, .int .i64 m.wl, .int .i64 m.wh, .int .i64 m.set, .int .i64 m.shrink, .int .i64 m.skin, .int .i64 m.fill, .int .i64 m.gap, .int .i64 m.deep], vp] w fun e w' => e = .returned (.int .i64 (planE m plan)) ∧ Below w.heap.size w w' := by
  have C0 := Lib.hid ((Bs.nil w).push _ rfl (.cells #[.int .i64 m.rings, .int .i64 m.give, .int .i64 m.pl, .int .i64 m.ph, .int .i64 m.wl, .int .i64 m.wh, .int .i64 m.set, .int .i64 m.shrink, .int .i64 m.skin, .int .i64 m.fill, .int .i64 m.gap, .int .i64 m.deep] 25))
  obtain ⟨a, c, rfl, hl, hc⟩ := hp
  have HPC := Lib.hid hc
  clear hc
  by_cases h40 : 40 < plan.length
  · have HV : Hid (planE m plan = 3) := by unfold Hid planE; rw [if_pos h40]
    have h40i : (40 : Int) < (plan.length : Int) := by omega
    go_enter Try.func43, Try.ntmps43
    go_wp2_with fail
    go_ret
    exact ⟨ret_int HV.out.symm, C0.out.bel⟩
  have h40i : (plan.length : Int) ≤ 40 := by omega
  have h40j : ¬ (40 : Int) < (plan.length : Int) := by omega
  go_enter Try.func43, Try.ntmps43
  go_wp2_with fail
  go_loopw [5] (fun i wr => ∃ k : Nat, k ≤ plan.length ∧ i = .int .i64 k ∧ (∀ i, i < k → planAt m plan i = 0) ∧ Bs w ([] ++ [(w.heap.size, .cells #[.int .i64 m.rings, .int .i64 m.give, .int .i64 m.pl, .int .i64 m.ph, .int .i64 m.wl, .int .i64 m.wh, .int .i64 m.set, .int .i64 m.shrink, .int .i64 m.skin, .int .i64 m.fill, .int .i64 m.gap, .int .i64 m.deep] 25)]) wr) (fun i _ => plan.length - (intOf i).toNat)
  case atStart => exact ⟨0, by omega, rfl, fun i hi => by omega, C0.out⟩
  case round =>
    obtain ⟨k, hk, rfl, hok, hC⟩ := hrel
    have C3 := Lib.hid hC
    have HOK := Lib.hid hok
    by_cases hlt : k < plan.length
    · obtain ⟨b, o, rfl, hbB, hc⟩ : ∃ b o, a = some ⟨b, o, none⟩ ∧ b < w.heap.size ∧ ∀ i, i < plan.length → w.cell? ⟨b, o + i, none⟩ = some (.int .i64 (plan.getD i 0)) := by
        rcases HPC.out with h | h
        · rw [h] at hlt; simp at hlt
        · exact h
      have HC9 := Lib.hid hc
      have hck := (hC.bel.cell (p := ⟨b, o + k, none⟩) hbB).trans (hc k hlt)
      have HPE : Hid (planAt m plan k ≠ 0 → planE m plan = planAt m plan k) := fun hne => by unfold planE; rw [if_neg h40]; exact firstErr_at hok hne _ hlt
      have HPA : Hid (planAt m plan k = if within (plan.getD k 0) 0 600 = false then 7 else if 0 < k ∧ plan.getD k 0 - plan.getD (k - 1) 0 < m.gap then 2 else 0) := Lib.hid rfl
      have hki : (k : Int) < (plan.length : Int) := by omega
      have hdk : decide ((k : Int) < (plan.length : Int)) = true := decide_eq_true hki
      have hdk' : decide (k < plan.length) = true := decide_eq_true hlt
      have c10 : wr.cell? ⟨w.heap.size, 10, none⟩ = some (.int .i64 m.gap) := hC.cell 0 rfl 10
      have HLT := Lib.hid hlt
      obtain ⟨x, hx⟩ : ∃ x, plan.getD k 0 = x := ⟨_, rfl⟩
      rw [hx] at hck HPA
      obtain ⟨bo, hbo⟩ : ∃ b, within x 0 600 = b := ⟨_, rfl⟩
      have HB := Lib.hid hbo
      clear hc hok hx hbo h40 hlt hk
      cases bo
      · have HV : Hid (planE m plan = 7) := by
          have e : planAt m plan k = 7 := by rw [HPA.out, if_pos HB.out]
          exact (HPE.out (by rw [e]; decide)).trans e
        clear hC
        go_wp2_with (go_at_call 49; refine (in_r _ x 0 600 HB.out _).mono ?_; rintro e w' ⟨rfl, rfl⟩)
        go_ret
        exact ⟨ret_int HV.out.symm, C3.out.bel⟩
      rw [if_neg (by rw [HB.out]; simp)] at HPA
      have hn6 := within_iff.1 HB.out
      by_cases hk0 : k = 0
      · have hd0 : decide ((0 : Int) < (k : Int)) = false := decide_eq_false (by omega)
        have hd0' : decide (0 < k) = false := decide_eq_false (by omega)
        have HPZ : Hid (planAt m plan k = 0) := by unfold Hid; rw [HPA.out, if_neg (by omega)]
        clear HPA hk0 hC
        go_wp2_with (go_at_call 49; refine (in_r _ x 0 600 HB.out _).mono ?_; rintro e w' ⟨rfl, rfl⟩)
        go_quiet (fail)
        go_wp2
        go_roundw
        case rel => exact ⟨k + 1, HLT.out, by go_num, upto_succ HOK.out HPZ.out, C3.out.drewN _⟩
        case measure => have := HLT.out; simp [intOf]; omega
      · have hd0 : decide ((0 : Int) < (k : Int)) = true := decide_eq_true (by omega)
        have hd0' : decide (0 < k) = true := decide_eq_true (by omega)
        obtain ⟨j, hj⟩ : ∃ j : Nat, j + 1 = k := ⟨k - 1, by omega⟩
        have hjk : (k : Int) - 1 = (j : Int) := by omega
        have hjp : (j : Int) < (plan.length : Int) := by omega
        have hcj := (hC.bel.cell (p := ⟨b, o + j, none⟩) hbB).trans (HC9.out j (by have := HLT.out; omega))
        have hjr : 0 ≤ plan.getD j 0 ∧ plan.getD j 0 ≤ 600 := (planAt_zero.1 (HOK.out j (by omega))).1
        rw [show k - 1 = j by omega] at HPA
        generalize plan.getD j 0 = z at *
        by_cases hgp : x - z < m.gap
        · have hdg : decide (x - z < m.gap) = true := decide_eq_true hgp
          have HV : Hid (planE m plan = 2) := by
            have e : planAt m plan k = 2 := by rw [HPA.out, if_pos ⟨by omega, hgp⟩]
            exact (HPE.out (by rw [e]; decide)).trans e
          clear HPA HPE hk0 hj hC
          go_wp2_with (go_at_call 49; refine (in_r _ x 0 600 HB.out _).mono ?_; rintro e w' ⟨rfl, rfl⟩)
          go_quiet (fail)
          go_wp2
          go_ret
          exact ⟨ret_int HV.out.symm, (C3.out.drewN _).bel⟩
        · have hdg : decide (x - z < m.gap) = false := decide_eq_false hgp
          have HPZ : Hid (planAt m plan k = 0) := by unfold Hid; rw [HPA.out, if_neg (by omega)]
          clear HPA HPE hk0 hj hC
          go_wp2_with (go_at_call 49; refine (in_r _ x 0 600 HB.out _).mono ?_; rintro e w' ⟨rfl, rfl⟩)
          go_quiet (fail)
          go_wp2
          go_roundw
          case rel => exact ⟨k + 1, HLT.out, by go_num, upto_succ HOK.out HPZ.out, C3.out.drewN _⟩
          case measure => have := HLT.out; simp [intOf]; omega
    · have hke : k = plan.length := by omega
      have hki : ¬ ((k : Int) < (plan.length : Int)) := by omega
      have HPZ : Hid (planE m plan = 0) := by unfold Hid planE; rw [if_neg h40]; exact firstErr_of (fun i hi => hok i (by omega))
      clear hC hok hke hlt
      go_wp2_with fail
      go_ret
      exact ⟨ret_int HPZ.out.symm, C3.out.bel⟩
end Go.Proofs.Ytafdagjdpnaddaa
