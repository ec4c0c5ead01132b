/- stearinref05.Shrinks, Set. -/
import Derived.Test.YtafdagjdpnaddaaW20
import Derived.Test.YtafdagjdpnaddaaW3
namespace Go.Proofs.Ytafdagjdpnaddaa
open Go.RowKit
theorem shr_any (m : Mou) (hm : Valid m) (i : Nat) (hi : (i : Int) < m.rings) (w : World) : Calls Try.prog 45 #[.agg #[.int .i64 m.rings, .int .i64 m.give, .int .i64 m.pl, .int .i64 m.ph, .int .i64 m.wl, .int .i64 m.wh, .int .i64 m.set, .int .i64 m.shrink, .int .i64 m.skin, .int .i64 m.fill, .int .i64 m.gap, .int .i64 m.deep], .int .i64 i] w fun e w' => e = .returned (.int .i64 (shrI m i)) ∧ Below w.heap.size w w' := by
  have h0 := shrI_nonneg hm hi
  have h1 := shrI_le hm i hi
  have hr8 := hm.r8
  have hs0 := hm.s0
  have hs2 := hm.s2
  have C0 := Lib.hid ((Bs.nil w).push _ rfl (.cells #[.int .i64 m.rings, .int .i64 m.give, .int .i64 m.pl, .int .i64 m.ph, .int .i64 m.wl, .int .i64 m.wh, .int .i64 m.set, .int .i64 m.shrink, .int .i64 m.skin, .int .i64 m.fill, .int .i64 m.gap, .int .i64 m.deep] 25))
  unfold shrI at *
  clear hm
  go_enter Try.func45, Try.ntmps45
  go_wp2_with fail
  go_ret
  exact ⟨rfl, C0.out.bel⟩
theorem skinN_take (l : List Int) (n : Int) (k : Nat) (h : k < l.length) : skinN (l.take (k + 1)) n = skinN (l.take k) n + if skinB n (l.getD k 0) = true then 1 else 0 := by
  unfold skinN
  rw [List.take_succ_eq_append_getElem h, List.countP_append]
  simp [List.getD, h, List.countP_cons]
theorem skinN_le_take (l : List Int) (n : Int) (k : Nat) : skinN (l.take k) n ≤ k := by
  have := skin_le (l.take k) n
  rw [List.length_take] at this
  omega
set_option maxHeartbeats 4000000 in
theorem set_any (l : List Int) (hl : l.length ≤ 1000) (n : Int) (v : Value) (w : World) (hv : IntsIn .i64 w.heap.size w v l) : Calls Try.prog 42 #[v, .int .i64 n] w fun e w' => e = .returned (.int .i64 (skinN l n)) ∧ w = w' := by
  obtain ⟨a, c, rfl, -, hv⟩ := hv
  have HV := Lib.hid hv
  obtain ⟨len, hlen⟩ : ∃ x, l.length = x := ⟨_, rfl⟩
  have HLEN := Lib.hid hlen
  rw [hlen] at hl ⊢
  clear hv hlen
  go_enter Try.func42, Try.ntmps42
  go_wp2
  go_loop [5, 6] (fun t i => ∃ k : Nat, k ≤ len ∧ i = .int .i64 k ∧ t = .int .i64 (skinN (l.take k) n : Nat)) (fun _ i => len - (intOf i).toNat)
  case atStart => exact ⟨0, by omega, rfl, rfl⟩
  case round =>
    obtain ⟨k, hk, rfl, rfl⟩ := hrel
    by_cases hlt : k < len
    · obtain ⟨b, o, rfl, _, hc⟩ := HV.out.resolve_left (by intro h; have := HLEN.out; rw [h] at this; simp at this; omega)
      have hck := hc k (by rw [HLEN.out]; exact hlt)
      have HS := Lib.hid (skinN_take l n k (by rw [HLEN.out]; exact hlt))
      have hle := skinN_le_take l n k
      have hki : (k : Int) < (len : Int) := by omega
      clear hc
      generalize l.getD k 0 = x at *
      generalize skinN (l.take k) n = q at *
      obtain ⟨r, hr⟩ : ∃ r, within x 0 n = r := ⟨_, rfl⟩
      have HR := Lib.hid hr
      have hrs : skinB n x = r := hr
      have HRS := Lib.hid hrs
      clear hr hrs
      cases r
      all_goals
        go_wp2_with (go_at_call 49; refine (in_r _ x 0 n HR.out _).mono ?_; rintro e w' ⟨rfl, rfl⟩)
        go_round
        case rel => exact ⟨k + 1, by omega, by go_num, by rw [HS.out, HRS.out]; simp⟩
        case measure => simp [intOf]; omega
    · obtain rfl : k = len := by omega
      have hki : ¬ (k : Int) < (k : Int) := by omega
      have HT : Hid (l.take k = l) := by unfold Hid; rw [← HLEN.out, List.take_length]
      go_wp2
      go_ret
      exact ⟨by rw [HT.out]; rfl, rfl⟩
end Go.Proofs.Ytafdagjdpnaddaa
