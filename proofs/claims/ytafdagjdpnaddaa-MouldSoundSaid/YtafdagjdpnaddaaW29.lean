/- The helpers turn, among, inside. -/
import Derived.Test.YtafdagjdpnaddaaW1
import Derived.Test.YtafdagjdpnaddaaBl
import Derived.BigQuiet
namespace Go.Proofs.Ytafdagjdpnaddaa
open Go.RowKit
def turnV (l : List Int) (n : Nat) : Int := if l.length = 0 then 0 else l.getD (n % l.length) 0
def amongV (lo hi n : Int) : Int := lo + n % (hi - lo + 1)
theorem turnV_range {l : List Int} (h : ∀ x ∈ l, 0 ≤ x ∧ x ≤ 65535) (n : Nat) : 0 ≤ turnV l n ∧ turnV l n ≤ 65535 := by
  unfold turnV
  by_cases h0 : l.length = 0
  · rw [if_pos h0]; omega
  · rw [if_neg h0]
    refine h _ ?_
    have hlt := Nat.mod_lt n (show 0 < l.length by omega)
    simp [List.getD, hlt]
theorem amongV_range {lo hi n : Int} (h : lo ≤ hi) : lo ≤ amongV lo hi n ∧ amongV lo hi n ≤ hi := by
  unfold amongV
  have h1 := Int.emod_nonneg n (show hi - lo + 1 ≠ 0 by omega)
  have h2 := Int.emod_lt_of_pos n (show 0 < hi - lo + 1 by omega)
  omega
theorem inside_r (r : Bool) (n lo hi : Int) (h : within n lo hi = r) (w : World) : Calls Try.prog 39 #[.int .i64 n, .agg #[.int .i64 lo, .int .i64 hi]] w fun e w' => e = .returned (.bool r) ∧ Below w.heap.size w w' := by
  have HB := Lib.hid ((Below.refl w.heap.size w).alloc (Nat.le_refl _) (.cells #[.int .i64 lo, .int .i64 hi] 23))
  subst h
  unfold within
  go_enter Try.func39, Try.ntmps39
  by_cases h1 : lo ≤ n
  · have h1' : decide (lo ≤ n) = true := decide_eq_true h1
    by_cases h2 : n ≤ hi
    · have h2' : decide (n ≤ hi) = true := decide_eq_true h2
      go_wp2
      go_ret
      exact ⟨by simp [h1, h2], HB.out⟩
    · have h2' : decide (n ≤ hi) = false := decide_eq_false h2
      go_wp2
      go_ret
      exact ⟨by simp, HB.out⟩
  · have h1' : decide (lo ≤ n) = false := decide_eq_false h1
    go_wp2
    go_ret
    exact ⟨by simp, HB.out⟩
theorem turn_any (l : List Int) (v : Value) (n : Nat) (hn : n ≤ 600) (w : World) (hv : IntsIn .u16 w.heap.size w v l) (hr : ∀ x ∈ l, 0 ≤ x ∧ x ≤ 65535) : Calls Try.prog 47 #[v, .int .i64 n] w fun e w' => e = .returned (.int .i64 (turnV l n)) ∧ w = w' := by
  obtain ⟨a, c, rfl, hl, hc⟩ := hv
  have HR := Lib.hid (turnV_range hr n)
  by_cases h0 : l.length = 0
  · have HT : Hid (turnV l n = 0) := by unfold Hid turnV; rw [if_pos h0]
    rw [h0]
    clear hc hr
    go_enter Try.func47, Try.ntmps47
    go_wp2
    go_ret
    exact ⟨by rw [HT.out]; rfl, rfl⟩
  · obtain ⟨b, o, rfl, hb, hc⟩ := hc.resolve_left (by intro h; rw [h] at h0; exact h0 rfl)
    have hlt := Nat.mod_lt n (show 0 < l.length by omega)
    have hcell := hc (n % l.length) hlt
    have HT : Hid (turnV l n = l.getD (n % l.length) 0) := by unfold Hid turnV; rw [if_neg h0]
    have hx : 0 ≤ l.getD (n % l.length) 0 ∧ l.getD (n % l.length) 0 ≤ 65535 := by rw [← HT.out]; exact HR.out
    generalize l.getD (n % l.length) 0 = x at *
    obtain ⟨hx0, hx1⟩ := hx
    obtain ⟨L, hL⟩ : ∃ L, l.length = L := ⟨_, rfl⟩
    rw [hL] at hl h0 hlt hcell ⊢
    clear hc hL hr
    have hq : ((L : Int) == 0) = false := by simpa using h0
    have hm : ((n : Int) % (L : Int)) = ((n % L : Nat) : Int) := by simp
    have hm2 : ((n : Int).tmod (L : Int)) = ((n % L : Nat) : Int) := by rw [Int.tmod_eq_emod_of_nonneg (by omega)]; exact hm
    obtain ⟨q, hqq⟩ : ∃ q, n % L = q := ⟨_, rfl⟩
    rw [hqq] at hm hm2 hlt hcell
    clear hqq
    have hqL : (q : Int) < (L : Int) := by omega
    go_enter Try.func47, Try.ntmps47
    go_wp2
    go_ret
    exact ⟨by rw [HT.out]; rfl, rfl⟩
theorem among_any (lo hi n : Int) (h0 : 0 ≤ lo) (h1 : lo ≤ hi) (h2 : hi ≤ 2000) (hn0 : 0 ≤ n) (w : World) : Calls Try.prog 67 #[.agg #[.int .i64 lo, .int .i64 hi], .int .i64 n] w fun e w' => e = .returned (.int .i64 (amongV lo hi n)) ∧ Below w.heap.size w w' := by
  have HC := Lib.hid ((Bs.nil w).push _ rfl (.cells #[.int .i64 lo, .int .i64 hi] 23))
  have c0 := HC.out.cell 0 rfl
  have HA : Hid (amongV lo hi n = lo + n % (hi - lo + 1)) := rfl
  have hm2 : n.tmod (hi - lo + 1) = n % (hi - lo + 1) := Int.tmod_eq_emod_of_nonneg (by omega)
  have hb1 := Int.emod_nonneg n (show hi - lo + 1 ≠ 0 by omega)
  have hb2 := Int.emod_lt_of_pos n (show 0 < hi - lo + 1 by omega)
  have hne : (hi - lo + 1 == 0) = false := by simp; omega
  have hne2 : hi - lo + 1 ≠ 0 := by omega
  have w1 : IntKind.i64.wrap (hi - lo) = hi - lo := by rw [IntKind.wrap_i64]; omega
  have w2 : IntKind.i64.wrap (hi - lo + 1) = hi - lo + 1 := by rw [IntKind.wrap_i64]; omega
  have w3 : IntKind.i64.wrap (n % (hi - lo + 1)) = n % (hi - lo + 1) := by rw [IntKind.wrap_i64]; omega
  have w4 : IntKind.i64.wrap (lo + n % (hi - lo + 1)) = lo + n % (hi - lo + 1) := by rw [IntKind.wrap_i64]; omega
  clear hb1 hb2
  rw [HA.out]
  go_enter Try.func67, Try.ntmps67
  go_wp2_with fail
  go_quiet (fail)
  simp only [Exit.then]
  go_wp2
  go_ret
  exact ⟨rfl, (HC.out.drewN _).bel⟩
end Go.Proofs.Ytafdagjdpnaddaa
