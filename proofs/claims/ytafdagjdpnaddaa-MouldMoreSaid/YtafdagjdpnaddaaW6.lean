/- slices.Repeat of one element; bits.Mul. -/
import Derived.Test.YtafdagjdpnaddaaAp
import Derived.Laws.CopyOwn
import Derived.Laws.MakeOwn
namespace Go.Proofs.Ytafdagjdpnaddaa
open Go.RowKit
theorem mul64_any (c : Nat) (h1 : 1 ≤ c) (h8 : c ≤ 8) (w : World) : Calls Try.prog 77 #[.int .u64 1, .int .u64 c] w fun e w' => e = .returned (.tuple #[.int .u64 0, .int .u64 c]) ∧ w = w' := by
  rcases (by omega : c = 1 ∨ c = 2 ∨ c = 3 ∨ c = 4 ∨ c = 5 ∨ c = 6 ∨ c = 7 ∨ c = 8) with rfl | rfl | rfl | rfl | rfl | rfl | rfl | rfl
  all_goals
    go_enter Try.func77, Try.ntmps77
    go_wp2
    go_ret2
    exact ⟨rfl, rfl⟩
theorem mul_any (c : Nat) (h1 : 1 ≤ c) (h8 : c ≤ 8) (w : World) : Calls Try.prog 75 #[.int .u64 1, .int .u64 c] w fun e w' => e = .returned (.tuple #[.int .u64 0, .int .u64 c]) ∧ w = w' := by
  go_enter Try.func75, Try.ntmps75
  go_wp2_with (go_at_call 77; refine (mul64_any c h1 h8 _).mono ?_; rintro e w' ⟨rfl, rfl⟩)
  go_ret2
  exact ⟨rfl, rfl⟩
end Go.Proofs.Ytafdagjdpnaddaa
