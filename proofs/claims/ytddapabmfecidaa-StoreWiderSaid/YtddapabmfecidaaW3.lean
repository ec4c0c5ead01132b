/- The greatest of the numbers of a list (slices.Max) and of an array (jumps.most). -/
import Derived.Test.YtddapabmfecidaaW2
namespace Go.Proofs.Ytddapabmfecidaa
open Go.RowKit

/-- The greatest of the first numbers of a list (of the first one, if it is of none). -/
def maxTo (l : List Int) : Nat → Int
  | 0 => l.getD 0 0
  | k + 1 => max (maxTo l k) (l.getD k 0)

set_option maxHeartbeats 1000000 in
theorem max_any (l : List Int) (v : Value) (B : Nat) (w : World) (hv : IntsIn .i64 B w v l) (n : Nat) (hn : l.length = n) (hne : 0 < n) :
    Calls Try.prog 51 #[v] w fun e w' => e = .returned (.int .i64 (maxTo l n)) ∧ w = w' := by
  subst hn
  obtain ⟨a, c, rfl, hl, hv⟩ := hv
  obtain ⟨b, o, rfl, _, hc⟩ : ∃ b o, a = some ⟨b, o, none⟩ ∧ b < B ∧ ∀ i, i < l.length → w.cell? ⟨b, o + i, none⟩ = some (.int .i64 (l.getD i 0)) := by
    rcases hv with rfl | h
    · simp at hne
    · exact h
  clear hv
  have h0 := hc 0 hne
  have HC := Lib.hid hc
  clear hc
  have e1 : l.getD 0 0 = maxTo l 1 := by simp [maxTo]
  rw [e1, Nat.add_zero] at h0
  clear e1
  go_enter Try.func51, Try.ntmps51
  go_wp2
  go_loop [3, 4] (fun m i => ∃ k : Nat, 1 ≤ k ∧ k ≤ l.length ∧ i = .int .i64 k ∧ m = .int .i64 (maxTo l k)) (fun _ i => l.length - (intOf i).toNat)
  case atStart => exact ⟨1, by omega, by omega, rfl, rfl⟩
  case round =>
    obtain ⟨k, hk1, hk, rfl, rfl⟩ := hrel
    by_cases hlt : k < l.length
    · have hck := HC.out k hlt
      have HM : Hid (maxTo l (k + 1) = max (maxTo l k) (l.getD k 0)) := Lib.hid rfl
      generalize l.getD k 0 = x at hck HM
      by_cases hx : maxTo l k < x
      all_goals
        go_wp2
        go_round
        case rel => exact ⟨k + 1, by omega, by omega, by go_num, by rw [HM.out]; congr 1; omega⟩
        case measure => simp [intOf]; omega
    · have : k = l.length := by omega
      subst this
      go_wp2
      go_ret
      exact ⟨rfl, rfl⟩

set_option maxHeartbeats 1000000 in
theorem most_any (j : List Int) (hj : j.length = 61) (w : World) (n : Int) (hjb : Small n j) (hn : n ≤ 1000) :
    Calls Try.prog 38 #[.agg (ints j)] w fun e w' => e = .returned (.int .i64 (maxTo j 61 - 1)) ∧ Below w.heap.size w w' := by
  have hb := (Below.refl w.heap.size w).alloc (Nat.le_refl _) (.cells (ints j) 93)
  have hI : IntsIn .i64 (w.heap.size + 1) (w.alloc (.cells (ints j) 93)) (.slice (some ⟨w.heap.size, 0, none⟩) 61 61) j :=
    ⟨_, _, by rw [hj], by omega, .inr ⟨_, _, rfl, by omega, fun i hi => by rw [cell_of_row _ _ _ _ _ _ (heap_alloc_new w _), Nat.zero_add, ints_get _ _ hi]⟩⟩
  have hm : 0 ≤ maxTo j 61 ∧ maxTo j 61 ≤ 1000 := by
    have : ∀ k, 0 ≤ maxTo j k ∧ maxTo j k ≤ 1000 := by
      intro k
      induction k with
      | zero => have := hjb 0; unfold maxTo; omega
      | succ k ih => have := hjb k; unfold maxTo; omega
    exact this 61
  obtain ⟨hm0, hm1⟩ := hm
  have HI := Lib.hid hI
  have HJ := Lib.hid hj
  clear hI hj hjb
  go_enter Try.func38, Try.ntmps38
  go_wp2_with (go_at_call 51; refine (max_any j _ _ _ HI.out 61 HJ.out (by omega)).mono ?_; rintro e w' ⟨rfl, rfl⟩)
  go_ret
  exact ⟨rfl, hb⟩
end Go.Proofs.Ytddapabmfecidaa
