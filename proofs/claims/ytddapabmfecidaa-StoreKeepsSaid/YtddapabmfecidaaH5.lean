/- same: a way of so many days in a store. -/
import Derived.Test.YtddapabmfecidaaAp
import Derived.Test.YtddapabmfecidaaW21
namespace Go.Proofs.Ytddapabmfecidaa
open Go.RowKit
set_option maxRecDepth 100000 in
set_option maxHeartbeats 4000000 in
theorem same_any (i : Int) (n : Nat) (hn : n ≤ 100) (w : World) : Calls Try.prog 29 #[.int .i64 i, .int .i64 n] w
    fun e w' => ∃ v, e = .returned v ∧ IntsIn .i64 w'.heap.size w' v (List.replicate n i) ∧ CapOk v n ∧ Below w.heap.size w w' := by
  go_enter Try.func29, Try.ntmps29
  go_wp2_with fail
  go_loopw [5, 6] (fun lv kv wr => ∃ (k : Nat) (av : Option Addr) (cv : Nat), kv = .int .i64 k ∧ k ≤ n ∧ lv = .slice av k cv ∧ wr.ownsRow w.heap.size 3 1 (.slice av k cv) k ((List.replicate k i).map (Value.int .i64)) ∧ Below w.heap.size w wr) (fun _ kv _ => n - (intOf kv).toNat)
  case atStart => exact ⟨0, none, 0, rfl, by omega, rfl, ⟨rfl, .inl ⟨rfl, rfl⟩⟩, Below.refl _ _⟩
  case round =>
    obtain ⟨k, av, cv, rfl, hk, rfl, ho, hb⟩ := hrel
    have CB := Lib.hid hb
    have HO := Lib.hid ho
    clear hb ho
    by_cases hlt : k < n
    · obtain ⟨i0, hi0, hz0, hz1, hz2⟩ := i64info
      have hb1 : w.heap.size ≤ wr.heap.size := CB.out.size
      go_wp2_with (at_builtin; refine wpList_append_own _ rfl _ _ 33 rfl w.heap.size 3 i0 (.int .i64 0) 1 8 Try.underlying33 hi0 hz0 hz1 hz2 rfl (by decide) _ _ _ rfl (HO.out.alloc _) ⟨wr.heap.size, 0, none⟩ 1 1 [.int .i64 i] rfl rfl (cell_one_new _ _ _) (fun x hx => by simp at hx; subst hx; rfl) (by unfold maxLen; omega) (by omega) (by simp; omega) ?_; intro v' w12 hown12 hgrow12 _)
      have hlt12 := World.ownsRow.lt HO.out
      have CB8 := Lib.hid ((CB.out.alloc CB.out.size (.cells #[.int .i64 i] 3)).grown hgrow12 (by simp only [World.size_alloc]; omega) (fun k e => (hlt12 k e).1))
      obtain ⟨av', cv', rfl⟩ := ownsRow_slice1 hown12
      have HO8 := Lib.hid hown12
      clear hown12 hgrow12
      go_wp2_with fail
      refine ⟨⟨k + 1, av', cv', by push_cast; rfl, by omega, rfl, by rw [List.replicate_succ', List.map_append]; exact HO8.out, CB8.out⟩, ?_⟩
      simp [intOf]
      omega
    · obtain rfl : k = n := by omega
      go_wp2_with fail
      go_ret
      have ho : wr.ownsRow w.heap.size 3 1 (.slice av k cv) (List.replicate k i).length ((List.replicate k i).map (Value.int .i64)) := by rw [List.length_replicate]; exact HO.out
      have hoi := ownsRow_ints ho (by rw [List.length_replicate]; omega)
      rw [List.length_replicate] at hoi
      exact ⟨_, rfl, hoi.1, hoi.2, CB.out⟩
end Go.Proofs.Ytddapabmfecidaa
