/- turn: the n-th of small numbers, by turns. -/
import Derived.Test.YtddapabmfecidaaW18
namespace Go.Proofs.Ytddapabmfecidaa
open Go.RowKit
def turnV (l : List Int) (n : Nat) : Int := if l.length = 0 then 0 else l.getD (n % l.length) 0
set_option maxHeartbeats 1000000 in
theorem turn_any (l : List Int) (v : Value) (n : Nat) (hn : n ≤ 1000) (hr : ∀ x ∈ l, 0 ≤ x ∧ x ≤ 65535) (w : World) (hv : IntsIn .u16 w.heap.size w v l) :
    Calls Try.prog 45 #[v, .int .i64 n] w fun e w' => e = .returned (.int .i64 (turnV l n)) ∧ w = w' := by
  obtain ⟨a, c, rfl, hl, hlc⟩ := hv
  by_cases h0 : l.length = 0
  · have HT : Hid (turnV l n = 0) := by unfold Hid turnV; rw [if_pos h0]
    rw [h0]
    clear hlc
    go_enter Try.func45, Try.ntmps45
    go_wp2_with fail
    go_ret
    exact ⟨by rw [HT.out]; rfl, rfl⟩
  · obtain ⟨b, o, rfl, hb, hc⟩ := hlc.resolve_left (by intro h; rw [h] at h0; exact h0 rfl)
    obtain ⟨i, hi⟩ : ∃ i, n % l.length = i := ⟨_, rfl⟩
    have hil : i < l.length := by rw [← hi]; exact Nat.mod_lt _ (by omega)
    have HT : Hid (turnV l n = l.getD i 0) := by unfold Hid turnV; rw [if_neg h0, hi]
    have hci := hc i hil
    have hx : 0 ≤ l.getD i 0 ∧ l.getD i 0 ≤ 65535 := hr _ (by rw [List.getD_eq_getElem?_getD, List.getElem?_eq_getElem hil]; exact List.getElem_mem hil)
    have him : ((n : Int) % (l.length : Int)) = (i : Int) := by rw [← hi]; simp
    have HIM := Lib.hid him
    obtain ⟨m, hm⟩ : ∃ m, l.length = m := ⟨_, rfl⟩
    rw [hm] at him hil hl h0 HIM ⊢
    generalize l.getD i 0 = x at *
    have hz : ((m : Int) == 0) = false := beq_eq_false_iff_ne.2 (by omega)
    have hm0 : (0 : Int) < m := by omega
    clear hc hi hm hlc hr
    go_enter Try.func45, Try.ntmps45
    go_wp2_with fail
    go_ret
    exact ⟨by rw [HT.out]; rfl, rfl⟩
end Go.Proofs.Ytddapabmfecidaa
