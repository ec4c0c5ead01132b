/- turn, among and endsOf of the laws. -/
import Derived.Test.YtaigbhhmmdfdcaaY15
namespace Go.Proofs.Ytaigbhhmmdfdcaa
open Go.RowKit
/-- Turns: small numbers, read by turns. -/
structure Turns (x : List Int) : Prop where
  at' : ∀ i, 0 ≤ x.getD i 0 ∧ x.getD i 0 ≤ 4294967295
def turnV (x : List Int) (n : Nat) : Int := x.getD (n % x.length) 0
theorem turnV_bound {x : List Int} (h : Turns x) (n : Nat) : 0 ≤ turnV x n ∧ turnV x n ≤ 4294967295 := h.at' _
def amongV (p : Int × Int) (n : Int) : Int := p.1 + n % (p.2 - p.1 + 1)
theorem amongV_in {p : Int × Int} (h : p.1 ≤ p.2) (n : Int) : p.1 ≤ amongV p n ∧ amongV p n ≤ p.2 := by
  unfold amongV
  have h1 := Int.emod_nonneg n (show p.2 - p.1 + 1 ≠ 0 by omega)
  have h2 := Int.emod_lt_of_pos n (show 0 < p.2 - p.1 + 1 by omega)
  omega
set_option maxHeartbeats 4000000 in
theorem turn40 (x : List Int) (hx : Turns x) (n : Nat) (hn : n ≤ 1000000) (v : Value) (w : World) (hv : IntsIn .u32 w.heap.size w v x) :
    Calls Try.prog 40 #[v, .int .i64 n] w fun e w' => e = .returned (.int .i64 (turnV x n)) ∧ w = w' := by
  have HV := Lib.hid hv
  obtain ⟨a, c, rfl, hl, -⟩ := hv
  have hb := turnV_bound hx n
  have HT : Hid (turnV x n = x.getD (n % x.length) 0) := rfl
  generalize turnV x n = T at *
  by_cases h0 : x.length = 0
  · have e : T = 0 := by rw [HT.out, List.eq_nil_of_length_eq_zero h0]; rfl
    subst e
    rw [h0]
    go_enter Try.func40, Try.ntmps40
    go_wp2_with fail
    go_ret
    exact ⟨rfl, rfl⟩
  · have hq : ((x.length : Int) == 0) = false := by rw [beq_eq_false_iff_ne]; omega
    have hmd : (n : Int) % (x.length : Int) = ((n % x.length : Nat) : Int) := by push_cast; rfl
    have hml : n % x.length < x.length := Nat.mod_lt _ (Nat.pos_of_ne_zero h0)
    obtain ⟨b, o, rfl, hbb, hc⟩ : ∃ b o, a = some ⟨b, o, none⟩ ∧ b < w.heap.size ∧ w.cell? ⟨b, o + n % x.length, none⟩ = some (.int .u32 (x.getD (n % x.length) 0)) := by
      obtain ⟨a', c', e, -, h⟩ := HV.out
      simp only [Value.slice.injEq] at e
      obtain ⟨rfl, -, -⟩ := e
      rcases h with h | ⟨b, o, rfl, h1, h2⟩
      · rw [h] at h0; simp at h0
      · exact ⟨b, o, rfl, h1, h2 _ hml⟩
    rw [← HT.out] at hc
    clear HT HV
    generalize n % x.length = m at *
    go_enter Try.func40, Try.ntmps40
    go_wp2_with fail
    go_ret
    exact ⟨rfl, rfl⟩
set_option maxHeartbeats 4000000 in
theorem among49 (p : Int × Int) (n : Int) (w : World) (hp : -1000000000000000 ≤ p.1 ∧ p.1 ≤ p.2 ∧ p.2 ≤ 1000000000000000) (hn : 0 ≤ n) :
    Calls Try.prog 49 #[.agg #[.int .i64 p.1, .int .i64 p.2], .int .i64 n] w fun e w' => e = .returned (.int .i64 (amongV p n)) ∧ Below w.heap.size w w' := by
  have hin := amongV_in hp.2.1 n
  have HA : Hid (p.1 + n % (p.2 - p.1 + 1) = amongV p n) := rfl
  generalize amongV p n = A at *
  obtain ⟨x, y⟩ := p
  simp only at hp hin HA ⊢
  have hr1 := Int.emod_nonneg n (show y - x + 1 ≠ 0 by omega)
  have hr2 := Int.emod_lt_of_pos n (show 0 < y - x + 1 by omega)
  have C0 : Hid (Bs w [(w.heap.size, .cells #[.int .i64 x, .int .i64 y] 51)] _) := (Bs.nil w).push _ rfl (.cells #[.int .i64 x, .int .i64 y] 51)
  go_enter Try.func49, Try.ntmps49
  go_wp2_with fail
  refine wp_region_inv0 (by kernel_rfl) (by kernel_rfl) (fun D w' => Bs w [(w.heap.size, .cells #[.int .i64 x, .int .i64 y] 51)] w') C0.out.drew ?_
  apply obl_det
  case hrun =>
    intro D y wz hW hD R hR
    have HRR := Lib.hid hR
    clear hR
    have HW := Lib.hid hW
    clear hW hD
    go_wp2_with fail
    exact HRR.out _ HW.out
  case hnp => rfl
  case hv => first | exact ⟨_, fun _ => rfl⟩ | exact ⟨undef, fun _ => rfl⟩
  apply obl_det
  case hrun =>
    intro D y wz hW hD R hR
    have HRR := Lib.hid hR
    clear hR
    have HW := Lib.hid hW
    have h1 := HW.out.cell 0 rfl 0
    clear hW hD
    go_wp2_with fail
    exact HRR.out _ HW.out
  case hnp => rfl
  case hv => first | exact ⟨_, fun _ => rfl⟩ | exact ⟨undef, fun _ => rfl⟩
  apply obl_det
  case hrun =>
    intro D y wz hW hD R hR
    have HRR := Lib.hid hR
    clear hR
    have HW := Lib.hid hW
    clear hW hD
    go_wp2_with fail
    exact HRR.out _ HW.out
  case hnp => rfl
  case hv => first | exact ⟨_, fun _ => rfl⟩ | exact ⟨undef, fun _ => rfl⟩
  apply obl_det
  case hrun =>
    intro D y wz hW hD R hR
    have HRR := Lib.hid hR
    clear hR
    have HW := Lib.hid hW
    clear hW hD
    go_wp2_with fail
    exact HRR.out _ HW.out
  case hnp => rfl
  case hv => first | exact ⟨_, fun _ => rfl⟩ | exact ⟨undef, fun _ => rfl⟩
  apply obl_det
  case hrun =>
    intro D y wz hW hD R hR
    have HRR := Lib.hid hR
    clear hR
    have HW := Lib.hid hW
    have h1 := HW.out.cell 0 rfl 1
    clear hW hD
    go_wp2_with fail
    exact HRR.out _ HW.out
  case hnp => rfl
  case hv => first | exact ⟨_, fun _ => rfl⟩ | exact ⟨undef, fun _ => rfl⟩
  apply obl_det
  case hrun =>
    intro D y wz hW hD R hR
    have HRR := Lib.hid hR
    clear hR
    have HW := Lib.hid hW
    clear hW hD
    go_wp2_with fail
    exact HRR.out _ HW.out
  case hnp => rfl
  case hv => first | exact ⟨_, fun _ => rfl⟩ | exact ⟨undef, fun _ => rfl⟩
  apply obl_det
  case hrun =>
    intro D y wz hW hD R hR
    have HRR := Lib.hid hR
    clear hR
    have HW := Lib.hid hW
    have h1 := HW.out.cell 0 rfl 0
    clear hW hD
    go_wp2_with fail
    exact HRR.out _ HW.out
  case hnp => rfl
  case hv => first | exact ⟨_, fun _ => rfl⟩ | exact ⟨undef, fun _ => rfl⟩
  apply obl_det
  case hrun =>
    intro D y wz hW hD R hR
    have HRR := Lib.hid hR
    clear hR
    have HW := Lib.hid hW
    clear hW hD
    go_wp2_with fail
    exact HRR.out _ HW.out
  case hnp => rfl
  case hv => first | exact ⟨_, fun _ => rfl⟩ | exact ⟨undef, fun _ => rfl⟩
  apply obl_det
  case hrun =>
    intro D y wz hW hD R hR
    have HRR := Lib.hid hR
    clear hR
    have HW := Lib.hid hW
    clear hW hD
    go_wp2_with fail
    exact HRR.out _ HW.out
  case hnp => rfl
  case hv => first | exact ⟨_, fun _ => rfl⟩ | exact ⟨undef, fun _ => rfl⟩
  apply obl_det
  case hrun =>
    intro D y wz hW hD R hR
    have HRR := Lib.hid hR
    clear hR
    have HW := Lib.hid hW
    clear hW hD
    go_wp2_with fail
    exact HRR.out _ HW.out
  case hnp => rfl
  case hv => first | exact ⟨_, fun _ => rfl⟩ | exact ⟨undef, fun _ => rfl⟩
  apply obl_det
  case hrun =>
    intro D y wz hW hD R hR
    have HRR := Lib.hid hR
    clear hR
    have HW := Lib.hid hW
    clear hW hD
    go_wp2_with fail
    rw [HA.out]
    exact HRR.out _ HW.out
  case hnp => rfl
  case hv => first | exact ⟨_, fun _ => rfl⟩ | exact ⟨undef, fun _ => rfl⟩
  apply obl_det
  case hrun =>
    intro D y wz hW hD R hR
    have HRR := Lib.hid hR
    clear hR
    have HW := Lib.hid hW
    clear hW hD
    go_wp2_with fail
    exact HRR.out _ HW.out
  case hnp => rfl
  case hv => first | exact ⟨_, fun _ => rfl⟩ | exact ⟨undef, fun _ => rfl⟩
  apply obl_nil
  intro D y w8 hall hW
  have HB := Lib.hid hW.bel
  clear hall hW
  go_wp2_with fail
  go_ret
  exact ⟨rfl, HB.out⟩
/-- endsOf -/
theorem endsOf83 (l : List (Int × Int)) (most : Bool) (v : Value) (w : World) (hv : SpansIn w.heap.size w v l) (hl : l.length ≤ 100) :
    Calls Try.prog 83 #[v, .bool most] w fun e w' => ∃ u, e = .returned u ∧ IntsIn .i64 w'.heap.size w' u (l.map (sd most)) ∧ Below w.heap.size w w' := by
  have HE := Lib.hid (ends_ref l v w hv hl)
  unfold RetTwo at HE
  obtain ⟨a, c, rfl, -, -⟩ := sl_shape hv
  clear hv
  cases most
  · have e : l.map (sd false) = l.map Prod.fst := List.map_congr_left fun p _ => by simp [sd]
    rw [e]
    go_enter Try.func83, Try.ntmps83
    go_wp2_with fail
    refine HE.out.mono ?_
    rintro e w1 ⟨u, v, rfl, hu, hv, hb⟩
    have HU := Lib.hid hu
    have HB := Lib.hid hb
    clear hu hv hb
    go_wp2_with fail
    go_ret
    exact ⟨_, rfl, HU.out, HB.out⟩
  · have e : l.map (sd true) = l.map Prod.snd := List.map_congr_left fun p _ => by simp [sd]
    rw [e]
    go_enter Try.func83, Try.ntmps83
    go_wp2_with fail
    refine HE.out.mono ?_
    rintro e w1 ⟨u, v, rfl, hu, hv, hb⟩
    have HU := Lib.hid hv
    have HB := Lib.hid hb
    clear hu hv hb
    go_wp2_with fail
    go_ret
    exact ⟨_, rfl, HU.out, HB.out⟩
end Go.Proofs.Ytaigbhhmmdfdcaa
