/- stearinref05.Ints, Spans at two lists that are equal. -/
import Derived.Test.YtafdagjdpnaddaaW20
import Derived.BigQuiet
namespace Go.Proofs.Ytafdagjdpnaddaa
open Go.RowKit
set_option maxRecDepth 100000 in
set_option maxHeartbeats 4000000 in
theorem ints_same (l : List Int) (v u : Value) (w : World) (hv : IntsIn .i64 w.heap.size w v l) (hu : IntsIn .i64 w.heap.size w u l) : Calls Try.prog 22 #[v, u] w fun e w' => e = .returned (.bool true) ∧ Below w.heap.size w w' := by
  obtain ⟨a, c, rfl, hl, hv⟩ := hv
  obtain ⟨a2, c2, rfl, -, hu⟩ := hu
  have HV := Lib.hid hv
  have HU := Lib.hid hu
  clear hv hu
  have hq : ((l.length : Int) != (l.length : Int)) = false := by simp
  obtain ⟨n, hn⟩ : ∃ n, l.length = n := ⟨_, rfl⟩
  have HN := Lib.hid hn
  rw [hn] at hl hq ⊢
  clear hn
  go_enter Try.func22, Try.ntmps22
  go_wp2_with fail
  clear hq
  go_loopw [5] (fun kv wr => ∃ k : Nat, kv = .int .i64 k ∧ k ≤ n ∧ Below w.heap.size w wr) (fun kv _ => n - (intOf kv).toNat)
  case atStart => exact ⟨0, rfl, by omega, Below.refl _ _⟩
  case round =>
    obtain ⟨k, rfl, hk, hb⟩ := hrel
    have CB := Lib.hid hb
    clear hb
    by_cases hlt : k < n
    · have hnn := (HN.out : l.length = n)
      obtain ⟨b, o, rfl, hbb, hc⟩ := HV.out.resolve_left (by intro h; rw [h] at hnn; simp at hnn; omega)
      obtain ⟨b2, o2, rfl, hbb2, hc2⟩ := HU.out.resolve_left (by intro h; rw [h] at hnn; simp at hnn; omega)
      have h1 : wr.cell? ⟨b, o + k, none⟩ = some (.int .i64 (l.getD k 0)) := (CB.out.cell (p := ⟨b, o + k, none⟩) hbb).trans (hc k (by omega))
      have h2 : wr.cell? ⟨b2, o2 + k, none⟩ = some (.int .i64 (l.getD k 0)) := (CB.out.cell (p := ⟨b2, o2 + k, none⟩) hbb2).trans (hc2 k (by omega))
      clear hc hc2 hnn
      generalize l.getD k 0 = x at *
      have hq6 : (x != x) = false := by simp
      go_wp2_with fail
      go_quiet (fail)
      simp only [Exit.then]
      go_wp2_with fail
      refine ⟨⟨k + 1, by push_cast; rfl, by omega, ⟨CB.out.os, CB.out.tape, CB.out.output, CB.out.size, CB.out.block⟩⟩, ?_⟩
      simp [intOf]
      omega
    · obtain rfl : n = k := by omega
      go_wp2_with fail
      go_ret
      exact ⟨rfl, CB.out⟩
end Go.Proofs.Ytafdagjdpnaddaa
