/- Amid the statement 'when := When(m, truth)'. -/
import Derived.Test.YtafdagjdpnaddaaP18
import Derived.Test.YtafdagjdpnaddaaW32
import Derived.Test.YtafdagjdpnaddaaAW
namespace Go.Proofs.Ytafdagjdpnaddaa
open Go.RowKit
theorem info58 : (Try.prog.info? 58).map (·.size) = some 2 := by kernel_rfl
/-- What holds amid the statement. -/
structure WhW (wb : World) (p ws wl : List Int) (d3 d4 d5 : Bool) (y3 y4 y5 : Value) (w : World) : Prop where
  bel : Below wb.heap.size wb w
  t : d3 = true → ∃ v1 v2, y3 = .agg #[v1, v2] ∧ IntsIn .i64 w.heap.size w v1 p ∧ IntsIn .i64 w.heap.size w v2 ws
  n : d4 = true → IntsIn .i64 w.heap.size w y4 wl
  a : d5 = true → y5 = y4
section
variable {wb w w' : World} {p ws wl : List Int} {d3 d4 d5 : Bool} {y3 y4 y5 x v1 v2 : Value}
theorem WhW.start (wb : World) : WhW wb p ws wl false false false y3 y4 y5 wb.drew := ⟨(Below.refl _ _).drew, fun h => (by cases h), fun h => (by cases h), fun h => (by cases h)⟩
theorem WhW.next (h : WhW wb p ws wl d3 d4 d5 y3 y4 y5 w) (hb : Below w.heap.size w w') : WhW wb p ws wl d3 d4 d5 y3 y4 y5 w' :=
  ⟨h.bel.trans (hb.mono h.bel.size), fun e => by obtain ⟨a, b, h1, h2, h3⟩ := h.t e; exact ⟨a, b, h1, h2.next hb, h3.next hb⟩, fun e => (h.n e).next hb, h.a⟩
theorem WhW.put3 (h : WhW wb p ws wl d3 d4 d5 y3 y4 y5 w) (h1 : IntsIn .i64 w.heap.size w v1 p) (h2 : IntsIn .i64 w.heap.size w v2 ws) : WhW wb p ws wl true d4 d5 (.agg #[v1, v2]) y4 y5 w := ⟨h.bel, fun _ => ⟨v1, v2, rfl, h1, h2⟩, h.n, h.a⟩
theorem WhW.put4 (h : WhW wb p ws wl d3 d4 d5 y3 y4 y5 w) (hd : d5 = false) (h1 : IntsIn .i64 w.heap.size w x wl) : WhW wb p ws wl d3 true d5 y3 x y5 w := ⟨h.bel, h.t, fun _ => h1, fun e => by rw [hd] at e; cases e⟩
theorem WhW.put5 (h : WhW wb p ws wl d3 d4 d5 y3 y4 y5 w) : WhW wb p ws wl d3 d4 true y3 y4 y4 w := ⟨h.bel, h.t, h.n, fun _ => rfl⟩
end
end Go.Proofs.Ytafdagjdpnaddaa
