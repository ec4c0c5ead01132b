/- Amid the statement 'first, last := When(m, Same(m, false, ..)), When(m, Same(m, true, ..))'. -/
import Derived.Test.YtafdagjdpnaddaaQ1
namespace Go.Proofs.Ytafdagjdpnaddaa
open Go.RowKit
/-- What holds amid the statement. -/
structure EnW (wb : World) (m : Mou) (d1 d2 d3 d4 d5 d6 : Bool) (y1 y2 y3 y4 y5 y6 : Value) (w : World) : Prop where
  bel : Below wb.heap.size wb w
  s1 : d1 = true → ∃ v1 v2, y1 = .agg #[v1, v2] ∧ IntsIn .i64 w.heap.size w v1 (sameP m false) ∧ IntsIn .i64 w.heap.size w v2 (sameW m false 600)
  n1 : d2 = true → IntsIn .i64 w.heap.size w y2 (endsL m false)
  s2 : d3 = true → ∃ v1 v2, y3 = .agg #[v1, v2] ∧ IntsIn .i64 w.heap.size w v1 (sameP m true) ∧ IntsIn .i64 w.heap.size w v2 (sameW m true 600)
  n2 : d4 = true → IntsIn .i64 w.heap.size w y4 (endsL m true)
  a1 : d5 = true → y5 = y2
  a2 : d6 = true → y6 = y4
section
variable {wb w w' : World} {m : Mou} {d1 d2 d3 d4 d5 d6 : Bool} {y1 y2 y3 y4 y5 y6 x v1 v2 : Value}
theorem EnW.start (wb : World) : EnW wb m false false false false false false y1 y2 y3 y4 y5 y6 wb.drew := ⟨(Below.refl _ _).drew, fun h => (by cases h), fun h => (by cases h), fun h => (by cases h), fun h => (by cases h), fun h => (by cases h), fun h => (by cases h)⟩
theorem EnW.next (h : EnW wb m d1 d2 d3 d4 d5 d6 y1 y2 y3 y4 y5 y6 w) (hb : Below w.heap.size w w') : EnW wb m d1 d2 d3 d4 d5 d6 y1 y2 y3 y4 y5 y6 w' :=
  ⟨h.bel.trans (hb.mono h.bel.size), fun e => by obtain ⟨a, b, h1, h2, h3⟩ := h.s1 e; exact ⟨a, b, h1, h2.next hb, h3.next hb⟩, fun e => (h.n1 e).next hb, fun e => by obtain ⟨a, b, h1, h2, h3⟩ := h.s2 e; exact ⟨a, b, h1, h2.next hb, h3.next hb⟩, fun e => (h.n2 e).next hb, h.a1, h.a2⟩
theorem EnW.put1 (h : EnW wb m d1 d2 d3 d4 d5 d6 y1 y2 y3 y4 y5 y6 w) (h1 : IntsIn .i64 w.heap.size w v1 (sameP m false)) (h2 : IntsIn .i64 w.heap.size w v2 (sameW m false 600)) : EnW wb m true d2 d3 d4 d5 d6 (.agg #[v1, v2]) y2 y3 y4 y5 y6 w := ⟨h.bel, fun _ => ⟨v1, v2, rfl, h1, h2⟩, h.n1, h.s2, h.n2, h.a1, h.a2⟩
theorem EnW.put3 (h : EnW wb m d1 d2 d3 d4 d5 d6 y1 y2 y3 y4 y5 y6 w) (h1 : IntsIn .i64 w.heap.size w v1 (sameP m true)) (h2 : IntsIn .i64 w.heap.size w v2 (sameW m true 600)) : EnW wb m d1 d2 true d4 d5 d6 y1 y2 (.agg #[v1, v2]) y4 y5 y6 w := ⟨h.bel, h.s1, h.n1, fun _ => ⟨v1, v2, rfl, h1, h2⟩, h.n2, h.a1, h.a2⟩
theorem EnW.put2 (h : EnW wb m d1 d2 d3 d4 d5 d6 y1 y2 y3 y4 y5 y6 w) (hd : d5 = false) (h1 : IntsIn .i64 w.heap.size w x (endsL m false)) : EnW wb m d1 true d3 d4 d5 d6 y1 x y3 y4 y5 y6 w := ⟨h.bel, h.s1, fun _ => h1, h.s2, h.n2, fun e => (by rw [hd] at e; cases e), h.a2⟩
theorem EnW.put4 (h : EnW wb m d1 d2 d3 d4 d5 d6 y1 y2 y3 y4 y5 y6 w) (hd : d6 = false) (h1 : IntsIn .i64 w.heap.size w x (endsL m true)) : EnW wb m d1 d2 d3 true d5 d6 y1 y2 y3 x y5 y6 w := ⟨h.bel, h.s1, h.n1, h.s2, fun _ => h1, h.a1, fun e => by rw [hd] at e; cases e⟩
theorem EnW.put5 (h : EnW wb m d1 d2 d3 d4 d5 d6 y1 y2 y3 y4 y5 y6 w) : EnW wb m d1 d2 d3 d4 true d6 y1 y2 y3 y4 y2 y6 w := ⟨h.bel, h.s1, h.n1, h.s2, h.n2, fun _ => rfl, h.a2⟩
theorem EnW.put6 (h : EnW wb m d1 d2 d3 d4 d5 d6 y1 y2 y3 y4 y5 y6 w) : EnW wb m d1 d2 d3 d4 d5 true y1 y2 y3 y4 y5 y4 w := ⟨h.bel, h.s1, h.n1, h.s2, h.n2, h.a1, fun _ => rfl⟩
end
/-- When at the truth on one side. -/
theorem when_side {m : Mou} (hm : Valid m) (hot : Bool) (w : World) (v1 v2 : Value) (h1 : IntsIn .i64 w.heap.size w v1 (sameP m hot)) (h2 : IntsIn .i64 w.heap.size w v2 (sameW m hot 600)) :
    Calls Try.prog 40 #[.agg #[.int .i64 m.rings, .int .i64 m.give, .int .i64 m.pl, .int .i64 m.ph, .int .i64 m.wl, .int .i64 m.wh, .int .i64 m.set, .int .i64 m.shrink, .int .i64 m.skin, .int .i64 m.fill, .int .i64 m.gap, .int .i64 m.deep], .agg #[v1, v2]] w (RetI (endsL m hot) w) := by
  have hl : (sameP m hot).length = m.rings.toNat := by simp [sameP]
  have hpf : Fits2 0 2000 (sameP m hot) := fun i hi => by
    rw [hl] at hi
    have := hm.p0
    have := hm.pp
    have := hm.p2
    cases hot <;> simp [sameP, List.getD, hi] <;> omega
  have hwf : Fits2 0 2000 (sameW m hot 600) := fun i hi => by
    unfold sameW at hi ⊢
    rw [List.length_replicate] at hi
    have := hm.w0
    have := hm.ww
    have := hm.w2
    cases hot <;> simp only [List.getD_eq_getElem?_getD, List.getElem?_replicate, if_pos hi, Option.getD_some] <;> simp <;> omega
  exact when_ref m hm.g1 hm.g5 v1 v2 _ _ w h1 h2 (by rw [hl]; have := hm.r1; omega) (by rw [hl]; have := hm.r8; omega) hpf (by unfold sameW; rw [List.length_replicate]; omega) hwf
end Go.Proofs.Ytafdagjdpnaddaa
