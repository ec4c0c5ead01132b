/- Batches are copied, one is appended, and Content is called, in any order. -/
import Derived.Test.YtaigbhhmmdfdcaaYb
import Derived.Test.YtaigbhhmmdfdcaaCw
namespace Go.Proofs.Ytaigbhhmmdfdcaa
open Go.RowKit
theorem addr_add (b o j : Nat) : ((⟨b, o, none⟩ : Addr).add j) = ⟨b, o + j, none⟩ := by
  unfold Addr.add
  split
  · rename_i h; subst h; rfl
  · rfl
theorem CalW.none {wb w : World} {PA PB : World → Value → Prop} {E yA yB yM yX yS : Value} (h : Below wb.heap.size wb w) : CalW wb PA PB E false false false false false yA yB yM yX yS w := ⟨h, fun h => (by cases h), fun h => (by cases h), fun h => (by cases h), fun h => (by cases h), fun h => (by cases h)⟩
structure AgC (W1 : World) (n : Nat) (olds : List Value) (cs : Array Value) (T : List (List (Int × Int))) (d1 d3 d5 d6 d7 d8 d9 d11 : Bool) (y1 y3 y5 y6 yB yM yX yS : Value) (w : World) : Prop where
  ag : AgW W1 n olds cs d1 d3 d5 d6 y1 y3 y5 y6 w
  cal : d6 = true → CalW W1 IsAny (IsTable T) (.int .i64 0) false d7 d8 d9 d11 undef yB yM yX yS w
  i3 : d3 = false → d6 = false
  i5 : d5 = false → d6 = false
  i6 : d6 = false → d7 = false ∧ d8 = false ∧ d9 = false ∧ d11 = false
section
variable {W1 w w' : World} {n : Nat} {olds : List Value} {cs : Array Value} {T : List (List (Int × Int))} {d1 d3 d5 d6 d7 d8 d9 d11 : Bool} {y1 y3 y5 y6 yB yM yX yS v v' : Value}
theorem AgC.start (W1 : World) : AgC W1 n olds cs T false false false false false false false false y1 y3 y5 y6 yB yM yX yS W1.drew :=
  ⟨AgW.start _, fun h => (by cases h), fun _ => rfl, fun _ => rfl, fun _ => ⟨rfl, rfl, rfl, rfl⟩⟩
theorem AgC.bel (h : AgC W1 n olds cs T d1 d3 d5 d6 d7 d8 d9 d11 y1 y3 y5 y6 yB yM yX yS w) : Below W1.heap.size W1 w := h.ag.bel
theorem AgC.put1 (h : AgC W1 n olds cs T d1 false d5 d6 d7 d8 d9 d11 y1 y3 y5 y6 yB yM yX yS w) : AgC W1 n olds cs T true false d5 d6 d7 d8 d9 d11 (.slice (some ⟨w.heap.size, 0, none⟩) 0 0) y3 y5 y6 yB yM yX yS (w.alloc (.cells #[] 75)) :=
  ⟨h.ag.put1, fun e => (by rw [h.i3 rfl] at e; cases e), h.i3, h.i5, h.i6⟩
theorem AgC.own1 (h : AgC W1 n olds cs T true false d5 d6 d7 d8 d9 d11 y1 y3 y5 y6 yB yM yX yS w) : w.ownsRow W1.heap.size 75 3 y1 0 [] := h.ag.own1
theorem AgC.put3 (hcs : cs ≠ #[]) (h : AgC W1 n olds cs T true false d5 d6 d7 d8 d9 d11 y1 y3 y5 y6 yB yM yX yS w) (hown : w'.ownsRow W1.heap.size 75 3 v' n olds) (hg : w.grownBy w' y1.ownBlock) : AgC W1 n olds cs T true true d5 d6 d7 d8 d9 d11 y1 v' y5 y6 yB yM yX yS w' := by
  obtain rfl := h.i3 rfl
  exact ⟨AgW.put3 hcs h.ag hown hg, fun e => (by cases e), fun _ => rfl, fun _ => rfl, h.i6⟩
theorem AgC.put5 (h : AgC W1 n olds cs T d1 d3 false d6 d7 d8 d9 d11 y1 y3 y5 y6 yB yM yX yS w) : AgC W1 n olds cs T d1 d3 true d6 d7 d8 d9 d11 y1 y3 (.slice (some ⟨w.heap.size, 0, none⟩) 1 1) y6 yB yM yX yS (w.alloc (.cells cs 75)) :=
  ⟨h.ag.put5, fun e => (by rw [h.i5 rfl] at e; cases e), h.i3, fun e => (by cases e), h.i6⟩
theorem AgC.put6 (h : AgC W1 n olds cs T d1 true true false d7 d8 d9 d11 y1 y3 y5 y6 yB yM yX yS w) (hown : w'.ownsRow W1.heap.size 75 3 v' (n + 1) (olds ++ cs.toList)) (hg : w.grownBy w' y3.ownBlock) : AgC W1 n olds cs T d1 true true true d7 d8 d9 d11 y1 y3 y5 v' yB yM yX yS w' := by
  obtain ⟨rfl, rfl, rfl, rfl⟩ := h.i6 rfl
  have := AgW.put6 h.ag hown hg
  exact ⟨this, fun _ => CalW.none this.bel, fun e => (by cases e), fun e => (by cases e), fun e => (by cases e)⟩
theorem AgC.done (h : AgC W1 n olds cs T d1 d3 d5 d6 d7 d8 d9 d11 y1 y3 y5 y6 yB yM yX yS w) (hd : d7 = true ∨ d8 = true ∨ d9 = true ∨ d11 = true) : d6 = true := by
  cases d6
  · obtain ⟨rfl, rfl, rfl, rfl⟩ := h.i6 rfl
    simp at hd
  · rfl
theorem AgC.putB (h : AgC W1 n olds cs T d1 d3 d5 true d7 d8 d9 d11 y1 y3 y5 y6 yB yM yX yS w) (hb : Below w.heap.size w w') (hv : IsTable T w' v) : AgC W1 n olds cs T d1 d3 d5 true true d8 d9 d11 y1 y3 y5 y6 (.tuple #[v, .int .i64 0]) yM yX yS w' :=
  ⟨h.ag.next hb, fun _ => (CalW.next stab_any (stab_table _) (h.cal rfl) hb).putB hv, h.i3, h.i5, fun e => (by cases e)⟩
theorem AgC.putM (h : AgC W1 n olds cs T d1 d3 d5 d6 true d8 d9 d11 y1 y3 y5 y6 yB yM yX yS w) : AgC W1 n olds cs T d1 d3 d5 d6 true true d9 d11 y1 y3 y5 y6 yB yB yX yS w := by
  obtain rfl := h.done (.inl rfl)
  exact ⟨h.ag, fun _ => (h.cal rfl).putM rfl, h.i3, h.i5, fun e => (by cases e)⟩
theorem AgC.m (h : AgC W1 n olds cs T d1 d3 d5 d6 d7 true d9 d11 y1 y3 y5 y6 yB yM yX yS w) : ∃ tv, yM = .tuple #[tv, .int .i64 0] ∧ IsTable T w tv := (h.cal (h.done (.inr (.inl rfl)))).m rfl
theorem AgC.putX (h : AgC W1 n olds cs T d1 d3 d5 d6 d7 true d9 d11 y1 y3 y5 y6 yB yM yX yS w) (hv : IsTable T w v) : AgC W1 n olds cs T d1 d3 d5 d6 d7 true true d11 y1 y3 y5 y6 yB yM v yS w := by
  obtain rfl := h.done (.inr (.inl rfl))
  exact ⟨h.ag, fun _ => (h.cal rfl).putX hv, h.i3, h.i5, fun e => (by cases e)⟩
theorem AgC.putS (h : AgC W1 n olds cs T d1 d3 d5 d6 d7 d8 true d11 y1 y3 y5 y6 yB yM yX yS w) : AgC W1 n olds cs T d1 d3 d5 d6 d7 d8 true true y1 y3 y5 y6 yB yM yX yX w := by
  obtain rfl := h.done (.inr (.inr (.inl rfl)))
  exact ⟨h.ag, fun _ => (h.cal rfl).putS rfl, h.i3, h.i5, fun e => (by cases e)⟩
theorem AgC.s (h : AgC W1 n olds cs T d1 d3 d5 d6 d7 d8 d9 true y1 y3 y5 y6 yB yM yX yS w) : IsTable T w yS := (h.cal (h.done (.inr (.inr (.inr rfl))))).s rfl
end
end Go.Proofs.Ytaigbhhmmdfdcaa
