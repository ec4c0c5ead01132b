/- Rows of batches; what is laid by make. -/
import Derived.Test.YtaigbhhmmdfdcaaYa
namespace Go.Proofs.Ytaigbhhmmdfdcaa
open Go.RowKit
theorem info75' : ∃ i, Try.prog.info? 75 = some i ∧ i.zero = some (.agg #[.slice none 0 0, .slice none 0 0, .slice none 0 0]) ∧ i.size = 3 ∧ i.bytes = 72 := by
  obtain ⟨i, h1, h2⟩ := Option.map_eq_some_iff.1 (show (Try.prog.info? 75).map (fun i => (i.zero, i.size, i.bytes)) = some (some (.agg #[.slice none 0 0, .slice none 0 0, .slice none 0 0]), 3, 72) by kernel_rfl)
  simp only [Prod.mk.injEq] at h2
  exact ⟨i, h1, h2⟩
theorem info75 : (Try.prog.info? 75).map (·.size) = some 3 := by kernel_rfl
theorem wpList_bd {P : Program} {ops : Array Oper} {rest : List Oper} {o : Oper} {a : Act} {w : World} {Q : Exit → Act → World → Prop} (hg : o.guard = none) (t : TypeId) (parts : Array (Nat × Operand)) (ho : o.op = .build t parts) (m : Array (Nat × Value)) (hm : (parts.map fun x => (x.1, a.eval x.2)) = m) (cells : Array Value) (hb : (Instr.build t m).run P w = .ok (.agg cells) w)
    (h : wpList P ops Q rest (a.put o.dst (.agg cells)) w) : wpList P ops Q (o :: rest) a w := by
  refine wpList_plain hg fun K hK => ?_
  unfold Oper.wp execOp
  simp only [ho]
  rw [show (parts.map fun x => match x with | (i, x) => (i, a.eval x)) = m from hm]

  simp [hb, Result.andThen]
  exact hK _ _ h
/-- The words of batches that came in. -/
theorem bats_words {w0 : World} {a : Option Addr} {n c : Nat} {l : List Bat} (h : BatsIn w0.heap.size w0 (.slice a n c) l) (hn : l.length = n) (h1 : 1 ≤ n) :
    ∃ b o, a = some ⟨b, o, none⟩ ∧ b < w0.heap.size ∧ ∃ xs : List Value, xs.length = n * 3 ∧ (∀ j u, xs[j]? = some u → w0.cell? ⟨b, o + j, none⟩ = some u) ∧ (∀ u ∈ xs, u.oneCell' = true) ∧
      ∀ i, i < n → ∃ vg vb va, xs[i * 3]? = some vg ∧ xs[i * 3 + 1]? = some vb ∧ xs[i * 3 + 2]? = some va ∧ BatAt w0.heap.size w0 vg vb va (l.getD i default) := by
  obtain ⟨b, o, rfl, hbb, -⟩ := h.at' (show 0 < l.length by omega)
  have each : ∀ i, i < n → ∃ vg vb va, w0.cell? ⟨b, o + i * 3, none⟩ = some vg ∧ w0.cell? ⟨b, o + i * 3 + 1, none⟩ = some vb ∧ w0.cell? ⟨b, o + i * 3 + 2, none⟩ = some va ∧ BatAt w0.heap.size w0 vg vb va (l.getD i default) := fun i hi => by
    obtain ⟨b', o', he, -, vg, vb, va, g1, g2, g3, g4⟩ := h.at' (show i < l.length by omega)
    cases he
    exact ⟨vg, vb, va, g1, g2, g3, g4⟩
  have one : ∀ j, j < n * 3 → ∃ u, w0.cell? ⟨b, o + j, none⟩ = some u ∧ u.oneCell' = true := fun j hj => by
    obtain ⟨vg, vb, va, g1, g2, g3, g4⟩ := each (j / 3) (by omega)
    have hs1 : vg.oneCell' = true := by obtain ⟨x, y, rfl, -⟩ := g4.1; rfl
    have hs2 : vb.oneCell' = true := by obtain ⟨x, y, rfl, -⟩ := g4.2.1; rfl
    have hs3 : va.oneCell' = true := by obtain ⟨x, y, rfl, -⟩ := g4.2.2; rfl
    have hm : j % 3 = 0 ∨ j % 3 = 1 ∨ j % 3 = 2 := by omega
    rcases hm with hm | hm | hm
    · have e : o + j = o + j / 3 * 3 := by omega
      rw [e]; exact ⟨vg, g1, hs1⟩
    · have e : o + j = o + j / 3 * 3 + 1 := by omega
      rw [e]; exact ⟨vb, g2, hs2⟩
    · have e : o + j = o + j / 3 * 3 + 2 := by omega
      rw [e]; exact ⟨va, g3, hs3⟩
  have get : ∀ j, j < n * 3 → ((List.range (n * 3)).map fun j => (w0.cell? ⟨b, o + j, none⟩).getD undef)[j]? = w0.cell? ⟨b, o + j, none⟩ := fun j hj => by
    obtain ⟨u, hu, -⟩ := one j hj
    rw [List.getElem?_map, List.getElem?_range hj, hu]
    simp [hu]
  refine ⟨b, o, rfl, hbb, (List.range (n * 3)).map fun j => (w0.cell? ⟨b, o + j, none⟩).getD undef, by simp, fun j u hu => ?_, fun u hu => ?_, fun i hi => ?_⟩
  · have hj : j < n * 3 := by
      obtain ⟨h, -⟩ := List.getElem?_eq_some_iff.1 hu
      simpa using h
    rw [← get j hj]; exact hu
  · obtain ⟨j, hj, rfl⟩ := List.mem_map.1 hu
    obtain ⟨v, hv, h1⟩ := one j (List.mem_range.1 hj)
    rw [hv]; exact h1
  · obtain ⟨vg, vb, va, g1, g2, g3, g4⟩ := each i hi
    exact ⟨vg, vb, va, by rw [get _ (by omega)]; exact g1, by rw [get _ (by omega), ← Nat.add_assoc]; exact g2, by rw [get _ (by omega), ← Nat.add_assoc]; exact g3, g4⟩
/-- The cells of an own row. -/
theorem ownsRow_cells {w : World} {base n sz : Nat} {e : TypeId} {v : Value} {xs : List Value} (h : w.ownsRow base e sz v n xs) : (n = 0 ∧ ∃ a c, v = .slice a 0 c) ∨ ∃ b c, v = .slice (some ⟨b, 0, none⟩) n c ∧ base ≤ b ∧ b < w.heap.size ∧ n ≤ c ∧ (∀ j u, j < n * sz → xs[j]? = some u → w.cell? ⟨b, j, none⟩ = some u) ∧ ∃ cur, w.heap[b]? = some (.cells cur e) ∧ n * sz ≤ cur.size := by
  obtain ⟨hxl, h⟩ := h
  rcases h with ⟨rfl, h0⟩ | ⟨g, cap, cur, rfl, hb, hg, hn, hm, hc, ht⟩
  · exact .inl ⟨h0, by subst h0; exact ⟨_, _, rfl⟩⟩
  · refine .inr ⟨g, cap, rfl, hb, block_lt hg, hn, fun j u hj hu => ?_, cur, hg, ?_⟩
    · rw [cell_of_row w g _ _ _ _ hg]
      have e : (cur.toList.take (n * sz))[j]? = xs[j]? := by rw [ht]
      rw [List.getElem?_take, if_pos hj] at e
      rw [← Array.getElem?_toList, e, hu]
    · have e : (cur.toList.take (n * sz)).length = n * sz := by rw [ht]; exact hxl
      rw [List.length_take, Array.length_toList] at e
      omega
/-- A row of batches reads as batches. -/
theorem bats_of_row {w : World} {base n : Nat} {v : Value} {xs : List Value} {l : List Bat} (h : w.ownsRow base 75 3 v n xs) (hl : l.length = n) (hn : n ≤ 1000)
    (he : ∀ i, i < n → ∃ vg vb va, xs[i * 3]? = some vg ∧ xs[i * 3 + 1]? = some vb ∧ xs[i * 3 + 2]? = some va ∧ BatAt w.heap.size w vg vb va (l.getD i default)) : BatsIn w.heap.size w v l := by
  subst hl
  rcases ownsRow_cells h with ⟨h0, a, c, rfl⟩ | ⟨b, c, rfl, -, hb, hc, hj, -⟩
  · have : l = [] := List.eq_nil_of_length_eq_zero h0
    subst this
    exact ⟨a, c, rfl, by simp, by simp, .inl rfl⟩
  · refine ⟨_, c, rfl, by omega, hc, .inr ⟨b, 0, rfl, hb, fun i hi => ?_⟩⟩
    obtain ⟨vg, vb, va, g1, g2, g3, g4⟩ := he i hi
    refine ⟨vg, vb, va, ?_, ?_, ?_, g4⟩
    · rw [Nat.zero_add]; exact hj _ _ (show i * 3 < l.length * 3 by omega) g1
    · rw [Nat.zero_add]; exact hj _ _ (show i * 3 + 1 < l.length * 3 by omega) g2
    · rw [Nat.zero_add]; exact hj _ _ (show i * 3 + 2 < l.length * 3 by omega) g3
theorem bats_snoc {w : World} {base n : Nat} {v vg vb va : Value} {xs : List Value} {l : List Bat} {x : Bat} (h : w.ownsRow base 75 3 v (n + 1) (xs ++ [vg, vb, va])) (hl : l.length = n) (hn : n ≤ 900) (hx : xs.length = n * 3)
    (he : ∀ i, i < n → ∃ vg vb va, xs[i * 3]? = some vg ∧ xs[i * 3 + 1]? = some vb ∧ xs[i * 3 + 2]? = some va ∧ BatAt w.heap.size w vg vb va (l.getD i default)) (hb : BatAt w.heap.size w vg vb va x) : BatsIn w.heap.size w v (l ++ [x]) := by
  refine bats_of_row h (by simp [hl]) (by omega) fun i hi => ?_
  by_cases hin : i < n
  · obtain ⟨a, b, c, h1, h2, h3, h4⟩ := he i hin
    refine ⟨a, b, c, ?_, ?_, ?_, ?_⟩
    · rw [List.getElem?_append_left (by omega)]; exact h1
    · rw [List.getElem?_append_left (by omega)]; exact h2
    · rw [List.getElem?_append_left (by omega)]; exact h3
    · rw [List.getD_eq_getElem?_getD, List.getElem?_append_left (by omega), ← List.getD_eq_getElem?_getD]; exact h4
  · obtain rfl : i = n := by omega
    refine ⟨vg, vb, va, ?_, ?_, ?_, ?_⟩
    · rw [List.getElem?_append_right (by omega), hx, Nat.sub_self]; rfl
    · rw [List.getElem?_append_right (by omega), hx, show i * 3 + 1 - i * 3 = 1 by omega]; rfl
    · rw [List.getElem?_append_right (by omega), hx, show i * 3 + 2 - i * 3 = 2 by omega]; rfl
    · rw [List.getD_eq_getElem?_getD, List.getElem?_append_right (by omega), hl, Nat.sub_self]; exact hb
theorem ownsRow_fresh75 {w : World} {g base : Nat} (h : w.heap[g]? = some (.cells #[] 75)) (hb : base ≤ g) : w.ownsRow base 75 3 (.slice (some ⟨g, 0, none⟩) 0 0) 0 [] :=
  ⟨rfl, .inr ⟨g, 0, #[], rfl, hb, h, Nat.le_refl _, Nat.zero_le _, rfl, rfl⟩⟩
/-- Three slices are made, and a box of them, in any order. -/
structure MkW (W1 : World) (n1 n2 n3 : Nat) (dA dB dC dX dP dS : Bool) (yA yB yC yX yP : Value) (w : World) : Prop where
  bel : Below W1.heap.size W1 w
  a : dA = true → ∃ g, yA = .slice (some ⟨g, 0, none⟩) n1 n1 ∧ W1.heap.size ≤ g ∧ w.heap[g]? = some (.cells (ints (List.replicate n1 0)) 3)
  b : dB = true → ∃ g, yB = .slice (some ⟨g, 0, none⟩) n2 n2 ∧ W1.heap.size ≤ g ∧ w.heap[g]? = some (.cells (ints (List.replicate n2 0)) 3)
  ab : dA = true → dB = true → ∀ g g', yA = .slice (some ⟨g, 0, none⟩) n1 n1 → yB = .slice (some ⟨g', 0, none⟩) n2 n2 → g ≠ g'
  c : dC = true → ∃ g, yC = .slice (some ⟨g, 0, none⟩) n3 n3 ∧ W1.heap.size ≤ g ∧ w.heap[g]? = some (.cells (spCells (List.replicate n3 (0, 0))).toArray 51)
  x : dX = true → yX = .agg #[yA, yB, yC]
  p : dP = true → ∃ g, yP = .pointer (some ⟨g, 0, none⟩) ∧ W1.heap.size ≤ g ∧ w.heap[g]? = some (.cells (cond dS #[yA, yB, yC] #[.slice none 0 0, .slice none 0 0, .slice none 0 0]) 75)
section
variable {W1 w w' : World} {n1 n2 n3 : Nat} {dA dB dC dX dP dS : Bool} {yA yB yC yX yP : Value}
theorem addr_inj {g g' n m : Nat} (h : Value.slice (some ⟨g, 0, none⟩) n n = .slice (some ⟨g', 0, none⟩) m m) : g = g' := by cases h; rfl
theorem MkW.start (W1 : World) : MkW W1 n1 n2 n3 false false false false false false yA yB yC yX yP W1.drew := ⟨(Below.refl _ _).drew, fun h => (by cases h), fun h => (by cases h), fun h => (by cases h), fun h => (by cases h), fun h => (by cases h), fun h => (by cases h)⟩
theorem MkW.putA (h : MkW W1 n1 n2 n3 dA dB dC false dP false yA yB yC yX yP w) : MkW W1 n1 n2 n3 true dB dC false dP false (.slice (some ⟨w.heap.size, 0, none⟩) n1 n1) yB yC yX yP (w.alloc (.cells (ints (List.replicate n1 0)) 3)) := by
  have k : ∀ {g : Nat} {o : Obj}, w.heap[g]? = some o → (w.alloc (.cells (ints (List.replicate n1 0)) 3)).heap[g]? = some o := fun e => block_keep e (ba_allocB w _)
  refine ⟨h.bel.alloc h.bel.size _, fun _ => ⟨_, rfl, h.bel.size, heap_alloc_new _ _⟩, fun e => ?_, fun _ e g g' e1 e2 => ?_, fun e => ?_, fun e => (by cases e), fun e => ?_⟩
  · obtain ⟨g, h1, h2, h3⟩ := h.b e; exact ⟨g, h1, h2, k h3⟩
  · obtain ⟨gB, h1, -, h3⟩ := h.b e
    have q1 := addr_inj e1
    have q2 := addr_inj (h1.symm.trans e2)
    have := block_lt h3
    omega
  · obtain ⟨g, h1, h2, h3⟩ := h.c e; exact ⟨g, h1, h2, k h3⟩
  · obtain ⟨g, h1, h2, h3⟩ := h.p e; exact ⟨g, h1, h2, k h3⟩
theorem MkW.putB (h : MkW W1 n1 n2 n3 dA dB dC false dP false yA yB yC yX yP w) : MkW W1 n1 n2 n3 dA true dC false dP false yA (.slice (some ⟨w.heap.size, 0, none⟩) n2 n2) yC yX yP (w.alloc (.cells (ints (List.replicate n2 0)) 3)) := by
  have k : ∀ {g : Nat} {o : Obj}, w.heap[g]? = some o → (w.alloc (.cells (ints (List.replicate n2 0)) 3)).heap[g]? = some o := fun e => block_keep e (ba_allocB w _)
  refine ⟨h.bel.alloc h.bel.size _, fun e => ?_, fun _ => ⟨_, rfl, h.bel.size, heap_alloc_new _ _⟩, fun e _ g g' e1 e2 => ?_, fun e => ?_, fun e => (by cases e), fun e => ?_⟩
  · obtain ⟨g, h1, h2, h3⟩ := h.a e; exact ⟨g, h1, h2, k h3⟩
  · obtain ⟨gB, h1, -, h3⟩ := h.a e
    have q1 := addr_inj (h1.symm.trans e1)
    have q2 := addr_inj e2
    have := block_lt h3
    omega
  · obtain ⟨g, h1, h2, h3⟩ := h.c e; exact ⟨g, h1, h2, k h3⟩
  · obtain ⟨g, h1, h2, h3⟩ := h.p e; exact ⟨g, h1, h2, k h3⟩
theorem MkW.putC (h : MkW W1 n1 n2 n3 dA dB dC false dP false yA yB yC yX yP w) : MkW W1 n1 n2 n3 dA dB true false dP false yA yB (.slice (some ⟨w.heap.size, 0, none⟩) n3 n3) yX yP (w.alloc (.cells (spCells (List.replicate n3 (0, 0))).toArray 51)) := by
  have k : ∀ {g : Nat} {o : Obj}, w.heap[g]? = some o → (w.alloc (.cells (spCells (List.replicate n3 (0, 0))).toArray 51)).heap[g]? = some o := fun e => block_keep e (ba_allocB w _)
  refine ⟨h.bel.alloc h.bel.size _, fun e => ?_, fun e => ?_, h.ab, fun _ => ⟨_, rfl, h.bel.size, heap_alloc_new _ _⟩, fun e => (by cases e), fun e => ?_⟩
  · obtain ⟨g, h1, h2, h3⟩ := h.a e; exact ⟨g, h1, h2, k h3⟩
  · obtain ⟨g, h1, h2, h3⟩ := h.b e; exact ⟨g, h1, h2, k h3⟩
  · obtain ⟨g, h1, h2, h3⟩ := h.p e; exact ⟨g, h1, h2, k h3⟩
theorem MkW.putX (h : MkW W1 n1 n2 n3 dA dB dC dX dP dS yA yB yC yX yP w) : MkW W1 n1 n2 n3 dA dB dC true dP dS yA yB yC (.agg #[yA, yB, yC]) yP w := ⟨h.bel, h.a, h.b, h.ab, h.c, fun _ => rfl, h.p⟩
theorem MkW.putP (h : MkW W1 n1 n2 n3 dA dB dC dX dP false yA yB yC yX yP w) : MkW W1 n1 n2 n3 dA dB dC dX true false yA yB yC yX (.pointer (some ⟨w.heap.size, 0, none⟩)) (w.alloc (.cells #[.slice none 0 0, .slice none 0 0, .slice none 0 0] 75)) := by
  have k : ∀ {g : Nat} {o : Obj}, w.heap[g]? = some o → (w.alloc (.cells #[.slice none 0 0, .slice none 0 0, .slice none 0 0] 75)).heap[g]? = some o := fun e => block_keep e (ba_allocB w _)
  refine ⟨h.bel.alloc h.bel.size _, fun e => ?_, fun e => ?_, h.ab, fun e => ?_, h.x, fun _ => ⟨_, rfl, h.bel.size, heap_alloc_new _ _⟩⟩
  · obtain ⟨g, h1, h2, h3⟩ := h.a e; exact ⟨g, h1, h2, k h3⟩
  · obtain ⟨g, h1, h2, h3⟩ := h.b e; exact ⟨g, h1, h2, k h3⟩
  · obtain ⟨g, h1, h2, h3⟩ := h.c e; exact ⟨g, h1, h2, k h3⟩
theorem MkW.store (h : MkW W1 n1 n2 n3 dA dB dC dX dP false yA yB yC yX yP w) {g : Nat} (hp : yP = .pointer (some ⟨g, 0, none⟩)) (hg : w.heap[g]? = some (.cells #[.slice none 0 0, .slice none 0 0, .slice none 0 0] 75)) (hC : Bs W1 [(g, .cells #[yA, yB, yC] 75)] w') (hB : But g w w') : MkW W1 n1 n2 n3 dA dB dC dX dP true yA yB yC yX yP w' := by
  have k : ∀ {g' : Nat} {cs : Array Value} {t : TypeId}, t ≠ 75 → w.heap[g']? = some (.cells cs t) → w'.heap[g']? = some (.cells cs t) := fun ht e => (hB.block _ (block_lt e) (by rintro rfl; rw [hg] at e; cases e; exact ht rfl)).trans e
  refine ⟨hC.bel, fun e => ?_, fun e => ?_, h.ab, fun e => ?_, h.x, fun _ => ⟨g, hp, hC.le 0 rfl, hC.get 0 rfl⟩⟩
  · obtain ⟨g, h1, h2, h3⟩ := h.a e; exact ⟨g, h1, h2, k (by decide) h3⟩
  · obtain ⟨g, h1, h2, h3⟩ := h.b e; exact ⟨g, h1, h2, k (by decide) h3⟩
  · obtain ⟨g, h1, h2, h3⟩ := h.c e; exact ⟨g, h1, h2, k (by decide) h3⟩
end
/-- Batches are copied, and one more is appended, in any order. -/
structure AgW (W1 : World) (n : Nat) (olds : List Value) (cs : Array Value) (d1 d3 d5 d6 : Bool) (y1 y3 y5 y6 : Value) (w : World) : Prop where
  bel : Below W1.heap.size W1 w
  e : d1 = true → d3 = false → ∃ g, y1 = .slice (some ⟨g, 0, none⟩) 0 0 ∧ W1.heap.size ≤ g ∧ w.heap[g]? = some (.cells #[] 75)
  f : d3 = true → d6 = false → w.ownsRow W1.heap.size 75 3 y3 n olds
  b : d5 = true → d6 = false → ∃ g, y5 = .slice (some ⟨g, 0, none⟩) 1 1 ∧ W1.heap.size ≤ g ∧ w.heap[g]? = some (.cells cs 75)
  c : d6 = true → w.ownsRow W1.heap.size 75 3 y6 (n + 1) (olds ++ cs.toList)
section
variable {W1 w w' : World} {n : Nat} {olds : List Value} {cs : Array Value} {d1 d3 d5 d6 : Bool} {y1 y3 y5 y6 v' : Value}
theorem AgW.start (W1 : World) : AgW W1 n olds cs false false false false y1 y3 y5 y6 W1.drew := ⟨(Below.refl _ _).drew, fun h => (by cases h), fun h => (by cases h), fun h => (by cases h), fun h => (by cases h)⟩
theorem AgW.put1 (h : AgW W1 n olds cs d1 d3 d5 d6 y1 y3 y5 y6 w) : AgW W1 n olds cs true d3 d5 d6 (.slice (some ⟨w.heap.size, 0, none⟩) 0 0) y3 y5 y6 (w.alloc (.cells #[] 75)) :=
  ⟨h.bel.alloc h.bel.size _, fun _ _ => ⟨_, rfl, h.bel.size, heap_alloc_new _ _⟩, fun a b => ownsRow.below (h.f a b) (ba_allocB w _), fun a b => (by obtain ⟨g, h1, h2, h3⟩ := h.b a b; exact ⟨g, h1, h2, block_keep h3 (ba_allocB w _)⟩), fun a => ownsRow.below (h.c a) (ba_allocB w _)⟩
theorem AgW.put5 (h : AgW W1 n olds cs d1 d3 d5 d6 y1 y3 y5 y6 w) : AgW W1 n olds cs d1 d3 true d6 y1 y3 (.slice (some ⟨w.heap.size, 0, none⟩) 1 1) y6 (w.alloc (.cells cs 75)) :=
  ⟨h.bel.alloc h.bel.size _, fun a b => (by obtain ⟨g, h1, h2, h3⟩ := h.e a b; exact ⟨g, h1, h2, block_keep h3 (ba_allocB w _)⟩), fun a b => ownsRow.below (h.f a b) (ba_allocB w _), fun _ _ => ⟨_, rfl, h.bel.size, heap_alloc_new _ _⟩, fun a => ownsRow.below (h.c a) (ba_allocB w _)⟩
theorem AgW.own1 (h : AgW W1 n olds cs true false d5 d6 y1 y3 y5 y6 w) : w.ownsRow W1.heap.size 75 3 y1 0 [] := by
  obtain ⟨g, rfl, h2, h3⟩ := h.e rfl rfl
  exact ownsRow_fresh75 h3 h2
theorem AgW.put3 (hcs : cs ≠ #[]) (h : AgW W1 n olds cs true false d5 false y1 y3 y5 y6 w) (hown : w'.ownsRow W1.heap.size 75 3 v' n olds) (hg : w.grownBy w' y1.ownBlock) : AgW W1 n olds cs true true d5 false y1 v' y5 y6 w' := by
  obtain ⟨g, rfl, h2, h3⟩ := h.e rfl rfl
  have ho := h.own1
  refine ⟨h.bel.trans (grown_below ho hg (Nat.le_refl _) h.bel.size), fun _ e => (by cases e), fun _ _ => hown, fun a b => ?_, fun e => (by cases e)⟩
  obtain ⟨gb, e1, e2, e3⟩ := h.b a b
  refine ⟨gb, e1, e2, (hg.block gb (block_lt e3) ?_).trans e3⟩
  intro e
  have : g = gb := (show gb = g by simpa [Value.ownBlock] using e).symm
  subst this
  rw [h3] at e3
  cases e3
  exact hcs rfl
theorem AgW.put6 (h : AgW W1 n olds cs d1 true d5 false y1 y3 y5 y6 w) (hown : w'.ownsRow W1.heap.size 75 3 v' (n + 1) (olds ++ cs.toList)) (hg : w.grownBy w' y3.ownBlock) : AgW W1 n olds cs d1 true d5 true y1 y3 y5 v' w' :=
  ⟨h.bel.trans (grown_below (h.f rfl rfl) hg (Nat.le_refl _) h.bel.size), fun _ e => (by cases e), fun _ e => (by cases e), fun _ e => (by cases e), fun _ => hown⟩
theorem AgW.next (h : AgW W1 n olds cs d1 d3 d5 d6 y1 y3 y5 y6 w) (hb : Below w.heap.size w w') : AgW W1 n olds cs d1 d3 d5 d6 y1 y3 y5 y6 w' :=
  ⟨h.bel.trans (hb.mono h.bel.size), fun a b => (by obtain ⟨g, h1, h2, h3⟩ := h.e a b; exact ⟨g, h1, h2, block_keep h3 hb⟩), fun a b => ownsRow.below (h.f a b) hb, fun a b => (by obtain ⟨g, h1, h2, h3⟩ := h.b a b; exact ⟨g, h1, h2, block_keep h3 hb⟩), fun a => ownsRow.below (h.c a) hb⟩
end
theorem zeros_two : ∀ (m j : Nat), j < m * 2 → (spCells (List.replicate m (0, 0)))[j]? = some (.int .i64 0)
  | 0, j, hj => by omega
  | m + 1, 0, _ => rfl
  | m + 1, 1, _ => rfl
  | m + 1, j + 2, hj => by
    have := zeros_two m j (by omega)
    simpa [spCells, List.replicate_succ] using this
theorem made_two (n : Nat) : madeCells #[Value.int .i64 0, Value.int .i64 0] (n * 2) = (spCells (List.replicate n (0, 0))).toArray := by
  unfold madeCells
  apply Array.ext
  · simp [spCells, List.length_flatMap]
  · intro j h1 h2
    have hj : j < n * 2 := by simpa using h1
    have h3 := zeros_two n j hj
    have h4 : (spCells (List.replicate n (0, 0))).toArray[j] = .int .i64 0 := by
      rw [List.getElem_toArray]
      exact (List.getElem?_eq_some_iff.1 h3).2
    rw [h4]
    have : j % 2 = 0 ∨ j % 2 = 1 := by omega
    rcases this with h | h <;> simp [h]
theorem run_made54 (w : World) (n : Nat) (hn : n ≤ 1000) :
    (Instr.makeSlice 54 (.int .i64 n) (.int .i64 n)).run Try.prog w = .ok (.slice (some ⟨w.heap.size, 0, none⟩) n n) (w.alloc (.cells (spCells (List.replicate n (0, 0))).toArray 51)) := by
  obtain ⟨i, h2, h3, h4, h5⟩ := info51'
  have hb : (i.bytes : Int) * (n : Int) ≤ 16 * (n : Int) := Int.mul_le_mul_of_nonneg_right (by omega) (by omega)
  have := run_make w 54 51 i (.agg #[.int .i64 0, .int .i64 0]) Try.underlying54 h2 h3 .i64 .i64 n n (by omega) (by omega) (by omega) (by omega)
  rw [this, show (Value.agg #[.int .i64 0, .int .i64 0]).cells = #[.int .i64 0, .int .i64 0] from rfl, h4, Int.toNat_natCast, made_two]
end Go.Proofs.Ytaigbhhmmdfdcaa
