/- ScentLess: two boxes of a batch; two rows of batches that grow in one statement. -/
import Derived.Test.YtaigbhhmmdfdcaaYf
namespace Go.Proofs.Ytaigbhhmmdfdcaa
open Go.RowKit
theorem bat_funs {w0 : World} {a : Option Addr} {n c : Nat} {l : List Bat} (h : BatsIn w0.heap.size w0 (.slice a n c) l) (hn : l.length = n) (h1 : 1 ≤ n) :
    ∃ b o, a = some ⟨b, o, none⟩ ∧ b < w0.heap.size ∧ ∃ VG VB VA : Nat → Value, ∀ i, i < n → w0.cell? ⟨b, o + i * 3, none⟩ = some (VG i) ∧ w0.cell? ⟨b, o + i * 3 + 1, none⟩ = some (VB i) ∧ w0.cell? ⟨b, o + i * 3 + 2, none⟩ = some (VA i) ∧ BatAt w0.heap.size w0 (VG i) (VB i) (VA i) (l.getD i default) := by
  obtain ⟨b, o, rfl, hbb, -⟩ := h.at' (show 0 < l.length by omega)
  refine ⟨b, o, rfl, hbb, fun i => (w0.cell? ⟨b, o + i * 3, none⟩).getD undef, fun i => (w0.cell? ⟨b, o + i * 3 + 1, none⟩).getD undef, fun i => (w0.cell? ⟨b, o + i * 3 + 2, none⟩).getD undef, fun i hi => ?_⟩
  obtain ⟨b', o', he, -, vg, vb, va, g1, g2, g3, g4⟩ := h.at' (show i < l.length by omega)
  cases he
  have g1 : w0.cell? ⟨b, o + i * 3, none⟩ = some vg := g1
  have g2 : w0.cell? ⟨b, o + i * 3 + 1, none⟩ = some vb := g2
  have g3 : w0.cell? ⟨b, o + i * 3 + 2, none⟩ = some va := g3
  simp only [g1, g2, g3, Option.getD_some]
  exact ⟨trivial, trivial, trivial, g4⟩
abbrev nil3 : Array Value := #[.slice none 0 0, .slice none 0 0, .slice none 0 0]
/-- Two boxes of one batch are laid and filled, in any order. -/
structure TbW (W0 : World) (full : Array Value) (d8 d9 d10 d11 : Bool) (y12 y13 : Value) (w : World) : Prop where
  bel : Below W0.heap.size W0 w
  p : d8 = true → ∃ g, y12 = .pointer (some ⟨g, 0, none⟩) ∧ W0.heap.size ≤ g ∧ w.heap[g]? = some (.cells (cond d10 full #[.slice none 0 0, .slice none 0 0, .slice none 0 0]) 75)
  q : d9 = true → ∃ g, y13 = .pointer (some ⟨g, 0, none⟩) ∧ W0.heap.size ≤ g ∧ w.heap[g]? = some (.cells (cond d11 full #[.slice none 0 0, .slice none 0 0, .slice none 0 0]) 75)
  pq : d8 = true → d9 = true → y12 ≠ y13
section
variable {W0 w w' : World} {full : Array Value} {d8 d9 d10 d11 : Bool} {y12 y13 : Value}
theorem ptr_inj {g g' : Nat} (h : Value.pointer (some ⟨g, 0, none⟩) = .pointer (some ⟨g', 0, none⟩)) : g = g' := by cases h; rfl
theorem TbW.start (W0 : World) : TbW W0 full false false false false y12 y13 W0.drew := ⟨(Below.refl _ _).drew, fun h => (by cases h), fun h => (by cases h), fun h => (by cases h)⟩
theorem TbW.put8 (h : TbW W0 full d8 d9 false d11 y12 y13 w) : TbW W0 full true d9 false d11 (.pointer (some ⟨w.heap.size, 0, none⟩)) y13 (w.alloc (.cells #[.slice none 0 0, .slice none 0 0, .slice none 0 0] 75)) := by
  refine ⟨h.bel.alloc h.bel.size _, fun _ => ⟨_, rfl, h.bel.size, heap_alloc_new _ _⟩, fun e => ?_, fun _ e he => ?_⟩
  · obtain ⟨g, e1, e2, e3⟩ := h.q e; exact ⟨g, e1, e2, block_keep e3 (ba_allocB w _)⟩
  · obtain ⟨g, e1, e2, e3⟩ := h.q e
    rw [e1] at he
    have := ptr_inj he
    have := block_lt e3
    omega
theorem TbW.put9 (h : TbW W0 full d8 d9 d10 false y12 y13 w) : TbW W0 full d8 true d10 false y12 (.pointer (some ⟨w.heap.size, 0, none⟩)) (w.alloc (.cells #[.slice none 0 0, .slice none 0 0, .slice none 0 0] 75)) := by
  refine ⟨h.bel.alloc h.bel.size _, fun e => ?_, fun _ => ⟨_, rfl, h.bel.size, heap_alloc_new _ _⟩, fun e _ he => ?_⟩
  · obtain ⟨g, e1, e2, e3⟩ := h.p e; exact ⟨g, e1, e2, block_keep e3 (ba_allocB w _)⟩
  · obtain ⟨g, e1, e2, e3⟩ := h.p e
    rw [e1] at he
    have := ptr_inj he
    have := block_lt e3
    omega
theorem TbW.store10 (h : TbW W0 full true true false d11 y12 y13 w) {g : Nat} (hp : y12 = .pointer (some ⟨g, 0, none⟩)) (hC : Bs W0 [(g, .cells full 75)] w') (hB : But g w w') : TbW W0 full true true true d11 y12 y13 w' := by
  refine ⟨hC.bel, fun _ => ⟨g, hp, hC.le 0 rfl, hC.get 0 rfl⟩, fun e => ?_, h.pq⟩
  obtain ⟨g', e1, e2, e3⟩ := h.q e
  refine ⟨g', e1, e2, (hB.block g' (block_lt e3) ?_).trans e3⟩
  rintro rfl
  exact h.pq rfl rfl (hp.trans e1.symm)
theorem TbW.store11 (h : TbW W0 full true true d10 false y12 y13 w) {g : Nat} (hp : y13 = .pointer (some ⟨g, 0, none⟩)) (hC : Bs W0 [(g, .cells full 75)] w') (hB : But g w w') : TbW W0 full true true d10 true y12 y13 w' := by
  refine ⟨hC.bel, fun e => ?_, fun _ => ⟨g, hp, hC.le 0 rfl, hC.get 0 rfl⟩, h.pq⟩
  obtain ⟨g', e1, e2, e3⟩ := h.p e
  refine ⟨g', e1, e2, (hB.block g' (block_lt e3) ?_).trans e3⟩
  rintro rfl
  exact h.pq rfl rfl (e1.trans hp.symm)
end
/-- Two rows of batches, amid a statement that makes both longer by the contents of two boxes. -/
structure RgW (B : Nat) (W3 W1 : World) (G2 G3 : Nat) (tv lv : Value) (k : Nat) (xs ys : List Value) (VG VB : Nat → Value) (fT fL : Nat → List (Int × Int)) (uT uL : Value) (d2 d3 d6 d7 d8 d9 : Bool) (y2 y3 y6 y7 y8 y9 : Value) (w : World) : Prop where
  low : Below B W3 w
  hB : B ≤ w.heap.size
  h1 : W1.heap.size ≤ w.heap.size
  lt : (∀ g, tv.ownBlock = some g → g < W1.heap.size ∧ g ≠ G2 ∧ g ≠ G3) ∧ (∀ g, lv.ownBlock = some g → g < W1.heap.size ∧ g ≠ G2 ∧ g ≠ G3) ∧ G2 < W1.heap.size ∧ G3 < W1.heap.size
  k51 : K51 W1 w
  b2 : w.heap[G2]? = some (.cells #[VG k, VB k, uT] 75)
  b3 : w.heap[G3]? = some (.cells #[VG k, VB k, uL] 75)
  t : d3 = false → BatRow B w tv k xs VG VB fT
  l : d7 = false → BatRow B w lv k ys VG VB fL
  ne : ∀ g, tv.ownBlock = some g → lv.ownBlock ≠ some g
  s1 : d2 = true → d3 = false → ∃ b, y2 = .slice (some ⟨b, 0, none⟩) 1 1 ∧ w.heap[b]? = some (.cells #[VG k, VB k, uT] 75)
  s2 : d6 = true → d7 = false → ∃ b, y6 = .slice (some ⟨b, 0, none⟩) 1 1 ∧ W1.heap.size ≤ b ∧ w.heap[b]? = some (.cells #[VG k, VB k, uL] 75)
  gT : d3 = true → BatRow B w y3 (k + 1) (xs ++ [VG k, VB k, uT]) VG VB fT ∧ ∀ g, y3.ownBlock = some g → g ≠ G2 ∧ g ≠ G3 ∧ lv.ownBlock ≠ some g
  gL : d7 = true → BatRow B w y7 (k + 1) (ys ++ [VG k, VB k, uL]) VG VB fL ∧ ∀ g, y3.ownBlock = some g → y7.ownBlock ≠ some g
  o8 : d8 = false → y8 = tv
  n8 : d8 = true → y8 = y3
  o9 : d9 = false → y9 = lv
  n9 : d9 = true → y9 = y7
section
variable {B : Nat} {W3 W1 w w' : World} {G2 G3 : Nat} {tv lv : Value} {k : Nat} {xs ys : List Value} {VG VB : Nat → Value} {fT fL : Nat → List (Int × Int)} {uT uL : Value} {d2 d3 d6 d7 d8 d9 : Bool} {y2 y3 y6 y7 y8 y9 : Value}
theorem RgW.next (h : RgW B W3 W1 G2 G3 tv lv k xs ys VG VB fT fL uT uL d2 d3 d6 d7 d8 d9 y2 y3 y6 y7 y8 y9 w) (hb : Below w.heap.size w w') : RgW B W3 W1 G2 G3 tv lv k xs ys VG VB fT fL uT uL d2 d3 d6 d7 d8 d9 y2 y3 y6 y7 y8 y9 w' :=
  ⟨h.low.trans (hb.mono h.hB), Nat.le_trans h.hB hb.size, Nat.le_trans h.h1 hb.size, h.lt, h.k51.trans (K51.below hb), block_keep h.b2 hb, block_keep h.b3 hb, fun e => (h.t e).below hb, fun e => (h.l e).below hb, h.ne,
    fun a b => (by obtain ⟨g, e1, e2⟩ := h.s1 a b; exact ⟨g, e1, block_keep e2 hb⟩), fun a b => (by obtain ⟨g, e1, e2, e3⟩ := h.s2 a b; exact ⟨g, e1, e2, block_keep e3 hb⟩), fun e => ⟨(h.gT e).1.below hb, (h.gT e).2⟩, fun e => ⟨(h.gL e).1.below hb, (h.gL e).2⟩, h.o8, h.n8, h.o9, h.n9⟩
theorem RgW.put2 (h : RgW B W3 W1 G2 G3 tv lv k xs ys VG VB fT fL uT uL d2 d3 d6 d7 d8 d9 y2 y3 y6 y7 y8 y9 w) : RgW B W3 W1 G2 G3 tv lv k xs ys VG VB fT fL uT uL true d3 d6 d7 d8 d9 (.slice (some ⟨w.heap.size, 0, none⟩) 1 1) y3 y6 y7 y8 y9 (w.alloc (.cells #[VG k, VB k, uT] 75)) := by
  have h' := h.next (ba_allocB w (.cells #[VG k, VB k, uT] 75))
  exact ⟨h'.low, h'.hB, h'.h1, h'.lt, h'.k51, h'.b2, h'.b3, h'.t, h'.l, h'.ne, fun _ _ => ⟨_, rfl, heap_alloc_new _ _⟩, h'.s2, h'.gT, h'.gL, h'.o8, h'.n8, h'.o9, h'.n9⟩
theorem RgW.put6 (h : RgW B W3 W1 G2 G3 tv lv k xs ys VG VB fT fL uT uL d2 d3 d6 d7 d8 d9 y2 y3 y6 y7 y8 y9 w) : RgW B W3 W1 G2 G3 tv lv k xs ys VG VB fT fL uT uL d2 d3 true d7 d8 d9 y2 y3 (.slice (some ⟨w.heap.size, 0, none⟩) 1 1) y7 y8 y9 (w.alloc (.cells #[VG k, VB k, uL] 75)) := by
  have h' := h.next (ba_allocB w (.cells #[VG k, VB k, uL] 75))
  exact ⟨h'.low, h'.hB, h'.h1, h'.lt, h'.k51, h'.b2, h'.b3, h'.t, h'.l, h'.ne, h'.s1, fun _ _ => ⟨_, rfl, h.h1, heap_alloc_new _ _⟩, h'.gT, h'.gL, h'.o8, h'.n8, h'.o9, h'.n9⟩
theorem RgW.put3 (h : RgW B W3 W1 G2 G3 tv lv k xs ys VG VB fT fL uT uL true false d6 false false d9 y2 y3 y6 y7 y8 y9 w) {g cap : Nat} (hu : OwnSpans B w uT (fT k)) (hown : w'.ownsRow B 75 3 (.slice (some ⟨g, 0, none⟩) (k + 1) cap) (k + 1) (xs ++ [VG k, VB k, uT])) (hg : w.grownBy w' tv.ownBlock) (hgg : tv.ownBlock = some g ∨ g = w.heap.size) :
    RgW B W3 W1 G2 G3 tv lv k xs ys VG VB fT fL uT uL true true d6 false false d9 y2 (.slice (some ⟨g, 0, none⟩) (k + 1) cap) y6 y7 y8 y9 w' := by
  have hr := h.t rfl
  have hl := h.l rfl
  have kk : K51 w w' := K51.grown hr.row hg (by decide)
  have keep : ∀ {q : Nat} {o : Obj}, tv.ownBlock ≠ some q → w.heap[q]? = some o → w'.heap[q]? = some o := fun hq e => (hg.block _ (block_lt e) (fun e' => hq e'.symm)).trans e
  have n2 : tv.ownBlock ≠ some G2 := fun e => (h.lt.1 _ e).2.1 rfl
  have n3 : tv.ownBlock ≠ some G3 := fun e => (h.lt.1 _ e).2.2 rfl
  refine ⟨h.low.grown hg h.hB (fun q e => (World.ownsRow.lt hr.row q e).1), Nat.le_trans h.hB hg.size, Nat.le_trans h.h1 hg.size, h.lt, h.k51.trans kk, keep n2 h.b2, keep n3 h.b3, fun e => (by cases e), fun _ => ⟨ownsRow.grownP hl.row hg (fun q e1 e2 => h.ne q e2 e1), fun i hi => by obtain ⟨u, e1, e2, e3, e4⟩ := hl.each i hi; exact ⟨u, e1, e2, e3, e4.k51 kk⟩⟩, h.ne, fun _ e => (by cases e), fun a b => ?_, fun _ => ⟨hr.more hown kk (hu.k51 kk), fun q e => ?_⟩, fun e => (by cases e), h.o8, fun e => (by cases e), h.o9, h.n9⟩
  · obtain ⟨b, e1, e2, e3⟩ := h.s2 a b
    exact ⟨b, e1, e2, keep (fun e => by have := (h.lt.1 _ e).1; omega) e3⟩
  · have eg : g = q := by simpa [Value.ownBlock] using e
    subst eg
    rcases hgg with e1 | e1
    · exact ⟨(h.lt.1 _ e1).2.1, (h.lt.1 _ e1).2.2, h.ne g e1⟩
    · have a1 := h.lt.2.2.1
      have a2 := h.lt.2.2.2
      have a3 := h.h1
      exact ⟨by omega, by omega, fun e2 => by have := (h.lt.2.1 _ e2).1; omega⟩
theorem RgW.put7 (h : RgW B W3 W1 G2 G3 tv lv k xs ys VG VB fT fL uT uL d2 true true false d8 false y2 y3 y6 y7 y8 y9 w) {g cap : Nat} (hu : OwnSpans B w uL (fL k)) (hown : w'.ownsRow B 75 3 (.slice (some ⟨g, 0, none⟩) (k + 1) cap) (k + 1) (ys ++ [VG k, VB k, uL])) (hg : w.grownBy w' lv.ownBlock) (hgg : lv.ownBlock = some g ∨ g = w.heap.size) :
    RgW B W3 W1 G2 G3 tv lv k xs ys VG VB fT fL uT uL d2 true true true d8 false y2 y3 y6 (.slice (some ⟨g, 0, none⟩) (k + 1) cap) y8 y9 w' := by
  obtain ⟨hr, hne⟩ := h.gT rfl
  have hl := h.l rfl
  have kk : K51 w w' := K51.grown hl.row hg (by decide)
  have keep : ∀ {q : Nat} {o : Obj}, lv.ownBlock ≠ some q → w.heap[q]? = some o → w'.heap[q]? = some o := fun hq e => (hg.block _ (block_lt e) (fun e' => hq e'.symm)).trans e
  have n2 : lv.ownBlock ≠ some G2 := fun e => (h.lt.2.1 _ e).2.1 rfl
  have n3 : lv.ownBlock ≠ some G3 := fun e => (h.lt.2.1 _ e).2.2 rfl
  refine ⟨h.low.grown hg h.hB (fun q e => (World.ownsRow.lt hl.row q e).1), Nat.le_trans h.hB hg.size, Nat.le_trans h.h1 hg.size, h.lt, h.k51.trans kk, keep n2 h.b2, keep n3 h.b3, fun e => (by cases e), fun e => (by cases e), h.ne, fun _ e => (by cases e), fun _ e => (by cases e), fun _ => ⟨⟨ownsRow.grownP hr.row hg (fun q e1 e2 => (hne q e1).2.2 e2), fun i hi => by obtain ⟨u, e1, e2, e3, e4⟩ := hr.each i hi; exact ⟨u, e1, e2, e3, e4.k51 kk⟩⟩, hne⟩, fun _ => ⟨hl.more hown kk (hu.k51 kk), fun q e e2 => ?_⟩, h.o8, h.n8, h.o9, fun e => (by cases e)⟩
  have eg : g = q := by simpa [Value.ownBlock] using e2
  subst eg
  rcases hgg with e1 | e1
  · exact (hne g e).2.2 e1
  · have := (World.ownsRow.lt hr.row g e).2
    omega
theorem RgW.put8 (h : RgW B W3 W1 G2 G3 tv lv k xs ys VG VB fT fL uT uL d2 true d6 d7 d8 d9 y2 y3 y6 y7 y8 y9 w) : RgW B W3 W1 G2 G3 tv lv k xs ys VG VB fT fL uT uL d2 true d6 d7 true d9 y2 y3 y6 y7 y3 y9 w :=
  ⟨h.low, h.hB, h.h1, h.lt, h.k51, h.b2, h.b3, h.t, h.l, h.ne, h.s1, h.s2, h.gT, h.gL, fun e => (by cases e), fun _ => rfl, h.o9, h.n9⟩
theorem RgW.put9 (h : RgW B W3 W1 G2 G3 tv lv k xs ys VG VB fT fL uT uL d2 d3 d6 true d8 d9 y2 y3 y6 y7 y8 y9 w) : RgW B W3 W1 G2 G3 tv lv k xs ys VG VB fT fL uT uL d2 d3 d6 true d8 true y2 y3 y6 y7 y8 y7 w :=
  ⟨h.low, h.hB, h.h1, h.lt, h.k51, h.b2, h.b3, h.t, h.l, h.ne, h.s1, h.s2, h.gT, h.gL, h.o8, h.n8, fun e => (by cases e), fun _ => rfl⟩
end
end Go.Proofs.Ytaigbhhmmdfdcaa
