/- A row of lots whose ranges are rows of their own; amid a lot of the law's shop. -/
import Derived.Test.YtohglbfeahofhaaGreatD12
import Derived.Test.YtohglbfeahofhaaGreatK4
import Derived.Test.YtohglbfeahofhaaGreatK6
namespace Go.Proofs.YtohglbfeahofhaaGreat
open Go.RowKit
theorem ownsRow_cells {w : World} {base n sz : Nat} {e : TypeId} {v : Value} {xs : List Value} (h : w.ownsRow base e sz v n xs) : (n = 0 ∧ ∃ a c, v = .slice a 0 c) ∨ ∃ b c, v = .slice (some ⟨b, 0, none⟩) n c ∧ base ≤ b ∧ b < w.heap.size ∧ n ≤ c ∧ (∀ j u, j < n * sz → xs[j]? = some u → w.cell? ⟨b, j, none⟩ = some u) ∧ ∃ cur, w.heap[b]? = some (.cells cur e) ∧ n * sz ≤ cur.size := by
  obtain ⟨hxl, h⟩ := h
  rcases h with ⟨rfl, h0⟩ | ⟨g, cap, cur, rfl, hb, hg, hn, hm, hc, ht⟩
  · exact .inl ⟨h0, by subst h0; exact ⟨_, _, rfl⟩⟩
  · refine .inr ⟨g, cap, rfl, hb, block_lt hg, hn, fun j u hj hu => ?_, cur, hg, ?_⟩
    · rw [cell_of_row w g _ _ _ _ hg]
      have e : (cur.toList.take (n * sz))[j]? = xs[j]? := by rw [ht]
      rw [List.getElem?_take, if_pos hj] at e
      rw [← Array.getElem?_toList, e, hu]
    · have e : (cur.toList.take (n * sz)).length = n * sz := by rw [ht]; exact hxl
      rw [List.length_take, Array.length_toList] at e
      omega
/-- The blocks of ranges are kept. -/
def K51 (W w : World) : Prop := ∀ (g : Nat) (cs : Array Value), W.heap[g]? = some (.cells cs 41) → w.heap[g]? = some (.cells cs 41)
theorem K51.refl (w : World) : K51 w w := fun _ _ h => h
theorem K51.trans {a b c : World} (h : K51 a b) (k : K51 b c) : K51 a c := fun g cs e => k g cs (h g cs e)
theorem K51.below {W w : World} (h : Below W.heap.size W w) : K51 W w := fun _ _ e => block_keep e h
theorem K51.but {W w : World} {g : Nat} (h : But g W w) {cs : Array Value} {t : TypeId} (hg : W.heap[g]? = some (.cells cs t)) (ht : t ≠ 41) : K51 W w := fun g' cs' e => (h.block g' (block_lt e) (by rintro rfl; rw [hg] at e; injection e with e; injection e with e1 e2; exact ht e2)).trans e
theorem K51.grown {W w : World} {base n sz : Nat} {e : TypeId} {v : Value} {xs : List Value} (ho : W.ownsRow base e sz v n xs) (hg : W.grownBy w v.ownBlock) (he : e ≠ 41) : K51 W w := fun _ _ h => grown_keep ho hg h (fun q => he q.symm)
theorem OwnSpans.k51 {base : Nat} {w w' : World} {v : Value} {l : List (Int × Int)} (h : OwnSpans base w v l) (hk : K51 w w') : OwnSpans base w' v l := by
  refine ⟨h.1, ?_⟩
  rcases h.2 with h0 | ⟨g, cap, cur, e, h1, h2, h3⟩
  · exact .inl h0
  · exact .inr ⟨g, cap, cur, e, h1, hk _ _ h2, h3⟩
theorem OwnSpans.le {base base' : Nat} {w : World} {v : Value} {l : List (Int × Int)} (h : OwnSpans base w v l) (hb : base' ≤ base) : OwnSpans base' w v l := ownsRow.le h hb
/-- A row of lots whose ranges are rows of their own. -/
structure LotRow (base : Nat) (w : World) (v : Value) (k : Nat) (xs : List Value) (nm : Nat → ByteArray) (f : Nat → List (Int × Int)) : Prop where
  row : w.ownsRow base 47 2 v k xs
  each : ∀ i, i < k → ∃ u, xs[i * 2]? = some (.string (nm i)) ∧ xs[i * 2 + 1]? = some u ∧ OwnSpans base w u (f i)
section
variable {base k : Nat} {w w' : World} {v v' u : Value} {xs : List Value} {nm : Nat → ByteArray} {f : Nat → List (Int × Int)}
theorem LotRow.nil (base : Nat) (w : World) : LotRow base w (.slice none 0 0) 0 [] nm f := ⟨World.ownsRow_nil _ _ 47 2, fun i h => by omega⟩
theorem LotRow.below (h : LotRow base w v k xs nm f) (hb : Below w.heap.size w w') : LotRow base w' v k xs nm f :=
  ⟨ownsRow.below h.row hb, fun i hi => by obtain ⟨u, h1, h2, h3⟩ := h.each i hi; exact ⟨u, h1, h2, ownsRow.below h3 hb⟩⟩
theorem LotRow.but (h : LotRow base w v k xs nm f) {g : Nat} (hb : But g w w') {cs : Array Value} {t : TypeId} (hg : w.heap[g]? = some (.cells cs t)) (h1 : t ≠ 47) (h2 : t ≠ 41) : LotRow base w' v k xs nm f :=
  ⟨ownsRow.but h.row hb hg h1, fun i hi => by obtain ⟨u, e1, e2, e3⟩ := h.each i hi; exact ⟨u, e1, e2, ownsRow.but e3 hb hg h2⟩⟩
theorem LotRow.more (h : LotRow base w v k xs nm f) (hown : w'.ownsRow base 47 2 v' (k + 1) (xs ++ [.string (nm k), u])) (hk : K51 w w') (hu : OwnSpans base w' u (f k)) : LotRow base w' v' (k + 1) (xs ++ [.string (nm k), u]) nm f := by
  have hx : xs.length = k * 2 := h.row.1
  refine ⟨hown, fun i hi => ?_⟩
  by_cases hik : i < k
  · obtain ⟨q, h1, h2, h4⟩ := h.each i hik
    refine ⟨q, ?_, ?_, h4.k51 hk⟩
    · rw [List.getElem?_append_left (by omega)]; exact h1
    · rw [List.getElem?_append_left (by omega)]; exact h2
  · obtain rfl : i = k := by omega
    refine ⟨u, ?_, ?_, hu⟩
    · rw [List.getElem?_append_right (by omega), hx, Nat.sub_self]; rfl
    · rw [List.getElem?_append_right (by omega), hx, show i * 2 + 1 - i * 2 = 1 by omega]; rfl
theorem LotRow.lots (h : LotRow base w v k xs nm f) (hk : k ≤ 1000) (hf : ∀ i, i < k → (f i).length ≤ 1000) (l : List Lot) (hl : l.length = k) (he : ∀ i, i < k → (l.getD i default).name = nm i ∧ (nm i).size ≤ 1000000000000000 ∧ (l.getD i default).parts = f i) : LotsIn w.heap.size w v l := by
  subst hl
  rcases ownsRow_cells h.row with ⟨h0, a, c, rfl⟩ | ⟨b, c, rfl, -, hb, hc, hj, -⟩
  · have : l = [] := List.eq_nil_of_length_eq_zero h0
    subst this
    exact ⟨a, c, rfl, by simp, by simp, .inl rfl⟩
  · refine ⟨_, c, rfl, by omega, hc, .inr ⟨b, 0, rfl, hb, fun i hi => ?_⟩⟩
    obtain ⟨u, h1, h2, h3⟩ := h.each i hi
    obtain ⟨e1, e2, e3⟩ := he i hi
    refine ⟨?_, by rw [e1]; exact e2, u, ?_, by rw [e3]; exact OwnSpans.spans h3 (hf i hi)⟩
    · rw [Nat.zero_add, e1]; exact hj _ _ (show i * 2 < l.length * 2 by omega) h1
    · rw [Nat.zero_add]; exact hj _ _ (show i * 2 + 1 < l.length * 2 by omega) h2
end
theorem info83' : ∃ i, Tryz.prog.info? 47 = some i ∧ i.zero = some (.agg #[.string ByteArray.empty, .slice none 0 0]) ∧ i.size = 2 ∧ i.bytes = 40 := by
  obtain ⟨i, h1, h2⟩ := Option.map_eq_some_iff.1 (show (Tryz.prog.info? 47).map (fun i => (i.zero, i.size, i.bytes)) = some (some (.agg #[.string ByteArray.empty, .slice none 0 0]), 2, 40) by kernel_rfl)
  simp only [Prod.mk.injEq] at h2
  exact ⟨i, h1, h2⟩
theorem fill83 (nm : ByteArray) (u : Value) (ie : TypeInfo) (hs : ie.size = 2) : Instr.fill (fun i => some (i * ie.size, ie.size)) ((Array.range (1 * ie.size)).map ((Value.agg #[.string ByteArray.empty, .slice none 0 0]).cells[· % (Value.agg #[.string ByteArray.empty, .slice none 0 0]).cells.size]!)) [(0, .agg #[.string nm, u])] = some #[.string nm, u] := by
  rw [hs]
  simp [Instr.fill, Value.cells, Array.range]
  try rfl
/-- Amid a lot of the finer shop. -/
structure FnW (W0 : World) (S : Nat × Obj) (G B : Nat) (ts R : Value) (i : Nat) (xs : List Value) (nm : Nat → ByteArray) (f : Nat → List (Int × Int)) (d16 d17 d18 d19 d21 : Bool) (y66 y67 y68 y69 : Value) (w : World) : Prop where
  bs : Bs W0 [S, (G, .cells #[ts, cond d21 y69 R] 39)] w
  hB : B ≤ w.heap.size
  hG : G < B
  hW : W0.heap.size ≤ B
  hS : S.1 < B
  row : d19 = false → LotRow B w R i xs nm f
  u : d16 = true → OwnSpans B w y66 (f i)
  b : d17 = true → y67 = .agg #[.string (nm i), y66]
  s : d18 = true → d19 = false → ∃ g, y68 = .slice (some ⟨g, 0, none⟩) 1 1 ∧ w.heap[g]? = some (.cells #[.string (nm i), y66] 47)
  got : d19 = true → LotRow B w y69 (i + 1) (xs ++ [.string (nm i), y66]) nm f
  i16 : d16 = false → d17 = false
  i17 : d17 = false → d18 = false
  i18 : d18 = false → d19 = false
  i19 : d19 = false → d21 = false
section
variable {W0 w w' : World} {S : Nat × Obj} {G B i : Nat} {ts R y66 y67 y68 y69 v v' : Value} {xs : List Value} {nm : Nat → ByteArray} {f : Nat → List (Int × Int)} {d16 d17 d18 d19 d21 : Bool}
theorem FnW.drew (h : FnW W0 S G B ts R i xs nm f d16 d17 d18 d19 d21 y66 y67 y68 y69 w) : FnW W0 S G B ts R i xs nm f d16 d17 d18 d19 d21 y66 y67 y68 y69 w.drew := by
  have hb : Below w.heap.size w w.drew := (Below.refl _ _).drew
  exact ⟨h.bs.call hb, Nat.le_trans h.hB hb.size, h.hG, h.hW, h.hS, fun e => (h.row e).below hb, fun e => ownsRow.below (h.u e) hb, h.b, fun a b => (by obtain ⟨g, e1, e2⟩ := h.s a b; exact ⟨g, e1, block_keep e2 hb⟩), fun e => (h.got e).below hb, h.i16, h.i17, h.i18, h.i19⟩
theorem FnW.put16 (h : FnW W0 S G B ts R i xs nm f false d17 d18 d19 d21 y66 y67 y68 y69 w) (hb : Below w.heap.size w w') (hu : OwnSpans B w' v (f i)) : FnW W0 S G B ts R i xs nm f true d17 d18 d19 d21 v y67 y68 y69 w' := by
  obtain rfl := h.i16 rfl
  obtain rfl := h.i17 rfl
  obtain rfl := h.i18 rfl
  obtain rfl := h.i19 rfl
  exact ⟨h.bs.call hb, Nat.le_trans h.hB hb.size, h.hG, h.hW, h.hS, fun e => (h.row e).below hb, fun _ => hu, fun e => (by cases e), fun e => (by cases e), fun e => (by cases e), fun _ => rfl, fun _ => rfl, fun _ => rfl, fun _ => rfl⟩
theorem FnW.put17 (h : FnW W0 S G B ts R i xs nm f true false d18 d19 d21 y66 y67 y68 y69 w) : FnW W0 S G B ts R i xs nm f true true d18 d19 d21 y66 (.agg #[.string (nm i), y66]) y68 y69 w :=
  ⟨h.bs, h.hB, h.hG, h.hW, h.hS, h.row, h.u, fun _ => rfl, h.s, h.got, fun e => (by cases e), fun e => (by cases e), h.i18, h.i19⟩
theorem FnW.put18 (h : FnW W0 S G B ts R i xs nm f d16 true false d19 d21 y66 y67 y68 y69 w) : FnW W0 S G B ts R i xs nm f d16 true true d19 d21 y66 y67 (.slice (some ⟨w.heap.size, 0, none⟩) 1 1) y69 (w.alloc (.cells #[.string (nm i), y66] 47)) := by
  obtain rfl := h.i18 rfl
  have hb := ba_allocB w (.cells #[.string (nm i), y66] 47)
  exact ⟨h.bs.call hb, Nat.le_trans h.hB hb.size, h.hG, h.hW, h.hS, fun e => (h.row e).below hb, fun e => ownsRow.below (h.u e) hb, h.b, fun _ _ => ⟨_, rfl, heap_alloc_new _ _⟩, fun e => (by cases e), h.i16, fun e => (by cases e), fun e => (by cases e), h.i19⟩
theorem FnW.put19 (h : FnW W0 S G B ts R i xs nm f true true true false d21 y66 y67 y68 y69 w) (hown : w'.ownsRow B 47 2 v' (i + 1) (xs ++ [.string (nm i), y66])) (hg : w.grownBy w' R.ownBlock) : FnW W0 S G B ts R i xs nm f true true true true d21 y66 y67 y68 v' w' := by
  obtain rfl := h.i19 rfl
  have hr := h.row rfl
  have hbl := grown_below hr.row hg (Nat.le_refl _) h.hB
  have hk : K51 w w' := K51.grown hr.row hg (by decide)
  have hu := (h.u rfl).k51 hk
  refine ⟨?_, Nat.le_trans h.hB hg.size, h.hG, h.hW, h.hS, fun e => (by cases e), fun _ => hu, h.b, fun _ e => (by cases e), fun _ => hr.more hown hk hu, h.i16, h.i17, fun e => (by cases e), fun e => (by cases e)⟩
  refine ⟨fun p hp => ?_, h.bs.inc, h.bs.ge, h.bs.bel.trans (hbl.mono h.hW)⟩
  have := h.bs.get' p hp
  refine (hbl.block p.1 ?_).trans this
  simp only [List.mem_cons, List.not_mem_nil, or_false] at hp
  rcases hp with rfl | rfl
  · exact h.hS
  · exact h.hG
theorem FnW.put21 (h : FnW W0 S G B ts R i xs nm f true true true true false y66 y67 y68 y69 w) (hC : Bs W0 [S, (G, .cells #[ts, y69] 39)] w') (hB : But G w w') : FnW W0 S G B ts R i xs nm f true true true true true y66 y67 y68 y69 w' := by
  have hg := h.bs.get 1 rfl
  exact ⟨hC, Nat.le_trans h.hB hB.size, h.hG, h.hW, h.hS, fun e => (by cases e), fun e => ownsRow.but (h.u e) hB hg (by decide), h.b, fun _ e => (by cases e), fun e => (h.got e).but hB hg (by decide) (by decide), h.i16, h.i17, h.i18, fun e => (by cases e)⟩
end
theorem run_buildLot (nm : ByteArray) (a : Option Addr) (n c : Nat) (w : World) : (Instr.build 47 #[(0, .string nm), (1, .slice a n c)]).run Tryz.prog w = .ok (.agg #[.string nm, .slice a n c]) w := run_build w 47 _ _ (by kernel_rfl)
theorem infoLots : (Tryz.prog.info? 37).map (·.size) = some 1 := by kernel_rfl
theorem made_span (w : World) : (Instr.makeSlice 45 (.int .i64 1) (.int .i64 1)).run Tryz.prog w = .ok (.slice (some ⟨w.heap.size, 0, none⟩) 1 1) (w.alloc (.cells #[.int .i64 0, .int .i64 0] 41)) := by
  obtain ⟨i, h1, h2⟩ := Option.map_eq_some_iff.1 (show (Tryz.prog.info? 41).map (fun i => (i.zero, i.size, i.bytes)) = some (some (.agg #[.int .i64 0, .int .i64 0]), 2, 16) by kernel_rfl)
  simp only [Prod.mk.injEq] at h2
  obtain ⟨h2, h3, h4⟩ := h2
  have := run_make w 45 41 i _ Tryz.underlying45 h1 h2 .i64 .i64 1 1 (by omega) (by omega) (by omega) (by omega)
  have e : madeCells (Value.agg #[.int .i64 0, .int .i64 0]).cells (Int.toNat 1 * 2) = #[.int .i64 0, .int .i64 0] := by kernel_rfl
  rw [this, h3, e]
  rfl
theorem own_span (B : Nat) (w : World) (h : B ≤ w.heap.size) : OwnSpans B (w.alloc (.cells #[.int .i64 0, .int .i64 0] 41)) (.slice (some ⟨w.heap.size, 0, none⟩) 1 1) [(0, 0)] :=
  ⟨rfl, .inr ⟨w.heap.size, 1, _, rfl, h, heap_alloc_new _ _, Nat.le_refl _, by decide, rfl, rfl⟩⟩
end Go.Proofs.YtohglbfeahofhaaGreat
