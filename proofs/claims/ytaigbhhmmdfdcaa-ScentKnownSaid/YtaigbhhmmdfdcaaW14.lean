/- Rows of ints, of ranges, of tables that a call makes; slices.Clone; Content. -/
import Derived.Test.YtaigbhhmmdfdcaaW13
namespace Go.Proofs.Ytaigbhhmmdfdcaa
open Go.RowKit
/-- A slice of so many elements has room for them. -/
theorem ownsRow_ints {w : World} {base : Nat} {v : Value} {l : List Int} (h : w.ownsRow base 3 1 v l.length (l.map (Value.int .i64))) (hl : l.length ≤ 1000) : IntsIn .i64 w.heap.size w v l ∧ ∃ a c, v = .slice a l.length c ∧ l.length ≤ c := by
  obtain ⟨_, h⟩ := h
  rcases h with ⟨rfl, h0⟩ | ⟨g, cap, cur, rfl, hb, hg, hn, hm, hc, ht⟩
  · have : l = [] := List.eq_nil_of_length_eq_zero h0
    subst this
    exact ⟨⟨none, 0, rfl, by simp, .inl rfl⟩, none, 0, rfl, by simp⟩
  · refine ⟨⟨_, cap, rfl, by omega, .inr ⟨g, 0, rfl, block_lt hg, fun i hi => ?_⟩⟩, _, cap, rfl, hn⟩
    rw [cell_of_row w g _ _ _ _ hg, Nat.zero_add]
    have hlt : i < cur.size := by omega
    have e : (cur.toList.take (l.length * 1))[i]? = (l.map (Value.int .i64))[i]? := by rw [ht]
    rw [List.getElem?_take, if_pos (by omega), List.getElem?_map, List.getElem?_eq_getElem hi] at e
    rw [← Array.getElem?_toList, e, List.getD_eq_getElem?_getD, List.getElem?_eq_getElem hi]; rfl
theorem info3' : ∃ i, Try.prog.info? 3 = some i ∧ i.zero = some (.int .i64 0) ∧ i.size = 1 ∧ i.bytes = 8 := by
  obtain ⟨i, h1, h2⟩ := Option.map_eq_some_iff.1 (show (Try.prog.info? 3).map (fun i => (i.zero, i.size, i.bytes)) = some (some (.int .i64 0), 1, 8) by kernel_rfl)
  simp only [Prod.mk.injEq] at h2
  exact ⟨i, h1, h2⟩
theorem one_int (x : Int) : ∀ u ∈ [Value.int .i64 x], u.oneCell' = true := fun u hu => by simp at hu; subst hu; rfl
/-- A row of ints that the call owns. -/
def OwnInts (base : Nat) (w : World) (v : Value) (l : List Int) : Prop := w.ownsRow base 3 1 v l.length (l.map (Value.int .i64))
theorem OwnInts.ints {base : Nat} {w : World} {v : Value} {l : List Int} (h : OwnInts base w v l) (hl : l.length ≤ 1000) : IntsIn .i64 w.heap.size w v l := (ownsRow_ints h hl).1
def spCells (l : List (Int × Int)) : List Value := l.flatMap fun p => [.int .i64 p.1, .int .i64 p.2]
theorem spCells_snoc (l : List (Int × Int)) (p : Int × Int) : spCells (l ++ [p]) = spCells l ++ [.int .i64 p.1, .int .i64 p.2] := by simp [spCells]
theorem spCells_at : ∀ (l : List (Int × Int)) (i : Nat), i < l.length → (spCells l)[i * 2]? = some (.int .i64 (l.getD i (0, 0)).1) ∧ (spCells l)[i * 2 + 1]? = some (.int .i64 (l.getD i (0, 0)).2)
  | [], i, h => by simp at h
  | p :: l, 0, _ => by simp [spCells]
  | p :: l, i + 1, h => by
    have := spCells_at l i (by simpa using h)
    have e : spCells (p :: l) = .int .i64 p.1 :: .int .i64 p.2 :: spCells l := rfl
    rw [e, show (i + 1) * 2 = i * 2 + 1 + 1 by omega]
    simpa using this
theorem ownsRow_spans {w : World} {base : Nat} {v : Value} {l : List (Int × Int)} (h : w.ownsRow base 51 2 v l.length (spCells l)) (hl : l.length ≤ 1000) : SpansIn w.heap.size w v l := by
  obtain ⟨_, h⟩ := h
  rcases h with ⟨rfl, h0⟩ | ⟨g, cap, cur, rfl, hb, hg, hn, hm, hc, ht⟩
  · have : l = [] := List.eq_nil_of_length_eq_zero h0
    subst this
    exact ⟨none, 0, rfl, by simp, by simp, .inl rfl⟩
  · have each : ∀ j u, j < l.length * 2 → (spCells l)[j]? = some u → w.cell? ⟨g, 0 + j, none⟩ = some u := by
      intro j u hj hu
      rw [cell_of_row w g _ _ _ _ hg, Nat.zero_add]
      have e : (cur.toList.take (l.length * 2))[j]? = (spCells l)[j]? := by rw [ht]
      rw [List.getElem?_take, if_pos hj] at e
      rw [← Array.getElem?_toList, e, hu]
    refine ⟨_, cap, rfl, by omega, hn, .inr ⟨g, 0, rfl, block_lt hg, fun i hi => ⟨each (i * 2) _ (by omega) (spCells_at l i hi).1, ?_⟩⟩⟩
    have := each (i * 2 + 1) _ (by omega) (spCells_at l i hi).2
    rw [← Nat.add_assoc] at this
    exact this
theorem info51' : ∃ i, Try.prog.info? 51 = some i ∧ i.zero = some (.agg #[.int .i64 0, .int .i64 0]) ∧ i.size = 2 ∧ i.bytes = 16 := by
  obtain ⟨i, h1, h2⟩ := Option.map_eq_some_iff.1 (show (Try.prog.info? 51).map (fun i => (i.zero, i.size, i.bytes)) = some (some (.agg #[.int .i64 0, .int .i64 0]), 2, 16) by kernel_rfl)
  simp only [Prod.mk.injEq] at h2
  exact ⟨i, h1, h2⟩

/-- A row of spans that the call owns. -/
def OwnSpans (base : Nat) (w : World) (v : Value) (l : List (Int × Int)) : Prop := w.ownsRow base 51 2 v l.length (spCells l)
theorem OwnSpans.spans {base : Nat} {w : World} {v : Value} {l : List (Int × Int)} (h : OwnSpans base w v l) (hl : l.length ≤ 1000) : SpansIn w.heap.size w v l := ownsRow_spans h hl
def RetSp (l : List (Int × Int)) (w : World) (e : Ending) (w' : World) : Prop := ∃ v, e = .returned v ∧ OwnSpans w.heap.size w' v l ∧ Below w.heap.size w w'
theorem two_ints (x y : Int) : ∀ u ∈ [Value.int .i64 x, .int .i64 y], u.oneCell' = true := fun u hu => by simp at hu; rcases hu with rfl | rfl <;> rfl
theorem info54' : ∃ i, Try.prog.info? 54 = some i ∧ i.zero = some (.slice none 0 0) ∧ i.size = 1 ∧ i.bytes = 24 := by
  obtain ⟨i, h1, h2⟩ := Option.map_eq_some_iff.1 (show (Try.prog.info? 54).map (fun i => (i.zero, i.size, i.bytes)) = some (some (.slice none 0 0), 1, 24) by kernel_rfl)
  simp only [Prod.mk.injEq] at h2
  exact ⟨i, h1, h2⟩
/-- A row of lists of ranges. -/
structure OwnTable (base : Nat) (w : World) (v : Value) (n : Nat) (us : List Value) (f : Nat → List (Int × Int)) : Prop where
  len : us.length = n
  row : w.ownsRow base 54 1 v n us
  each : ∀ i, i < n → OwnSpans base w (us.getD i .nilFunc) (f i)
theorem ownsRow.grown2 {w w' : World} {base base' sz n sz' n' : Nat} {e e' : TypeId} {v v' : Value} {xs xs' : List Value} (h : w.ownsRow base e sz v n xs) (ho : w.ownsRow base' e' sz' v' n' xs') (hg : w.grownBy w' v'.ownBlock) (hne : e ≠ e') : w'.ownsRow base e sz v n xs := by
  refine ⟨h.1, ?_⟩
  rcases h.2 with h0 | ⟨b, cap, cur, rfl, h1, h2, h3⟩
  · exact .inl h0
  · exact .inr ⟨b, cap, cur, rfl, h1, grown_keep ho hg h2 hne, h3⟩
theorem OwnTable.call {base : Nat} {w w' : World} {v : Value} {n : Nat} {us : List Value} {f : Nat → List (Int × Int)} (h : OwnTable base w v n us f) (hb : Below w.heap.size w w') : OwnTable base w' v n us f :=
  ⟨h.len, ownsRow.below h.row hb, fun i hi => ownsRow.below (h.each i hi) hb⟩
theorem OwnTable.more {base : Nat} {w w' : World} {v v' u : Value} {n : Nat} {us : List Value} {f : Nat → List (Int × Int)} (h : OwnTable base w v n us f) (hu : OwnSpans base w u (f n)) (hown : w'.ownsRow base 54 1 v' (n + 1) (us ++ [u])) (hg : w.grownBy w' v.ownBlock) :
    OwnTable base w' v' (n + 1) (us ++ [u]) f := by
  refine ⟨by simp [h.len], hown, fun i hi => ?_⟩
  by_cases hin : i < n
  · have e : (us ++ [u]).getD i .nilFunc = us.getD i .nilFunc := by
      rw [List.getD_eq_getElem?_getD, List.getElem?_append_left (by rw [h.len]; exact hin), List.getD_eq_getElem?_getD]
    rw [e]
    exact ownsRow.grown2 (h.each i hin) h.row hg (by decide)
  · obtain rfl : i = n := by omega
    have e : (us ++ [u]).getD i .nilFunc = u := by
      rw [List.getD_eq_getElem?_getD, List.getElem?_append_right (by rw [h.len]; exact Nat.le_refl _), h.len, Nat.sub_self]
      rfl
    rw [e]
    exact ownsRow.grown2 hu h.row hg (by decide)
theorem OwnTable.table {base : Nat} {w : World} {v : Value} {n : Nat} {us : List Value} {f : Nat → List (Int × Int)} (h : OwnTable base w v n us f) (hn : n ≤ 1000) (hf : ∀ i, i < n → (f i).length ≤ 1000) (l : List (List (Int × Int))) (hl : l.length = n) (he : ∀ i, i < n → l.getD i [] = f i) : TableIn w.heap.size w v l := by
  subst hl
  obtain ⟨_, h2⟩ := h.row
  rcases h2 with ⟨rfl, h0⟩ | ⟨g, cap, cur, rfl, hb, hg, hnn, hm, hc, ht⟩
  · have : l = [] := List.eq_nil_of_length_eq_zero h0
    subst this
    exact ⟨none, 0, rfl, by simp, by simp, .inl rfl⟩
  · refine ⟨_, cap, rfl, by omega, hnn, .inr ⟨g, 0, rfl, block_lt hg, fun i hi => ⟨us.getD i .nilFunc, ?_, ?_⟩⟩⟩
    · have e : (cur.toList.take (l.length * 1))[i]? = us[i]? := by rw [ht]
      rw [List.getElem?_take, if_pos (by omega)] at e
      show w.cell? ⟨g, 0 + i * 1, none⟩ = _
      rw [cell_of_row w g _ _ _ _ hg, Nat.zero_add, Nat.mul_one, ← Array.getElem?_toList, e, List.getD_eq_getElem?_getD, List.getElem?_eq_getElem (by rw [h.len]; exact hi)]
      rfl
    · have := (h.each i hi).spans (by have := hf i hi; omega)
      rw [← he i hi] at this
      exact this
theorem addr_add2 {g o j : Nat} : ((⟨g, o, none⟩ : Addr).add j) = ⟨g, o + j, none⟩ := by unfold Addr.add; split <;> simp_all
theorem spCells_length (l : List (Int × Int)) : (spCells l).length = l.length * 2 := by
  induction l with
  | nil => rfl
  | cons p l ih => rw [show spCells (p :: l) = .int .i64 p.1 :: .int .i64 p.2 :: spCells l from rfl]; simp [ih]; omega
theorem spCells_one (l : List (Int × Int)) : ∀ u ∈ spCells l, u.oneCell' = true := by
  intro u hu
  simp only [spCells, List.mem_flatMap] at hu
  obtain ⟨p, -, hp⟩ := hu
  exact two_ints _ _ u hp
theorem ownsRow_fresh51 (w : World) : (w.alloc (.cells #[] 51)).ownsRow w.heap.size 51 2 (.slice (some ⟨w.heap.size, 0, none⟩) 0 0) 0 [] :=
  ⟨rfl, .inr ⟨w.heap.size, 0, #[], rfl, Nat.le_refl _, heap_alloc_new _ _, Nat.le_refl _, Nat.zero_le _, rfl, rfl⟩⟩
set_option maxRecDepth 100000 in
set_option maxHeartbeats 4000000 in
/-- slices.Clone at ranges that lie in a row. -/
theorem clone_any (l : List (Int × Int)) (hl : l.length ≤ 1000) (b off c : Nat) (w : World) (hb : b < w.heap.size)
    (hc : ∀ i, i < l.length → w.cell? ⟨b, off + i * 2, none⟩ = some (.int .i64 (l.getD i (0, 0)).1) ∧ w.cell? ⟨b, off + i * 2 + 1, none⟩ = some (.int .i64 (l.getD i (0, 0)).2)) :
    Calls Try.prog 66 #[.slice (some ⟨b, off, none⟩) l.length c] w (RetSp l w) := by
  have HC := Lib.hid hc
  have HM := Lib.hid (spCells_length l)
  have H1 := Lib.hid (spCells_one l)
  have HAT := Lib.hid (spCells_at l)
  clear hc
  obtain ⟨n, hn⟩ : ∃ n, l.length = n := ⟨_, rfl⟩
  have HN := Lib.hid hn
  rw [hn] at hl HM ⊢
  clear hn
  obtain ⟨i0, hi0, hz0, hz1, hz2⟩ := info51'
  have HI0 := Lib.hid hi0
  have HZ0 := Lib.hid hz0
  have HZ1 := Lib.hid hz1
  have HZ2 := Lib.hid hz2
  clear hi0 hz0 hz1 hz2
  have hnews : Hid (∀ j u, (spCells l)[j]? = some u → (w.alloc (.cells #[] 51)).cell? ((⟨b, off, none⟩ : Addr).add j) = some u) := by
    intro j u hj
    have hjn : j < n * 2 := by rw [← HM.out]; exact (List.getElem?_eq_some_iff.1 hj).1
    have hB := ((Below.refl w.heap.size w).alloc (Nat.le_refl _) (.cells #[] 51))
    rw [addr_add2]
    obtain ⟨i, rfl | rfl⟩ : ∃ i, j = i * 2 ∨ j = i * 2 + 1 := ⟨j / 2, by omega⟩
    · have hi : i < l.length := by rw [HN.out]; omega
      rw [(HAT.out i hi).1] at hj
      cases hj
      exact (hB.cell (p := ⟨b, off + i * 2, none⟩) hb).trans (HC.out i hi).1
    · have hi : i < l.length := by rw [HN.out]; omega
      rw [(HAT.out i hi).2] at hj
      cases hj
      rw [← Nat.add_assoc]
      exact (hB.cell (p := ⟨b, off + i * 2 + 1, none⟩) hb).trans (HC.out i hi).2
  have hnil := fun w : World => Lib.run_eql_slice_nil (P := Try.prog) w 54 51 (some ⟨b, off, none⟩) n c 0 0 Try.underlying54
  simp only [Option.isNone] at hnil
  clear HC HAT
  go_enter Try.func66, Try.ntmps66
  go_wp2_with (at_builtin; refine wpList_append_own _ rfl _ _ 54 rfl w.heap.size 51 i0 (.agg #[.int .i64 0, .int .i64 0]) 2 16 Try.underlying54 HI0.out HZ0.out HZ1.out HZ2.out rfl (by decide) _ _ _ rfl (ownsRow_fresh51 w) ⟨b, off, none⟩ n c (spCells l) rfl HM.out hnews.out H1.out (by unfold maxLen; omega) (by omega) (by simp) ?_; intro v' w12 hown12 hgrow12 _)
  go_ret
  have hlt12 := World.ownsRow.lt (ownsRow_fresh51 w)
  refine ⟨v', rfl, ?_, ((Below.refl w.heap.size w).alloc (Nat.le_refl _) (.cells #[] 51)).grown hgrow12 (by simp) (fun k e => (hlt12 k e).1)⟩
  unfold OwnSpans
  rw [HN.out]
  simpa using hown12
end Go.Proofs.Ytaigbhhmmdfdcaa
