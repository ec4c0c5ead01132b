/- What holds of a season in order; begin, span, turn. -/
import Derived.Test.YtddapabmfecidaaW12
import Derived.Deep.Cut
namespace Go.Proofs.Ytddapabmfecidaa
open Go.RowKit

theorem outB_false {lo hi : Int} {l : List Int} (h : outB lo hi l = false) : ∀ x ∈ l, lo ≤ x ∧ x ≤ hi := by
  intro x hx
  unfold outB at h
  rw [List.any_eq_false] at h
  have := h x hx
  unfold outOne at this
  simp at this
  omega
theorem findE_zero (es : List Int) (i : Int) (hi : (findE es i).2 = 0) : ∀ e ∈ es, e = 0 := by
  induction es generalizing i with
  | nil => simp
  | cons e es ih =>
    unfold findE at hi
    split at hi
    · rename_i h
      intro x hx
      rcases List.mem_cons.mp hx with rfl | hx
      · exact h
      · exact ih _ hi x hx
    · rename_i h
      exact absurd hi h

/-- A season that is in order. -/
structure Good (s : Sea) : Prop where
  bend : 0 ≤ s.bend ∧ s.bend ≤ 60
  jump : 0 ≤ s.jump ∧ s.jump ≤ 60
  days : 1 ≤ s.days ∧ s.days ≤ 8
  times : 1 ≤ s.times ∧ s.times ≤ 8
  move : 0 ≤ s.move ∧ s.move ≤ 100000
  stores : 1 ≤ s.stores.length ∧ s.stores.length ≤ 3
  len : 1 ≤ s.len ∧ s.len ≤ 8
  rent : ∀ i, i < s.stores.length → 0 ≤ (s.stores.getD i default).rent ∧ (s.stores.getD i default).rent ≤ 100000
  lens : ∀ i, i < s.stores.length → (s.stores.getD i default).warm.length = s.len
  span : ∀ i, i < s.stores.length → ∀ d, d < s.len → 0 ≤ ((s.stores.getD i default).warm.getD d (0, 0)).1 ∧ ((s.stores.getD i default).warm.getD d (0, 0)).1 ≤ ((s.stores.getD i default).warm.getD d (0, 0)).2 ∧ ((s.stores.getD i default).warm.getD d (0, 0)).2 ≤ 60

theorem span_ok {p : Int × Int} (h : spanE p = 0) : 0 ≤ p.1 ∧ p.1 ≤ p.2 ∧ p.2 ≤ 60 := by
  unfold spanE at h
  split at h
  · simp at h
  · rename_i h1
    split at h
    · simp at h
    · have := outB_false (by simpa using h1)
      have a := this p.1 (by simp)
      have b := this p.2 (by simp)
      omega
theorem store_ok {l : List Sto} {i : Nat} (h : stoE l i = 0) : (0 ≤ (l.getD i default).rent ∧ (l.getD i default).rent ≤ 100000) ∧ (1 ≤ (l.getD i default).warm.length ∧ (l.getD i default).warm.length ≤ 8) ∧
    (l.getD i default).warm.length = (l.getD 0 default).warm.length ∧ ∀ d, d < (l.getD i default).warm.length → spanE ((l.getD i default).warm.getD d (0, 0)) = 0 := by
  unfold stoE at h
  split at h
  · split at h
    · simp at h
    · split at h
      · simp at h
      · rename_i h2
        split at h
        · simp at h
        · rename_i h3
          simp only [Bool.or_eq_true, not_or, Bool.not_eq_true] at h3
          have a := outB_false (by simpa using h2) _ (List.mem_singleton.mpr rfl)
          have b := outB_false h3.1 _ (List.mem_singleton.mpr rfl)
          refine ⟨a, by omega, by simpa using h3.2, ?_⟩
          intro d hd
          have hm : (l.getD i default).warm.getD d (0, 0) ∈ (l.getD i default).warm := by
            generalize (l.getD i default).warm = q at hd
            rw [List.getD_eq_getElem?_getD, List.getElem?_eq_getElem hd]; exact List.getElem_mem hd
          exact findE_zero _ _ h _ (List.mem_map.mpr ⟨_, hm, rfl⟩)
  · simp at h
theorem good_of_ok {s : Sea} (h : (checkV s).2.2 = 0) : Good s := by
  unfold checkV at h
  split at h
  · simp at h
  · rename_i h1
    split at h
    · simp at h
    · rename_i h2
      split at h
      · rename_i h3
        unfold headE at h1
        simp only [Bool.or_eq_true, not_or, Bool.not_eq_true] at h1 h2
        have a := outB_false h1.1
        have b := outB_false h1.2.1
        have c := outB_false h1.2.2
        have d := outB_false h2 _ (List.mem_singleton.mpr rfl)
        have hs : ∀ i, i < s.stores.length → stoE s.stores i = 0 := fun i hi => findE_zero _ _ h3 _ (List.mem_map.mpr ⟨i, List.mem_range.mpr hi, rfl⟩)
        have hl : ∀ i, i < s.stores.length → (s.stores.getD i default).warm.length = s.len := fun i hi => (store_ok (hs i hi)).2.2.1
        refine ⟨a _ (by simp), a _ (by simp), b _ (by simp), b _ (by simp), c _ (by simp), by omega, ?_, fun i hi => (store_ok (hs i hi)).1, hl, ?_⟩
        · exact (store_ok (hs 0 (by omega))).2.1
        · intro i hi d hd
          exact span_ok ((store_ok (hs i hi)).2.2.2 d (by rw [hl i hi]; exact hd))
      · rename_i h3
        exact absurd h h3

/-- A way that is in order. -/
theorem way_ok {s : Sea} {way : List Int} (h : wayE s way = 0) : 1 ≤ way.length ∧ way.length ≤ s.len ∧ ∀ d, d < way.length → 0 ≤ way.getD d 0 ∧ way.getD d 0 < s.stores.length := by
  unfold wayE at h
  split at h
  · rename_i h1
    split at h
    · simp at h
    · rename_i h2
      unfold inB at h1
      simp at h1
      refine ⟨by omega, by omega, fun d hd => ?_⟩
      have := outB_false (by simpa using h2) (way.getD d 0) (by rw [List.getD_eq_getElem?_getD, List.getElem?_eq_getElem hd]; exact List.getElem_mem hd)
      omega
  · simp at h
theorem openE_ok {s : Sea} {way : List Int} (h : openE s way = 0) : (checkV s).2.2 = 0 ∧ wayE s way = 0 := by
  unfold openE at h
  split at h
  · rename_i h1; exact ⟨h1, h⟩
  · rename_i h1; exact absurd h h1

theorem info53 : (Try.prog.info? 53).map (·.size) = some 2 := by kernel_rfl
theorem span_any (lo hi : Int) (w : World) : Calls Try.prog 31 #[.int .i64 lo, .int .i64 hi] w
    fun e w' => e = .returned (.agg #[.int .i64 lo, .int .i64 hi]) ∧ Below w.heap.size w w' := by
  have HB := Lib.hid ((Below.refl w.heap.size w).alloc (Nat.le_refl _) (.cells #[.int .i64 lo, .int .i64 hi] 53))
  have HR := Lib.hid (heap_alloc_new w (.cells #[.int .i64 lo, .int .i64 hi] 53))
  go_enter Try.func31, Try.ntmps31
  go_wp2_with fail
  exact bodyPost_ret (v := .agg #[.int .i64 lo, .int .i64 hi]) (results_cell_row (fn := Try.f31) rfl _ _ _ _ _ _ _ rfl HR.out Try.underlying53 rfl info53) rfl ⟨rfl, HB.out⟩

theorem built99 (d : Int) : Try.prog.built 99 [(0, .int .i64 d), (1, .int .i64 (-1))] = some (ints (d :: -1 :: 0 :: List.replicate 61 0)) := by
  kernel_rfl

theorem built99' (d : Int) : (Try.prog.built 99 [(0, .int .i64 d), (1, .int .i64 (-1))]).getD #[] = ints (d :: -1 :: 0 :: List.replicate 61 0) := by rw [built99]; rfl
theorem wpList_build' {P : Program} {ops : Array Oper} {rest : List Oper} {o : Oper} {a : Act} {w : World} {Q : Exit → Act → World → Prop} (hg : o.guard = none) (t : TypeId) (parts : Array (Nat × Operand)) (ho : o.op = .build t parts)
    (cells : Array Value) (hf : P.built t (parts.map fun (i, x) => (i, a.eval x)).toList = some cells)
    (h : wpList P ops Q rest (a.put o.dst (.agg cells)) w) : wpList P ops Q (o :: rest) a w :=
  wpList_build hg t parts ho (by rw [hf]; rfl) (by rw [hf]; exact h)
set_option maxRecDepth 100000 in
theorem begin_any (d : Int) (hd : -1000 ≤ d ∧ d ≤ 1000) (w : World) : Calls Try.prog 41 #[.int .i64 d] w
    fun e w' => e = .returned (.agg (ints ((d - 1) :: -1 :: 0 :: List.replicate 61 0))) ∧ Below w.heap.size w w' := by
  have HB := Lib.hid ((Below.refl w.heap.size w).alloc (Nat.le_refl _) (.cells (ints (List.replicate 64 0)) 99))
  have HR := Lib.hid (heap_alloc_new w (.cells (ints (List.replicate 64 0)) 99))
  have H0 : Hid (Try.prog.built 99 [(0, .int .i64 (d - 1)), (1, .int .i64 (-1))] = some (ints ((d - 1) :: -1 :: 0 :: List.replicate 61 0))) := built99 _
  have H1 : Hid ((Try.prog.built 99 [(0, .int .i64 (d - 1)), (1, .int .i64 (-1))]).getD #[] = (ints ((d - 1) :: -1 :: 0 :: List.replicate 61 0))) := built99' _
  generalize hl : (d - 1) :: -1 :: 0 :: List.replicate 61 0 = l at *
  have HL : Hid (l.length = 64) := by unfold Hid; rw [← hl]; simp
  clear hl
  go_enter Try.func41, Try.ntmps41
  go_upto_region 1 with fail
  refine wp_world (fun w' => w'.heap[w.heap.size]? = some (.cells (ints (List.replicate 64 0)) 99) ∧ Below w.heap.size w w') ⟨(heap_alloc_new w _).trans (by kernel_rfl), (Below.refl w.heap.size w).alloc (Nat.le_refl _) _⟩ ?_
  rintro w1 ⟨hr, hb⟩
  have HR1 := Lib.hid hr
  have HB1 := Lib.hid hb
  clear hr hb HR HB
  refine wp_region_lit ?_
  go_wp2_with (first | refine wpList_build' rfl 99 _ rfl (ints l) (by simp; exact H0.out) ?_ | refine wpList_store_row rfl 99 _ _ rfl _ (ints l) rfl rfl _ _ HR1.out (by rw [ints_size, HL.out]; exact info99) (by simp only [ints_size, HL.out, List.length_replicate]) (ints_oneCell _) ?_)

  exact bodyPost_ret (v := .agg (ints l)) (results_cell_row (fn := Try.f41) rfl _ _ _ _ _ _ _ rfl (setRow_heap _ _ _ _ _ _ HR1.out) Try.underlying99 rfl (by rw [ints_size, HL.out]; exact info99)) rfl ⟨rfl, below_setRow HB1.out (Nat.le_refl _) _⟩
end Go.Proofs.Ytddapabmfecidaa
