/- Lists and arrays of small numbers among the arguments. -/
import Derived.Test.YtddapabmfecidaaOp
import Derived.OpenShut
namespace Go.Proofs.Ytddapabmfecidaa
open Go.ChangeShapes Go.WideShapes Go.ChangeAt Go.RowKit Go.Deep
set_option maxRecDepth 100000
section
variable {H : Type} {enc : TypeId × Value → H} {w : World} {base : Nat} {sp : Nat → Bool} {held : Bool}
/-- A list of numbers of kind k. -/
theorem open_list {t e : TypeId} {k : IntKind} {by1 : Nat} (ht : Try.prog.underlying t = some (.slice e)) (he : Try.prog.underlying e = some (.int k)) (hc1 : Try.prog.cellsOf e = 1) (hbe : Try.prog.bytesOf e = by1) (hb1 : 1 ≤ by1)
    {v : Value} {d : DataW H} {ps : List MemPlace} {r : Reach} {b0 : Nat} (h : DataW.Trod enc Try.prog w base sp held t v d ps) (hfit : Fits t d) (hval : Value.okWide Try.prog w r b0 t v) :
    ∃ l : List Int, IntsIn k w.heap.size w v l ∧ ∀ x ∈ l, (Lit.int k x).wf = true := by
  obtain ⟨fuel, h⟩ := h
  obtain ⟨a0, n0, c0, rfl⟩ := okWide_slice ht hval
  rcases open_ints ht he hc1 h with ⟨hv, _⟩ | ⟨a, len, cap, zs, hv, _, hlc, hcm, hzl, hx, hcell, hwf⟩
  · have e : Value.slice a0 n0 c0 = .slice none 0 0 := by simpa [Value.cells] using hv
    rw [e]
    exact ⟨[], ⟨none, 0, rfl, by simp, .inl rfl⟩, by simp⟩
  · have e : Value.slice a0 n0 c0 = .slice (some a) len cap := by simpa [Value.cells] using hv
    rw [e]
    have hle : len ≤ zs.length := by rw [hzl]; split <;> omega
    have hd : d = .slice (lits k (zs.take len)) (lits k (zs.drop len)) := (Prod.mk.inj hx).1
    have hmax : len ≤ 1000000000000000 := by
      rw [hd] at hfit
      have := Fits.slice ht hfit
      rw [hbe] at this
      simp only [lits, List.length_map, List.length_take, List.length_drop] at this
      unfold reachBytes at this
      have h2 := Nat.mul_le_mul_left (min len zs.length + (zs.length - len)) hb1
      omega
    have hl : (zs.take len).length = len := by simp; omega
    have hwf' : ∀ x ∈ zs.take len, (Lit.int k x).wf = true := fun x hx => hwf x (List.mem_of_mem_take hx)
    by_cases h0 : len = 0
    · subst h0
      exact ⟨[], ⟨some a, cap, rfl, by simp, .inl rfl⟩, by simp⟩
    have c00 := hcell 0 (by omega)
    have hs : a.spot = none := by simpa [Addr.add] using World.cell?_spot c00
    obtain ⟨b, o, s⟩ := a
    simp only at hs
    subst hs
    refine ⟨zs.take len, ⟨some ⟨b, o, none⟩, cap, by rw [hl], by omega, .inr ⟨b, o, rfl, World.block_lt_of_cell? w _ c00, fun i hi => ?_⟩⟩, hwf'⟩
    rw [hl] at hi
    have hc := hcell i (by omega)
    rw [add_flat rfl] at hc
    rw [hc, List.getD_eq_getElem?_getD, List.getD_eq_getElem?_getD, List.getElem?_take, if_pos hi]
theorem cells124 : Try.prog.cellsOf 124 = 1 := by kernel_rfl
theorem bytes124 : Try.prog.bytesOf 124 = 2 := by kernel_rfl
theorem cells5 : Try.prog.cellsOf 5 = 1 := by kernel_rfl
theorem bytes5 : Try.prog.bytesOf 5 = 1 := by kernel_rfl
theorem cells47 : Try.prog.cellsOf 47 = 2 := by kernel_rfl
theorem cells68 : Try.prog.cellsOf 68 = 5 := by kernel_rfl
/-- Small numbers, by turns. -/
theorem open_u16s {v : Value} {d : DataW H} {ps : List MemPlace} {r : Reach} {b0 : Nat} (h : DataW.Trod enc Try.prog w base sp held 40 v d ps) (hfit : Fits 40 d) (hval : Value.okWide Try.prog w r b0 40 v) :
    ∃ l : List Int, IntsIn .u16 w.heap.size w v l ∧ ∀ x ∈ l, 0 ≤ x ∧ x ≤ 65535 := by
  obtain ⟨l, h1, h2⟩ := open_list Try.underlying40 Try.underlying124 cells124 bytes124 (by omega) h hfit hval
  exact ⟨l, h1, fun x hx => bounds_u16 (h2 x hx)⟩
theorem open_u8s {v : Value} {d : DataW H} {ps : List MemPlace} {r : Reach} {b0 : Nat} (h : DataW.Trod enc Try.prog w base sp held 62 v d ps) (hfit : Fits 62 d) (hval : Value.okWide Try.prog w r b0 62 v) :
    ∃ l : List Int, IntsIn .u8 w.heap.size w v l ∧ ∀ x ∈ l, 0 ≤ x ∧ x ≤ 255 := by
  obtain ⟨l, h1, h2⟩ := open_list Try.underlying62 Try.underlying5 cells5 bytes5 (by omega) h hfit hval
  exact ⟨l, h1, fun x hx => bounds_u8 (h2 x hx)⟩
theorem open_arr8 {t : TypeId} {n : Nat} (ht : Try.prog.underlying t = some (.array n 5)) (hct : Try.prog.cellsOf t = n) {v : Value} {d : DataW H} {ps : List MemPlace} {r : Reach} {b0 : Nat} (h : DataW.Trod enc Try.prog w base sp held t v d ps) (hval : Value.okWide Try.prog w r b0 t v) :
    ∃ l : List Int, l.length = n ∧ v = .agg (l.map (Value.int .u8)).toArray ∧ ∀ x ∈ l, 0 ≤ x ∧ x ≤ 255 := by
  obtain ⟨fuel, h⟩ := h
  obtain ⟨cc, rfl⟩ : ∃ cc, v = .agg cc := by
    simp only [Value.okWide, ht] at hval
    obtain ⟨cs, h1, _⟩ := hval
    exact ⟨cs, h1⟩
  obtain ⟨xs, m, -, -, hl, hx, hf⟩ := DataW.trod_array ht h
  have hcl : cc.toList.length = n := by rw [← hct]; exact hl
  have each : ∀ i, i < n → ∃ z : Int, cc.toList[i]? = some (.int .u8 z) ∧ 0 ≤ z ∧ z ≤ 255 := by
    intro i hi
    obtain ⟨y, hy⟩ := getSome hx hi
    have e0 : DataW.trod enc Try.prog w base sp held m 5 ((cc.toList.drop (i * Try.prog.cellsOf 5)).take (Try.prog.cellsOf 5)) = some y := (hf i hi).trans hy
    rw [cells5, Nat.mul_one] at e0
    obtain ⟨z, ez, -, hw⟩ := DataW.trod_int Try.underlying5 e0
    refine ⟨z, ?_, bounds_u8 hw⟩
    have : ((cc.toList.drop i).take 1)[0]? = some (.int .u8 z) := by rw [ez]; rfl
    rw [List.getElem?_take, if_pos (by omega), List.getElem?_drop] at this
    simpa using this
  obtain ⟨f, hf2⟩ := choose_lt (α := Int) each
  refine ⟨(List.range n).map f, by simp, ?_, ?_⟩
  · have : cc.toList = ((List.range n).map f).map (Value.int .u8) := by
      apply List.ext_getElem?
      intro i
      by_cases hi : i < n
      · rw [(hf2 i hi).1]
        simp [hi]
      · rw [List.getElem?_eq_none (by omega), List.getElem?_eq_none (by simp; omega)]
    rw [← this, Array.toArray_toList]
  · intro x hx
    obtain ⟨i, hi, rfl⟩ := List.mem_map.1 hx
    exact (hf2 i (List.mem_range.1 hi)).2
theorem open_two8 {v : Value} {d : DataW H} {ps : List MemPlace} {r : Reach} {b0 : Nat} (h : DataW.Trod enc Try.prog w base sp held 47 v d ps) (hval : Value.okWide Try.prog w r b0 47 v) :
    ∃ x y : Int, v = .agg #[.int .u8 x, .int .u8 y] ∧ (0 ≤ x ∧ x ≤ 255) ∧ (0 ≤ y ∧ y ≤ 255) := by
  obtain ⟨l, hl, rfl, hb⟩ := open_arr8 Try.underlying47 cells47 h hval
  match l, hl with
  | [x, y], _ => exact ⟨x, y, rfl, hb x (by simp), hb y (by simp)⟩
theorem open_five8 {v : Value} {d : DataW H} {ps : List MemPlace} {r : Reach} {b0 : Nat} (h : DataW.Trod enc Try.prog w base sp held 68 v d ps) (hval : Value.okWide Try.prog w r b0 68 v) :
    ∃ x0 x1 x2 x3 x4 : Int, v = .agg #[.int .u8 x0, .int .u8 x1, .int .u8 x2, .int .u8 x3, .int .u8 x4] ∧ (0 ≤ x0 ∧ x0 ≤ 255) ∧ (0 ≤ x1 ∧ x1 ≤ 255) ∧ (0 ≤ x2 ∧ x2 ≤ 255) ∧ (0 ≤ x3 ∧ x3 ≤ 255) ∧ (0 ≤ x4 ∧ x4 ≤ 255) := by
  obtain ⟨l, hl, rfl, hb⟩ := open_arr8 Try.underlying68 cells68 h hval
  match l, hl with
  | [x0, x1, x2, x3, x4], _ => exact ⟨x0, x1, x2, x3, x4, rfl, hb x0 (by simp), hb x1 (by simp), hb x2 (by simp), hb x3 (by simp), hb x4 (by simp)⟩
end
end Go.Proofs.Ytddapabmfecidaa
