/- Stores that are copied, and their rents multiplied. -/
import Derived.Test.YtddapabmfecidaaPu
namespace Go.Proofs.Ytddapabmfecidaa
open Go.RowKit
theorem stoCells_len : ∀ (l : List Sto) (us : List Value), l.length = us.length → (stoCells l us).length = l.length * 3
  | [], _, _ => by simp [stoCells]
  | x :: l, [], h => by simp at h
  | x :: l, u :: us, h => by
    have := stoCells_len l us (by simpa using h)
    simp only [stoCells, List.zip_cons_cons, List.flatMap_cons, List.length_append] at this ⊢
    simp only [List.length_cons, List.length_nil]
    omega
/-- The cells of stores that lie somewhere. -/
theorem stos_cells {B : Nat} {w : World} {b o n c : Nat} {l : List Sto} (h : StosIn B w (.slice (some ⟨b, o, none⟩) n c) l) (hl : 0 < l.length) :
    ∃ us : List Value, us.length = l.length ∧ b < B ∧ (∀ (j : Nat) u, (stoCells l us)[j]? = some u → w.cell? ((⟨b, o, none⟩ : Addr).add j) = some u) ∧ (∀ i, i < l.length → (l.getD i default).name.size ≤ 1000000000000000 ∧ SpansIn B w (us.getD i (.bool false)) (l.getD i default).warm) := by
  have h0 := h
  obtain ⟨a, c', hv, -, -, h⟩ := h
  simp only [Value.slice.injEq] at hv
  obtain ⟨rfl, rfl, rfl⟩ := hv
  obtain ⟨b', o', hbo, hb, hc⟩ := h.resolve_left (by intro e; rw [e] at hl; simp at hl)
  simp only [Option.some.injEq, Addr.mk.injEq, and_true] at hbo
  obtain ⟨rfl, rfl⟩ := hbo
  have each : ∀ i, i < l.length → ∃ v, w.cell? ⟨b, o + i * 3 + 2, none⟩ = some v ∧ SpansIn B w v (l.getD i default).warm := fun i hi => (hc i hi).2.2.2
  obtain ⟨f, hf⟩ := choose_lt' each
  have hus : ((List.range l.length).map f).length = l.length := by simp
  have hget : ∀ i, i < l.length → ((List.range l.length).map f).getD i (.bool false) = f i := by
    intro i hi
    rw [List.getD_eq_getElem?_getD, List.getElem?_map, List.getElem?_range hi]; rfl
  refine ⟨(List.range l.length).map f, hus, hb, ?_, fun i hi => ⟨(hc i hi).2.2.1, by rw [hget i hi]; exact (hf i hi).2⟩⟩
  intro j u hj
  have hlen : (stoCells l ((List.range l.length).map f)).length = l.length * 3 := stoCells_len l _ hus.symm
  have hjl : j < l.length * 3 := by rw [← hlen]; exact (List.getElem?_eq_some_iff.1 hj).1
  have hat := stoCells_at l _ (j / 3) (by omega) hus.symm
  have hcj := hc (j / 3) (by omega)
  have e : (⟨b, o, none⟩ : Addr).add j = ⟨b, o + j, none⟩ := by unfold Addr.add; split <;> simp_all
  rw [e]
  have h3 : j % 3 = 0 ∨ j % 3 = 1 ∨ j % 3 = 2 := by omega
  rcases h3 with h3 | h3 | h3
  · rw [show j = j / 3 * 3 by omega, hat.1] at hj
    rw [show o + j = o + j / 3 * 3 by omega, hcj.1, ← hj]
  · rw [show j = j / 3 * 3 + 1 by omega, hat.2.1] at hj
    rw [show o + j = o + j / 3 * 3 + 1 by omega, hcj.2.1, ← hj]
  · rw [show j = j / 3 * 3 + 2 by omega, hat.2.2, hget _ (by omega)] at hj
    rw [show o + j = o + j / 3 * 3 + 2 by omega, (hf _ (by omega)).1, ← hj]
where choose_lt' {n : Nat} {p : Nat → Value → Prop} (h : ∀ i, i < n → ∃ v, p i v) : ∃ f : Nat → Value, ∀ i, i < n → p i (f i) :=
  ⟨fun i => if hi : i < n then (h i hi).choose else default, fun i hi => by dsimp only; rw [dif_pos hi]; exact (h i hi).choose_spec⟩
/-- The first k rents multiplied. -/
def dearTo (n : Int) : Nat → List Sto → List Sto
  | 0, l => l
  | k + 1, x :: l => { x with rent := x.rent * n } :: dearTo n k l
  | _ + 1, [] => []
theorem dearTo_all (n : Int) : ∀ l : List Sto, dearTo n l.length l = l.map fun x => { x with rent := x.rent * n }
  | [] => rfl
  | x :: l => by simp [dearTo, dearTo_all n l]
theorem dearTo_len (n : Int) : ∀ (k : Nat) (l : List Sto), (dearTo n k l).length = l.length
  | 0, _ => rfl
  | _ + 1, [] => rfl
  | k + 1, x :: l => by simp [dearTo, dearTo_len n k l]
theorem dearTo_rent (n : Int) : ∀ (k : Nat) (l : List Sto), k < l.length → ((dearTo n k l).getD k default).rent = (l.getD k default).rent
  | 0, _, _ => rfl
  | _ + 1, [], h => by simp at h
  | k + 1, x :: l, h => by
    have := dearTo_rent n k l (by simpa using h)
    rw [dearTo, List.getD_cons_succ, List.getD_cons_succ, this]
theorem dearTo_set (n : Int) : ∀ (k : Nat) (l : List Sto) (us : List Value), k < l.length → l.length = us.length → stoCells (dearTo n (k + 1) l) us = (stoCells (dearTo n k l) us).set (k * 3 + 1) (.int .i64 ((l.getD k default).rent * n))
  | _, [], _, h, _ => by simp at h
  | _, _ :: _, [], _, hl => by simp at hl
  | 0, x :: l, u :: us, _, _ => by simp [dearTo, stoCells]
  | k + 1, x :: l, u :: us, h, hl => by
    have ih := dearTo_set n k l us (by simpa using h) (by simpa using hl)
    rw [dearTo, dearTo, List.getD_cons_succ]
    simp only [stoCells, List.zip_cons_cons, List.flatMap_cons] at ih ⊢
    rw [ih, show (k + 1) * 3 + 1 = (k * 3 + 1) + 3 by omega]
    rfl
/-- A row of stores is not the block of a season. -/
theorem ownsRow_setRow_ne {w : World} {base n c : Nat} {v : Value} {xs : List Value} {cs cs' : Array Value} (h : w.ownsRow base 66 3 v n xs) (hc : w.heap[c]? = some (.cells cs 31)) : (w.setRow c cs').ownsRow base 66 3 v n xs := by
  obtain ⟨h1, h⟩ := h
  refine ⟨h1, ?_⟩
  rcases h with h | ⟨g, cap, cur, hv, hb, hg, hr⟩
  · exact .inl h
  · refine .inr ⟨g, cap, cur, hv, hb, ?_, hr⟩
    rw [setRow_other w _ _ _ (by rintro rfl; rw [hg] at hc; simp at hc)]
    exact hg
theorem ownsRow_fresh66 (w : World) : (w.alloc (.cells #[] 66)).ownsRow w.heap.size 66 3 (.slice (some ⟨w.heap.size, 0, none⟩) 0 0) 0 [] :=
  ⟨rfl, .inr ⟨w.heap.size, 0, #[], rfl, Nat.le_refl _, heap_alloc_new _ _, Nat.le_refl _, Nat.zero_le _, rfl, rfl⟩⟩
end Go.Proofs.Ytddapabmfecidaa
