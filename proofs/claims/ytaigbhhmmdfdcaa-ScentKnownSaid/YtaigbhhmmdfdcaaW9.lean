/- What melt holds between two batches. -/
import Derived.Test.YtaigbhhmmdfdcaaAp
import Derived.Test.YtaigbhhmmdfdcaaP2
namespace Go.Proofs.Ytaigbhhmmdfdcaa
open Go.RowKit
theorem pour_start (s : Shop) (l : List Bat) (k : Nat) : pourTo (fun _ => (0, 0)) 1000 (l.getD k default).added s.things.length = midA s l k 0 := by
  funext t
  unfold pourTo midA
  simp [dot]
theorem pour_lot (s : Shop) (l : List Bat) (k i : Nat) : pourTo (midA s l k i) ((l.getD k default).grams.getD i 0) (s.lots.getD i default).parts s.things.length = midA s l k (i + 1) := by
  funext t
  unfold pourTo midA
  by_cases h : t < s.things.length
  · simp only [h, if_true, dot, lotT, sd, Bool.false_eq_true, if_false]
    refine Prod.ext ?_ ?_ <;> simp only <;> omega
  · simp only [h, if_false]
theorem pour_back (s : Shop) (l : List Bat) {k : Nat} (hk : k ≤ l.length) {i : Nat} (hi : i < k) : pourTo (midB s l k i) ((l.getD k default).back.getD i 0) ((List.range s.things.length).map (parV s l i)) s.things.length = midB s l k (i + 1) := by
  funext t
  unfold pourTo midB
  by_cases h : t < s.things.length
  · have e : ((List.range s.things.length).map (parV s l i)).getD t (0, 0) = parV s l i t := by rw [List.getD_eq_getElem?_getD, List.getElem?_map, List.getElem?_range h]; rfl
    simp only [h, if_true, dot]
    rw [backT_eq s l hk _ t false hi, backT_eq s l hk _ t true hi, e]
    simp only [sd, Bool.false_eq_true, if_false, if_true]
    refine Prod.ext ?_ ?_ <;> simp only <;> omega
  · simp only [h, if_false]
theorem ok_start {s : Shop} {l : List Bat} {k : Nat} (h : BatOk0 s l k) : PourOk (fun _ => (0, 0)) 1000 (l.getD k default).added := by
  intro t _
  have := h.add t
  simp only
  omega
theorem ok_lot {s : Shop} (hs : ShopOk s) {l : List Bat} (hl : l.length ≤ 6) {k : Nat} (hp : Prefix s l k) (hk : k < l.length) (hb : BatOk0 s l k) {i : Nat} (hi : i < s.lots.length) :
    PourOk (midA s l k i) ((l.getD k default).grams.getD i 0) (s.lots.getD i default).parts := by
  intro t _
  have h1 := (mic_bound hs hl k hp hk hb).1 i t (by omega)
  have h2 := lotT_bound hs hb t false hi
  have h3 := lotT_bound hs hb t true hi
  unfold lotT sd at h2 h3
  simp only [Bool.false_eq_true, if_false, if_true] at h2 h3
  omega
theorem ok_back {s : Shop} (hs : ShopOk s) {l : List Bat} (hl : l.length ≤ 6) {k : Nat} (hp : Prefix s l k) (hk : k < l.length) (hb : BatOk0 s l k) {i : Nat} (hi : i < (l.getD k default).back.length) :
    PourOk (midB s l k i) ((l.getD k default).back.getD i 0) ((List.range s.things.length).map (parV s l i)) := by
  intro t ht
  have h1 := (mic_bound hs hl k hp hk hb).2 i t (by omega)
  have hbl := hb.blen
  have h2 := par_ok hs hl hp (by omega) (show i < k by omega) t
  have e : ((List.range s.things.length).map (parV s l i)).getD t (0, 0) = parV s l i t := by
    rw [List.getD_eq_getElem?_getD, List.getElem?_map, List.getElem?_range (by simpa using ht)]; rfl
  rw [e]
  have h3 := mul_bound (hb.back i) (show 0 ≤ (parV s l i t).1 ∧ (parV s l i t).1 ≤ 1000000 by omega)
  have h4 := mul_bound (hb.back i) (show 0 ≤ (parV s l i t).2 ∧ (parV s l i t).2 ≤ 1000000 by omega)
  omega
/-- A batch that is looked at is the i-th one, after the first k. -/
def BoOk (B : Nat) (w : World) (s : Shop) (l : List Bat) (k i : Nat) (x : BO) : Prop :=
  x.wt = weightV (l.getD i default) ∧ x.tk = takenV l i k ∧ x.mi = micV s l i ∧ x.pa = parV s l i ∧ BatAt B w x.vg x.vb x.va (l.getD i default)
/-- What lies in the world of melt: k batches that are looked at, the shop's box, the list's box. -/
structure MS (B : Nat) (w : World) (k : Nat) (g : Nat → Nat) (bo : Nat → BO) (gs ga : Nat) (vt vl va : Value) (wr : World) : Prop where
  bel : Below B w wr
  le : B ≤ wr.heap.size
  obj : ∀ i, i < k → wr.heap[g i]? = some (.cells (bo i).c 111)
  inj : ∀ i j, i < k → j < k → g i = g j → i = j
  ge : ∀ i, i < k → B ≤ g i
  sh : wr.heap[gs]? = some (.cells #[vt, vl] 25)
  shB : B ≤ gs
  al : wr.heap[ga]? = some (.cells #[va] 103)
  alB : B ≤ ga
  row : wr.ownsRow B 106 1 va k ((List.range k).map fun i => .pointer (some ⟨g i, 0, none⟩))
section
variable {B : Nat} {w wr w' : World} {k : Nat} {g : Nat → Nat} {bo : Nat → BO} {gs ga : Nat} {vt vl va : Value}
theorem MS.call (h : MS B w k g bo gs ga vt vl va wr) (hb : Below wr.heap.size wr w') : MS B w k g bo gs ga vt vl va w' :=
  ⟨h.bel.trans (hb.mono h.le), Nat.le_trans h.le hb.size, fun i hi => block_keep (h.obj i hi) hb, h.inj, h.ge, block_keep h.sh hb, h.shB, block_keep h.al hb, h.alB, ownsRow.below h.row hb⟩
theorem MS.alloc (h : MS B w k g bo gs ga vt vl va wr) (o : Obj) : MS B w k g bo gs ga vt vl va (wr.alloc o) := h.call ((Below.refl _ _).alloc (Nat.le_refl _) o)
theorem MS.drew (h : MS B w k g bo gs ga vt vl va wr) (n : Nat) : MS B w k g bo gs ga vt vl va (wr.drewN n) := h.call (below_drewN (Below.refl _ _) n)
theorem MS.lt (h : MS B w k g bo gs ga vt vl va wr) {i : Nat} (hi : i < k) : g i < wr.heap.size := block_lt (h.obj i hi)
/-- A block of a batch that is not yet in the list is turned. -/
theorem MS.but (h : MS B w k g bo gs ga vt vl va wr) {gb : Nat} (hb : But gb wr w') (hB : B ≤ gb) {cs : Array Value} (hg : wr.heap[gb]? = some (.cells cs 111)) (hne : ∀ i, i < k → g i ≠ gb) : MS B w k g bo gs ga vt vl va w' := by
  have keep : ∀ {q : Nat} {c : Array Value} {t : TypeId}, wr.heap[q]? = some (.cells c t) → t ≠ 111 → w'.heap[q]? = some (.cells c t) := by
    intro q c t hq ht
    rw [hb.block q (block_lt hq) (by rintro rfl; rw [hg] at hq; cases hq; exact ht rfl)]
    exact hq
  exact ⟨h.bel.trans (hb.below hB h.le), Nat.le_trans h.le hb.size, fun i hi => (hb.block _ (h.lt hi) (hne i hi)).trans (h.obj i hi), h.inj, h.ge, keep h.sh (by decide), h.shB, keep h.al (by decide), h.alB, ownsRow.but h.row hb hg (by decide)⟩
/-- One of the batches is turned. -/
theorem MS.turn (h : MS B w k g bo gs ga vt vl va wr) {i : Nat} (hi : i < k) (hb : But (g i) wr w') {x : BO} (hx : w'.heap[g i]? = some (.cells x.c 111)) : MS B w k g (upm bo i x) gs ga vt vl va w' := by
  have keep : ∀ {q : Nat} {c : Array Value} {t : TypeId}, wr.heap[q]? = some (.cells c t) → t ≠ 111 → w'.heap[q]? = some (.cells c t) := by
    intro q c t hq ht
    rw [hb.block q (block_lt hq) (by rintro rfl; rw [h.obj i hi] at hq; cases hq; exact ht rfl)]
    exact hq
  refine ⟨h.bel.trans (hb.below (h.ge i hi) h.le), Nat.le_trans h.le hb.size, fun j hj => ?_, h.inj, h.ge, keep h.sh (by decide), h.shB, keep h.al (by decide), h.alB, ownsRow.but h.row hb (h.obj i hi) (by decide)⟩
  unfold upm
  by_cases hji : j = i
  · subst hji; simpa using hx
  · rw [if_neg hji, hb.block _ (h.lt hj) (fun e => hji (h.inj j i hj hi e))]
    exact h.obj j hj
/-- The list has one batch more. -/
theorem MS.more (h : MS B w k g bo gs ga vt vl va wr) {gb : Nat} {x : BO} (hgb : wr.heap[gb]? = some (.cells x.c 111)) (hB : B ≤ gb) (hne : ∀ i, i < k → g i ≠ gb) {v' : Value} {w1 : World}
    (hown : w1.ownsRow B 106 1 v' (k + 1) ((List.range k).map (fun i => .pointer (some ⟨g i, 0, none⟩)) ++ [.pointer (some ⟨gb, 0, none⟩)])) (hgr : wr.grownBy w1 va.ownBlock)
    (hb : But ga w1 w') (ha : w'.heap[ga]? = some (.cells #[v'] 103)) : MS B w (k + 1) (upm g k gb) (upm bo k x) gs ga vt vl v' w' := by
  have k1 : ∀ {q : Nat} {c : Array Value} {t : TypeId}, wr.heap[q]? = some (.cells c t) → t ≠ 106 → w1.heap[q]? = some (.cells c t) := fun hq ht => grown_keep h.row hgr hq ht
  have a1 := k1 h.al (by decide)
  have keep : ∀ {q : Nat} {c : Array Value} {t : TypeId}, wr.heap[q]? = some (.cells c t) → t ≠ 106 → t ≠ 103 → w'.heap[q]? = some (.cells c t) := by
    intro q c t hq h6 h3
    have := k1 hq h6
    rw [hb.block q (block_lt this) (by rintro rfl; rw [a1] at this; cases this; exact h3 rfl)]
    exact this
  refine ⟨(h.bel.trans (grown_below h.row hgr (Nat.le_refl _) h.le)).trans (hb.below h.alB (Nat.le_trans h.le hgr.size)), Nat.le_trans h.le (Nat.le_trans hgr.size hb.size), fun j hj => ?_, fun i j hi hj => ?_, fun i hi => ?_, keep h.sh (by decide) (by decide), h.shB, ha, h.alB, ?_⟩
  · unfold upm
    by_cases hjk : j = k
    · subst hjk; simpa using keep hgb (by decide) (by decide)
    · rw [if_neg hjk, if_neg hjk]
      exact keep (h.obj j (by omega)) (by decide) (by decide)
  · unfold upm
    by_cases hik : i = k <;> by_cases hjk : j = k
    · intro _; omega
    · rw [if_pos hik, if_neg hjk]
      intro e
      exact absurd e.symm (hne j (by omega))
    · rw [if_neg hik, if_pos hjk]
      intro e
      exact absurd e (hne i (by omega))
    · rw [if_neg hik, if_neg hjk]
      exact h.inj i j (by omega) (by omega)
  · unfold upm
    by_cases hik : i = k
    · rw [if_pos hik]; exact hB
    · rw [if_neg hik]; exact h.ge i (by omega)
  · have e : (List.range (k + 1)).map (fun i => Value.pointer (some ⟨upm g k gb i, 0, none⟩)) = (List.range k).map (fun i => Value.pointer (some ⟨g i, 0, none⟩)) ++ [.pointer (some ⟨gb, 0, none⟩)] := by
      rw [List.range_succ, List.map_append]
      congr 1
      · apply List.map_congr_left
        intro i hi
        have : i < k := List.mem_range.1 hi
        unfold upm
        rw [if_neg (by omega)]
      · simp [upm]
    rw [e]
    exact ownsRow.but hown hb a1 (by decide)
/-- What the list's row says at a place. -/
theorem MS.ptr (h : MS B w k g bo gs ga vt vl va wr) {i : Nat} (hi : i < k) : ∃ b c, va = .slice (some ⟨b, 0, none⟩) k c ∧ k ≤ c ∧ b < wr.heap.size ∧ wr.cell? ⟨b, i, none⟩ = some (.pointer (some ⟨g i, 0, none⟩)) := by
  obtain ⟨a, c, e⟩ := ownsRow_slice h.row
  subst e
  obtain ⟨b, e2, hb, hc, hcell⟩ := ownsRow_cell h.row hi
  subst e2
  refine ⟨b, c, rfl, hc, hb, ?_⟩
  rw [hcell, List.getElem?_map, List.getElem?_range hi]
  rfl
/-- The parts of a batch, apart from another one. -/
theorem MS.parts (h : MS B w k g bo gs ga vt vl va wr) {i : Nat} (hi : i < k) {gb nt : Nat} (hne : g i ≠ gb) (hnt : nt ≤ 5) {c : Nat} : SpansBut gb wr (.slice (some ⟨g i, 15, none⟩) nt c) ((List.range nt).map (bo i).pa) := by
  refine ⟨some ⟨g i, 15, none⟩, c, by simp, .inr ⟨g i, 15, rfl, h.lt hi, hne, fun t ht => ?_⟩⟩
  have ht' : t < nt := by simpa using ht
  have e : ((List.range nt).map (bo i).pa).getD t (0, 0) = (bo i).pa t := by rw [List.getD_eq_getElem?_getD, List.getElem?_map, List.getElem?_range ht']; rfl
  rw [e]
  exact ⟨(cell_of_row _ _ _ _ _ _ (h.obj i hi)).trans ((bo i).plo (by omega)), (cell_of_row _ _ _ _ _ _ (h.obj i hi)).trans ((bo i).phi (by omega))⟩
end
end Go.Proofs.Ytaigbhhmmdfdcaa
