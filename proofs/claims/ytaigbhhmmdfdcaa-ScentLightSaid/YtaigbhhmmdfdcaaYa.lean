/- What lies where: batches, lots, lists of lists, tables. -/
import Derived.Test.YtaigbhhmmdfdcaaY12
import Derived.Test.YtaigbhhmmdfdcaaY16
import Derived.Test.YtaigbhhmmdfdcaaP8
namespace Go.Proofs.Ytaigbhhmmdfdcaa
open Go.RowKit
theorem IntsIn.at' {q : IntKind} {B : Nat} {w : World} {a : Option Addr} {n c : Nat} {l : List Int} (h : IntsIn q B w (.slice a n c) l) {i : Nat} (hi : i < l.length) : ∃ b o, a = some ⟨b, o, none⟩ ∧ b < B ∧ w.cell? ⟨b, o + i, none⟩ = some (.int q (l.getD i 0)) := by
  obtain ⟨a', c', e, -, h⟩ := h
  cases e
  rcases h with rfl | ⟨b, o, rfl, hb, h⟩
  · simp at hi
  · exact ⟨b, o, rfl, hb, h i hi⟩
theorem IntsIn.shape {q : IntKind} {B n : Nat} {w : World} {v : Value} {l : List Int} (h : IntsIn q B w v l) (hl : l.length = n) : ∃ a c, v = .slice a n c := by
  obtain ⟨a, c, rfl, -⟩ := h
  rw [hl]
  exact ⟨a, c, rfl⟩
theorem row_fst (s : Shop) (l : List Bat) {k : Nat} (hk : k < l.length) : (((rangesV s l).getD k []).map Prod.fst).length = s.things.length ∧ (((rangesV s l).getD k []).map Prod.snd).length = s.things.length ∧
    ∀ t, t < s.things.length → (((rangesV s l).getD k []).map Prod.fst).getD t 0 = (micV s l k t).1 ∧ (((rangesV s l).getD k []).map Prod.snd).getD t 0 = (micV s l k t).2 := by
  rw [row_eq s l hk]
  refine ⟨by simp, by simp, fun t ht => ?_⟩
  rw [List.map_map, List.map_map, mapr_get _ _ _ ht, mapr_get _ _ _ ht]
  exact ⟨rfl, rfl⟩
/-- The words of a batch, and Weight of them. -/
theorem weigh {s : Shop} {l : List Bat} {k : Nat} (hg : AllGood s l) (hk : k < l.length) {a : Option Addr} {n c : Nat} {w0 : World} (hl : BatsIn w0.heap.size w0 (.slice a n c) l) :
    ∃ b o, a = some ⟨b, o, none⟩ ∧ b < w0.heap.size ∧ ∃ g1 g2 g3, w0.cell? ⟨b, o + k * 3, none⟩ = some g1 ∧ w0.cell? ⟨b, o + k * 3 + 1, none⟩ = some g2 ∧ w0.cell? ⟨b, o + k * 3 + 2, none⟩ = some g3 ∧
      ∀ w, Below w0.heap.size w0 w → Calls Try.prog 44 #[.agg #[g1, g2, g3]] w fun e w' => e = .returned (.int .i64 (weightV (l.getD k default))) ∧ Below w.heap.size w w' := by
  obtain ⟨b, o, rfl, hbb, vg, vb, va, hd1, hd2, hd3, hat⟩ := hl.at' hk
  have hgo := (bat_ok0 (batchE_zero (hg.pre k hk)).1).gramsOk hg.sh.nl6 (show k ≤ 6 by have := hg.n6; omega)
  exact ⟨b, o, rfl, hbb, vg, vb, va, hd1, hd2, hd3, fun w hw => weight_ref _ _ _ _ w ((hat.below hw).mono hw.size) hgo.1 hgo.2⟩
theorem limit_at {l : List Thing} {t n c : Nat} {a : Option Addr} {w0 : World} (h : ThingsIn w0.heap.size w0 (.slice a n c) l) (ht : t < l.length) :
    ∃ b o, a = some ⟨b, o, none⟩ ∧ b < w0.heap.size ∧ w0.cell? ⟨b, o + t * 5 + 2, none⟩ = some (.int .i64 (l.getD t default).limit) := by
  obtain ⟨b, o, rfl, hb, -, -, h, -⟩ := h.at' ht
  exact ⟨b, o, rfl, hb, h⟩
theorem added_at {l : List Bat} {k t n c : Nat} {a : Option Addr} {w0 : World} (h : BatsIn w0.heap.size w0 (.slice a n c) l) (hk : k < l.length) {q : Nat} (hq : (l.getD k default).added.length = q) (ht : t < q) :
    ∃ b o bA oA cA, a = some ⟨b, o, none⟩ ∧ b < w0.heap.size ∧ bA < w0.heap.size ∧ w0.cell? ⟨b, o + k * 3 + 2, none⟩ = some (.slice (some ⟨bA, oA, none⟩) q cA) ∧
      w0.cell? ⟨bA, oA + t * 2, none⟩ = some (.int .i64 ((l.getD k default).added.getD t (0, 0)).1) ∧ w0.cell? ⟨bA, oA + t * 2 + 1, none⟩ = some (.int .i64 ((l.getD k default).added.getD t (0, 0)).2) := by
  obtain ⟨b, o, rfl, hbb, vg, vb, va, -, -, hd3, hat⟩ := h.at' hk
  have h3 := hat.2.2
  obtain ⟨aA, cA, rfl, -, -⟩ := sl_shape h3
  subst hq
  obtain ⟨bA, oA, rfl, hbA, h1, h2⟩ := h3.at' ht
  exact ⟨b, o, bA, oA, cA, rfl, hbb, hbA, hd3, h1, h2⟩
theorem gram_at {l : List Bat} {k i n c : Nat} {a : Option Addr} {w0 : World} (h : BatsIn w0.heap.size w0 (.slice a n c) l) (hk : k < l.length) {q : Nat} (hq : (l.getD k default).grams.length = q) (hi : i < q) :
    ∃ b o bA oA cA, a = some ⟨b, o, none⟩ ∧ b < w0.heap.size ∧ bA < w0.heap.size ∧ w0.cell? ⟨b, o + k * 3, none⟩ = some (.slice (some ⟨bA, oA, none⟩) q cA) ∧ w0.cell? ⟨bA, oA + i, none⟩ = some (.int .i64 ((l.getD k default).grams.getD i 0)) := by
  obtain ⟨b, o, rfl, hbb, vg, vb, va, hd1, -, -, hat⟩ := h.at' hk
  have h3 := hat.1
  obtain ⟨aA, cA, rfl⟩ := h3.shape hq
  obtain ⟨bA, oA, rfl, hbA, h1⟩ := h3.at' (i := i) (by omega)
  exact ⟨b, o, bA, oA, cA, rfl, hbb, hbA, hd1, h1⟩
theorem back_at {l : List Bat} {k n c : Nat} {a : Option Addr} {w0 : World} (h : BatsIn w0.heap.size w0 (.slice a n c) l) (hk : k < l.length) {q : Nat} (hq : (l.getD k default).back.length = q) :
    ∃ b o aA cA, a = some ⟨b, o, none⟩ ∧ b < w0.heap.size ∧ w0.cell? ⟨b, o + k * 3 + 1, none⟩ = some (.slice aA q cA) ∧ ∀ i, i < q → ∃ bA oA, aA = some ⟨bA, oA, none⟩ ∧ bA < w0.heap.size ∧ w0.cell? ⟨bA, oA + i, none⟩ = some (.int .i64 ((l.getD k default).back.getD i 0)) := by
  obtain ⟨b, o, rfl, hbb, vg, vb, va, -, hd2, -, hat⟩ := h.at' hk
  have h3 := hat.2.1
  obtain ⟨aA, cA, rfl⟩ := h3.shape hq
  refine ⟨b, o, aA, cA, rfl, hbb, hd2, fun i hi => ?_⟩
  obtain ⟨bA, oA, rfl, hbA, h1⟩ := h3.at' (i := i) (by omega)
  exact ⟨bA, oA, rfl, hbA, h1⟩
theorem parts_at {l : List Lot} {i t n c : Nat} {a : Option Addr} {w0 : World} (h : LotsIn w0.heap.size w0 (.slice a n c) l) (hi : i < l.length) {q : Nat} (hq : (l.getD i default).parts.length = q) (ht : t < q) :
    ∃ b o bA oA cA, a = some ⟨b, o, none⟩ ∧ b < w0.heap.size ∧ bA < w0.heap.size ∧ w0.cell? ⟨b, o + i * 2 + 1, none⟩ = some (.slice (some ⟨bA, oA, none⟩) q cA) ∧
      w0.cell? ⟨bA, oA + t * 2, none⟩ = some (.int .i64 ((l.getD i default).parts.getD t (0, 0)).1) ∧ w0.cell? ⟨bA, oA + t * 2 + 1, none⟩ = some (.int .i64 ((l.getD i default).parts.getD t (0, 0)).2) := by
  obtain ⟨b, o, rfl, hbb, -, -, v, hd, h3⟩ := h.at' hi
  obtain ⟨aA, cA, rfl, -, -⟩ := sl_shape h3
  subst hq
  obtain ⟨bA, oA, rfl, hbA, h1, h2⟩ := h3.at' ht
  exact ⟨b, o, bA, oA, cA, rfl, hbb, hbA, hd, h1, h2⟩
theorem list_at {l : List (List Int)} {i t n c : Nat} {a : Option Addr} {w0 : World} (h : IntsLIn w0.heap.size w0 (.slice a n c) l) (hi : i < l.length) {q : Nat} (hq : (l.getD i []).length = q) (ht : t < q) :
    ∃ b o bA oA cA, a = some ⟨b, o, none⟩ ∧ b < w0.heap.size ∧ bA < w0.heap.size ∧ w0.cell? ⟨b, o + i, none⟩ = some (.slice (some ⟨bA, oA, none⟩) q cA) ∧ w0.cell? ⟨bA, oA + t, none⟩ = some (.int .i64 ((l.getD i []).getD t 0)) := by
  obtain ⟨b, o, rfl, hbb, v, hd, h3⟩ := h.at' hi
  have hd : w0.cell? ⟨b, o + i, none⟩ = some v := by have h := hd; simpa [rdInts] using h
  obtain ⟨aA, cA, rfl⟩ := IntsIn.shape h3 (show (l.getD i default).length = q from hq)
  obtain ⟨bA, oA, rfl, hbA, h1⟩ := IntsIn.at' h3 (i := t) (by rw [show (l.getD i default).length = q from hq]; exact ht)
  exact ⟨b, o, bA, oA, cA, rfl, hbb, hbA, hd, h1⟩
theorem table_at {T : List (List (Int × Int))} {i t n c : Nat} {a : Option Addr} {w0 : World} (h : TableIn w0.heap.size w0 (.slice a n c) T) (hi : i < T.length) {q : Nat} (hq : (T.getD i []).length = q) (ht : t < q) :
    ∃ b o bA oA cA, a = some ⟨b, o, none⟩ ∧ b < w0.heap.size ∧ bA < w0.heap.size ∧ w0.cell? ⟨b, o + i, none⟩ = some (.slice (some ⟨bA, oA, none⟩) q cA) ∧
      w0.cell? ⟨bA, oA + t * 2, none⟩ = some (.int .i64 ((T.getD i []).getD t (0, 0)).1) ∧ w0.cell? ⟨bA, oA + t * 2 + 1, none⟩ = some (.int .i64 ((T.getD i []).getD t (0, 0)).2) := by
  obtain ⟨b, o, rfl, hbb, v, hd, h3⟩ := h.at' hi
  have hd : w0.cell? ⟨b, o + i, none⟩ = some v := by have h := hd; simpa [rdSpans] using h
  subst hq
  obtain ⟨aA, cA, rfl, -, -⟩ := sl_shape h3
  obtain ⟨bA, oA, rfl, hbA, h1, h2⟩ := h3.at' (i := t) ht
  exact ⟨b, o, bA, oA, cA, rfl, hbb, hbA, hd, h1, h2⟩
theorem thing_at {l : List Thing} {t n c : Nat} {a : Option Addr} {w0 : World} (h : ThingsIn w0.heap.size w0 (.slice a n c) l) (ht : t < l.length) :
    ∃ b o, a = some ⟨b, o, none⟩ ∧ b < w0.heap.size ∧ w0.cell? ⟨b, o + t * 5, none⟩ = some (.string (l.getD t default).name) ∧ w0.cell? ⟨b, o + t * 5 + 1, none⟩ = some (.int .i64 (l.getD t default).kind) ∧
      w0.cell? ⟨b, o + t * 5 + 2, none⟩ = some (.int .i64 (l.getD t default).limit) ∧ w0.cell? ⟨b, o + t * 5 + 3, none⟩ = some (.int .i64 (l.getD t default).weak) ∧ w0.cell? ⟨b, o + t * 5 + 4, none⟩ = some (.int .i64 (l.getD t default).fade) := by
  obtain ⟨b, o, rfl, hb, h0, h1, h2, h3, h4, -⟩ := h.at' ht
  exact ⟨b, o, rfl, hb, h0, h1, h2, h3, h4⟩
theorem row_len (s : Shop) (l : List Bat) {k : Nat} (hk : k < l.length) : ((rangesV s l).getD k []).length = s.things.length := by
  rw [row_eq s l hk]; simp
theorem lensB_eq (s : Shop) (b : Bat) (x : Tru) : lensB s b x = (listsB x.lots s.lots.length s.things.length && listsB x.back b.back.length s.things.length && decide (x.added.length = s.things.length)) := by
  unfold lensB listsB
  simp only [Bool.and_assoc]
theorem listsB_spec {l : List (List Int)} {m q : Nat} (h : listsB l m q = true) : l.length = m ∧ ∀ i, i < m → (l.getD i []).length = q := by
  unfold listsB at h
  simp only [Bool.and_eq_true, decide_eq_true_eq, List.all_eq_true] at h
  refine ⟨h.1, fun i hi => ?_⟩
  rw [List.getD_eq_getElem?_getD, List.getElem?_eq_getElem (show i < l.length by omega)]
  exact h.2 _ (List.getElem_mem _)
/-- The test of a truth, term by term. -/
def inLots (s : Shop) (x : Tru) (t i : Nat) : Bool := !outOne ((s.lots.getD i default).parts.getD t (0, 0)).1 ((s.lots.getD i default).parts.getD t (0, 0)).2 ((x.lots.getD i []).getD t 0)
def inBack (s : Shop) (l : List Bat) (x : Tru) (t i : Nat) : Bool := !outOne (partsV (weightV (l.getD i default)) (((rangesV s l).getD i []).getD t (0, 0))).1 (partsV (weightV (l.getD i default)) (((rangesV s l).getD i []).getD t (0, 0))).2 ((x.back.getD i []).getD t 0)
def isA (s : Shop) (b : Bat) (x : Tru) (t i : Nat) : Bool := !outOne (b.added.getD t (0, 0)).1 (b.added.getD t (0, 0)).2 (x.added.getD t 0) && (List.range i).all (inLots s x t)
def isB (s : Shop) (l : List Bat) (b : Bat) (x : Tru) (t i : Nat) : Bool := isA s b x t s.lots.length && (List.range i).all (inBack s l x t)
theorem isA_next (s : Shop) (b : Bat) (x : Tru) (t i : Nat) : isA s b x t (i + 1) = (isA s b x t i && inLots s x t i) := by
  unfold isA
  rw [List.range_succ, List.all_append]
  simp [Bool.and_assoc]
theorem isB_next (s : Shop) (l : List Bat) (b : Bat) (x : Tru) (t i : Nat) : isB s l b x t (i + 1) = (isB s l b x t i && inBack s l x t i) := by
  unfold isB
  rw [List.range_succ, List.all_append]
  simp [Bool.and_assoc]
theorem isB_zero (s : Shop) (l : List Bat) (b : Bat) (x : Tru) (t : Nat) : isB s l b x t 0 = isA s b x t s.lots.length := by unfold isB; simp
theorem isB_end (s : Shop) (l : List Bat) (b : Bat) (x : Tru) (t : Nat) : isB s l b x t b.back.length = truthIn s l (rangesV s l) b x t := rfl
end Go.Proofs.Ytaigbhhmmdfdcaa
