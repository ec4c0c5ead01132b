/- Slices that read as lists: ints, ranges, things, lots, batches, lists of lists. -/
import Derived.Test.YtaigbhhmmdfdcaaBase
import Derived.Test.YtaigbhhmmdfdcaaP1
namespace Go.Proofs.Ytaigbhhmmdfdcaa
open Go.RowKit
theorem ret_bool {a b : Bool} (h : a = b) : Ending.returned (.bool a) = .returned (.bool b) := by rw [h]
theorem ret_int {k : IntKind} {a b : Int} (h : a = b) : Ending.returned (.int k a) = .returned (.int k b) := by rw [h]
/-- The slice value reads as these ints; its block lies below B. -/
def IntsIn (k : IntKind) (B : Nat) (w : World) (v : Value) (l : List Int) : Prop :=
  ∃ a c, v = .slice a l.length c ∧ l.length ≤ 1000000000000000 ∧ (l = [] ∨ ∃ b o, a = some ⟨b, o, none⟩ ∧ b < B ∧ ∀ i, i < l.length → w.cell? ⟨b, o + i, none⟩ = some (.int k (l.getD i 0)))
theorem IntsIn.below {k : IntKind} {B : Nat} {w w' : World} {v : Value} {l : List Int} (h : IntsIn k B w v l) (hb : Below B w w') : IntsIn k B w' v l := by
  obtain ⟨a, c, rfl, hl, h⟩ := h
  refine ⟨a, c, rfl, hl, ?_⟩
  rcases h with h | ⟨b, o, rfl, hbb, h⟩
  · exact .inl h
  · exact .inr ⟨b, o, rfl, hbb, fun i hi => (hb.cell (p := ⟨b, o + i, none⟩) hbb).trans (h i hi)⟩
theorem IntsIn.mono {k : IntKind} {B B' : Nat} {w : World} {v : Value} {l : List Int} (h : IntsIn k B w v l) (hb : B ≤ B') : IntsIn k B' w v l := by
  obtain ⟨a, c, rfl, hl, h⟩ := h
  refine ⟨a, c, rfl, hl, ?_⟩
  rcases h with h | ⟨b, o, rfl, hbb, h⟩
  · exact .inl h
  · exact .inr ⟨b, o, rfl, by omega, h⟩
theorem IntsIn.next {k : IntKind} {w w' : World} {v : Value} {l : List Int} (h : IntsIn k w.heap.size w v l) (hb : Below w.heap.size w w') : IntsIn k w'.heap.size w' v l := (h.below hb).mono hb.size
/-- How an element lies in the cells from a place on. -/
structure Rd (α : Type) where
  sz : Nat
  rd : Nat → World → Nat → Nat → α → Prop
  below : ∀ {B : Nat} {w w' : World} {b o : Nat} {x : α}, b < B → Below B w w' → rd B w b o x → rd B w' b o x
  mono : ∀ {B B' : Nat} {w : World} {b o : Nat} {x : α}, B ≤ B' → rd B w b o x → rd B' w b o x
/-- The slice value reads as this list. -/
def SlIn {α : Type} [Inhabited α] (R : Rd α) (B : Nat) (w : World) (v : Value) (l : List α) : Prop :=
  ∃ a c, v = .slice a l.length c ∧ l.length ≤ 1000000000000000 ∧ l.length ≤ c ∧ (l = [] ∨ ∃ b o, a = some ⟨b, o, none⟩ ∧ b < B ∧ ∀ i, i < l.length → R.rd B w b (o + i * R.sz) (l.getD i default))
section
variable {α : Type} [Inhabited α] {R : Rd α} {B B' : Nat} {w w' : World} {v : Value} {l : List α}
theorem SlIn.below (h : SlIn R B w v l) (hb : Below B w w') : SlIn R B w' v l := by
  obtain ⟨a, c, rfl, hl, hlc, h⟩ := h
  refine ⟨a, c, rfl, hl, hlc, ?_⟩
  rcases h with h | ⟨b, o, rfl, hbb, h⟩
  · exact .inl h
  · exact .inr ⟨b, o, rfl, hbb, fun i hi => R.below hbb hb (h i hi)⟩
theorem SlIn.mono (h : SlIn R B w v l) (hb : B ≤ B') : SlIn R B' w v l := by
  obtain ⟨a, c, rfl, hl, hlc, h⟩ := h
  refine ⟨a, c, rfl, hl, hlc, ?_⟩
  rcases h with h | ⟨b, o, rfl, hbb, h⟩
  · exact .inl h
  · exact .inr ⟨b, o, rfl, by omega, fun i hi => R.mono hb (h i hi)⟩
theorem SlIn.next (h : SlIn R w.heap.size w v l) (hb : Below w.heap.size w w') : SlIn R w'.heap.size w' v l := (h.below hb).mono hb.size
theorem SlIn.len (h : SlIn R B w v l) : l.length ≤ 1000000000000000 := by obtain ⟨a, c, rfl, hl, -⟩ := h; exact hl
/-- What lies at a place. -/
theorem SlIn.at (h : SlIn R B w v l) {i : Nat} (hi : i < l.length) : ∃ b o c, v = .slice (some ⟨b, o, none⟩) l.length c ∧ l.length ≤ c ∧ b < B ∧ R.rd B w b (o + i * R.sz) (l.getD i default) := by
  obtain ⟨a, c, rfl, hl, hlc, h⟩ := h
  rcases h with rfl | ⟨b, o, rfl, hbb, h⟩
  · simp at hi
  · exact ⟨b, o, c, rfl, hlc, hbb, h i hi⟩
theorem SlIn.at' {a : Option Addr} {n c : Nat} (h : SlIn R B w (.slice a n c) l) {i : Nat} (hi : i < l.length) : ∃ b o, a = some ⟨b, o, none⟩ ∧ b < B ∧ R.rd B w b (o + i * R.sz) (l.getD i default) := by
  obtain ⟨b, o, c', e, -, hbb, hh⟩ := h.at hi
  cases e
  exact ⟨b, o, rfl, hbb, hh⟩
/-- The first elements. -/
theorem SlIn.take {a : Option Addr} {n c : Nat} (h : SlIn R B w (.slice a n c) l) (i : Nat) (hi : i ≤ l.length) : SlIn R B w (.slice a i c) (l.take i) := by
  obtain ⟨a', c', he, hl, hlc, h⟩ := h
  cases he
  refine ⟨a, c, by rw [List.length_take]; congr 1; omega, by rw [List.length_take]; omega, by rw [List.length_take]; omega, ?_⟩
  rcases h with rfl | ⟨b, o, rfl, hbb, h⟩
  · exact .inl (by simp)
  · refine .inr ⟨b, o, rfl, hbb, fun k hk => ?_⟩
    rw [List.length_take] at hk
    have e : (l.take i).getD k default = l.getD k default := by
      simp only [List.getD_eq_getElem?_getD, List.getElem?_take]
      rw [if_pos (by omega)]
    rw [e]
    exact h k (by omega)
/-- A slice that is nothing. -/
theorem SlIn.nil {o : Option Addr} {c : Nat} (B : Nat) (w : World) : SlIn R B w (.slice o 0 c) ([] : List α) := ⟨o, c, rfl, by simp, Nat.zero_le _, .inl rfl⟩
end
def rdInt : Rd Int where
  sz := 1
  rd _ w b o x := w.cell? ⟨b, o, none⟩ = some (.int .i64 x)
  below hbb hb h := (hb.cell (p := ⟨_, _, none⟩) hbb).trans h
  mono _ h := h
def rdSpan : Rd (Int × Int) where
  sz := 2
  rd _ w b o x := w.cell? ⟨b, o, none⟩ = some (.int .i64 x.1) ∧ w.cell? ⟨b, o + 1, none⟩ = some (.int .i64 x.2)
  below hbb hb h := ⟨(hb.cell (p := ⟨_, _, none⟩) hbb).trans h.1, (hb.cell (p := ⟨_, _, none⟩) hbb).trans h.2⟩
  mono _ h := h
abbrev SpansIn := SlIn rdSpan
def rdThing : Rd Thing where
  sz := 5
  rd _ w b o x := w.cell? ⟨b, o, none⟩ = some (.string x.name) ∧ w.cell? ⟨b, o + 1, none⟩ = some (.int .i64 x.kind) ∧ w.cell? ⟨b, o + 2, none⟩ = some (.int .i64 x.limit) ∧
    w.cell? ⟨b, o + 3, none⟩ = some (.int .i64 x.weak) ∧ w.cell? ⟨b, o + 4, none⟩ = some (.int .i64 x.fade) ∧ x.name.size ≤ 1000000000000000
  below hbb hb h := ⟨(hb.cell (p := ⟨_, _, none⟩) hbb).trans h.1, (hb.cell (p := ⟨_, _, none⟩) hbb).trans h.2.1, (hb.cell (p := ⟨_, _, none⟩) hbb).trans h.2.2.1,
    (hb.cell (p := ⟨_, _, none⟩) hbb).trans h.2.2.2.1, (hb.cell (p := ⟨_, _, none⟩) hbb).trans h.2.2.2.2.1, h.2.2.2.2.2⟩
  mono _ h := h
def rdLot : Rd Lot where
  sz := 2
  rd B w b o x := w.cell? ⟨b, o, none⟩ = some (.string x.name) ∧ x.name.size ≤ 1000000000000000 ∧ ∃ v, w.cell? ⟨b, o + 1, none⟩ = some v ∧ SpansIn B w v x.parts
  below hbb hb h := by
    obtain ⟨h1, h2, v, h3, h4⟩ := h
    exact ⟨(hb.cell (p := ⟨_, _, none⟩) hbb).trans h1, h2, v, (hb.cell (p := ⟨_, _, none⟩) hbb).trans h3, h4.below hb⟩
  mono hb h := by
    obtain ⟨h1, h2, v, h3, h4⟩ := h
    exact ⟨h1, h2, v, h3, h4.mono hb⟩
/-- Three slices are a batch. -/
def BatAt (B : Nat) (w : World) (vg vb va : Value) (x : Bat) : Prop := IntsIn .i64 B w vg x.grams ∧ IntsIn .i64 B w vb x.back ∧ SpansIn B w va x.added
theorem BatAt.below {B : Nat} {w w' : World} {vg vb va : Value} {x : Bat} (h : BatAt B w vg vb va x) (hb : Below B w w') : BatAt B w' vg vb va x := ⟨h.1.below hb, h.2.1.below hb, h.2.2.below hb⟩
theorem BatAt.mono {B B' : Nat} {w : World} {vg vb va : Value} {x : Bat} (h : BatAt B w vg vb va x) (hb : B ≤ B') : BatAt B' w vg vb va x := ⟨h.1.mono hb, h.2.1.mono hb, h.2.2.mono hb⟩
theorem BatAt.next {w w' : World} {vg vb va : Value} {x : Bat} (h : BatAt w.heap.size w vg vb va x) (hb : Below w.heap.size w w') : BatAt w'.heap.size w' vg vb va x := (h.below hb).mono hb.size
def rdBat : Rd Bat where
  sz := 3
  rd B w b o x := ∃ vg vb va, w.cell? ⟨b, o, none⟩ = some vg ∧ w.cell? ⟨b, o + 1, none⟩ = some vb ∧ w.cell? ⟨b, o + 2, none⟩ = some va ∧ BatAt B w vg vb va x
  below hbb hb h := by
    obtain ⟨vg, vb, va, h1, h2, h3, h4⟩ := h
    exact ⟨vg, vb, va, (hb.cell (p := ⟨_, _, none⟩) hbb).trans h1, (hb.cell (p := ⟨_, _, none⟩) hbb).trans h2, (hb.cell (p := ⟨_, _, none⟩) hbb).trans h3, h4.below hb⟩
  mono hb h := by
    obtain ⟨vg, vb, va, h1, h2, h3, h4⟩ := h
    exact ⟨vg, vb, va, h1, h2, h3, h4.mono hb⟩
def rdInts : Rd (List Int) where
  sz := 1
  rd B w b o x := ∃ v, w.cell? ⟨b, o, none⟩ = some v ∧ IntsIn .i64 B w v x
  below hbb hb h := by
    obtain ⟨v, h1, h2⟩ := h
    exact ⟨v, (hb.cell (p := ⟨_, _, none⟩) hbb).trans h1, h2.below hb⟩
  mono hb h := by
    obtain ⟨v, h1, h2⟩ := h
    exact ⟨v, h1, h2.mono hb⟩
def rdSpans : Rd (List (Int × Int)) where
  sz := 1
  rd B w b o x := ∃ v, w.cell? ⟨b, o, none⟩ = some v ∧ SpansIn B w v x
  below hbb hb h := by
    obtain ⟨v, h1, h2⟩ := h
    exact ⟨v, (hb.cell (p := ⟨_, _, none⟩) hbb).trans h1, h2.below hb⟩
  mono hb h := by
    obtain ⟨v, h1, h2⟩ := h
    exact ⟨v, h1, h2.mono hb⟩
abbrev ThingsIn := SlIn rdThing
abbrev LotsIn := SlIn rdLot
abbrev BatsIn := SlIn rdBat
abbrev IntsLIn := SlIn rdInts
abbrev TableIn := SlIn rdSpans
/-- Two slices are a shop. -/
def ShopAt (B : Nat) (w : World) (vt vl : Value) (s : Shop) : Prop := ThingsIn B w vt s.things ∧ LotsIn B w vl s.lots
theorem ShopAt.below {B : Nat} {w w' : World} {vt vl : Value} {s : Shop} (h : ShopAt B w vt vl s) (hb : Below B w w') : ShopAt B w' vt vl s := ⟨h.1.below hb, h.2.below hb⟩
theorem ShopAt.mono {B B' : Nat} {w : World} {vt vl : Value} {s : Shop} (h : ShopAt B w vt vl s) (hb : B ≤ B') : ShopAt B' w vt vl s := ⟨h.1.mono hb, h.2.mono hb⟩
theorem ShopAt.next {w w' : World} {vt vl : Value} {s : Shop} (h : ShopAt w.heap.size w vt vl s) (hb : Below w.heap.size w w') : ShopAt w'.heap.size w' vt vl s := (h.below hb).mono hb.size
/-- Three slices are a truth. -/
def TruAt (B : Nat) (w : World) (vl vb va : Value) (x : Tru) : Prop := IntsLIn B w vl x.lots ∧ IntsLIn B w vb x.back ∧ IntsIn .i64 B w va x.added
theorem TruAt.below {B : Nat} {w w' : World} {vl vb va : Value} {x : Tru} (h : TruAt B w vl vb va x) (hb : Below B w w') : TruAt B w' vl vb va x := ⟨h.1.below hb, h.2.1.below hb, h.2.2.below hb⟩
theorem TruAt.mono {B B' : Nat} {w : World} {vl vb va : Value} {x : Tru} (h : TruAt B w vl vb va x) (hb : B ≤ B') : TruAt B' w vl vb va x := ⟨h.1.mono hb, h.2.1.mono hb, h.2.2.mono hb⟩
theorem TruAt.next {w w' : World} {vl vb va : Value} {x : Tru} (h : TruAt w.heap.size w vl vb va x) (hb : Below w.heap.size w w') : TruAt w'.heap.size w' vl vb va x := (h.below hb).mono hb.size
/-- The bounds of a world, through a call. -/
theorem bcell {W w1 : World} (hb : Below W.heap.size W w1) : (∀ b o, b < W.heap.size → w1.cell? ⟨b, o, none⟩ = W.cell? ⟨b, o, none⟩) ∧ (∀ b o, b < W.heap.size → w1.frozen? ⟨b, o, none⟩ = W.frozen? ⟨b, o, none⟩) :=
  ⟨fun b o h => hb.cell (p := ⟨b, o, none⟩) h, fun b o h => hb.frozen (p := ⟨b, o, none⟩) h⟩
end Go.Proofs.Ytaigbhhmmdfdcaa
