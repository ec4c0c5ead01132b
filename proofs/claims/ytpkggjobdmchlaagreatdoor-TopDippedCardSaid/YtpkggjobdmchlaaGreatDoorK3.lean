/- Walks: melt, Content, Left. -/
import Derived.StillTailTactics
import Derived.Laws.ResultCell
import Derived.Test.YtpkggjobdmchlaaGreatDoorK1
import Derived.Test.YtpkggjobdmchlaaGreatDoorK2
namespace Go.Proofs.YtpkggjobdmchlaaGreatDoor
open Go.RowKit
section
variable {P : Program} {ops : Array Oper} {rest : List Oper} {o : Oper} {a : Act} {w : World} {Q : Exit → Act → World → Prop}
end
theorem cell_news (w : World) (g : Nat) (news : List Value) (t : TypeId) (h : w.heap[g]? = some (.cells news.toArray t)) : ∀ j u, news[j]? = some u → w.cell? ((⟨g, 0, none⟩ : Addr).add j) = some u := by
  intro j u hj
  have := cell_of_row w g j _ _ _ h
  rw [add_flat0]
  rw [Nat.zero_add, this]
  simpa using hj
where add_flat0 {g j : Nat} : ((⟨g, 0, none⟩ : Addr).add j) = ⟨g, 0 + j, none⟩ := by unfold Addr.add; split <;> simp_all
theorem But.setCell (g j : Nat) (w : World) (v : Value) : But g w (w.setCell ⟨g, j, none⟩ v) := ⟨rfl, rfl, rfl, by simp, fun k _ hk => heap_setCell_other _ _ _ _ hk⟩
end Go.Proofs.YtpkggjobdmchlaaGreatDoor
namespace Go.Proofs.YtpkggjobdmchlaaGreatDoor
open Go.RowKit
section
variable {B : Nat} {w wr w' : World} {s : Shop} {l : List Bat} {g : Nat → Nat} {bo : Nat → BO} {va : Value}
end
end Go.Proofs.YtpkggjobdmchlaaGreatDoor
namespace Go.Proofs.YtpkggjobdmchlaaGreatDoor
open Go.RowKit
/-- A slice of so many elements has room for them. -/
theorem ownsRow_ints {w : World} {base : Nat} {v : Value} {l : List Int} (h : w.ownsRow base 3 1 v l.length (l.map (Value.int .i64))) (hl : l.length ≤ 1000) : IntsIn .i64 w.heap.size w v l ∧ ∃ a c, v = .slice a l.length c ∧ l.length ≤ c := by
  obtain ⟨_, h⟩ := h
  rcases h with ⟨rfl, h0⟩ | ⟨g, cap, cur, rfl, hb, hg, hn, hm, hc, ht⟩
  · have : l = [] := List.eq_nil_of_length_eq_zero h0
    subst this
    exact ⟨⟨none, 0, rfl, by simp, .inl rfl⟩, none, 0, rfl, by simp⟩
  · refine ⟨⟨_, cap, rfl, by omega, .inr ⟨g, 0, rfl, block_lt hg, fun i hi => ?_⟩⟩, _, cap, rfl, hn⟩
    rw [cell_of_row w g _ _ _ _ hg, Nat.zero_add]
    have hlt : i < cur.size := by omega
    have e : (cur.toList.take (l.length * 1))[i]? = (l.map (Value.int .i64))[i]? := by rw [ht]
    rw [List.getElem?_take, if_pos (by omega), List.getElem?_map, List.getElem?_eq_getElem hi] at e
    rw [← Array.getElem?_toList, e, List.getD_eq_getElem?_getD, List.getElem?_eq_getElem hi]; rfl
theorem info3' : ∃ i, Tryz.prog.info? 3 = some i ∧ i.zero = some (.int .i64 0) ∧ i.size = 1 ∧ i.bytes = 8 := by
  obtain ⟨i, h1, h2⟩ := Option.map_eq_some_iff.1 (show (Tryz.prog.info? 3).map (fun i => (i.zero, i.size, i.bytes)) = some (some (.int .i64 0), 1, 8) by kernel_rfl)
  simp only [Prod.mk.injEq] at h2
  exact ⟨i, h1, h2⟩
theorem one_int (x : Int) : ∀ u ∈ [Value.int .i64 x], u.oneCell' = true := fun u hu => by simp at hu; subst hu; rfl
/-- A row of ints that the call owns. -/
def OwnInts (base : Nat) (w : World) (v : Value) (l : List Int) : Prop := w.ownsRow base 3 1 v l.length (l.map (Value.int .i64))
theorem OwnInts.ints {base : Nat} {w : World} {v : Value} {l : List Int} (h : OwnInts base w v l) (hl : l.length ≤ 1000) : IntsIn .i64 w.heap.size w v l := (ownsRow_ints h hl).1
def spCells (l : List (Int × Int)) : List Value := l.flatMap fun p => [.int .i64 p.1, .int .i64 p.2]
theorem spCells_at : ∀ (l : List (Int × Int)) (i : Nat), i < l.length → (spCells l)[i * 2]? = some (.int .i64 (l.getD i (0, 0)).1) ∧ (spCells l)[i * 2 + 1]? = some (.int .i64 (l.getD i (0, 0)).2)
  | [], i, h => by simp at h
  | p :: l, 0, _ => by simp [spCells]
  | p :: l, i + 1, h => by
    have := spCells_at l i (by simpa using h)
    have e : spCells (p :: l) = .int .i64 p.1 :: .int .i64 p.2 :: spCells l := rfl
    rw [e, show (i + 1) * 2 = i * 2 + 1 + 1 by omega]
    simpa using this
/-- A row of spans that the call owns. -/
def OwnSpans (base : Nat) (w : World) (v : Value) (l : List (Int × Int)) : Prop := w.ownsRow base 25 2 v l.length (spCells l)
/-- A row of lists of ranges. -/
structure OwnTable (base : Nat) (w : World) (v : Value) (n : Nat) (us : List Value) (f : Nat → List (Int × Int)) : Prop where
  len : us.length = n
  row : w.ownsRow base 133 1 v n us
  each : ∀ i, i < n → OwnSpans base w (us.getD i .nilFunc) (f i)
theorem OwnTable.call {base : Nat} {w w' : World} {v : Value} {n : Nat} {us : List Value} {f : Nat → List (Int × Int)} (h : OwnTable base w v n us f) (hb : Below w.heap.size w w') : OwnTable base w' v n us f :=
  ⟨h.len, ownsRow.below h.row hb, fun i hi => ownsRow.below (h.each i hi) hb⟩
end Go.Proofs.YtpkggjobdmchlaaGreatDoor
namespace Go.Proofs.YtpkggjobdmchlaaGreatDoor
open Go.RowKit
/-- The row v, before the append; d1: the new element is laid (its slice: yb); d2: the longer row is ya. -/
structure AppX (wr : World) (base : Nat) (e : TypeId) (size : Nat) (v : Value) (n : Nat) (xs news : List Value) (d1 d2 : Bool) (yb ya : Value) (w' : World) : Prop where
  hb : base ≤ wr.heap.size
  bel : Below base wr w'
  row : d2 = false → w'.ownsRow base e size v n xs
  lay : d1 = true → d2 = false → ∃ g, yb = .slice (some ⟨g, 0, none⟩) 1 1 ∧ w'.heap[g]? = some (.cells news.toArray e)
  new : d2 = true → w'.ownsRow base e size ya (n + 1) (xs ++ news)
section
variable {wr : World} {base : Nat} {e : TypeId} {size : Nat} {v : Value} {n : Nat} {xs news : List Value} {w' w'' : World} {yb ya : Value}
theorem AppX.le {d1 d2 : Bool} (h : AppX wr base e size v n xs news d1 d2 yb ya w') : base ≤ w'.heap.size := Nat.le_trans h.hb h.bel.size
theorem AppX.call {d1 d2 : Bool} (h : AppX wr base e size v n xs news d1 d2 yb ya w') (hb : Below w'.heap.size w' w'') : AppX wr base e size v n xs news d1 d2 yb ya w'' :=
  ⟨h.hb, h.bel.trans (hb.mono (Nat.le_trans h.hb h.bel.size)), fun h2 => ownsRow.below (h.row h2) hb, fun h1 h2 => by
    obtain ⟨g, e1, e2⟩ := h.lay h1 h2
    exact ⟨g, e1, block_keep e2 hb⟩, fun h2 => ownsRow.below (h.new h2) hb⟩
end
/-- A table grows by a list that a call makes: d1 the call is done, d2 its slice is laid, d3 the longer table is there, d4 the variable holds it. -/
structure CtW (wb : World) (base : Nat) (tv : Value) (k : Nat) (us : List Value) (f : Nat → List (Int × Int)) (d1 d2 d3 d4 : Bool) (yc yb ya yt : Value) (w' : World) : Prop where
  bel : Below base wb w'
  le : base ≤ w'.heap.size
  tab : d3 = false → OwnTable base w' tv k us f
  cl : d1 = true → d3 = false → OwnSpans base w' yc (f k)
  bd : d2 = true → d3 = false → ∃ b, yb = .slice (some ⟨b, 0, none⟩) 1 1 ∧ w'.heap[b]? = some (.cells #[yc] 133)
  ap : d3 = true → ∃ us', OwnTable base w' ya (k + 1) us' f
  t0 : d4 = false → yt = tv
  t1 : d4 = true → yt = ya
section
variable {wb : World} {base : Nat} {tv : Value} {k : Nat} {us : List Value} {f : Nat → List (Int × Int)} {d1 d2 d3 d4 : Bool} {yc yb ya yt : Value} {w' w'' : World}
theorem CtW.put (h : CtW wb base tv k us f d1 d2 true d4 yc yb ya yt w') : CtW wb base tv k us f d1 d2 true true yc yb ya ya w' :=
  ⟨h.bel, h.le, fun h => (by cases h), fun _ h => (by cases h), fun _ h => (by cases h), h.ap, fun h => (by cases h), fun _ => rfl⟩
end
end Go.Proofs.YtpkggjobdmchlaaGreatDoor
namespace Go.Proofs.YtpkggjobdmchlaaGreatDoor
open Go.RowKit
theorem IntsIn.nil {k : IntKind} {o : Option Addr} {c : Nat} (B : Nat) (w : World) : IntsIn k B w (.slice o 0 c) [] := ⟨o, c, rfl, by simp, .inl rfl⟩
end Go.Proofs.YtpkggjobdmchlaaGreatDoor
/- Rows of the call's own that grow in a drawn region: the rest of what the port left out. -/
namespace Go.Proofs.YtpkggjobdmchlaaGreatDoor
open Go.RowKit
theorem wpList_mv {P : Program} {ops : Array Oper} {rest : List Oper} {o : Oper} {a : Act} {w : World} {Q : Exit → Act → World → Prop} (hg : o.guard = none) (s : Operand) (ho : o.op = .move s) (v : Value) (hv : a.eval s = v)
    (h : wpList P ops Q rest (a.put o.dst v) w) : wpList P ops Q (o :: rest) a w := by
  refine wpList_plain hg fun K hK => ?_
  unfold Oper.wp execOp
  simp only [ho, Sem.run_pure, hv]
  exact hK _ _ h
section
variable {wr : World} {base : Nat} {e : TypeId} {size : Nat} {v : Value} {n : Nat} {xs news : List Value} {w' w'' : World} {yb ya : Value}
theorem AppX.start (h : wr.ownsRow base e size v n xs) (hb : base ≤ wr.heap.size) : AppX wr base e size v n xs news false false yb ya wr.drew :=
  ⟨hb, (Below.refl _ _).drew, fun _ => ownsRow.below h (Below.refl _ wr).drew, fun h => (by cases h), fun h => (by cases h)⟩
theorem AppX.laid {yb' : Value} (h : AppX wr base e size v n xs news false false yb' ya w') : AppX wr base e size v n xs news true false (.slice (some ⟨w'.heap.size, 0, none⟩) 1 1) ya (w'.alloc (.cells news.toArray e)) :=
  ⟨h.hb, h.bel.alloc (Nat.le_trans h.hb h.bel.size) _, fun _ => (h.row rfl).alloc _, fun _ _ => ⟨_, rfl, heap_alloc_new _ _⟩, fun h => (by cases h)⟩
theorem AppX.got {d1 : Bool} {v' : Value} (h : AppX wr base e size v n xs news d1 false yb ya w') (hown : w''.ownsRow base e size v' (n + 1) (xs ++ news)) (hg : w'.grownBy w'' v.ownBlock) :
    AppX wr base e size v n xs news d1 true yb v' w'' :=
  ⟨h.hb, h.bel.grown hg (Nat.le_trans h.hb h.bel.size) (fun k e => (World.ownsRow.lt (h.row rfl) k e).1), fun h => (by cases h), fun _ h => (by cases h), fun _ => hown⟩
end
end Go.Proofs.YtpkggjobdmchlaaGreatDoor
