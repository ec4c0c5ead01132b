/- Appending to rows of the call's own, in regions that draw their order. -/
import Derived.Test.YtaigbhhmmdfdcaaW14
namespace Go.Proofs.Ytaigbhhmmdfdcaa
open Go.RowKit
theorem cellB {B : Nat} {W w1 : World} (hb : Below B W w1) : (∀ b o, b < B → w1.cell? ⟨b, o, none⟩ = W.cell? ⟨b, o, none⟩) ∧ (∀ b o, b < B → w1.frozen? ⟨b, o, none⟩ = W.frozen? ⟨b, o, none⟩) :=
  ⟨fun b o h => hb.cell (p := ⟨b, o, none⟩) h, fun b o h => hb.frozen (p := ⟨b, o, none⟩) h⟩
theorem wpList_mv {P : Program} {ops : Array Oper} {rest : List Oper} {o : Oper} {a : Act} {w : World} {Q : Exit → Act → World → Prop} (hg : o.guard = none) (s : Operand) (ho : o.op = .move s) (v : Value) (hv : a.eval s = v)
    (h : wpList P ops Q rest (a.put o.dst v) w) : wpList P ops Q (o :: rest) a w := by
  refine wpList_plain hg fun K hK => ?_
  unfold Oper.wp execOp
  simp only [ho, Sem.run_pure, hv]
  exact hK _ _ h
/-- The row v, before the append; d1: the new element is laid (its slice: yb); d2: the longer row is ya. -/
structure AppX (wr : World) (base : Nat) (e : TypeId) (size : Nat) (v : Value) (n : Nat) (xs news : List Value) (d1 d2 : Bool) (yb ya : Value) (w' : World) : Prop where
  hb : base ≤ wr.heap.size
  bel : Below base wr w'
  row : d2 = false → w'.ownsRow base e size v n xs
  lay : d1 = true → d2 = false → ∃ g, yb = .slice (some ⟨g, 0, none⟩) 1 1 ∧ w'.heap[g]? = some (.cells news.toArray e)
  new : d2 = true → w'.ownsRow base e size ya (n + 1) (xs ++ news)
section
variable {wr : World} {base : Nat} {e : TypeId} {size : Nat} {v : Value} {n : Nat} {xs news : List Value} {w' w'' : World} {yb ya : Value}
theorem AppX.start (h : wr.ownsRow base e size v n xs) (hb : base ≤ wr.heap.size) : AppX wr base e size v n xs news false false yb ya wr.drew :=
  ⟨hb, (Below.refl _ _).drew, fun _ => ownsRow.below h (Below.refl _ wr).drew, fun h => (by cases h), fun h => (by cases h)⟩
theorem AppX.le {d1 d2 : Bool} (h : AppX wr base e size v n xs news d1 d2 yb ya w') : base ≤ w'.heap.size := Nat.le_trans h.hb h.bel.size
theorem AppX.call {d1 d2 : Bool} (h : AppX wr base e size v n xs news d1 d2 yb ya w') (hb : Below w'.heap.size w' w'') : AppX wr base e size v n xs news d1 d2 yb ya w'' :=
  ⟨h.hb, h.bel.trans (hb.mono (Nat.le_trans h.hb h.bel.size)), fun h2 => ownsRow.below (h.row h2) hb, fun h1 h2 => by
    obtain ⟨g, e1, e2⟩ := h.lay h1 h2
    exact ⟨g, e1, block_keep e2 hb⟩, fun h2 => ownsRow.below (h.new h2) hb⟩
theorem AppX.laid {yb' : Value} (h : AppX wr base e size v n xs news false false yb' ya w') : AppX wr base e size v n xs news true false (.slice (some ⟨w'.heap.size, 0, none⟩) 1 1) ya (w'.alloc (.cells news.toArray e)) :=
  ⟨h.hb, h.bel.alloc (Nat.le_trans h.hb h.bel.size) _, fun _ => (h.row rfl).alloc _, fun _ _ => ⟨_, rfl, heap_alloc_new _ _⟩, fun h => (by cases h)⟩
theorem AppX.got {d1 : Bool} {v' : Value} (h : AppX wr base e size v n xs news d1 false yb ya w') (hown : w''.ownsRow base e size v' (n + 1) (xs ++ news)) (hg : w'.grownBy w'' v.ownBlock) :
    AppX wr base e size v n xs news d1 true yb v' w'' :=
  ⟨h.hb, h.bel.grown hg (Nat.le_trans h.hb h.bel.size) (fun k e => (World.ownsRow.lt (h.row rfl) k e).1), fun h => (by cases h), fun _ h => (by cases h), fun _ => hown⟩
end
/-- A table grows by a list that a call makes: d1 the call is done, d2 its slice is laid, d3 the longer table is there, d4 the variable holds it. -/
structure CtW (wb : World) (base : Nat) (tv : Value) (k : Nat) (us : List Value) (f : Nat → List (Int × Int)) (d1 d2 d3 d4 : Bool) (yc yb ya yt : Value) (w' : World) : Prop where
  bel : Below base wb w'
  le : base ≤ w'.heap.size
  tab : d3 = false → OwnTable base w' tv k us f
  cl : d1 = true → d3 = false → OwnSpans base w' yc (f k)
  bd : d2 = true → d3 = false → ∃ b, yb = .slice (some ⟨b, 0, none⟩) 1 1 ∧ w'.heap[b]? = some (.cells #[yc] 54)
  ap : d3 = true → ∃ us', OwnTable base w' ya (k + 1) us' f
  t0 : d4 = false → yt = tv
  t1 : d4 = true → yt = ya
section
variable {wb : World} {base : Nat} {tv : Value} {k : Nat} {us : List Value} {f : Nat → List (Int × Int)} {d1 d2 d3 d4 : Bool} {yc yb ya yt : Value} {w' w'' : World}
theorem CtW.start (h : OwnTable base wb tv k us f) (hb : base ≤ wb.heap.size) : CtW wb base tv k us f false false false false yc yb ya tv wb.drew :=
  ⟨(Below.refl _ _).drew, hb, fun _ => h.call (Below.refl _ _).drew, fun h => (by cases h), fun h => (by cases h), fun h => (by cases h), fun _ => rfl, fun h => (by cases h)⟩
theorem CtW.cloned {v : Value} (h : CtW wb base tv k us f false false false d4 yc yb ya yt w') (hb : Below w'.heap.size w' w'') (hv : OwnSpans w'.heap.size w'' v (f k)) : CtW wb base tv k us f true false false d4 v yb ya yt w'' :=
  ⟨h.bel.trans (hb.mono h.le), Nat.le_trans h.le hb.size, fun _ => (h.tab rfl).call hb, fun _ _ => ownsRow.le hv h.le, fun h => (by cases h), fun h => (by cases h), h.t0, h.t1⟩
theorem CtW.laid (h : CtW wb base tv k us f true false false d4 yc yb ya yt w') : CtW wb base tv k us f true true false d4 yc (.slice (some ⟨w'.heap.size, 0, none⟩) 1 1) ya yt (w'.alloc (.cells #[yc] 54)) := by
  have hb := (Below.refl w'.heap.size w').alloc (Nat.le_refl _) (.cells #[yc] 54)
  exact ⟨h.bel.trans (hb.mono h.le), Nat.le_trans h.le hb.size, fun _ => (h.tab rfl).call hb, fun _ _ => ownsRow.below (h.cl rfl rfl) hb, fun _ _ => ⟨_, rfl, heap_alloc_new _ _⟩, fun h => (by cases h), h.t0, h.t1⟩
theorem CtW.got {v' : Value} (h : CtW wb base tv k us f true true false d4 yc yb ya yt w') (hd4 : d4 = false) (hown : w''.ownsRow base 54 1 v' (k + 1) (us ++ [yc])) (hg : w'.grownBy w'' tv.ownBlock) : CtW wb base tv k us f true true true d4 yc yb v' yt w'' :=
  ⟨h.bel.trans (grown_below (h.tab rfl).row hg (Nat.le_refl _) h.le), Nat.le_trans h.le hg.size, fun h => (by cases h), fun _ h => (by cases h), fun _ h => (by cases h), fun _ => ⟨_, (h.tab rfl).more (h.cl rfl rfl) hown hg⟩, h.t0, fun h => (by rw [hd4] at h; cases h)⟩
theorem CtW.put (h : CtW wb base tv k us f d1 d2 true d4 yc yb ya yt w') : CtW wb base tv k us f d1 d2 true true yc yb ya ya w' :=
  ⟨h.bel, h.le, fun h => (by cases h), fun _ h => (by cases h), fun _ h => (by cases h), h.ap, fun h => (by cases h), fun _ => rfl⟩
end
end Go.Proofs.Ytaigbhhmmdfdcaa
