/- Appending one element to a row of the call's own, in a region with calls. -/
import Derived.Test.YtafdagjdpnaddaaAp
namespace Go.Proofs.Ytafdagjdpnaddaa
open Go.RowKit
/-- The row v, before the append; d1: the new element is laid (its slice: yb); d2: the longer row is ya. -/
structure AppX (wr : World) (base : Nat) (e : TypeId) (size : Nat) (v : Value) (n : Nat) (xs news : List Value) (d1 d2 : Bool) (yb ya : Value) (w' : World) : Prop where
  hb : base ≤ wr.heap.size
  bel : Below base wr w'
  row : d2 = false → w'.ownsRow base e size v n xs
  lay : d1 = true → d2 = false → ∃ g, yb = .slice (some ⟨g, 0, none⟩) 1 1 ∧ w'.heap[g]? = some (.cells news.toArray e)
  new : d2 = true → w'.ownsRow base e size ya (n + 1) (xs ++ news)
section
variable {wr : World} {base : Nat} {e : TypeId} {size : Nat} {v : Value} {n : Nat} {xs news : List Value} {w' w'' : World} {yb ya : Value}
theorem AppX.start (h : wr.ownsRow base e size v n xs) (hb : base ≤ wr.heap.size) : AppX wr base e size v n xs news false false yb ya wr.drew :=
  ⟨hb, (Below.refl _ _).drew, fun _ => ownsRow.below h (Below.refl _ wr).drew, fun h => (by cases h), fun h => (by cases h)⟩
theorem AppX.le {d1 d2 : Bool} (h : AppX wr base e size v n xs news d1 d2 yb ya w') : base ≤ w'.heap.size := Nat.le_trans h.hb h.bel.size
theorem AppX.call {d1 d2 : Bool} (h : AppX wr base e size v n xs news d1 d2 yb ya w') (hb : Below w'.heap.size w' w'') : AppX wr base e size v n xs news d1 d2 yb ya w'' :=
  ⟨h.hb, h.bel.trans (hb.mono (Nat.le_trans h.hb h.bel.size)), fun h2 => ownsRow.below (h.row h2) hb, fun h1 h2 => by
    obtain ⟨g, e1, e2⟩ := h.lay h1 h2
    exact ⟨g, e1, block_keep e2 hb⟩, fun h2 => ownsRow.below (h.new h2) hb⟩
theorem AppX.laid {yb' : Value} (h : AppX wr base e size v n xs news false false yb' ya w') : AppX wr base e size v n xs news true false (.slice (some ⟨w'.heap.size, 0, none⟩) 1 1) ya (w'.alloc (.cells news.toArray e)) :=
  ⟨h.hb, h.bel.alloc (Nat.le_trans h.hb h.bel.size) _, fun _ => (h.row rfl).alloc _, fun _ _ => ⟨_, rfl, heap_alloc_new _ _⟩, fun h => (by cases h)⟩
theorem AppX.got {d1 : Bool} {v' : Value} (h : AppX wr base e size v n xs news d1 false yb ya w') (hown : w''.ownsRow base e size v' (n + 1) (xs ++ news)) (hg : w'.grownBy w'' v.ownBlock) :
    AppX wr base e size v n xs news d1 true yb v' w'' :=
  ⟨h.hb, h.bel.grown hg (Nat.le_trans h.hb h.bel.size) (fun k e => (World.ownsRow.lt (h.row rfl) k e).1), fun h => (by cases h), fun _ h => (by cases h), fun _ => hown⟩
end
end Go.Proofs.Ytafdagjdpnaddaa
