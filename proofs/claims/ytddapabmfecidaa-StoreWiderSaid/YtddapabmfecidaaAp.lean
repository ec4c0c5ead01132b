/- Appending one element in a region that draws its order. -/
import Derived.Test.YtddapabmfecidaaW24
namespace Go.Proofs.Ytddapabmfecidaa
open Go.RowKit
/-- The world in a region that appends the cells news, in a new block, to the row v: d1 the block is laid, d2 the row is longer, d3 the variable holds it. -/
structure AppW (wr : World) (base : Nat) (e : TypeId) (size : Nat) (v : Value) (n : Nat) (xs news : List Value) (d1 d2 d3 : Bool) (yv ya : Value) (w' : World) : Prop where
  hb : base ≤ wr.heap.size
  bel : Below base wr w'
  old : d3 = false → yv = v
  row : d2 = false → w'.ownsRow base e size v n xs ∧ (d1 = false → w'.heap.size = wr.heap.size) ∧ (d1 = true → w'.heap[wr.heap.size]? = some (.cells news.toArray e))
  new : d2 = true → w'.ownsRow base e size ya (n + 1) (xs ++ news)
  put : d3 = true → yv = ya
theorem AppW.start {wr : World} {base : Nat} {e : TypeId} {size : Nat} {v : Value} {n : Nat} {xs news : List Value} {ya : Value} (h : wr.ownsRow base e size v n xs) (hb : base ≤ wr.heap.size) : AppW wr base e size v n xs news false false false v ya wr.drew :=
  ⟨hb, (Below.refl _ _).drew, fun _ => rfl, fun _ => ⟨ownsRow.below h (Below.refl _ wr).drew, fun _ => rfl, fun h => (by cases h)⟩, fun h => (by cases h), fun h => (by cases h)⟩
theorem AppW.laid {wr : World} {base : Nat} {e : TypeId} {size : Nat} {v : Value} {n : Nat} {xs news : List Value} {d3 : Bool} {yv ya : Value} {w' : World} (h : AppW wr base e size v n xs news false false d3 yv ya w') :
    w'.heap.size = wr.heap.size ∧ AppW wr base e size v n xs news true false d3 yv ya (w'.alloc (.cells news.toArray e)) := by
  obtain ⟨h1, h2, -⟩ := h.row rfl
  have h2 := h2 rfl
  refine ⟨h2, h.hb, h.bel.alloc (by have := h.hb; omega) _, h.old, fun _ => ⟨h1.alloc _, fun h => (by cases h), fun _ => ?_⟩, fun h => (by cases h), h.put⟩
  rw [← h2]
  exact heap_alloc_new _ _
theorem AppW.got {wr : World} {base : Nat} {e : TypeId} {size : Nat} {v : Value} {n : Nat} {xs news : List Value} {d3 : Bool} {yv ya v' : Value} {w' w'' : World} (h : AppW wr base e size v n xs news true false d3 yv ya w') (hd3 : d3 = false)
    (hown : w''.ownsRow base e size v' (n + 1) (xs ++ news)) (hg : w'.grownBy w'' v.ownBlock) : AppW wr base e size v n xs news true true d3 yv v' w'' := by
  obtain ⟨h1, -, -⟩ := h.row rfl
  have hlt := World.ownsRow.lt h1
  exact ⟨h.hb, h.bel.grown hg (by have := h.bel.size; have := h.hb; omega) (fun k e => (hlt k e).1), h.old, fun h => (by cases h), fun _ => hown, fun h => (by rw [hd3] at h; cases h)⟩
theorem AppW.assigned {wr : World} {base : Nat} {e : TypeId} {size : Nat} {v : Value} {n : Nat} {xs news : List Value} {d1 d3 : Bool} {yv ya : Value} {w' : World} (h : AppW wr base e size v n xs news d1 true d3 yv ya w') :
    AppW wr base e size v n xs news d1 true true ya ya w' := ⟨h.hb, h.bel, fun h => (by cases h), fun h => (by cases h), h.new, fun _ => rfl⟩
theorem cell_news (w : World) (g : Nat) (news : List Value) (t : TypeId) (h : w.heap[g]? = some (.cells news.toArray t)) : ∀ j u, news[j]? = some u → w.cell? ((⟨g, 0, none⟩ : Addr).add j) = some u := by
  intro j u hj
  have := cell_of_row w g j _ _ _ h
  rw [add_flat0]
  rw [Nat.zero_add, this]
  simpa using hj
where add_flat0 {g j : Nat} : ((⟨g, 0, none⟩ : Addr).add j) = ⟨g, 0 + j, none⟩ := by unfold Addr.add; split <;> simp_all
theorem cellB {B : Nat} {W w1 : World} (hb : Below B W w1) : (∀ b o, b < B → w1.cell? ⟨b, o, none⟩ = W.cell? ⟨b, o, none⟩) ∧ (∀ b o, b < B → w1.frozen? ⟨b, o, none⟩ = W.frozen? ⟨b, o, none⟩) :=
  ⟨fun b o h => hb.cell (p := ⟨b, o, none⟩) h, fun b o h => hb.frozen (p := ⟨b, o, none⟩) h⟩
theorem ownsRow_slice1 {w : World} {base : Nat} {e : TypeId} {sz : Nat} {v : Value} {k : Nat} {xs : List Value} (h : w.ownsRow base e sz v (k + 1) xs) : ∃ a c, v = .slice a (k + 1) c := by
  rcases h.2 with ⟨-, h0⟩ | ⟨g, cap, cur, rfl, -⟩
  · omega
  · exact ⟨_, _, rfl⟩
theorem wpList_mv {P : Program} {ops : Array Oper} {rest : List Oper} {o : Oper} {a : Act} {w : World} {Q : Exit → Act → World → Prop} (hg : o.guard = none) (s : Operand) (ho : o.op = .move s) (v : Value) (hv : a.eval s = v)
    (h : wpList P ops Q rest (a.put o.dst v) w) : wpList P ops Q (o :: rest) a w := by
  refine wpList_plain hg fun K hK => ?_
  unfold Oper.wp execOp
  simp only [ho, Sem.run_pure, hv]
  exact hK _ _ h
end Go.Proofs.Ytddapabmfecidaa
