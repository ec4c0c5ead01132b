/- Appending to rows of the call's own. -/
import Derived.Test.YtafdagjdpnaddaaBl
import Derived.Test.YtafdagjdpnaddaaW1
import Derived.Great.BuildSlice
import Derived.OwnWalk
import Derived.Deep.AppendLies
namespace Go.Proofs.Ytafdagjdpnaddaa
open Go.RowKit
/-- A slice of so many elements has room for them. -/
theorem ownsRow_ints {w : World} {base : Nat} {v : Value} {l : List Int} (h : w.ownsRow base 3 1 v l.length (l.map (Value.int .i64))) (hl : l.length ≤ 1000) : IntsIn .i64 w.heap.size w v l ∧ ∃ a c, v = .slice a l.length c ∧ l.length ≤ c := by
  obtain ⟨_, h⟩ := h
  rcases h with ⟨rfl, h0⟩ | ⟨g, cap, cur, rfl, hb, hg, hn, hm, hc, ht⟩
  · have : l = [] := List.eq_nil_of_length_eq_zero h0
    subst this
    exact ⟨⟨none, 0, rfl, by simp, .inl rfl⟩, none, 0, rfl, by simp⟩
  · refine ⟨⟨_, cap, rfl, by omega, .inr ⟨g, 0, rfl, block_lt hg, fun i hi => ?_⟩⟩, _, cap, rfl, hn⟩
    rw [cell_of_row w g _ _ _ _ hg, Nat.zero_add]
    have hlt : i < cur.size := by omega
    have e : (cur.toList.take (l.length * 1))[i]? = (l.map (Value.int .i64))[i]? := by rw [ht]
    rw [List.getElem?_take, if_pos (by omega), List.getElem?_map, List.getElem?_eq_getElem hi] at e
    rw [← Array.getElem?_toList, e, List.getD_eq_getElem?_getD, List.getElem?_eq_getElem hi]; rfl
theorem ownsRow_slice {w : World} {base : Nat} {v : Value} {n sz : Nat} {e : TypeId} {xs : List Value} (h : w.ownsRow base e sz v n xs) : ∃ a c, v = .slice a n c := by
  rcases h.2 with ⟨rfl, h0⟩ | ⟨g, cap, cur, rfl, _⟩
  · exact ⟨none, 0, by rw [h0]⟩
  · exact ⟨_, _, rfl⟩
theorem ownsRow.below {w w' : World} {base : Nat} {v : Value} {n sz : Nat} {e : TypeId} {xs : List Value} (h : w.ownsRow base e sz v n xs) (hb : Below w.heap.size w w') : w'.ownsRow base e sz v n xs := by
  refine ⟨h.1, ?_⟩
  rcases h.2 with h0 | ⟨g, cap, cur, rfl, h1, h2, h3⟩
  · exact .inl h0
  · exact .inr ⟨g, cap, cur, rfl, h1, block_keep h2 hb, h3⟩
theorem ownsRow.setRow {w : World} {base X : Nat} {v : Value} {n sz : Nat} {e : TypeId} {xs : List Value} (h : w.ownsRow base e sz v n xs) (hX : X < base) (cs : Array Value) : (w.setRow X cs).ownsRow base e sz v n xs := by
  refine ⟨h.1, ?_⟩
  rcases h.2 with h0 | ⟨g, cap, cur, rfl, h1, h2, h3⟩
  · exact .inl h0
  · exact .inr ⟨g, cap, cur, rfl, h1, (setRow_other _ _ _ _ (by omega)).trans h2, h3⟩
theorem ownsRow_fresh (w : World) : (w.alloc (.cells #[] 3)).ownsRow w.heap.size 3 1 (.slice (some ⟨w.heap.size, 0, none⟩) 0 0) 0 [] :=
  ⟨rfl, .inr ⟨w.heap.size, 0, #[], rfl, Nat.le_refl _, heap_alloc_new _ _, Nat.le_refl _, Nat.zero_le _, rfl, rfl⟩⟩
/-- The world in a region that appends the cells news, in a new block, to the row v: d1 the block is laid, d2 the row is longer, d3 the variable holds it. -/
structure AppW (wr : World) (base : Nat) (e : TypeId) (size : Nat) (v : Value) (n : Nat) (xs news : List Value) (d1 d2 d3 : Bool) (yv ya : Value) (w' : World) : Prop where
  hb : base ≤ wr.heap.size
  bel : Below base wr w'
  old : d3 = false → yv = v
  row : d2 = false → w'.ownsRow base e size v n xs ∧ (d1 = false → w'.heap.size = wr.heap.size) ∧ (d1 = true → w'.heap[wr.heap.size]? = some (.cells news.toArray e))
  new : d2 = true → w'.ownsRow base e size ya (n + 1) (xs ++ news)
  put : d3 = true → yv = ya
theorem AppW.start {wr : World} {base : Nat} {e : TypeId} {size : Nat} {v : Value} {n : Nat} {xs news : List Value} {ya : Value} (h : wr.ownsRow base e size v n xs) (hb : base ≤ wr.heap.size) : AppW wr base e size v n xs news false false false v ya wr.drew :=
  ⟨hb, (Below.refl _ _).drew, fun _ => rfl, fun _ => ⟨ownsRow.below h (Below.refl _ wr).drew, fun _ => rfl, fun h => (by cases h)⟩, fun h => (by cases h), fun h => (by cases h)⟩
theorem AppW.laid {wr : World} {base : Nat} {e : TypeId} {size : Nat} {v : Value} {n : Nat} {xs news : List Value} {d3 : Bool} {yv ya : Value} {w' : World} (h : AppW wr base e size v n xs news false false d3 yv ya w') :
    w'.heap.size = wr.heap.size ∧ AppW wr base e size v n xs news true false d3 yv ya (w'.alloc (.cells news.toArray e)) := by
  obtain ⟨h1, h2, -⟩ := h.row rfl
  have h2 := h2 rfl
  refine ⟨h2, h.hb, h.bel.alloc (by have := h.hb; omega) _, h.old, fun _ => ⟨h1.alloc _, fun h => (by cases h), fun _ => ?_⟩, fun h => (by cases h), h.put⟩
  rw [← h2]
  exact heap_alloc_new _ _
theorem AppW.got {wr : World} {base : Nat} {e : TypeId} {size : Nat} {v : Value} {n : Nat} {xs news : List Value} {d3 : Bool} {yv ya v' : Value} {w' w'' : World} (h : AppW wr base e size v n xs news true false d3 yv ya w') (hd3 : d3 = false)
    (hown : w''.ownsRow base e size v' (n + 1) (xs ++ news)) (hg : w'.grownBy w'' v.ownBlock) : AppW wr base e size v n xs news true true d3 yv v' w'' := by
  obtain ⟨h1, -, -⟩ := h.row rfl
  have hlt := World.ownsRow.lt h1
  exact ⟨h.hb, h.bel.grown hg (by have := h.bel.size; have := h.hb; omega) (fun k e => (hlt k e).1), h.old, fun h => (by cases h), fun _ => hown, fun h => (by rw [hd3] at h; cases h)⟩
theorem AppW.assigned {wr : World} {base : Nat} {e : TypeId} {size : Nat} {v : Value} {n : Nat} {xs news : List Value} {d1 d3 : Bool} {yv ya : Value} {w' : World} (h : AppW wr base e size v n xs news d1 true d3 yv ya w') :
    AppW wr base e size v n xs news d1 true true ya ya w' := ⟨h.hb, h.bel, fun h => (by cases h), fun h => (by cases h), h.new, fun _ => rfl⟩
theorem cell_news (w : World) (g : Nat) (news : List Value) (t : TypeId) (h : w.heap[g]? = some (.cells news.toArray t)) : ∀ j u, news[j]? = some u → w.cell? ((⟨g, 0, none⟩ : Addr).add j) = some u := by
  intro j u hj
  have := cell_of_row w g j _ _ _ h
  rw [add_flat0]
  rw [Nat.zero_add, this]
  simpa using hj
where add_flat0 {g j : Nat} : ((⟨g, 0, none⟩ : Addr).add j) = ⟨g, 0 + j, none⟩ := by unfold Addr.add; split <;> simp_all
theorem cellB {B : Nat} {W w1 : World} (hb : Below B W w1) : (∀ b o, b < B → w1.cell? ⟨b, o, none⟩ = W.cell? ⟨b, o, none⟩) ∧ (∀ b o, b < B → w1.frozen? ⟨b, o, none⟩ = W.frozen? ⟨b, o, none⟩) :=
  ⟨fun b o h => hb.cell (p := ⟨b, o, none⟩) h, fun b o h => hb.frozen (p := ⟨b, o, none⟩) h⟩
theorem ownsRow_slice1 {w : World} {base : Nat} {e : TypeId} {sz : Nat} {v : Value} {k : Nat} {xs : List Value} (h : w.ownsRow base e sz v (k + 1) xs) : ∃ a c, v = .slice a (k + 1) c := by
  rcases h.2 with ⟨-, h0⟩ | ⟨g, cap, cur, rfl, -⟩
  · omega
  · exact ⟨_, _, rfl⟩
theorem wpList_mv {P : Program} {ops : Array Oper} {rest : List Oper} {o : Oper} {a : Act} {w : World} {Q : Exit → Act → World → Prop} (hg : o.guard = none) (s : Operand) (ho : o.op = .move s) (v : Value) (hv : a.eval s = v)
    (h : wpList P ops Q rest (a.put o.dst v) w) : wpList P ops Q (o :: rest) a w := by
  refine wpList_plain hg fun K hK => ?_
  unfold Oper.wp execOp
  simp only [ho, Sem.run_pure, hv]
  exact hK _ _ h
theorem run_append_none {P : Program} {w : World} (t ty e : TypeId) (i : TypeInfo) (ht : P.underlying t = some (.slice e)) (hi : P.info? e = some i) (b : Addr) (n c : Nat) (hn : n ≤ c) :
    (Builtin.append_ #[t, t] ty #[.slice (some b) n c, .slice none 0 0]).run P w = .ok (.slice (some b) n c) w := by
  simp [Builtin.append_, run_underlying ht, sizeOf, typeInfo, hi, Builtin.lenOf, hn, run_firstCells_none, storeCells]
/-- The source of an append: nil, or a row that lies somewhere. -/
def SrcIn (w : World) (sv : Value) (m : Nat) (news : List Value) : Prop := (sv = .slice none 0 0 ∧ m = 0 ∧ news = []) ∨ ∃ ad c, sv = .slice (some ad) m c ∧ ∀ (j : Nat) u, news[j]? = some u → w.cell? (ad.add j) = some u
theorem wpList_append_onto {P : Program} {w : World} {ops : Array Oper} {rest : List Oper} {o : Oper} {a : Act} {Q : Exit → Act → World → Prop} (hgd : o.guard = none) (s x : Operand) (t : TypeId)
    (ho : o.op = .call { callee := .builtin .append, args := #[s, x], argTypes := #[t, t] })
    (base : Nat) (e : TypeId) (i : TypeInfo) (z : Value) (size bytes : Nat) (ht : P.underlying t = some (.slice e)) (hi : P.info? e = some i) (hz : i.zero = some z)
    (hsize : i.size = size) (hby : i.bytes = bytes) (hzs : z.cells.size = size) (hsz : 0 < size)
    (v : Value) (n : Nat) (xs : List Value) (hs : a.eval s = v) (hown : w.ownsRow base e size v n xs) (hn : 0 < n)
    (sv : Value) (m : Nat) (news : List Value) (hx : a.eval x = sv) (hsrc : SrcIn w sv m news) (hl : news.length = m * size) (h1 : ∀ u ∈ news, u.oneCell' = true)
    (h63 : n + m ≤ maxLen) (hbytes : (n + m) * bytes ≤ 140737488355328) (hbase : base ≤ w.heap.size)
    (h : ∀ v' w', w'.ownsRow base e size v' (n + m) (xs ++ news) → w.grownBy w' v.ownBlock → wpList P ops Q rest (a.put o.dst v') w') : wpList P ops Q (o :: rest) a w := by
  rcases hsrc with ⟨rfl, rfl, rfl⟩ | ⟨ad, c, rfl, hnews⟩
  · have hown' := hown
    obtain ⟨hxl, h0⟩ := hown
    rcases h0 with ⟨-, h0⟩ | ⟨g, cap, cur, rfl, hb, hg, hnc, hm, hc, htk⟩
    · omega
    · refine wpList_value hgd (.slice (some ⟨g, 0, none⟩) n cap) (w' := w) ?_ (h _ w (by simpa using hown') ⟨rfl, rfl, rfl, Nat.le_refl _, fun _ _ _ => rfl⟩)
      unfold execOp
      simp only [ho, resolve, invoke, builtin, Sem.run_bind, Sem.run_pure, Result.andThen_ok, List.map_toArray, List.map_cons, List.map_nil, hs, hx, run_append_none t o.type e i ht hi _ _ _ hnc]
  · exact wpList_append_own w hgd s x t ho base e i z size bytes ht hi hz hsize hby hzs hsz v n xs hs hown ad m c news hx hl hnews h1 h63 hbytes hbase fun v' w' h2 h3 _ => h v' w' h2 h3
end Go.Proofs.Ytafdagjdpnaddaa
namespace Go.Proofs.Ytafdagjdpnaddaa
open Go.RowKit
/-- A row of its own can be the source of an append. -/
theorem SrcIn.own {w : World} {base : Nat} {e : TypeId} {size : Nat} {v : Value} {n : Nat} {xs : List Value} (h : w.ownsRow base e size v n xs) : SrcIn w v n xs := by
  have h' := h
  obtain ⟨hl, h⟩ := h
  rcases h with ⟨rfl, rfl⟩ | ⟨g, cap, cur, rfl, -⟩
  · rw [Nat.zero_mul] at hl
    exact .inl ⟨rfl, rfl, List.eq_nil_of_length_eq_zero hl⟩
  · exact .inr ⟨_, _, rfl, World.ownsRow.cells h' rfl⟩
theorem IntsIn.next {k : IntKind} {w w' : World} {v : Value} {l : List Int} (h : IntsIn k w.heap.size w v l) (hb : Below w.heap.size w w') : IntsIn k w'.heap.size w' v l := (h.below hb).mono hb.size
/-- A row of ints that the call owns. -/
def OwnInts (base : Nat) (w : World) (v : Value) (l : List Int) : Prop := w.ownsRow base 3 1 v l.length (l.map (Value.int .i64))
theorem OwnInts.ints {base : Nat} {w : World} {v : Value} {l : List Int} (h : OwnInts base w v l) (hl : l.length ≤ 1000) : IntsIn .i64 w.heap.size w v l := (ownsRow_ints h hl).1
theorem OwnInts.nil (base : Nat) (w : World) : OwnInts base w (.slice none 0 0) [] := World.ownsRow_nil w base 3 1
/-- A new list of ints is handed back. -/
def RetL (l : List Int) (w : World) (e : Ending) (w' : World) : Prop := ∃ v, e = .returned v ∧ OwnInts w.heap.size w' v l ∧ Below w.heap.size w w'
theorem info3' : ∃ i, Try.prog.info? 3 = some i ∧ i.zero = some (.int .i64 0) ∧ i.size = 1 ∧ i.bytes = 8 := by
  obtain ⟨i, h1, h2⟩ := Option.map_eq_some_iff.1 (show (Try.prog.info? 3).map (fun i => (i.zero, i.size, i.bytes)) = some (some (.int .i64 0), 1, 8) by kernel_rfl)
  simp only [Prod.mk.injEq] at h2
  exact ⟨i, h1, h2⟩
theorem one_int (x : Int) : ∀ u ∈ [Value.int .i64 x], u.oneCell' = true := fun u hu => by simp at hu; subst hu; rfl
theorem OwnInts.mono {base base' : Nat} {w : World} {v : Value} {l : List Int} (h : OwnInts base w v l) (hb : base' ≤ base) : OwnInts base' w v l := by
  refine ⟨h.1, ?_⟩
  rcases h.2 with h0 | ⟨g, cap, cur, rfl, h1, h2, h3⟩
  · exact .inl h0
  · exact .inr ⟨g, cap, cur, rfl, by omega, h2, h3⟩
theorem Bs.app {w wr : World} {l : List (Nat × Obj)} (hB : Bs w l wr) {base : Nat} {w' : World} (hb : Below base wr w') (hl : ∀ p ∈ l, p.1 < base) (h0 : w.heap.size ≤ base) : Bs w l w' :=
  ⟨fun p hp => (hb.block _ (hl p hp)).trans (hB.get' p hp), hB.inc, hB.ge, hB.bel.trans (hb.mono h0)⟩
end Go.Proofs.Ytafdagjdpnaddaa
