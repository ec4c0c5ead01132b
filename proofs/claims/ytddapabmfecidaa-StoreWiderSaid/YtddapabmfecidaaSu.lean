/- Appending onto a fresh row; a season that is built store by store; one cell stored. -/
import Derived.Test.YtddapabmfecidaaH6
import Derived.Deep.AppendLies
import Derived.Test.YtddapabmfecidaaH3
namespace Go.Proofs.Ytddapabmfecidaa
open Go.RowKit
theorem run_append_none {P : Program} {w : World} (t ty e : TypeId) (i : TypeInfo) (ht : P.underlying t = some (.slice e)) (hi : P.info? e = some i) (b : Addr) (n c : Nat) (hn : n ≤ c) :
    (Builtin.append_ #[t, t] ty #[.slice (some b) n c, .slice none 0 0]).run P w = .ok (.slice (some b) n c) w := by
  simp [Builtin.append_, run_underlying ht, sizeOf, typeInfo, hi, Builtin.lenOf, hn, run_firstCells_none, storeCells]
/-- The source of an append: nil, or a row that lies somewhere. -/
def SrcIn (w : World) (sv : Value) (m : Nat) (news : List Value) : Prop := (sv = .slice none 0 0 ∧ m = 0 ∧ news = []) ∨ ∃ ad c, sv = .slice (some ad) m c ∧ ∀ (j : Nat) u, news[j]? = some u → w.cell? (ad.add j) = some u
theorem wpList_append_onto {P : Program} {w : World} {ops : Array Oper} {rest : List Oper} {o : Oper} {a : Act} {Q : Exit → Act → World → Prop} (hgd : o.guard = none) (s x : Operand) (t : TypeId)
    (ho : o.op = .call { callee := .builtin .append, args := #[s, x], argTypes := #[t, t] })
    (base : Nat) (e : TypeId) (i : TypeInfo) (z : Value) (size bytes : Nat) (ht : P.underlying t = some (.slice e)) (hi : P.info? e = some i) (hz : i.zero = some z)
    (hsize : i.size = size) (hby : i.bytes = bytes) (hzs : z.cells.size = size) (hsz : 0 < size)
    (v : Value) (n : Nat) (xs : List Value) (hs : a.eval s = v) (hown : w.ownsRow base e size v n xs) (hn : 0 < n)
    (sv : Value) (m : Nat) (news : List Value) (hx : a.eval x = sv) (hsrc : SrcIn w sv m news) (hl : news.length = m * size) (h1 : ∀ u ∈ news, u.oneCell' = true)
    (h63 : n + m ≤ maxLen) (hbytes : (n + m) * bytes ≤ 140737488355328) (hbase : base ≤ w.heap.size)
    (h : ∀ v' w', w'.ownsRow base e size v' (n + m) (xs ++ news) → w.grownBy w' v.ownBlock → wpList P ops Q rest (a.put o.dst v') w') : wpList P ops Q (o :: rest) a w := by
  rcases hsrc with ⟨rfl, rfl, rfl⟩ | ⟨ad, c, rfl, hnews⟩
  · have hown' := hown
    obtain ⟨hxl, h0⟩ := hown
    rcases h0 with ⟨-, h0⟩ | ⟨g, cap, cur, rfl, hb, hg, hnc, hm, hc, htk⟩
    · omega
    · refine wpList_value hgd (.slice (some ⟨g, 0, none⟩) n cap) (w' := w) ?_ (h _ w (by simpa using hown') ⟨rfl, rfl, rfl, Nat.le_refl _, fun _ _ _ => rfl⟩)
      unfold execOp
      simp only [ho, resolve, invoke, builtin, Sem.run_bind, Sem.run_pure, Result.andThen_ok, List.map_toArray, List.map_cons, List.map_nil, hs, hx, run_append_none t o.type e i ht hi _ _ _ hnc]
  · exact wpList_append_own w hgd s x t ho base e i z size bytes ht hi hz hsize hby hzs hsz v n xs hs hown ad m c news hx hl hnews h1 h63 hbytes hbase fun v' w' h2 h3 _ => h v' w' h2 h3
end Go.Proofs.Ytddapabmfecidaa
namespace Go.Proofs.Ytddapabmfecidaa
open Go.RowKit
/-- A list of spans that lies apart from the row of stores. -/
def WarmIn (wr : World) (v : Value) (bo : Nat) (u : Value) (l : List (Int × Int)) : Prop := SpansIn wr.heap.size wr u l ∧ ∀ a n c, u = .slice (some a) n c → bo < a.block ∧ v.ownBlock ≠ some a.block ∧ a.block < wr.heap.size ∧ ∃ cur, wr.heap[a.block]? = some (.cells cur 53)
theorem SpansIn.keep {w w' : World} {u : Value} {l : List (Int × Int)} (h : SpansIn w.heap.size w u l) (hs : w.heap.size ≤ w'.heap.size) (hk : ∀ a n c, u = .slice (some a) n c → a.block < w.heap.size → w'.heap[a.block]? = w.heap[a.block]?) : SpansIn w'.heap.size w' u l := by
  obtain ⟨a, c, rfl, hl, hlc, h⟩ := h
  refine ⟨a, c, rfl, hl, hlc, ?_⟩
  rcases h with h | ⟨b, o, rfl, hb, h⟩
  · exact .inl h
  · refine .inr ⟨b, o, rfl, by omega, fun i hi => ?_⟩
    have hh := hk _ _ _ rfl hb
    have e : ∀ j, w'.cell? ⟨b, j, none⟩ = w.cell? ⟨b, j, none⟩ := fun j => World.cell?_of_block hh
    rw [e, e]
    exact h i hi
structure BdW (w : World) (S : Array Value) (bo : Nat) (hd : List Value) (T : List Sto) (v : Value) (k : Nat) (wr : World) : Prop where
  rS : wr.heap[w.heap.size]? = some (.cells S 31)
  rO : wr.heap[bo]? = some (.cells (hd ++ [v]).toArray 31)
  bel : Below w.heap.size w wr
  ge : w.heap.size < bo
  own : ∃ us : List Value, us.length = k ∧ wr.ownsRow (bo + 1) 66 3 v k (stoCells (T.take k) us) ∧ ∀ i, i < k → WarmIn wr v bo (us.getD i (.bool false)) (T.getD i default).warm
theorem BdW.below {w : World} {S : Array Value} {bo : Nat} {hd : List Value} {T : List Sto} {v : Value} {k : Nat} {wr wr' : World} (h : BdW w S bo hd T v k wr) (hb : Below wr.heap.size wr wr') : BdW w S bo hd T v k wr' := by
  obtain ⟨us, h1, h2, h3⟩ := h.own
  exact ⟨block_keep h.rS hb, block_keep h.rO hb, h.bel.trans (hb.mono h.bel.size), h.ge, us, h1, ownsRow.below h2 hb, fun i hi => ⟨((h3 i hi).1.below hb).mono hb.size, fun a n c e => by have h4 := (h3 i hi).2 a n c e; obtain ⟨cur, hcur⟩ := h4.2.2.2; exact ⟨h4.1, h4.2.1, Nat.lt_of_lt_of_le h4.2.2.1 hb.size, cur, block_keep hcur hb⟩⟩⟩
/-- One store more: x lies in the block bx, its spans in a row of their own behind it. -/
theorem BdW.push {w : World} {S : Array Value} {bo : Nat} {hd : List Value} {T : List Sto} {v : Value} {k : Nat} {w1 wr : World} {us0 : List Value} (h : BdW w S bo hd T v k w1) (hb : Below w1.heap.size w1 wr) (hhd : hd.length = 5) (hk : k < T.length)
    {xv : Value} {l : List (Int × Int)} (hx : wr.ownsRow (w1.heap.size + 1) 53 2 xv l.length (spCells l)) (hl : l.length ≤ 1000) (hwl : (T.getD k default).warm = l) (hsz : w1.heap.size < wr.heap.size)
    {g cap : Nat} {w12 : World} {o : Obj} (hown : w12.ownsRow (bo + 1) 66 3 (.slice (some ⟨g, 0, none⟩) (k + 1) cap) (k + 1) (stoCells (T.take k) us0 ++ [.string (T.getD k default).name, .int .i64 (T.getD k default).rent, xv])) (hus : us0.length = k)
    (hw0 : ∀ i, i < k → WarmIn w1 v bo (us0.getD i (.bool false)) (T.getD i default).warm) (hv0 : ∀ q, v.ownBlock = some q → q < w1.heap.size ∧ bo < q)
    (hg : (wr.alloc o).grownBy w12 v.ownBlock) (hgg : v.ownBlock = some g ∨ g = (wr.alloc o).heap.size) :
    BdW w S bo hd T (.slice (some ⟨g, 0, none⟩) (k + 1) cap) (k + 1) (w12.setCell ⟨bo, 5, none⟩ (.slice (some ⟨g, 0, none⟩) (k + 1) cap)) := by
  have hge := h.ge
  have hbo : bo < w1.heap.size := block_lt h.rO
  have hrs : wr.heap.size < w12.heap.size := by have := hg.size; rw [World.size_alloc] at this; omega
  have keep : ∀ b, b < wr.heap.size → v.ownBlock ≠ some b → b ≠ bo → (w12.setCell ⟨bo, 5, none⟩ (.slice (some ⟨g, 0, none⟩) (k + 1) cap)).heap[b]? = wr.heap[b]? := by
    intro b hb1 hb2 hb3
    rw [heap_setCell_other _ _ _ _ (show b ≠ (⟨bo, 5, none⟩ : Addr).block from hb3), hg.block b (by rw [World.size_alloc]; omega) (fun e => hb2 e.symm)]
    exact Below.heap_alloc wr o b hb1
  have hvne : ∀ b, b < bo + 1 → v.ownBlock ≠ some b := fun b hlt e => by have := (hv0 b e).2; omega
  have hrO : w12.heap[bo]? = some (.cells (hd ++ [v]).toArray 31) := by
    rw [hg.block bo (by rw [World.size_alloc]; omega) (fun e => hvne bo (by omega) e.symm), Below.heap_alloc wr o bo (by omega)]
    exact (hb.block bo hbo).trans h.rO
  have hsize : (w12.setCell ⟨bo, 5, none⟩ (.slice (some ⟨g, 0, none⟩) (k + 1) cap)).heap.size = w12.heap.size := by simp
  have hB : Below w.heap.size w (w12.setCell ⟨bo, 5, none⟩ (.slice (some ⟨g, 0, none⟩) (k + 1) cap)) := by
    have h1 : Below w.heap.size w wr := h.bel.trans (hb.mono h.bel.size)
    have h2 : Below w.heap.size w (wr.alloc o) := h1.alloc h1.size o
    exact (h2.grown hg h2.size (fun q e => by have := (hv0 q e).2; omega)).setCell (p := ⟨bo, 5, none⟩) (by show w.heap.size ≤ bo; omega) _
  refine ⟨?_, ?_, hB, hge, us0 ++ [xv], by simp [hus], ?_, ?_⟩
  · exact (keep _ (Nat.lt_of_lt_of_le (block_lt h.rS) hb.size) (hvne _ (by omega)) (by omega)).trans ((hb.block _ (block_lt h.rS)).trans h.rS)
  · have := setCell_at6 hrO 5 (.slice (some ⟨g, 0, none⟩) (k + 1) cap)
    rw [this]
    congr 2
    match hd, hhd with
    | [a, b, c, d, e], _ => rfl
  · have e1 : T.take (k + 1) = T.take k ++ [T.getD k default] := by
      rw [List.take_add_one, List.getD_eq_getElem?_getD, List.getElem?_eq_getElem hk]
      rfl
    rw [e1, stoCells_snoc _ _ _ _ (by rw [List.length_take, hus]; omega)]
    exact ownsRow.keeps hown ((Keeps.refl w12 bo).setCell 5 _) (by omega)
  · intro i hi
    have hsx : SpansIn wr.heap.size wr xv l := ownsRow_spans hx hl
    by_cases hik : i < k
    · rw [List.getD_eq_getElem?_getD, List.getElem?_append_left (by omega), ← List.getD_eq_getElem?_getD]
      obtain ⟨h1, h2⟩ := hw0 i hik
      have h3 : SpansIn wr.heap.size wr (us0.getD i (.bool false)) (T.getD i default).warm := (h1.below hb).mono hb.size
      refine ⟨h3.keep (by rw [hsize]; omega) (fun a n c e hlt => ?_), fun a n c e => ?_⟩
      · have := h2 a n c e
        exact keep _ hlt this.2.1 (by omega)
      · have h4 := h2 a n c e
        have h5 := hb.size
        obtain ⟨cur, hcur⟩ := h4.2.2.2
        have h6 := h4.2.2.1
        refine ⟨h4.1, fun e2 => ?_, by rw [hsize]; omega, cur, (keep _ (by omega) h4.2.1 (by omega)).trans ((hb.block _ h6).trans hcur)⟩
        simp only [Value.ownBlock, Option.some.injEq] at e2
        rcases hgg with hgg | hgg
        · rw [e2] at hgg; exact h4.2.1 hgg
        · rw [World.size_alloc] at hgg; omega
    · obtain rfl : i = k := by omega
      rw [List.getD_eq_getElem?_getD, List.getElem?_append_right (by omega), hus, Nat.sub_self, hwl]
      show WarmIn _ _ _ xv l
      have hxl := World.ownsRow.lt hx
      have hxb : ∀ a n c, xv = .slice (some a) n c → w1.heap.size + 1 ≤ a.block ∧ a.block < wr.heap.size := fun a n c e => by
        subst e; exact hxl a.block rfl
      refine ⟨hsx.keep (by rw [hsize]; omega) (fun a n c e hlt => ?_), fun a n c e => ?_⟩
      · have h4 := hxb a n c e
        exact keep _ hlt (fun e2 => by have := (hv0 _ e2).1; omega) (by omega)
      · have h4 := hxb a n c e
        have hcur : ∃ cur, wr.heap[a.block]? = some (.cells cur 53) := by
          subst e
          obtain ⟨-, h5⟩ := hx
          rcases h5 with ⟨h5, -⟩ | ⟨g', cap', cur, h5, -, h6, -⟩
          · cases h5
          · simp only [Value.slice.injEq, Option.some.injEq] at h5
            obtain ⟨rfl, -, -⟩ := h5
            exact ⟨cur, h6⟩
        obtain ⟨cur, hcur⟩ := hcur
        refine ⟨by omega, fun e2 => ?_, by rw [hsize]; omega, cur, (keep _ h4.2 (fun e2 => by have := (hv0 _ e2).1; omega) (by omega)).trans hcur⟩
        simp only [Value.ownBlock, Option.some.injEq] at e2
        rcases hgg with hgg | hgg
        · have := (hv0 g hgg).1; omega
        · rw [World.size_alloc] at hgg; omega
/-- A row of its own can be the source of an append. -/
theorem SrcIn.own {w : World} {base : Nat} {e : TypeId} {size : Nat} {v : Value} {n : Nat} {xs : List Value} (h : w.ownsRow base e size v n xs) : SrcIn w v n xs := by
  have h' := h
  obtain ⟨hl, h⟩ := h
  rcases h with ⟨rfl, rfl⟩ | ⟨g, cap, cur, rfl, -⟩
  · rw [Nat.zero_mul] at hl
    exact .inl ⟨rfl, rfl, List.eq_nil_of_length_eq_zero hl⟩
  · exact .inr ⟨_, _, rfl, World.ownsRow.cells h' rfl⟩
end Go.Proofs.Ytddapabmfecidaa
namespace Go.Proofs.Ytddapabmfecidaa
open Go.RowKit
theorem run_store_at {P : Program} (w : World) (b o : Nat) (ty : TypeId) (v c0 : Value) (h1 : v.oneCell' = true) (hc : w.cell? ⟨b, o, none⟩ = some c0) (hf : w.frozen? ⟨b, o, none⟩ = false) (hi : (P.info? ty).map (·.size) = some 1) :
    (storeVar ty ⟨b, o, none⟩ v).run P w = .ok () (w.setCell ⟨b, o, none⟩ v) := by
  have hcl : v.cells = #[v] := by cases v <;> first | rfl | cases h1
  have this := run_storeCells_cells (P := P) b o [v] 0 w (fun j hj => by simp only [List.length_cons, List.length_nil] at hj; obtain rfl : j = 0 := by omega
                                                                         simp [hc]) (fun j hj => by simp only [List.length_cons, List.length_nil] at hj; obtain rfl : j = 0 := by omega
                                                                                                    simpa using hf)
    (fun u hu => by simp at hu; subst hu; exact h1)
  cases hq : P.info? ty with
  | none => simp [hq] at hi
  | some i =>
    have hs : i.size = 1 := by simpa [hq] using hi
    simp only [Nat.add_zero] at this
    simp [storeVar, sizeOf, typeInfo, hq, hcl, hs, this, World.setCells]
theorem wpList_store_at {P : Program} {ops : Array Oper} {rest : List Oper} {op : Oper} {a : Act} {w : World} {Q : Exit → Act → World → Prop} (hgd : op.guard = none) (ty : TypeId) (x y : Operand) (ho : op.op = .store ty x y)
    (b o : Nat) (hx : a.eval x = .pointer (some ⟨b, o, none⟩)) (v c0 : Value) (hy : a.eval y = v) (h1 : v.oneCell' = true) (hc : w.cell? ⟨b, o, none⟩ = some c0) (hf : w.frozen? ⟨b, o, none⟩ = false) (hi : (P.info? ty).map (·.size) = some 1)
    (h : wpList P ops Q rest (a.put op.dst undef) (w.setCell ⟨b, o, none⟩ v)) : wpList P ops Q (op :: rest) a w :=
  wpList_plain hgd fun _ hK => by
    unfold Oper.wp execOp
    simp only [ho, hx, hy, Instr.storeAt, Instr.sureAddr, Sem.run_bind, Sem.run_pure, Result.andThen_ok, run_store_at w b o ty v c0 h1 hc hf hi]
    exact hK _ _ h
theorem info50 : (Try.prog.info? 50).map (·.size) = some 1 := by kernel_rfl
end Go.Proofs.Ytddapabmfecidaa
