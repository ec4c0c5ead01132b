/- dip.Fewest: what its closure has and keeps. -/
import Derived.Maps.OwnIn
import Derived.Test.YtpkggjobdmchlaaGreatDoorE11
namespace Go.Proofs.YtpkggjobdmchlaaGreatDoor
open Go.RowKit Go.ChangeMaps Go.MapKept
/-- A search: what it is about, and where it lies. -/
structure TQ where
  s : DShop
  t : DTap
  lo : Int
  hi : Int
  bound : Int
  ks : List DDip
  v : Value
  kv : Value
  vb : Nat
  tb : Nat
  wb : Nat
  nb : Nat
  kb : Nat
  bb : Nat
  fb : Nat
  xb : Nat
  Mb : Nat
  Bq : Nat
  Ob : Nat
  w0 : World
structure TQ.Ok (q : TQ) : Prop where
  s : DOk q.s
  t : TapOk q.t
  ks : ∀ d ∈ q.ks, DipOk q.s d
  n1 : 1 ≤ q.ks.length
  n5 : q.ks.length ≤ 5
  bound : 0 ≤ q.bound ∧ q.bound ≤ 9223372036854775807
  v : DBathsIn q.Bq q.w0 q.v q.s.baths
  kv : DipsIn q.Bq q.w0 q.kv q.ks
  vb : q.Bq ≤ q.vb ∧ q.vb < q.Ob
  tb : q.Bq ≤ q.tb ∧ q.tb < q.Ob
  wb : q.Bq ≤ q.wb ∧ q.wb < q.Ob
  nb : q.Bq ≤ q.nb ∧ q.nb < q.Ob
  kb : q.Bq ≤ q.kb ∧ q.kb < q.Ob
  bb : q.Bq ≤ q.bb ∧ q.bb < q.Ob
  fb : q.Bq ≤ q.fb ∧ q.fb < q.Ob
  xb : q.Bq ≤ q.xb ∧ q.xb < q.Ob
  Mb : q.Bq ≤ q.Mb ∧ q.Mb < q.Ob
  ne : q.vb ≠ q.bb ∧ q.tb ≠ q.bb ∧ q.wb ≠ q.bb ∧ q.nb ≠ q.bb ∧ q.kb ≠ q.bb ∧ q.fb ≠ q.bb ∧ q.xb ≠ q.bb
  nm : q.Mb ≠ q.bb
/-- What stands all the while. -/
structure TryS (q : TQ) (W : World) : Prop where
  vb : W.heap[q.vb]? = some (.cells #[.map (some q.Mb)] 111)
  tb : W.heap[q.tb]? = some (.cells (tapC q.t) 34)
  wb : W.heap[q.wb]? = some (.cells #[.int .i64 q.lo, .int .i64 q.hi] 25)
  nb : W.heap[q.nb]? = some (.cells #[.int .i64 q.bound] 3)
  kb : W.heap[q.kb]? = some (.cells #[q.kv] 35)
  fb : W.heap[q.fb]? = some (.cells #[.func (.func 46) #[] #[.pointer (some ⟨q.vb, 0, none⟩), .pointer (some ⟨q.tb, 0, none⟩), .pointer (some ⟨q.wb, 0, none⟩), .pointer (some ⟨q.nb, 0, none⟩), .pointer (some ⟨q.kb, 0, none⟩), .pointer (some ⟨q.bb, 0, none⟩), .pointer (some ⟨q.fb, 0, none⟩), .pointer (some ⟨q.xb, 0, none⟩)]] 112)
  xb : W.heap[q.xb]? = some (.cells (dshopC q.s q.v) 106)
  bel : Below q.Bq q.w0 W
  sz : q.Ob ≤ W.heap.size
/-- The block that the plan so far lies in. -/
def Back (bb : Nat) (W : World) (k : Nat) : Prop := ∃ v : Value, W.heap[bb]? = some (.cells #[v] 49) ∧ v.ownBlock = some k
def kInts (l : List Nat) : List Value := (l.map (fun i : Nat => (i : Int))).map (Value.int .i64)
/-- The plan so far. -/
def BestAt (q : TQ) (W : World) (l : List Nat) : Prop := ∃ v, W.heap[q.bb]? = some (.cells #[v] 49) ∧ W.ownsRow q.Ob 3 1 v l.length (kInts l)
/-- What a search keeps. -/
structure TK (q : TQ) (W W' : World) : Prop where
  size : W.heap.size ≤ W'.heap.size
  bel : Below q.Bq W W'
  cells : ∀ k cs t, k ≠ q.bb → ¬ Back q.bb W k → W.heap[k]? = some (.cells cs t) → W'.heap[k]? = some (.cells cs t)
  nons : ∀ k o, k ≠ q.Mb → W.heap[k]? = some o → o.isCells = false → W'.heap[k]? = some o
  back : ∀ k, Back q.bb W' k → Back q.bb W k ∨ W.heap.size ≤ k
section
variable {q : TQ} {W W' X Y Z : World} {l : List Nat}
theorem TK.refl (q : TQ) (W : World) : TK q W W := ⟨Nat.le_refl _, Below.refl _ _, fun _ _ _ _ _ h => h, fun _ _ _ h _ => h, fun _ h => .inl h⟩
theorem TK.t (h : TK q X Y) (k : TK q Y Z) : TK q X Z := by
  refine ⟨Nat.le_trans h.size k.size, h.bel.trans k.bel, fun i cs t hb hn hi => k.cells i cs t hb (fun hy => ?_) (h.cells i cs t hb hn hi), fun i o hm hi hc => k.nons i o hm (h.nons i o hm hi hc) hc, fun i hz => ?_⟩
  · rcases h.back i hy with h1 | h1
    · exact hn h1
    · have := block_lt hi
      omega
  · rcases k.back i hz with h1 | h1
    · exact h.back i h1
    · exact .inr (Nat.le_trans h.size h1)
theorem TK.below (hB : Below W.heap.size W W') (hq : q.Bq ≤ W.heap.size) (hb : q.bb < W.heap.size) : TK q W W' :=
  ⟨hB.size, hB.mono hq, fun _ _ _ _ _ h => block_keep h hB, fun _ _ _ h _ => block_keep h hB, fun _ ⟨v, h1, h2⟩ => .inl ⟨v, (hB.block _ hb).symm.trans h1, h2⟩⟩
/-- The box is written, and the row that it holds is another one of its own. -/
theorem TK.grow (hq : q.Ok) {v v' : Value} {n : Nat} {xs : List Value} (hb : W.heap[q.bb]? = some (.cells #[v] 49)) (ho : W.ownsRow q.Ob 3 1 v n xs) (hs : q.Ob ≤ W.heap.size) (hg : W.grownBy X v.ownBlock) (hat : v'.ownBlock = v.ownBlock ∨ v'.ownBlock = some W.heap.size) (hB : But q.bb X W') (hh : W'.heap[q.bb]? = some (.cells #[v'] 49)) : TK q W W' := by
  have hlow : ∀ k, v.ownBlock = some k → q.Ob ≤ k := by
    intro k hk
    rcases ho.2 with ⟨rfl, _⟩ | ⟨g, cap, cur, rfl, h1, _⟩
    · simp [Value.ownBlock] at hk
    · simp [Value.ownBlock] at hk
      omega
  have h1 : ∀ k, k < W.heap.size → k ≠ q.bb → v.ownBlock ≠ some k → W'.heap[k]? = W.heap[k]? := by
    intro k hk hne hb
    exact (hB.block k (Nat.lt_of_lt_of_le hk hg.size) hne).trans (hg.block k hk (fun e => hb e.symm))
  have hqb := hq.bb
  refine ⟨Nat.le_trans hg.size hB.size, ⟨hB.os.trans hg.os, hB.tape.trans hg.tape, hB.output.trans hg.output, Nat.le_trans hg.size hB.size, fun k hk => h1 k (by omega) (by omega) (fun e => by have := hlow k e; omega)⟩, fun k cs t hne hnb hk => (h1 k (block_lt hk) hne (fun e => hnb ⟨v, hb, e⟩)).trans hk, fun k o hne hk hc => ?_, fun k hk => ?_⟩
  · refine (h1 k (block_lt hk) (fun e => ?_) (fun e => ?_)).trans hk
    · subst e
      rw [hb] at hk
      cases hk
      simp [Obj.isCells] at hc
    · rcases ho.2 with ⟨rfl, _⟩ | ⟨g, cap, cur, rfl, h2, h3, _⟩
      · simp [Value.ownBlock] at e
      · simp [Value.ownBlock] at e
        subst e
        rw [h3] at hk
        cases hk
        simp [Obj.isCells] at hc
  · obtain ⟨u, hu, hv⟩ := hk
    rw [hh] at hu
    cases hu
    rcases hat with h2 | h2
    · exact .inl ⟨v, hb, h2 ▸ hv⟩
    · rw [h2] at hv
      cases hv
      exact .inr (Nat.le_refl _)
theorem TK.set (hq : q.Ok) {v v' : Value} {n : Nat} {xs : List Value} (hb : W.heap[q.bb]? = some (.cells #[v] 49)) (ho : W.ownsRow q.Ob 3 1 v n xs) (hs : q.Ob ≤ W.heap.size) (hat : v'.ownBlock = v.ownBlock) (hB : But q.bb W W') (hh : W'.heap[q.bb]? = some (.cells #[v'] 49)) : TK q W W' :=
  TK.grow hq hb ho hs ⟨rfl, rfl, rfl, Nat.le_refl _, fun _ _ _ => rfl⟩ (.inl hat) hB hh
/-- The map alone is written. -/
theorem TK.map (hq : q.Ok) {o o' : Obj} (hm : W.heap[q.Mb]? = some o) (hc : o.isCells = false) (_hs : q.Ob ≤ W.heap.size) : TK q W (setBlock W q.Mb o') := by
  have h1 : ∀ k, k ≠ q.Mb → (setBlock W q.Mb o').heap[k]? = W.heap[k]? := by
    intro k hk
    simp [setBlock, hk.symm]
  have hqm := hq.Mb
  refine ⟨by simp [setBlock], ⟨rfl, rfl, rfl, by simp [setBlock], fun k hk => h1 k (by omega)⟩, fun k cs t _ _ hk => ?_, fun k u hne hk _ => (h1 k hne).trans hk, fun k ⟨u, hu, hv⟩ => .inl ⟨u, (h1 _ (fun e => hq.nm e.symm)).symm.trans hu, hv⟩⟩
  by_cases e : k = q.Mb
  · subst e
    rw [hm] at hk
    cases hk
    simp [Obj.isCells] at hc
  · exact (h1 k e).trans hk
theorem TK.turn (hq : q.Ok) {l : Nat} {o' : Obj} (h : TK q X W) (hX : X.heap.size ≤ l) (hs : q.Ob ≤ X.heap.size) : TK q X (W.putObj l o') := by
  have h1 : ∀ k, k ≠ l → (W.putObj l o').heap[k]? = W.heap[k]? := fun k hk => World.putObj_heap_other hk
  have hqb := hq.bb
  refine ⟨Nat.le_trans h.size (by simp [World.putObj]), h.bel.trans ⟨rfl, rfl, rfl, by simp [World.putObj], fun k hk => h1 k (by omega)⟩, fun k cs t hne hnb hk => (h1 k (by have := block_lt hk; omega)).trans (h.cells k cs t hne hnb hk), fun k u hne hk hu => (h1 k (by have := block_lt hk; omega)).trans (h.nons k u hne hk hu), fun k ⟨u, hu, hv⟩ => h.back k ⟨u, (h1 _ (by omega)).symm.trans hu, hv⟩⟩
/-- The leaving keeps all cells. -/
theorem TK.leave {B : Nat} (hq : q.Ok) (h : TK q X W) (hB : X.heap.size ≤ B) (hs : q.Ob ≤ X.heap.size) (hb : ∃ v, W.heap[q.bb]? = some (.cells #[v] 49)) (hk : CellsKeep B W W') : TK q X W' := by
  have hqb := hq.bb
  obtain ⟨v, hv⟩ := hb
  refine ⟨Nat.le_trans h.size hk.bel.size, h.bel.trans (hk.bel.mono (by omega)), fun k cs t hne hnb hi => hk.cells _ _ _ _ (h.cells k cs t hne hnb hi), fun k o hne hi hc => (hk.bel.block k (by have := block_lt hi; omega)).trans (h.nons k o hne hi hc), fun k ⟨u, hu, hw⟩ => h.back k ⟨v, hv, ?_⟩⟩
  have := hk.cells _ _ _ _ hv
  rw [this] at hu
  cases hu
  exact hw
theorem BestAt.back (h : BestAt q W l) {k : Nat} (hk : Back q.bb W k) : q.Ob ≤ k ∧ k < W.heap.size ∧ ∃ cs, W.heap[k]? = some (.cells cs 3) := by
  obtain ⟨v, h1, h2⟩ := h
  obtain ⟨u, h3, h4⟩ := hk
  rw [h1] at h3
  cases h3
  rcases h2.2 with ⟨rfl, _⟩ | ⟨g, cap, cur, rfl, h5, h6, _⟩
  · simp [Value.ownBlock] at h4
  · simp [Value.ownBlock] at h4
    subst h4
    exact ⟨h5, block_lt h6, _, h6⟩
theorem BestAt.keep (h : BestAt q W l) (hk : ∀ (k : Nat) (cs : Array Value) (t : TypeId), W.heap[k]? = some (.cells cs t) → W'.heap[k]? = some (.cells cs t)) : BestAt q W' l := by
  obtain ⟨v, h1, h2⟩ := h
  refine ⟨v, hk _ _ _ h1, h2.1, ?_⟩
  rcases h2.2 with h0 | ⟨b, cap, cur, rfl, h3, h4, h5⟩
  · exact .inl h0
  · exact .inr ⟨b, cap, cur, rfl, h3, hk _ _ _ h4, h5⟩
theorem TryS.keep (hq : q.Ok) (h : TryS q W) (hb : BestAt q W l) (hk : TK q W W') : TryS q W' := by
  have nb : ∀ k, k < q.Ob → ¬ Back q.bb W k := fun k hlt hB => by have := (hb.back hB).1; omega
  obtain ⟨n1, n2, n3, n4, n5, n6, n7⟩ := hq.ne
  exact ⟨hk.cells _ _ _ n1 (nb _ hq.vb.2) h.vb, hk.cells _ _ _ n2 (nb _ hq.tb.2) h.tb, hk.cells _ _ _ n3 (nb _ hq.wb.2) h.wb, hk.cells _ _ _ n4 (nb _ hq.nb.2) h.nb, hk.cells _ _ _ n5 (nb _ hq.kb.2) h.kb, hk.cells _ _ _ n6 (nb _ hq.fb.2) h.fb, hk.cells _ _ _ n7 (nb _ hq.xb.2) h.xb, h.bel.trans hk.bel, Nat.le_trans h.sz hk.size⟩
end
theorem wpList_lookup_m {P : Program} {ops : Array Oper} {rest : List Oper} {o : Oper} {a : Act} {w : World} {Q : Exit → Act → World → Prop} (hg : o.guard = none) (m x : Operand) (t : TypeId) (hop : o.op = .lookup t m x false) (v : Value)
    (hr : (Instr.lookup t (a.eval m) (a.eval x) false).run P w = .ok v w) (h : wpList P ops Q rest (a.put o.dst v) w) : wpList P ops Q (o :: rest) a w := by
  refine wpList_plain hg fun K' hK' => ?_
  unfold Oper.wp
  simp [execOp, hop, hr, Result.andThen]
  exact hK' _ _ h
theorem wpList_mapEntry_m {P : Program} {ops : Array Oper} {rest : List Oper} {o : Oper} {a : Act} {w w' : World} {Q : Exit → Act → World → Prop} (hg : o.guard = none) (m x : Operand) (t : TypeId) (hop : o.op = .mapEntry t m x) (v : Value)
    (hr : (Instr.mapEntry t (a.eval m) (a.eval x)).run P w = .ok v w') (h : wpList P ops Q rest (a.put o.dst v) w') : wpList P ops Q (o :: rest) a w := by
  refine wpList_plain hg fun K' hK' => ?_
  unfold Oper.wp
  simp [execOp, hop, hr, Result.andThen]
  exact hK' _ _ h
theorem wpList_entryStore_m {P : Program} {ops : Array Oper} {rest : List Oper} {o : Oper} {a : Act} {w w' : World} {Q : Exit → Act → World → Prop} (hg : o.guard = none) (m x y : Operand) (t : TypeId) (hop : o.op = .entryStore t m x y)
    (hr : (Instr.entryStore t (a.eval m) (a.eval x) (a.eval y)).run P w = .ok () w') (h : wpList P ops Q rest (a.put o.dst undef) w') : wpList P ops Q (o :: rest) a w := by
  refine wpList_plain hg fun K' hK' => ?_
  unfold Oper.wp
  simp [execOp, hop, hr, Result.andThen]
  exact hK' _ _ h
/-- A list of its own loses its last. -/
theorem ownsRow_pop {w : World} {base n cap : Nat} {e : TypeId} {a : Option Addr} {xs : List Value} {x : Value} (h : w.ownsRow base e 1 (.slice a (n + 1) cap) (n + 1) (xs ++ [x])) (hn : xs.length = n) : w.ownsRow base e 1 (.slice a n cap) n xs := by
  rcases h.2 with ⟨h0, h1⟩ | ⟨g, cap', cur, h1, h2, h3, h4, h5, h6, h7⟩
  · omega
  · cases h1
    refine ⟨by omega, .inr ⟨g, cap, cur, rfl, h2, h3, by omega, h5, h6, ?_⟩⟩
    have := congrArg (List.take n) h7
    rw [List.take_take, ← hn, List.take_left] at this
    rw [← this, Nat.mul_one, hn]
    congr 1
    omega
theorem kInts_snoc (l : List Nat) (k : Nat) : kInts (l ++ [k]) = kInts l ++ [.int .i64 k] := by simp [kInts]
theorem kInts_length (l : List Nat) : (kInts l).length = l.length := by simp [kInts]
def zeroC : List Int := [0, 0, 0, 0, 0]
/-- A plan is lost: the taper can be thinner than its wick. -/
def lostB (q : TQ) (c : List Int) (r : DRng) : Bool := decide (min r.top.1 r.foot.1 < q.t.wick) && !(decide (c = zeroC))
/-- The range is in the wish. -/
def wishB (q : TQ) (r : DRng) : Bool := !outB q.lo q.hi [r.top.1, r.top.2, r.foot.1, r.foot.2] && !outB (-q.bound) q.bound [r.skew.1, r.skew.2]
/-- The first of the plans with so many more dips. -/
def firstP (q : TQ) : Nat → List Int → DRng → Option (List Nat)
  | 0, c, r => if lostB q c r = true then none else if wishB q r = true then some [] else none
  | l + 1, c, r => if lostB q c r = true then none else (List.range q.ks.length).findSome? fun k => (firstP q l (incr c k) (afterV q.s r (q.ks.getD k default))).map (k :: ·)
theorem range_none {α : Type} {K : Nat} {g : Nat → Option α} (h : ∀ k, k < K → g k = none) : (List.range K).findSome? g = none := by
  rw [List.findSome?_eq_none_iff]
  intro k hk
  exact h k (List.mem_range.1 hk)
theorem range_some {α : Type} {g : Nat → Option α} {j : Nat} {p : α} (hn : ∀ k, k < j → g k = none) (hj : g j = some p) : ∀ K, j < K → (List.range K).findSome? g = some p
  | 0, h => absurd h (Nat.not_lt_zero _)
  | K + 1, h => by
    rw [List.range_succ, List.findSome?_append]
    by_cases e : j < K
    · rw [range_some hn hj K e]; rfl
    · obtain rfl : j = K := by omega
      rw [range_none hn]
      simp [hj]
/-- A sum over the kinds. -/
def lin (f : DDip → Int) (ks : List DDip) (c : List Int) : Int := c.getD 0 0 * f (ks.getD 0 default) + c.getD 1 0 * f (ks.getD 1 default) + c.getD 2 0 * f (ks.getD 2 default) + c.getD 3 0 * f (ks.getD 3 default) + c.getD 4 0 * f (ks.getD 4 default)
theorem lin_zero (f : DDip → Int) (ks : List DDip) : lin f ks zeroC = 0 := by simp [lin, zeroC]
theorem incr_getD {c : List Int} (hc : c.length = 5) {k : Nat} (hk : k < 5) (j : Nat) : (incr c k).getD j 0 = if k = j then c.getD k 0 + 1 else c.getD j 0 := by
  unfold incr
  simp only [List.getD_eq_getElem?_getD, List.getElem?_set]
  split
  · rename_i h
    subst h
    simp [hc, hk]
  · rfl
theorem lin_incr (f : DDip → Int) (ks : List DDip) {c : List Int} (hc : c.length = 5) {k : Nat} (hk : k < 5) : lin f ks (incr c k) = lin f ks c + f (ks.getD k default) := by
  unfold lin
  simp only [incr_getD hc hk]
  rcases (by omega : k = 0 ∨ k = 1 ∨ k = 2 ∨ k = 3 ∨ k = 4) with rfl | rfl | rfl | rfl | rfl <;> simp <;> rw [Int.add_mul, Int.one_mul] <;> omega
def stOf (q : TQ) (c : List Int) : DRng :=
  ⟨(q.t.top + lin (fun d => (hotV q.s d).1) q.ks c, q.t.top + lin (fun d => (coldV q.s d).1) q.ks c), (q.t.foot + lin (fun d => (hotV q.s d).2) q.ks c, q.t.foot + lin (fun d => (coldV q.s d).2) q.ks c),
    (q.t.foot - q.t.top + lin (fun d => skewG (leastV q.s d).1) q.ks c, q.t.foot - q.t.top + lin (fun d => skewG (mostV q.s d).1) q.ks c)⟩
theorem stOf_zero (q : TQ) : stOf q zeroC = beginV q.t := by simp [stOf, beginV, lin_zero]
theorem stOf_incr (q : TQ) {c : List Int} (hc : c.length = 5) {k : Nat} (hk : k < 5) : stOf q (incr c k) = afterV q.s (stOf q c) (q.ks.getD k default) := by
  simp only [stOf, afterV, lin_incr _ _ hc hk, Int.add_assoc]
/-- Counts that may grow by so many. -/
structure CntB (c : List Int) (left : Nat) : Prop where
  len : c.length = 5
  n : left ≤ 10
  c : ∀ k, 0 ≤ c.getD k 0 ∧ c.getD k 0 + left ≤ 10
theorem CntB.incr {c : List Int} {l : Nat} (h : CntB c (l + 1)) {k : Nat} (hk : k < 5) : CntB (incr c k) l := by
  refine ⟨by rw [incr_len]; exact h.len, by have := h.n; omega, fun j => ?_⟩
  rw [incr_getD h.len hk]
  have h1 := h.c k
  have h2 := h.c j
  have h3 : ((l + 1 : Nat) : Int) = (l : Int) + 1 := by push_cast; rfl
  split <;> omega
theorem CntB.zero {l : Nat} (h : l ≤ 10) : CntB zeroC l := by
  refine ⟨rfl, h, fun k => ?_⟩
  have : zeroC.getD k 0 = 0 := by
    rcases (by omega : k = 0 ∨ k = 1 ∨ k = 2 ∨ k = 3 ∨ k = 4 ∨ 5 ≤ k) with rfl | rfl | rfl | rfl | rfl | h <;> try rfl
    rw [List.getD_eq_getElem?_getD, List.getElem?_eq_none (by simp [zeroC]; omega)]
    rfl
  rw [this]
  omega
theorem lin_bound {f : DDip → Int} {ks : List DDip} {c : List Int} {l : Nat} (hc : CntB c l) (hf : ∀ k, k < 5 → -50000000 ≤ f (ks.getD k default) ∧ f (ks.getD k default) ≤ 50000000) : -2500000000 ≤ lin f ks c ∧ lin f ks c ≤ 2500000000 := by
  have key : ∀ k, k < 5 → -500000000 ≤ c.getD k 0 * f (ks.getD k default) ∧ c.getD k 0 * f (ks.getD k default) ≤ 500000000 := by
    intro k hk
    have h1 := hf k hk
    have h2 := hc.c k
    have h3 : c.getD k 0 ≤ 10 := by omega
    generalize c.getD k 0 = a at *
    generalize f (ks.getD k default) = b at *
    have h4 := Int.mul_le_mul_of_nonneg_left h1.2 h2.1
    have h5 := Int.mul_le_mul_of_nonneg_left h1.1 h2.1
    omega
  have k0 := key 0 (by omega)
  have k1 := key 1 (by omega)
  have k2 := key 2 (by omega)
  have k3 := key 3 (by omega)
  have k4 := key 4 (by omega)
  unfold lin
  omega
/-- What is known to be in vain. -/
def BadK (q : TQ) (v : Value) : Prop := ∀ (c : List Int) (l : Nat), v = .agg (ints (c ++ [(l : Int)])) → firstP q l c (stOf q c) = none
theorem ints_inj {a b : List Int} (h : ints a = ints b) : a = b := by
  have h1 : (ints a).toList = (ints b).toList := by rw [h]
  unfold ints at h1
  simp only at h1
  have h2 : ∀ l m : List Int, l.map (Value.int .i64) = m.map (Value.int .i64) → l = m := by
    intro l
    induction l with
    | nil => intro m hm; cases m with
      | nil => rfl
      | cons => cases hm
    | cons x l ih => intro m hm; cases m with
      | nil => cases hm
      | cons y m =>
        simp only [List.map_cons, List.cons.injEq, Value.int.injEq, true_and] at hm
        rw [hm.1, ih m hm.2]
  exact h2 _ _ h1
theorem badK_of {q : TQ} {c : List Int} {l : Nat} (h : firstP q l c (stOf q c) = none) : BadK q (.agg (ints (c ++ [(l : Int)]))) := by
  intro c2 l2 e
  simp only [Value.agg.injEq] at e
  have e2 := ints_inj e
  obtain ⟨h1, h2⟩ := List.append_inj' e2 rfl
  simp only [List.cons.injEq, and_true] at h2
  have h3 : l = l2 := by omega
  subst h1
  subst h3
  exact h
def cost (m : Nat) : Nat → Nat
  | 0 => 0
  | l + 1 => m * cost m l + 1
/-- What a search answers. -/
def TryPost (q : TQ) (c : List Int) (left : Nat) (pre : List Nat) (n' : Nat) (V : World) (b : Bool) (W' : World) : Prop :=
  TK q V W' ∧ Memo (BadK q) q.Mb n' W' ∧ b = (firstP q left c (stOf q c)).isSome ∧ BestAt q W' (pre ++ (firstP q left c (stOf q c)).getD [])
end Go.Proofs.YtpkggjobdmchlaaGreatDoor
