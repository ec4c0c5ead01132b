/- What the law on a scented candle needs besides. -/
import Derived.Test.YteebihcdgpfldaaGreatU21
import Derived.Test.YteebihcdgpfldaaGreatV5
import Derived.Test.YteebihcdgpfldaaGreatR3
namespace Go.Proofs.YteebihcdgpfldaaGreat
open Go.RowKit
theorem wpList_ex {P : Program} {ops : Array Oper} {rest : List Oper} {o : Oper} {a : Act} {w : World} {Q : Exit → Act → World → Prop} (hg : o.guard = none) (x : Operand) (i : Nat) (ho : o.op = .extract x i) (vs : Array Value) (hx : a.eval x = .tuple vs) (v : Value) (hv : vs[i]? = some v)
 (h : wpList P ops Q rest (a.put o.dst v) w) : wpList P ops Q (o :: rest) a w := by
 refine wpList_plain hg fun K hK => ?_
 unfold Oper.wp execOp
 simp only [ho, hx, Instr.extract, hv]
 exact hK _ _ h
theorem wpList_as {P : Program} {ops : Array Oper} {rest : List Oper} {o : Oper} {a : Act} {w : World} {Q : Exit → Act → World → Prop} (hg : o.guard = none) (s : Operand) (ho : o.op = .assign s) (v : Value) (hv : a.eval s = v)
 (h : wpList P ops Q rest (a.put o.dst v) w) : wpList P ops Q (o :: rest) a w := by
 refine wpList_plain hg fun K hK => ?_
 unfold Oper.wp execOp
 simp only [ho, Sem.run_pure, hv]
 exact hK _ _ h
theorem stab_ints (t : List Int) : Stab (IsInts t) := fun _ _ _ h hb => IntsIn.next h hb
theorem stab_tru (x : Tru) : Stab (IsTru x) := fun _ _ _ h hb => by
 obtain ⟨a, b, c, e, h⟩ := h
 exact ⟨a, b, c, e, h.next hb⟩
section
variable {wb w w' : World} {PA PB : World → Value → Prop} {E : Value} {dA dB dM dX dS : Bool} {yA yB yM yX yS v : Value}
theorem CalW.putA (h : CalW wb PA PB E dA dB dM dX dS yA yB yM yX yS w) (hv : PA w v) : CalW wb PA PB E true dB dM dX dS v yB yM yX yS w := ⟨h.bel, fun _ => hv, h.b, h.m, h.x, h.s⟩
theorem CalW.putB (h : CalW wb PA PB E dA dB dM dX dS yA yB yM yX yS w) (hv : PB w v) : CalW wb PA PB E dA true dM dX dS yA (.tuple #[v, E]) yM yX yS w := ⟨h.bel, h.a, fun _ => ⟨v, rfl, hv⟩, h.m, h.x, h.s⟩
theorem CalW.putM (h : CalW wb PA PB E dA dB dM dX dS yA yB yM yX yS w) (hd : dB = true) : CalW wb PA PB E dA dB true dX dS yA yB yB yX yS w := ⟨h.bel, h.a, h.b, fun _ => h.b hd, h.x, h.s⟩
theorem CalW.putX (h : CalW wb PA PB E dA dB dM dX dS yA yB yM yX yS w) (hv : PB w v) : CalW wb PA PB E dA dB dM true dS yA yB yM v yS w := ⟨h.bel, h.a, h.b, h.m, fun _ => hv, h.s⟩
theorem CalW.putS (h : CalW wb PA PB E dA dB dM dX dS yA yB yM yX yS w) (hd : dX = true) : CalW wb PA PB E dA dB dM dX true yA yB yM yX yX w := ⟨h.bel, h.a, h.b, h.m, h.x, fun _ => h.x hd⟩
end
theorem addr_addU (b o j : Nat) : ((⟨b, o, none⟩ : Addr).add j) = ⟨b, o + j, none⟩ := by
 unfold Addr.add
 split
 ·rename_i h; subst h; rfl
 ·rfl
theorem weighU {s : Shop} {l : List Bat} {k : Nat} (hg : AllGood s l) (hk : k < l.length) {a : Option Addr} {n c : Nat} {w0 : World} (hl : BatsIn w0.heap.size w0 (.slice a n c) l) :
 ∃ b o, a = some ⟨b, o, none⟩ ∧ b < w0.heap.size ∧ ∃ g1 g2 g3, w0.cell? ⟨b, o + k * 3, none⟩ = some g1 ∧ w0.cell? ⟨b, o + k * 3 + 1, none⟩ = some g2 ∧ w0.cell? ⟨b, o + k * 3 + 2, none⟩ = some g3 ∧
  ∀ w, Below w0.heap.size w0 w → Calls Tryz.prog 13 #[.agg #[g1, g2, g3]] w fun e w' => e = .returned (.int .i64 (weightV (l.getD k default))) ∧ Below w.heap.size w w' := by
 obtain ⟨b, o, rfl, hbb, vg, vb, va, hd1, hd2, hd3, hat⟩ := hl.at' hk
 have hgo := (bat_ok0 (batchE_zero (hg.pre k hk)).1).gramsOk hg.sh.nl6 (show k ≤ 6 by have := hg.n6; omega)
 exact ⟨b, o, rfl, hbb, vg, vb, va, hd1, hd2, hd3, fun w hw => weight_ref _ _ _ _ w ((hat.below hw).mono hw.size) hgo.1 hgo.2⟩
theorem pull_lenU {s : Shop} {l : List Bat} (hz : batchesE s l = 0) : (pullV s l).length = l.length := by
 unfold pullV
 rw [if_neg (by simp [hz])]
 simp
def wickCell (x : Wick) : Nat → Value
 | 0 => .string x.name
 | 1 => .int .i64 x.threads
 | 2 => .int .i64 x.pull.1
 | _ => .int .i64 x.pull.2
theorem wickCell_one (x : Wick) (j : Nat) : (wickCell x j).oneCell' = true := by
 match j with
 | 0 => rfl
 | 1 => rfl
 | 2 => rfl
 | n + 3 => rfl
def wickCells (l : List Wick) (n : Nat) : List Value := (List.range (n * 4)).map fun j => wickCell (l.getD (j / 4) default) (j % 4)
theorem wickCells_get (l : List Wick) {n j : Nat} (h : j < n * 4) : (wickCells l n)[j]? = some (wickCell (l.getD (j / 4) default) (j % 4)) := by
 unfold wickCells
 rw [List.getElem?_map, List.getElem?_range h]; rfl
theorem wicks_words {w0 : World} {a : Option Addr} {n c : Nat} {l : List Wick} (h : WicksIn w0.heap.size w0 (.slice a n c) l) (hn : l.length = n) (h1 : 1 ≤ n) :
 ∃ b o, a = some ⟨b, o, none⟩ ∧ b < w0.heap.size ∧ (∀ j u, (wickCells l n)[j]? = some u → w0.cell? ⟨b, o + j, none⟩ = some u) := by
 obtain ⟨b, o, rfl, hbb, -⟩ := h.at' (show 0 < l.length by omega)
 refine ⟨b, o, rfl, hbb, fun j u hu => ?_⟩
 have hj : j < n * 4 := by
  obtain ⟨h, -⟩ := List.getElem?_eq_some_iff.1 hu
  simpa [wickCells] using h
 rw [wickCells_get l hj] at hu
 cases hu
 obtain ⟨b', o', he, -, g0, g1, g2, g3, -⟩ := h.at' (show j / 4 < l.length by omega)
 cases he
 have h4 : j % 4 = 0 ∨ j % 4 = 1 ∨ j % 4 = 2 ∨ j % 4 = 3 := by omega
 rcases h4 with e | e | e | e
 ·rw [e, show j = j / 4 * 4 by omega, show j / 4 * 4 / 4 = j / 4 by omega]; exact g0
 ·rw [e, show o + j = o + j / 4 * 4 + 1 by omega]; exact g1
 ·rw [e, show o + j = o + j / 4 * 4 + 2 by omega]; exact g2
 ·rw [e, show o + j = o + j / 4 * 4 + 3 by omega]; exact g3
theorem wicks_of_block {w : World} {g n cap : Nat} {cur : Array Value} {l : List Wick} (hg : w.heap[g]? = some (.cells cur 53)) (hn : l.length = n) (hcap : n ≤ cap) (hmx : n ≤ 1000)
 (hc : ∀ j, j < n * 4 → cur[j]? = some (wickCell (l.getD (j / 4) default) (j % 4))) (hsz : ∀ i, i < n → (l.getD i default).name.size ≤ 1000000000000000) : WicksIn w.heap.size w (.slice (some ⟨g, 0, none⟩) n cap) l := by
 subst hn
 refine ⟨_, _, rfl, by omega, by omega, .inr ⟨g, 0, rfl, block_lt hg, fun i hi => ?_⟩⟩
 have cell : ∀ r, r < 4 → w.cell? ⟨g, 0 + i * 4 + r, none⟩ = some (wickCell (l.getD i default) r) := fun r hr => by
  rw [cell_of_row w g _ _ _ _ hg, show 0 + i * 4 + r = i * 4 + r by omega, hc _ (by omega), show (i * 4 + r) / 4 = i by omega, show (i * 4 + r) % 4 = r by omega]
 exact ⟨cell 0 (by decide), cell 1 (by decide), cell 2 (by decide), cell 3 (by decide), hsz i hi⟩
theorem weak_get (q : WShop) {k : Nat} (hk : k < q.wicks.length) (left : Int × Int) (i : Nat) : (weakW q k left).wicks.getD i default = if i = k then { (q.wicks.getD k default) with pull := weakP (q.wicks.getD k default).pull left } else q.wicks.getD i default := by
 simp only [weakW]
 rw [getD_set_if _ _ _ _ _ hk]
/-- The cells of the copy of the wicks, behind the store of a pull. -/
theorem weak_cells {q : WShop} {k n : Nat} (hn : q.wicks.length = n) (hk : k < n) (left : Int × Int) {cur : Array Value} (hcur : ∀ j, j < n * 4 → cur[j]? = some (wickCell (q.wicks.getD (j / 4) default) (j % 4))) (hs : n * 4 ≤ cur.size) (j : Nat) (hj : j < n * 4) :
 ((cur.setIfInBounds (k * 4 + 2) (.int .i64 (weakP (q.wicks.getD k default).pull left).1)).setIfInBounds (k * 4 + 2 + 1) (.int .i64 (weakP (q.wicks.getD k default).pull left).2))[j]? = some (wickCell ((weakW q k left).wicks.getD (j / 4) default) (j % 4)) := by
 rw [weak_get q (by omega) left]
 by_cases h3 : j = k * 4 + 2 + 1
 ·subst h3
  rw [Array.getElem?_setIfInBounds_self_of_lt (by simp; omega), show (k * 4 + 2 + 1) / 4 = k by omega, show (k * 4 + 2 + 1) % 4 = 3 by omega, if_pos rfl]; rfl
 rw [Array.getElem?_setIfInBounds_ne (fun h => h3 h.symm)]
 by_cases h2 : j = k * 4 + 2
 ·subst h2
  rw [Array.getElem?_setIfInBounds_self_of_lt (by omega), show (k * 4 + 2) / 4 = k by omega, show (k * 4 + 2) % 4 = 2 by omega, if_pos rfl]; rfl
 rw [Array.getElem?_setIfInBounds_ne (fun h => h2 h.symm), hcur j hj]
 by_cases hk2 : j / 4 = k
 ·rw [if_pos hk2, hk2]
  have h4 : j % 4 = 0 ∨ j % 4 = 1 := by omega
  rcases h4 with e | e <;> rw [e] <;> rfl
 ·rw [if_neg hk2]
/-- A row of cells is stored in the middle of a block of the list. -/
theorem wpList_mid_bs {P : Program} {ops : Array Oper} {rest : List Oper} {o : Oper} {a : Act} {w0 w : World} {Q : Exit → Act → World → Prop} {l : List (Nat × Obj)} (hgd : o.guard = none) (ty : TypeId) (x y : Operand) (ho : o.op = .store ty x y) (H : Bs w0 l w) (i g off : Nat) (c0 c1 : Value) (old : Array Value) (t : TypeId)
 (hl : l[i]? = some (g, .cells old t)) (hx : a.eval x = .pointer (some ⟨g, off, none⟩)) (hy : a.eval y = .agg #[c0, c1]) (hi : (P.info? ty).map (·.size) = some 2) (hoff : off + 2 ≤ old.size) (h0 : c0.oneCell' = true) (h1 : c1.oneCell' = true)
 (h : ∀ w', Bs w0 (l.set i (g, .cells ((old.setIfInBounds off c0).setIfInBounds (off + 1) c1) t)) w' → wpList P ops Q rest (a.put o.dst undef) w') : wpList P ops Q (o :: rest) a w := by
 have hg := H.get i hl
 have e : old = (old.toList.take off ++ old.toList.drop off).toArray := by rw [List.take_append_drop, Array.toArray_toList]
 have hg2 : w.heap[g]? = some (.cells (old.toList.take off ++ old.toList.drop off).toArray t) := by rw [← e]; exact hg
 refine wpList_mid_but hgd ty x y ho g off #[c0, c1] (old.toList.take off) (old.toList.drop off) t hg2 (by rw [List.length_take, Array.length_toList]; omega) hx hy hi (by rw [List.length_drop, Array.length_toList]; simp; omega) (by simp [h0, h1]) ?_
 intro w' hw hb
 refine h w' ?_
 have e2 : (old.toList.take off ++ #[c0, c1].toList ++ (old.toList.drop off).drop #[c0, c1].size).toArray = (old.setIfInBounds off c0).setIfInBounds (off + 1) c1 := by
  apply Array.ext'
  apply List.ext_getElem?
  intro j
  simp only [Array.toList_setIfInBounds, List.getElem?_set, List.drop_drop]
  rcases Nat.lt_trichotomy j off with hj | rfl | hj
  ·rw [List.getElem?_append_left (by simp; omega), List.getElem?_append_left (by simp; omega), List.getElem?_take, if_pos hj, if_neg (by omega), if_neg (by omega)]
  ·rw [List.getElem?_append_left (by simp; omega), List.getElem?_append_right (by simp; omega)]
   rw [show j - (old.toList.take j).length = 0 by simp; omega, if_neg (by omega), if_pos rfl, if_pos (by simp; omega)]
   rfl
  ·by_cases hj2 : j = off + 1
   ·subst hj2
    rw [List.getElem?_append_left (by simp; omega), List.getElem?_append_right (by simp; omega)]
    rw [show off + 1 - (old.toList.take off).length = 1 by simp; omega, if_pos rfl, if_pos (by simp; omega)]
    rfl
   ·rw [List.getElem?_append_right (by simp; omega), if_neg (by omega), if_neg (by omega), List.getElem?_drop]
    congr 1
    simp
    omega
 rw [← e2]
 exact H.but i hl hb hw
theorem wrong_nil {s : WShop} {c : Candle} {b : Burn} (h : wrongV s c b b = []) : smokes s b = false ∧ goesOut s b = false ∧ tunnels s c b = false ∧ runs s c b = false := by
 unfold wrongV at h
 simp only [List.append_eq_nil_iff] at h
 obtain ⟨⟨⟨h1, h2⟩, h3⟩, h4⟩ := h
 refine ⟨?_, ?_, ?_, ?_⟩ <;> (rw [Bool.eq_false_iff]; intro e; simp [e] at *)
theorem own_some {w : World} {base n sz : Nat} {e : TypeId} {v : Value} {xs : List Value} (h : w.ownsRow base e sz v n xs) (hn : 0 < n) : ∃ g cap cur, v = .slice (some ⟨g, 0, none⟩) n cap ∧ base ≤ g ∧ w.heap[g]? = some (.cells cur e) ∧ n ≤ cap ∧ cur.size = cap * sz ∧ ∀ j, j < n * sz → cur[j]? = xs[j]? := by
 obtain ⟨hxl, h⟩ := h
 rcases h with ⟨rfl, h0⟩ | ⟨g, cap, cur, rfl, hb, hg, hn, hm, hc, ht⟩
 ·omega
 ·refine ⟨g, cap, cur, rfl, hb, hg, hn, hc, fun j hj => ?_⟩
  have e : (cur.toList.take (n * sz))[j]? = xs[j]? := by rw [ht]
  rw [List.getElem?_take, if_pos hj] at e
  rw [← Array.getElem?_toList, e]
theorem own_empty {w : World} {base : Nat} (e : TypeId) (sz : Nat) (h : base ≤ w.heap.size) : (w.alloc (.cells #[] e)).ownsRow base e sz (.slice (some ⟨w.heap.size, 0, none⟩) 0 0) 0 [] :=
 ⟨by simp, .inr ⟨_, 0, #[], rfl, h, heap_alloc_new _ _, Nat.le_refl _, Nat.zero_le _, by simp, by simp⟩⟩
theorem infoWickI : ∃ i, Tryz.prog.info? 53 = some i ∧ i.zero = some (.agg #[.string ByteArray.empty, .int .i64 0, .int .i64 0, .int .i64 0]) ∧ i.size = 4 ∧ i.bytes = 40 := by
 obtain ⟨i, h1, h2⟩ := Option.map_eq_some_iff.1 (show (Tryz.prog.info? 53).map (fun i => (i.zero, i.size, i.bytes)) = some (some (.agg #[.string ByteArray.empty, .int .i64 0, .int .i64 0, .int .i64 0]), 4, 40) by kernel_rfl)
 simp only [Prod.mk.injEq] at h2
 exact ⟨i, h1, h2⟩
theorem infoWickS : (Tryz.prog.info? 27).map (·.size) = some 1 := by kernel_rfl
theorem wickCells_mem {l : List Wick} {n : Nat} : ∀ u ∈ wickCells l n, u.oneCell' = true := fun u hu => by
 unfold wickCells at hu
 obtain ⟨j, -, rfl⟩ := List.mem_map.1 hu
 exact wickCell_one _ _
end Go.Proofs.YteebihcdgpfldaaGreat
