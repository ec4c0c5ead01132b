/- Walks: melt, Content, Left. -/
import Derived.Test.YtaigbhhmmdfdcaaK2
import Derived.StillTailTactics
import Derived.Test.YtaigbhhmmdfdcaaK1
import Derived.Laws.ResultCell
/- The batch of melt. -/
namespace Go.Proofs.Ytaigbhhmmdfdcaa
open Go.RowKit
theorem sum_end (l : List Int) (n : Nat) (h : l.length = n) : sumTo l n = sumL l := by subst h; rfl
/-- The batches while one more takes of them. -/
def boT (l : List Bat) (k : Nat) (bo : Nat → BO) (i : Nat) : Nat → BO := fun j => if j < i then { bo j with tk := takenV l j (k + 1) } else bo j
theorem boT_zero (l : List Bat) (k : Nat) (bo : Nat → BO) : boT l k bo 0 = bo := by funext j; simp [boT]
theorem boT_at (l : List Bat) (k : Nat) (bo : Nat → BO) (i : Nat) : boT l k bo i i = bo i := by simp [boT]
theorem boT_succ (l : List Bat) (k : Nat) (bo : Nat → BO) (i : Nat) : upm (boT l k bo i) i { bo i with tk := takenV l i (k + 1) } = boT l k bo (i + 1) := by
  funext j
  unfold upm boT
  by_cases h : j = i
  · subst h; simp
  · rw [if_neg h]
    by_cases h2 : j < i
    · rw [if_pos h2, if_pos (by omega)]
    · rw [if_neg h2, if_neg (by omega)]
theorem over_succ (l : List Bat) (k i : Nat) : overB l k (i + 1) = (overB l k i || decide (weightV (l.getD i default) < takenV l i (k + 1))) := by
  unfold overB
  rw [List.range_succ, List.any_append]
  simp
theorem info109 : (Try.prog.info? 109).map (·.size) = some 10 := by kernel_rfl
theorem BO.mid (x : BO) {w : World} {g : Nat} (h : w.heap[g]? = some (.cells x.c 111)) : ∀ (j : Nat) (v : Value), (spC x.mi)[j]? = some v → w.cell? ⟨g, 5 + j, none⟩ = some v := by
  intro j v hv
  have hj : j < 10 := by
    have := (List.getElem?_eq_some_iff.1 hv).1
    simpa [spC] using this
  rw [cell_of_row _ _ _ _ _ _ h, ← hv]
  unfold BO.c
  rw [List.getElem?_toArray, List.getElem?_append_right (by simp), List.getElem?_append_left (by simp [spC]; omega)]
  simp
set_option maxRecDepth 100000 in
theorem run_index_sp (m : Nat → Int × Int) (t : Nat) (ht : t < 5) (w : World) : (Instr.index 109 (.agg (spC m).toArray) (.int .i64 (t : Int))).run Try.prog w = .ok (.agg #[.int .i64 (m t).1, .int .i64 (m t).2]) w := by
  have hu := Try.underlying109
  have hu2 := Try.underlying51
  have hs : ∀ w, (Go.sizeOf 51).run Try.prog w = .ok 2 w := by
    intro w
    cases hq : Try.prog.info? 51 with
    | none => have := info51; simp [hq] at this
    | some i => have := info51; simp [hq] at this; simp [Go.sizeOf, typeInfo, hq, this]
  unfold Instr.index
  simp only [asIntOf, Sem.run_bind, Sem.run_pure, Result.andThen_ok, run_underlying hu]
  rw [if_pos ⟨by omega, by omega⟩]
  simp only [Sem.run_bind, hs, Result.andThen_ok, Int.toNat_natCast]
  have hagg : (isAgg 51).run Try.prog w = .ok true w := by
    unfold isAgg; rw [Sem.run_bind, run_underlying hu2 w]; simp
  unfold part
  simp only [Sem.run_bind, hagg, Result.andThen_ok, if_true, hs]
  rcases lt5 ht with rfl | rfl | rfl | rfl | rfl <;> simp [spC]
/-- The parts that are reckoned. -/
def paTo (w : Int) (m : Nat → Int × Int) (c : Nat) : Nat → Int × Int := fun u => if u < c then partsV w (m u) else (0, 0)
theorem paTo_zero (w : Int) (m : Nat → Int × Int) : paTo w m 0 = fun _ => (0, 0) := by funext u; simp [paTo]
theorem paTo_succ (w : Int) (m : Nat → Int × Int) (t : Nat) (q : Int × Int) (h : q = partsV w (m t)) : upm (paTo w m t) t q = paTo w m (t + 1) := by
  subst h
  funext u
  unfold upm paTo
  by_cases h : u = t
  · subst h; simp
  · rw [if_neg h]
    by_cases h2 : u < t
    · rw [if_pos h2, if_pos (by omega)]
    · rw [if_neg h2, if_neg (by omega)]
theorem partsV_zero {w : Int} (hw : 0 < w) : partsV w (0, 0) = (0, 0) := by
  unfold partsV
  have h1 : (0 : Int) / w = 0 := Int.zero_ediv _
  have h2 : (0 + w - 1) / w = 0 := Int.ediv_eq_zero_of_lt (by omega) (by omega)
  simp only [h1, h2]
  rfl
theorem paTo_all (s : Shop) (l : List Bat) {k : Nat} (hk : k < l.length) (h5 : s.things.length ≤ 5) {w : Int} (hw : 0 < w) (he : weightV (l.getD k default) = w) : paTo w (micV s l k) 5 = parV s l k := by
  funext u
  unfold paTo parV
  rw [he]
  by_cases h : u < 5
  · rw [if_pos h]
  · rw [if_neg h, micV_eq s l hk, if_neg (by omega), partsV_zero hw]
theorem part_lo {lo hi w : Int} (h0 : 0 ≤ lo) (h1 : lo ≤ 2000000000000) (hw : 0 < w) : (if IntKind.i64.wrap (lo.tdiv w) < 1000000 then IntKind.i64.wrap (lo.tdiv w) else 1000000) = (partsV w (lo, hi)).1 := by
  have e : lo.tdiv w = lo / w := Int.tdiv_eq_ediv_of_nonneg h0
  have h2 : 0 ≤ lo / w := Int.ediv_nonneg h0 (by omega)
  have h3 : lo / w ≤ lo := Int.ediv_le_self _ h0
  rw [e, wrap_in (by omega) (by omega)]
  unfold partsV
  simp only
  split <;> omega
theorem part_hi {lo hi w : Int} (h0 : 0 ≤ hi) (h1 : hi ≤ 2000000000000) (hw : 0 < w) (hw2 : w ≤ 1200000) : (if IntKind.i64.wrap ((IntKind.i64.wrap (IntKind.i64.wrap (hi + w) - 1)).tdiv w) < 1000000 then IntKind.i64.wrap ((IntKind.i64.wrap (IntKind.i64.wrap (hi + w) - 1)).tdiv w) else 1000000) = (partsV w (lo, hi)).2 := by
  rw [wrap_in (a := hi + w) (by omega) (by omega), wrap_in (a := hi + w - 1) (by omega) (by omega)]
  have e : (hi + w - 1).tdiv w = (hi + w - 1) / w := Int.tdiv_eq_ediv_of_nonneg (by omega)
  have h2 : 0 ≤ (hi + w - 1) / w := Int.ediv_nonneg (by omega) (by omega)
  have h3 : (hi + w - 1) / w ≤ (hi + w - 1) := Int.ediv_le_self _ (by omega)
  rw [e, wrap_in (by omega) (by omega)]
  unfold partsV
  simp only
  split <;> omega
section
variable {P : Program} {ops : Array Oper} {rest : List Oper} {o : Oper} {a : Act} {w : World} {Q : Exit → Act → World → Prop}
/-- The parts of a thing are stored. -/
theorem wpList_part (hgd : o.guard = none) (ty : TypeId) (x y : Operand) (ho : o.op = .store ty x y) (X : BO) (g t : Nat) (ht : t < 5) (hg : w.heap[g]? = some (.cells X.c 111)) (hx : a.eval x = .pointer (some ⟨g, 15 + t * 2, none⟩)) (p q : Int)
    (hy : a.eval y = .agg #[.int .i64 p, .int .i64 q]) (hi : (P.info? ty).map (·.size) = some 2)
    (h : ∀ w', w'.heap[g]? = some (.cells ({ X with pa := upm X.pa t (p, q) } : BO).c 111) → But g w w' → wpList P ops Q rest (a.put o.dst undef) w') : wpList P ops Q (o :: rest) a w := by
  have hg' : w.heap[g]? = some (.cells ((X.c.toList.take (15 + t * 2)) ++ (X.c.toList.drop (15 + t * 2))).toArray 111) := by rw [List.take_append_drop]; simpa using hg
  have hs : X.c.toList.length = 25 := by simp [BO.size]
  refine wpList_mid_but hgd ty x y ho g (15 + t * 2) #[.int .i64 p, .int .i64 q] _ _ 111 hg' (by rw [List.length_take, hs]; omega) hx hy hi (by rw [List.length_drop, hs]; simp; omega) (by simp [Value.oneCell']) ?_
  intro w' hw hb
  refine h w' ?_ hb
  rw [hw]
  rcases lt5 ht with rfl | rfl | rfl | rfl | rfl <;> rfl
end
theorem cell_news (w : World) (g : Nat) (news : List Value) (t : TypeId) (h : w.heap[g]? = some (.cells news.toArray t)) : ∀ j u, news[j]? = some u → w.cell? ((⟨g, 0, none⟩ : Addr).add j) = some u := by
  intro j u hj
  have := cell_of_row w g j _ _ _ h
  rw [add_flat0]
  rw [Nat.zero_add, this]
  simpa using hj
where add_flat0 {g j : Nat} : ((⟨g, 0, none⟩ : Addr).add j) = ⟨g, 0 + j, none⟩ := by unfold Addr.add; split <;> simp_all
theorem one_of (x : Value) (h : x.oneCell' = true) : ∀ u ∈ [x], u.oneCell' = true := fun u hu => by simp at hu; subst hu; exact h
theorem info106' : ∃ i, Try.prog.info? 106 = some i ∧ i.zero = some (.pointer none) ∧ i.size = 1 ∧ i.bytes = 8 := by
  have h : (Try.prog.info? 106).map (fun i => (i.zero, i.size, i.bytes)) = some (some (.pointer none), 1, 8) := by kernel_rfl
  cases hq : Try.prog.info? 106 with
  | none => simp [hq] at h
  | some i =>
    simp only [hq, Option.map_some, Option.some.injEq, Prod.mk.injEq] at h
    exact ⟨i, rfl, h.1, h.2.1, h.2.2⟩
theorem info103 : (Try.prog.info? 103).map (·.size) = some 1 := by kernel_rfl
theorem boT_ok {B : Nat} {w : World} {s : Shop} {l : List Bat} {k : Nat} {bo : Nat → BO} {nb : Nat} (hnb : (l.getD k default).back.length = nb) {i : Nat} (h : BoOk B w s l k i (bo i)) : BoOk B w s l (k + 1) i (boT l k bo nb i) := by
  obtain ⟨h1, h2, h3, h4, h5⟩ := h
  unfold boT
  by_cases hi : i < nb
  · rw [if_pos hi]
    exact ⟨h1, rfl, h3, h4, h5⟩
  · rw [if_neg hi]
    refine ⟨h1, ?_, h3, h4, h5⟩
    have e : takenV l i (k + 1) = takenV l i k + (l.getD k default).back.getD i 0 := rfl
    rw [h2, e, back_none (by omega), Int.add_zero]
theorem taken_self {s : Shop} {l : List Bat} {k : Nat} (hp : Prefix s l (k + 1)) : takenV l k (k + 1) = 0 :=
  dot_zero fun j hj => back_none (by have := (bat_ok0 (batchE_zero (hp j hj)).1).blen; omega)
theorem But.setCell (g j : Nat) (w : World) (v : Value) : But g w (w.setCell ⟨g, j, none⟩ v) := ⟨rfl, rfl, rfl, by simp, fun k _ hk => heap_setCell_other _ _ _ _ hk⟩
theorem ints_at {k : IntKind} {B : Nat} {w : World} {a : Option Addr} {n c : Nat} {l : List Int} (h : IntsIn k B w (.slice a n c) l) {i : Nat} (hi : i < l.length) : ∃ b o, a = some ⟨b, o, none⟩ ∧ b < B ∧ w.cell? ⟨b, o + i, none⟩ = some (.int k (l.getD i 0)) := by
  obtain ⟨a', c', e, hl, h⟩ := h
  cases e
  rcases h with rfl | ⟨b, o, rfl, hb, h⟩
  · simp at hi
  · exact ⟨b, o, rfl, hb, h i hi⟩
set_option maxRecDepth 100000 in
set_option maxHeartbeats 40000000 in
theorem next_any (B : Nat) (w w0 : World) (s : Shop) (hs : ShopOk s) (l : List Bat) (hl : l.length ≤ 6) (k : Nat) (hk : k < l.length) (hp : Prefix s l k) (g : Nat → Nat) (bo : Nat → BO) (gs ga : Nat) (vt vl va vg vb vd : Value) (hv : ShopAt B w vt vl s) (hM : MS B w k g bo gs ga vt vl va w0)
    (hbo : ∀ i, i < k → BoOk B w s l k i (bo i)) (hx : BatAt B w vg vb vd (l.getD k default))
    (h1 : (l.getD k default).grams.length = s.lots.length) (h2 : (l.getD k default).back.length ≤ k) (h3 : (l.getD k default).added.length = s.things.length) :
    Calls Try.prog 95 #[.int .i64 k, .agg #[vg, vb, vd], .pointer (some ⟨gs, 0, none⟩), .pointer (some ⟨ga, 0, none⟩)] w0 (NextPost B w s l k gs ga vt vl) := by
  have HV := Lib.hid hv
  have HX := Lib.hid hx
  have HM := Lib.hid hM
  have HBO := Lib.hid hbo
  have HP := Lib.hid hp
  have HS := Lib.hid hs
  obtain ⟨sa, sc, rfl, hntc, hnt⟩ := sl_shape hv.1
  obtain ⟨ka, kc, rfl, hnlc, hnl⟩ := sl_shape hv.2
  obtain ⟨a1, c1, rfl, hn1⟩ := ints_shape hx.1
  obtain ⟨a2, c2, rfl, hn2⟩ := ints_shape hx.2.1
  obtain ⟨a3, c3, rfl, hn3c, hn3⟩ := sl_shape hx.2.2
  rw [h1] at HX hn1 ⊢
  rw [h3] at HX hn3c hn3 ⊢
  have HH1 := Lib.hid h1
  have HH2 := Lib.hid h2
  have HH3 := Lib.hid h3
  have hE0 : batchE0 s l k = if outB 0 100000 (l.getD k default).grams || outB 0 100000 (l.getD k default).back then 7 else spansE 10000000 (l.getD k default).added := by
    unfold batchE0
    rw [if_neg (by rw [h1, h3]; omega)]
  obtain ⟨nb, hnb⟩ : ∃ n, (l.getD k default).back.length = n := ⟨_, rfl⟩
  have HNB := Lib.hid hnb
  rw [hnb] at HX h2 hn2 ⊢
  have hnt5 := hs.nt5
  have hnl6 := hs.nl6
  clear hv hx hM hbo hp hs h1 h3 hnb
  obtain ⟨r1, hr1⟩ : ∃ r, outB 0 100000 (l.getD k default).grams = r := ⟨_, rfl⟩
  obtain ⟨r2, hr2⟩ : ∃ r, outB 0 100000 (l.getD k default).back = r := ⟨_, rfl⟩
  obtain ⟨e1, he1⟩ : ∃ r, spansE 10000000 (l.getD k default).added = r := ⟨_, rfl⟩
  rw [hr1, hr2, he1] at hE0
  have HE0 := Lib.hid hE0
  have HR1 := Lib.hid hr1
  have HR2 := Lib.hid hr2
  have HE1 := Lib.hid he1
  have HE : Hid (batchE s l k = if batchE0 s l k ≠ 0 then batchE0 s l k else if weightV (l.getD k default) = 0 then 8 else if overB l k k then 9 else 0) := rfl
  clear hE0 hr1 hr2 he1
  obtain ⟨nt, HNT⟩ : ∃ n, Hid (s.things.length = n) := ⟨_, rfl⟩
  obtain ⟨nl, HNL⟩ : ∃ n, Hid (s.lots.length = n) := ⟨_, rfl⟩
  rw [HNT.out] at HV HX HM hntc hnt hnt5 hn3c hn3 HH3 ⊢
  rw [HNL.out] at HV HX HM hnlc hnl hnl6 hn1 HH1 ⊢
  have HM1 := Lib.hid (HM.out.alloc (.cells #[.slice a1 nl c1, .slice a2 nb c2, .slice a3 nt c3] 75))
  have HG1 : Hid (((w0.alloc (.cells #[.slice a1 nl c1, .slice a2 nb c2, .slice a3 nt c3] 75)).alloc (.cells (bo0 (.slice a1 nl c1) (.slice a2 nb c2) (.slice a3 nt c3)).c 111)).heap[w0.heap.size + 1]? = some (.cells (bo0 (.slice a1 nl c1) (.slice a2 nb c2) (.slice a3 nt c3)).c 111)) := by
    have := heap_alloc_new (w0.alloc (.cells #[.slice a1 nl c1, .slice a2 nb c2, .slice a3 nt c3] 75)) (.cells (bo0 (.slice a1 nl c1) (.slice a2 nb c2) (.slice a3 nt c3)).c 111)
    rwa [World.size_alloc] at this
  have HM2 := Lib.hid (HM1.out.alloc (.cells (bo0 (.slice a1 nl c1) (.slice a2 nb c2) (.slice a3 nt c3)).c 111))
  have HLT : Hid (∀ i, i < k → g i ≠ w0.heap.size + 1) := fun i hi => by have := HM.out.lt hi; omega
  have HBL : Hid (B ≤ w0.heap.size + 1) := by have := HM.out.le; unfold Hid; omega
  have hgs := block_lt HM.out.sh
  have c0 := cell_of_row _ _ 0 _ _ _ HM.out.sh
  have c1' := cell_of_row _ _ 1 _ _ _ HM.out.sh
  have hq1 : ((nl : Int) != (nl : Int)) = false := by simp
  have hq2 : decide (k < nb) = false := decide_eq_false (by omega)
  have hq3 : ((nt : Int) != (nt : Int)) = false := by simp
  go_enter Try.func95, Try.ntmps95
  go_wp2_with fail
  go_quiet (fail)
  revert nq
  intro nq1
  simp only [Exit.then]
  have HG2 := Lib.hid (block_keep HG1.out (below_drewN (Below.refl _ _) nq1))
  have HM3 := Lib.hid (HM2.out.drew nq1)
  clear c0 c1' hq1 hq2 hq3 HM1 HM2 HG1
  go_wp2_with fail
  refine (ranges_any (l.getD k default).added 10000000 _ _ ((HX.out.2.2.below HM3.out.bel).mono HM3.out.le)).mono ?_
  rintro e w1 ⟨rfl, hb1⟩
  rw [HE1.out]
  have HM4 := Lib.hid (HM3.out.call hb1)
  have HG4 := Lib.hid (block_keep HG2.out hb1)
  clear hb1 HM3 HG2
  generalize w0.heap.size + 1 = gb at *
  have d0 : w1.cell? ⟨gb, 0, none⟩ = some (.slice a1 nl c1) := cell_of_row _ _ 0 _ _ _ HG4.out
  go_wp2_with fail
  refine (out_r r1 0 100000 _ HR1.out _ _ B ((HX.out.1.below HM4.out.bel)) HM4.out.le).mono ?_
  rintro e w2 ⟨rfl, hb1⟩
  have HM5 := Lib.hid (HM4.out.call hb1)
  have HG5 := Lib.hid (block_keep HG4.out hb1)
  clear hb1 HM4 HG4 d0
  cases r1
  case true =>
    have HEE : Hid (batchE s l k = 7) := by unfold Hid; rw [HE.out, HE0.out]; simp
    go_wp2_with fail
    go_ret
    exact ⟨ret_int HEE.out.symm, HM5.out.bel, ⟨_, HM5.out.al⟩, fun h => (by rw [HEE.out] at h; simp at h)⟩
  have d1 : w2.cell? ⟨gb, 1, none⟩ = some (.slice a2 nb c2) := cell_of_row _ _ 1 _ _ _ HG5.out
  go_wp2_with fail
  refine (out_r r2 0 100000 _ HR2.out _ _ B ((HX.out.2.1.below HM5.out.bel)) HM5.out.le).mono ?_
  rintro e w3 ⟨rfl, hb1⟩
  have HM6 := Lib.hid (HM5.out.call hb1)
  have HG6 := Lib.hid (block_keep HG5.out hb1)
  clear hb1 HM5 HG5 d1
  cases r2
  case true =>
    have HEE : Hid (batchE s l k = 7) := by unfold Hid; rw [HE.out, HE0.out]; simp
    go_wp2_with fail
    go_ret
    exact ⟨ret_int HEE.out.symm, HM6.out.bel, ⟨_, HM6.out.al⟩, fun h => (by rw [HEE.out] at h; simp at h)⟩
  by_cases hz : e1 = 0
  case neg =>
    have HEE : Hid (batchE s l k = e1) := by unfold Hid; rw [HE.out, HE0.out]; simp [hz]
    have hz2 : (e1 != 0) = true := by simpa using hz
    have HZ := Lib.hid hz
    clear hz
    go_wp2_with fail
    go_ret
    exact ⟨ret_int HEE.out.symm, HM6.out.bel, ⟨_, HM6.out.al⟩, fun h => (by rw [HEE.out] at h; exact absurd h HZ.out)⟩
  subst hz
  have hB0 : batchE0 s l k = 0 := by rw [HE0.out]; simp
  have HB := Lib.hid (bat_ok0 hB0)
  have HE' : Hid (batchE s l k = if weightV (l.getD k default) = 0 then 8 else if overB l k k then 9 else 0) := by unfold Hid; rw [HE.out, hB0]; simp
  clear HE HE0 hB0 HR1 HR2 HE1
  have d2 : w3.cell? ⟨gb, 2, none⟩ = some (.slice a3 nt c3) := cell_of_row _ _ 2 _ _ _ HG6.out
  go_wp2_with fail
  refine (pour_any _ gb (l.getD k default).added 1000 _ w3 HG6.out (by rw [HH3.out]; exact hnt5) (ok_start HB.out) ((HX.out.2.2.below HM6.out.bel).but HBL.out HM6.out.le)).mono ?_
  rintro e w4 ⟨⟨v4, rfl⟩, hg4, hb4⟩
  have HM7 := Lib.hid (HM6.out.but hb4 HBL.out HG6.out HLT.out)
  have HG7 : Hid (w4.heap[gb]? = some (.cells ({ bo0 (.slice a1 nl c1) (.slice a2 nb c2) (.slice a3 nt c3) with mi := midA s l k 0 } : BO).c 111)) := by
    have := hg4
    have ps := pour_start s l k
    rw [HNT.out] at ps
    rw [HH3.out] at this
    rw [← ps]
    exact this
  clear hg4 hb4 HM6 HG6 d2
  have d0 : w4.cell? ⟨gb, 0, none⟩ = some (.slice a1 nl c1) := cell_of_row _ _ 0 _ _ _ HG7.out
  go_wp2_with fail
  clear d0
  have HA0 : Hid (w4.heap[gb]? = some (.cells (⟨.slice a1 nl c1, .slice a2 nb c2, .slice a3 nt c3, sumTo (l.getD k default).grams 0, 0, midA s l k 0, fun _ => (0, 0)⟩ : BO).c 111)) := HG7.out
  clear HG7
  go_loopw [87] (fun iv wr => ∃ i : Nat, iv = .int .i64 i ∧ i ≤ nl ∧ MS B w k g bo gs ga (.slice sa nt sc) (.slice ka nl kc) va wr ∧
    wr.heap[gb]? = some (.cells (⟨.slice a1 nl c1, .slice a2 nb c2, .slice a3 nt c3, sumTo (l.getD k default).grams i, 0, midA s l k i, fun _ => (0, 0)⟩ : BO).c 111)) (fun iv _ => nl - (intOf iv).toNat)
  case atStart => exact ⟨0, rfl, by omega, HM7.out, HA0.out⟩
  case round =>
    obtain ⟨i, rfl, hi, hMi, hGi⟩ := hrel
    have HMi := Lib.hid hMi
    have HGi := Lib.hid hGi
    clear hMi hGi
    by_cases hlt : i < nl
    · obtain ⟨b1, o1, rfl, hbb1, hc1⟩ := ints_at HX.out.1 (show i < (l.getD k default).grams.length by rw [HH1.out]; exact hlt)
      obtain ⟨b2, o2, rfl, hbb2, -, -, u, hc2, hu⟩ := HV.out.2.at' (show i < s.lots.length by rw [HNL.out]; exact hlt)
      have hc1 := (HMi.out.bel.cell (p := ⟨b1, _, none⟩) hbb1).trans hc1
      have hc2 := (HMi.out.bel.cell (p := ⟨b2, _, none⟩) hbb2).trans hc2
      simp only [rdLot] at hc2
      have HU := Lib.hid hu
      have hwt := sumTo_bound HB.out.gram i
      have hgr := HB.out.gram i
      have HSUM : Hid (sumTo (l.getD k default).grams (i + 1) = sumTo (l.getD k default).grams i + (l.getD k default).grams.getD i 0) := rfl
      have d3 : wr.cell? ⟨gb, 3, none⟩ = some (.int .i64 (sumTo (l.getD k default).grams i)) := cell_of_row _ _ 3 _ _ _ HGi.out
      have HOK := Lib.hid (ok_lot HS.out hl HP.out hk HB.out (show i < s.lots.length by rw [HNL.out]; exact hlt))
      have HPL := Lib.hid (pour_lot s l k i)
      clear hu
      generalize (l.getD k default).grams.getD i 0 = n at *
      generalize sumTo (l.getD k default).grams i = wt at *
      have g1 := cell_of_row _ _ 1 _ _ _ HMi.out.sh
      have hne : gs ≠ gb := by
        rintro rfl
        have h1 := HMi.out.sh
        rw [HGi.out] at h1
        cases h1
      have hblt := HBL.out
      have f3 := frozen_of_row wr gb 3 _ _ HGi.out
      have hb2 : b2 ≠ gb := by omega
      have hb1 : b1 ≠ gb := by omega
      have HM8 := Lib.hid (HMi.out.but (But.setCell gb 3 wr (.int .i64 (wt + n))) HBL.out HGi.out HLT.out)
      have HG8 := Lib.hid (heap_setCell_same wr gb 3 _ _ (.int .i64 (wt + n)) HGi.out)
      rw [BO.set_wt] at HG8
      go_wp2_with fail
      refine (pour_any _ gb (s.lots.getD i default).parts n _ _ HG8.out (by rw [HS.out.plen i (by rw [HNL.out]; exact hlt), HNT.out]; exact hnt5) HOK.out ((HU.out.below HM8.out.bel).but HBL.out HM8.out.le)).mono ?_
      rintro e w5 ⟨⟨v5, rfl⟩, hg5, hb5⟩
      have HM9 := Lib.hid (HM8.out.but hb5 HBL.out HG8.out HLT.out)
      rw [HS.out.plen i (by rw [HNL.out]; exact hlt), HPL.out] at hg5
      have HG9 := Lib.hid hg5
      clear hg5 hb5 HM8 HG8 hc1 hc2 d3 g1 hne hblt hb1 hb2 f3
      go_wp2_with fail
      refine ⟨⟨i + 1, by push_cast; rfl, by omega, HM9.out, by rw [HSUM.out]; exact HG9.out⟩, ?_⟩
      simp [intOf]
      omega
    · obtain rfl : nl = i := by omega
      have d1 : wr.cell? ⟨gb, 1, none⟩ = some (.slice a2 nb c2) := cell_of_row _ _ 1 _ _ _ HGi.out
      go_wp2_with fail
      clear d1
      have HC0 : Hid (MS B w k g (boT l k bo 0) gs ga (.slice sa nt sc) (.slice ka nl kc) va wr) := by rw [boT_zero]; exact HMi.out
      have HB0 : Hid (wr.heap[gb]? = some (.cells (⟨.slice a1 nl c1, .slice a2 nb c2, .slice a3 nt c3, sumTo (l.getD k default).grams nl + sumTo (l.getD k default).back 0, 0, midB s l k 0, fun _ => (0, 0)⟩ : BO).c 111)) := by
        unfold Hid
        rw [midB_zero, HNL.out, show sumTo (l.getD k default).back 0 = 0 from rfl, Int.add_zero]
        exact HGi.out
      clear HMi HGi HM7 HA0
      go_loopw [11, 116] (fun ov iv wr => ∃ i : Nat, iv = .int .i64 i ∧ i ≤ nb ∧ ov = .bool (overB l k i) ∧ MS B w k g (boT l k bo i) gs ga (.slice sa nt sc) (.slice ka nl kc) va wr ∧
        wr.heap[gb]? = some (.cells (⟨.slice a1 nl c1, .slice a2 nb c2, .slice a3 nt c3, sumTo (l.getD k default).grams nl + sumTo (l.getD k default).back i, 0, midB s l k i, fun _ => (0, 0)⟩ : BO).c 111)) (fun _ iv _ => nb - (intOf iv).toNat)
      case atStart => exact ⟨0, rfl, by omega, rfl, HC0.out, HB0.out⟩
      case round =>
        obtain ⟨i, rfl, hi, rfl, hMi, hGi⟩ := hrel
        have HMi := Lib.hid hMi
        have HGi := Lib.hid hGi
        clear hMi hGi HC0 HB0
        by_cases hlt : i < nb
        · have hik : i < k := by omega
          obtain ⟨b1, o1, rfl, hbb1, hc1⟩ := ints_at HX.out.2.1 (show i < (l.getD k default).back.length by rw [HNB.out]; exact hlt)
          have hc1 := (HMi.out.bel.cell (p := ⟨b1, _, none⟩) hbb1).trans hc1
          have hwt := sumTo_bound HB.out.gram nl
          have hwb := sumTo_bound HB.out.back i
          have hgr := HB.out.back i
          have HSUM : Hid (sumTo (l.getD k default).back (i + 1) = sumTo (l.getD k default).back i + (l.getD k default).back.getD i 0) := rfl
          have HTK : Hid (takenV l i (k + 1) = takenV l i k + (l.getD k default).back.getD i 0) := rfl
          have htk := taken_nonneg HP.out i
          have hpos := HP.out.pos HS.out hl (by omega) hik
          have d3 : wr.cell? ⟨gb, 3, none⟩ = some (.int .i64 (sumTo (l.getD k default).grams nl + sumTo (l.getD k default).back i)) := cell_of_row _ _ 3 _ _ _ HGi.out
          have HOK := Lib.hid (ok_back HS.out hl HP.out hk HB.out (show i < (l.getD k default).back.length by rw [HNB.out]; exact hlt))
          have HPL := Lib.hid (pour_back s l (k := k) (by omega) hik)
          rw [HNT.out] at HOK HPL
          generalize (l.getD k default).back.getD i 0 = n at *
          generalize sumTo (l.getD k default).back i = wb at *
          generalize sumTo (l.getD k default).grams nl = wg at *
          go_wp2_with (refine wpList_cell_but rfl 3 _ _ rfl gb 3 _ 111 HGi.out rfl (.int .i64 (wg + wb + n)) rfl (by rw [BO.size]; decide) rfl info3 ?_; intro w5 hg5 hb5)
          rw [BO.set_wt] at hg5
          have HM8 := Lib.hid (HMi.out.but hb5 HBL.out HGi.out HLT.out)
          have HG8 := Lib.hid hg5
          clear hg5 hb5 hc1 d3
          obtain ⟨pb, pc, hva, hpc, hpb, hcell⟩ := HM8.out.ptr hik
          subst hva
          have q1 := cell_of_row _ _ 0 _ _ _ HM8.out.al
          have q3 := cell_of_row _ _ 0 _ _ _ HM8.out.sh
          have hik2 : (i : Int) < (k : Int) := by omega
          have hnt2 : (nt : Int) ≤ 5 := by omega
          go_still_tail 12, (by kernel_rfl)
          change wpList _ _ _ _ _ (w5.drewN 1)
          go_wp2_with fail
          have HM9 := Lib.hid (HM8.out.drew 1)
          have HG9 := Lib.hid (block_keep HG8.out (below_drewN (Below.refl _ _) 1))
          have HSP := Lib.hid (HM9.out.parts hik (HLT.out i hik) hnt5 (c := 5))
          rw [boT_at, (HBO.out i hik).2.2.2.1] at HSP
          clear HM8 HG8 q1 q3 hcell hpb
          refine (pour_any _ gb ((List.range nt).map (parV s l i)) n _ _ HG9.out (by simpa using hnt5) HOK.out HSP.out).mono ?_
          rintro e w6 ⟨⟨v6, rfl⟩, hg6, hb6⟩
          have HM10 := Lib.hid (HM9.out.but hb6 HBL.out HG9.out HLT.out)
          simp only [List.length_map, List.length_range] at hg6
          rw [HPL.out] at hg6
          have HG10 := Lib.hid hg6
          clear hg6 hb6 HM9 HG9 HSP
          obtain ⟨pb', pc', he, -, hpb, hcell⟩ := HM10.out.ptr hik
          cases he
          have q1 := cell_of_row _ _ 0 _ _ _ HM10.out.al
          have hobj := HM10.out.obj i hik
          rw [boT_at] at hobj
          have HOBJ := Lib.hid hobj
          clear hobj
          have q4 : w6.cell? ⟨g i, 4, none⟩ = some (.int .i64 (takenV l i k)) := by
            rw [cell_of_row _ _ 4 _ _ _ HOBJ.out, ← (HBO.out i hik).2.1]
            rfl
          have HGB : Hid (g i ≠ gb) := HLT.out i hik
          go_wp2_with (refine wpList_cell_but rfl 3 _ _ rfl (g i) 4 _ 111 HOBJ.out rfl (.int .i64 (takenV l i k + n)) rfl (by rw [BO.size]; decide) rfl info3 ?_; intro w7 hg7 hb7)
          rw [BO.set_tk, ← HTK.out] at hg7
          have hM11 := HM10.out.turn hik hb7 hg7
          rw [boT_succ] at hM11
          have HM11 := Lib.hid hM11
          have HG11 := Lib.hid ((hb7.block gb (block_lt HG10.out) (fun e => HGB.out e.symm)).trans HG10.out)
          clear hg7 hb7 HM10 HG10 q1 hcell hpb q4 HOBJ hM11
          obtain ⟨pb', pc', he, -, hpb, hcell⟩ := HM11.out.ptr hik
          cases he
          have q1 := cell_of_row _ _ 0 _ _ _ HM11.out.al
          have hobj := HM11.out.obj i hik
          have e0 : boT l k bo (i + 1) i = { bo i with tk := takenV l i (k + 1) } := by simp [boT]
          rw [e0] at hobj
          have HOBJ := Lib.hid hobj
          clear hobj e0
          have q4 : w7.cell? ⟨g i, 4, none⟩ = some (.int .i64 (takenV l i (k + 1))) := by
            rw [cell_of_row _ _ 4 _ _ _ HOBJ.out]
            rfl
          have q5 : w7.cell? ⟨g i, 3, none⟩ = some (.int .i64 (weightV (l.getD i default))) := by
            rw [cell_of_row _ _ 3 _ _ _ HOBJ.out, ← (HBO.out i hik).1]
            rfl
          have HOV := Lib.hid (over_succ l k i)
          generalize takenV l i (k + 1) = tk at *
          generalize weightV (l.getD i default) = wi at *
          generalize overB l k i = ob at *
          simp only [Act.put]
          cases ob
          all_goals
            go_quiet (fail)
            revert nq
            intro nq2
            simp only [Exit.inBlock, Exit.then]
            clear q1 q4 q5 hcell hpb
            go_wp2_with fail
            refine ⟨⟨i + 1, by push_cast; rfl, by omega, by rw [HOV.out]; simp, HM11.out.drew _, by rw [HSUM.out, ← Int.add_assoc]; exact block_keep HG11.out (below_drewN (Below.refl _ _) _)⟩, ?_⟩
            simp [intOf]
            omega
        · obtain rfl : nb = i := by omega
          have HWT : Hid (sumTo (l.getD k default).grams nl + sumTo (l.getD k default).back nb = weightV (l.getD k default)) := by
            unfold Hid
            rw [sum_end _ _ HH1.out, sum_end _ _ HNB.out]
            rfl
          have hwb := weight_bound HS.out (show k ≤ 6 by omega) HB.out
          rw [HWT.out] at HGi
          have hov := over_all HS.out hl HP.out hk HB.out
          rw [HNB.out] at hov
          rw [hov]
          have hmid := midB_end s l hk
          rw [HNB.out] at hmid
          rw [hmid] at HGi
          have d3 : wr.cell? ⟨gb, 3, none⟩ = some (.int .i64 (weightV (l.getD k default))) := cell_of_row _ _ 3 _ _ _ HGi.out
          clear hov hmid HWT
          obtain ⟨wk, hwk⟩ : ∃ x, weightV (l.getD k default) = x := ⟨_, rfl⟩
          have HWK := Lib.hid hwk
          rw [hwk] at HGi d3 hwb
          have HE2 := HE'.out
          rw [hwk] at HE2
          have HEE := Lib.hid HE2
          clear HE2 HE' hwk
          obtain ⟨ob, hob⟩ : ∃ x, overB l k k = x := ⟨_, rfl⟩
          have HEF := HEE.out
          rw [hob] at HEF ⊢
          have HEG := Lib.hid HEF
          have HOB := Lib.hid hob
          clear HEF HEE hob
          by_cases hz : wk = 0
          case pos =>
            subst hz
            have HR : Hid (batchE s l k = 8) := by unfold Hid; rw [HEG.out]; simp
            go_wp2_with fail
            go_ret
            exact ⟨ret_int HR.out.symm, HMi.out.bel, ⟨_, HMi.out.al⟩, fun h => (by rw [HR.out] at h; simp at h)⟩
          have hz2 : (wk == 0) = false := by simpa using hz
          have HZ := Lib.hid hz
          clear hz
          cases ob
          case true =>
            have HR : Hid (batchE s l k = 9) := by unfold Hid; rw [HEG.out]; simp [HZ.out]
            go_wp2_with fail
            go_ret
            exact ⟨ret_int HR.out.symm, HMi.out.bel, ⟨_, HMi.out.al⟩, fun h => (by rw [HR.out] at h; simp at h)⟩
          have HR : Hid (batchE s l k = 0) := by unfold Hid; rw [HEG.out]; simp [HZ.out]
          have HPK : Hid (Prefix s l (k + 1)) := fun j hj => by
            by_cases hjk : j = k
            · subst hjk; exact HR.out
            · exact HP.out j (by omega)
          have hmic := mic_ok HS.out hl HPK.out hk
          have HMC := Lib.hid hmic
          clear hmic
          have HCEL := Lib.hid (BO.mid _ HGi.out)
          go_wp2_with (refine wpList_load_mid rfl 109 _ rfl gb 5 rfl (spC (micV s l k)) _ HCEL.out Try.underlying109 rfl info109 ?_)
          clear HCEL d3
          have HD0 : Hid (wr.heap[gb]? = some (.cells (⟨.slice a1 nl c1, .slice a2 nb c2, .slice a3 nt c3, wk, 0, micV s l k, paTo wk (micV s l k) 0⟩ : BO).c 111)) := HGi.out
          clear HGi
          go_loopw [184] (fun iv wr => ∃ t : Nat, iv = .int .i64 t ∧ t ≤ 5 ∧ MS B w k g (boT l k bo nb) gs ga (.slice sa nt sc) (.slice ka nl kc) va wr ∧
            wr.heap[gb]? = some (.cells (⟨.slice a1 nl c1, .slice a2 nb c2, .slice a3 nt c3, wk, 0, micV s l k, paTo wk (micV s l k) t⟩ : BO).c 111)) (fun iv _ => 5 - (intOf iv).toNat)
          case atStart => exact ⟨0, rfl, by omega, HMi.out, HD0.out⟩
          case round =>
            obtain ⟨t, rfl, ht, hMi, hGi⟩ := hrel
            have HMt := Lib.hid hMi
            have HGt := Lib.hid hGi
            clear hMi hGi HMi HD0
            by_cases hlt : t < 5
            · have hmc := HMC.out t
              have hix := fun w => run_index_sp (micV s l k) t hlt w
              have hglt := block_lt HGt.out
              generalize hm : micV s l k t = q at *
              have HQ := Lib.hid hm
              clear hm
              obtain ⟨lo, hi⟩ := q
              simp only at hmc hix
              have hti : (t : Int) < 5 := by omega
              go_wp2_with fail
              clear hix
              obtain ⟨wv, hwv⟩ : ∃ x, wr.alloc (.cells #[.int .i64 lo, .int .i64 hi] 51) = x := ⟨_, rfl⟩
              rw [hwv]
              have HMv : Hid (MS B w k g (boT l k bo nb) gs ga (.slice sa nt sc) (.slice ka nl kc) va wv) := by rw [← hwv]; exact HMt.out.alloc _
              have HGv : Hid (wv.heap[gb]? = some (.cells (⟨.slice a1 nl c1, .slice a2 nb c2, .slice a3 nt c3, wk, 0, micV s l k, paTo wk (micV s l k) t⟩ : BO).c 111)) := by rw [← hwv]; exact block_keep HGt.out ((Below.refl _ _).alloc (Nat.le_refl _) _)
              have hnew : wv.heap[wr.heap.size]? = some (.cells #[.int .i64 lo, .int .i64 hi] 51) := by rw [← hwv]; exact heap_alloc_new _ _
              have e0 : wv.cell? ⟨wr.heap.size, 0, none⟩ = some (.int .i64 lo) := cell_of_row _ _ _ _ _ _ hnew
              have e1 : wv.cell? ⟨wr.heap.size, 1, none⟩ = some (.int .i64 hi) := cell_of_row _ _ _ _ _ _ hnew
              have d3 : wv.cell? ⟨gb, 3, none⟩ = some (.int .i64 wk) := cell_of_row _ _ 3 _ _ _ HGv.out
              clear hnew hwv HMt HGt
              generalize wr.heap.size = gx at *
              have hz3 : ¬ wk = 0 := HZ.out
              go_still_tail 28, (by kernel_rfl)
              change wpList _ _ _ _ _ (wv.drewN 1)
              have HMd := Lib.hid (HMv.out.drew 1)
              have HGd := Lib.hid (block_keep HGv.out (below_drewN (Below.refl _ _) 1))
              refine wpList_part rfl 51 _ _ rfl _ gb t hlt HGd.out rfl _ _ rfl info51 ?_
              intro w8 hg8 hb8
              have HM8 := Lib.hid (HMd.out.but hb8 HBL.out HGd.out HLT.out)
              simp only at hg8
              rw [part_lo (hi := hi) hmc.1 (by omega) (by omega), part_hi (lo := lo) (by omega) (by omega) (by omega) (by omega), paTo_succ wk (micV s l k) t _ (by rw [HQ.out])] at hg8
              have HG8 := Lib.hid hg8
              clear hg8 hb8 HMd HGd HMv HGv e0 e1 d3
              go_wp2_with fail
              refine ⟨⟨t + 1, by push_cast; rfl, by omega, HM8.out, HG8.out⟩, ?_⟩
              simp [intOf]
              omega
            · obtain rfl : t = 5 := by omega
              have hpa := paTo_all s l hk (by rw [HNT.out]; exact hnt5) (show 0 < wk by have := HZ.out; omega) HWK.out
              rw [hpa] at HGt
              have q1 := cell_of_row _ _ 0 _ _ _ HMt.out.al
              clear hpa
              have HMn := Lib.hid (HMt.out.alloc (.cells #[.pointer (some ⟨gb, 0, none⟩)] 106))
              have HGn := Lib.hid (block_keep HGt.out ((Below.refl _ _).alloc (Nat.le_refl _) (.cells #[.pointer (some ⟨gb, 0, none⟩)] 106)))
              have HNW := Lib.hid (heap_alloc_new wr (.cells #[.pointer (some ⟨gb, 0, none⟩)] 106))
              obtain ⟨i0, hi0, hz0, hz1, hz2⟩ := info106'
              have HI0 := Lib.hid hi0
              have HZ0 := Lib.hid hz0
              have HZ1 := Lib.hid hz1
              have HZ2 := Lib.hid hz2
              clear hi0 hz0 hz1 hz2
              go_wp2_with (at_builtin; refine wpList_append_own _ rfl _ _ 103 rfl B 106 i0 (.pointer none) 1 8 Try.underlying103 HI0.out HZ0.out HZ1.out HZ2.out rfl (by decide) _ _ _ rfl HMn.out.row ⟨wr.heap.size, 0, none⟩ 1 1 [.pointer (some ⟨gb, 0, none⟩)] rfl rfl (cell_news _ _ _ _ HNW.out) (one_of _ rfl) (by unfold maxLen; omega) (by omega) HMn.out.le ?_; intro v' w12 hown12 hgrow12 _; have hal := grown_keep HMn.out.row hgrow12 HMn.out.al (by decide); refine wpList_cell_but rfl 103 _ _ rfl ga 0 _ 103 hal rfl v' rfl (by simp) (by obtain ⟨a, c, e⟩ := ownsRow_slice hown12; rw [e]; rfl) info103 ?_; intro w13 hg13 hb13)
              have HMz := Lib.hid (HMn.out.more HGn.out HBL.out HLT.out hown12 hgrow12 hb13 hg13)
              go_wp2_with fail
              go_ret
              refine ⟨ret_int HR.out.symm, HMz.out.bel, ⟨_, HMz.out.al⟩, fun _ => ⟨_, _, _, HMz.out, fun i hi => ?_⟩⟩
              unfold upm
              by_cases hik : i = k
              · rw [if_pos hik]
                subst hik
                exact ⟨HWK.out.symm, (taken_self HPK.out).symm, rfl, rfl, by have h := HX.out; exact h⟩
              · rw [if_neg hik]
                exact boT_ok HNB.out (HBO.out i (by omega))
end Go.Proofs.Ytaigbhhmmdfdcaa
/- scent.first at batches; melt. -/
namespace Go.Proofs.Ytaigbhhmmdfdcaa
open Go.RowKit
theorem batchEs_get {s : Shop} {l : List Bat} {k : Nat} (h : k < l.length) : (batchEs s l).getD k 0 = batchE s l k := errs_get _ _ _ h
theorem next_all (B : Nat) (w wr : World) (s : Shop) (hs : ShopOk s) (l : List Bat) (hl : l.length ≤ 6) (k : Nat) (hk : k < l.length) (hp : Prefix s l k) (g : Nat → Nat) (bo : Nat → BO) (gs ga : Nat) (vt vl va vg vb vd : Value) (hv : ShopAt B w vt vl s) (hM : MS B w k g bo gs ga vt vl va wr)
    (hbo : ∀ i, i < k → BoOk B w s l k i (bo i)) (hx : BatAt B w vg vb vd (l.getD k default)) :
    Calls Try.prog 95 #[.int .i64 k, .agg #[vg, vb, vd], .pointer (some ⟨gs, 0, none⟩), .pointer (some ⟨ga, 0, none⟩)] wr (NextPost B w s l k gs ga vt vl) := by
  by_cases h : (l.getD k default).grams.length ≠ s.lots.length ∨ k < (l.getD k default).back.length ∨ (l.getD k default).added.length ≠ s.things.length
  · exact next_len B w wr s l k g bo gs ga vt vl va vg vb vd hv hM hx h
  · simp only [not_or, Nat.not_lt, ne_eq, Decidable.not_not] at h
    exact next_any B w wr s hs l hl k hk hp g bo gs ga vt vl va vg vb vd hv hM hbo hx h.1 h.2.1 h.2.2
/-- What the batches' loop leaves. -/
def MeltW (B : Nat) (w : World) (s : Shop) (l : List Bat) (gs ga : Nat) (vt vl : Value) (e : Int) (w' : World) : Prop :=
  Below B w w' ∧ (∃ va, w'.heap[ga]? = some (.cells #[va] 103)) ∧ (e = 0 → ∃ g bo va, MS B w l.length g bo gs ga vt vl va w' ∧ ∀ i, i < l.length → BoOk B w s l l.length i (bo i))
set_option maxRecDepth 100000 in
set_option maxHeartbeats 8000000 in
theorem firstBat_any (B : Nat) (w w0 : World) (s : Shop) (hs : ShopOk s) (l : List Bat) (hl : l.length ≤ 6) (gs ga : Nat) (vt vl va v : Value) (hv : ShopAt B w vt vl s) (hl' : BatsIn B w v l) (g : Nat → Nat) (bo : Nat → BO) (hM : MS B w 0 g bo gs ga vt vl va w0) :
    Calls Try.prog 97 #[v, .func (.func 95) #[] #[.pointer (some ⟨gs, 0, none⟩), .pointer (some ⟨ga, 0, none⟩)]] w0
      fun e w' => (∃ at', e = .returned (.tuple #[.int .i64 at', .int .i64 (findE (batchEs s l) 0).2])) ∧ MeltW B w s l gs ga vt vl (findE (batchEs s l) 0).2 w' := by
  have HL := Lib.hid hl'
  have HV := Lib.hid hv
  have HM := Lib.hid hM
  have HS := Lib.hid hs
  obtain ⟨a, c, rfl, -, hlen⟩ := sl_shape hl'
  clear hl' hv hM hs
  unfold MeltW
  go_enter Try.func97, Try.ntmps97
  go_wp2_with fail
  go_loopw [10] (fun i wr => ∃ (k : Nat) (g : Nat → Nat) (bo : Nat → BO) (va : Value), k ≤ l.length ∧ i = .int .i64 k ∧ Prefix s l k ∧ MS B w k g bo gs ga vt vl va wr ∧ (∀ i, i < k → BoOk B w s l k i (bo i)) ∧ findE (batchEs s l) 0 = findE ((batchEs s l).drop k) k) (fun i _ => l.length - (intOf i).toNat)
  case atStart => exact ⟨0, g, bo, va, by omega, rfl, fun j hj => by omega, HM.out, fun j hj => by omega, rfl⟩
  case round =>
    obtain ⟨k, g, bo, va, hk, rfl, hp, hM, hbo, hf⟩ := hrel
    have HF := Lib.hid hf
    have HP := Lib.hid hp
    have HMr := Lib.hid hM
    have HBO := Lib.hid hbo
    clear hf hp hM hbo
    by_cases hkl : k < l.length
    · obtain ⟨b', o, hva, hbB, vg, vb, vd, hc1, hc2, hc3, hx⟩ := HL.out.at' hkl
      subst hva
      have hc1 := (HMr.out.bel.cell (p := ⟨b', _, none⟩) hbB).trans hc1
      have hc2 := (HMr.out.bel.cell (p := ⟨b', _, none⟩) hbB).trans hc2
      have hc3 := (HMr.out.bel.cell (p := ⟨b', _, none⟩) hbB).trans hc3
      simp only [rdBat] at hc1 hc2 hc3
      have HX := Lib.hid hx
      obtain ⟨a1, c1, rfl, -⟩ := ints_shape hx.1
      obtain ⟨a2, c2, rfl, -⟩ := ints_shape hx.2.1
      obtain ⟨a3, c3, rfl, -⟩ := sl_shape hx.2.2
      clear hx
      have HD : Hid (findE ((batchEs s l).drop k) k = if batchE s l k = 0 then findE ((batchEs s l).drop (k + 1)) (k + 1) else (k, batchE s l k)) := by
        unfold Hid
        rw [findE_drop _ _ (by simpa [batchEs] using hkl), batchEs_get hkl]
      have HMa := Lib.hid (HMr.out.alloc (.cells #[.slice a1 (l.getD k default).grams.length c1, .slice a2 (l.getD k default).back.length c2, .slice a3 (l.getD k default).added.length c3] 75))
      have HC := Lib.hid (next_all B w _ s HS.out l hl k hkl HP.out g bo gs ga vt vl va _ _ _ HV.out HMa.out HBO.out HX.out)
      unfold NextPost at HC
      obtain ⟨r, hr⟩ : ∃ r, batchE s l k = r := ⟨_, rfl⟩
      rw [hr] at HD HC
      have HR := Lib.hid hr
      clear hr
      generalize (l.getD k default).grams.length = n1 at *
      generalize (l.getD k default).back.length = n2 at *
      generalize (l.getD k default).added.length = n3 at *
      go_wp2_with fail
      refine HC.out.mono ?_
      rintro e w1 ⟨rfl, hb1, hal, hok⟩
      have HB1 := Lib.hid hb1
      have HAL := Lib.hid hal
      have HOK := Lib.hid hok
      clear hb1 hal hok HC hc1 hc2 hc3
      by_cases hz : r = 0
      · subst hz
        obtain ⟨g', bo', va', hM', hbo'⟩ := HOK.out rfl
        have HM' := Lib.hid hM'
        have HBO' := Lib.hid hbo'
        clear hM' hbo'
        go_wp2_with fail
        go_roundw
        case rel =>
          refine ⟨k + 1, g', bo', va', by omega, by go_num, ?_, HM'.out, HBO'.out, by rw [HF.out, HD.out]; simp⟩
          intro j hj
          by_cases hjk : j = k
          · subst hjk; exact HR.out
          · exact HP.out j (by omega)
        case measure => simp [intOf]; omega
      · have hz2 : (r != 0) = true := by simpa using hz
        have HZ := Lib.hid hz
        clear hz
        go_wp2_with fail
        go_ret2
        rw [HF.out, HD.out, if_neg HZ.out]
        exact ⟨⟨_, rfl⟩, HB1.out, HAL.out, fun h => absurd h HZ.out⟩
    · obtain rfl : k = l.length := by omega
      have HD : Hid (findE (batchEs s l) 0 = (0, 0)) := by
        unfold Hid
        rw [HF.out, List.drop_of_length_le (by simp [batchEs])]
        rfl
      go_wp2_with fail
      go_ret2
      rw [HD.out]
      exact ⟨⟨_, rfl⟩, HMr.out.bel, ⟨_, HMr.out.al⟩, fun _ => ⟨g, bo, va, HMr.out, HBO.out⟩⟩
end Go.Proofs.Ytaigbhhmmdfdcaa
/- melt. -/
namespace Go.Proofs.Ytaigbhhmmdfdcaa
open Go.RowKit
/-- The batches that melt hands back. -/
structure AllW (B : Nat) (w : World) (s : Shop) (l : List Bat) (g : Nat → Nat) (bo : Nat → BO) (va : Value) (wr : World) : Prop where
  bel : Below B w wr
  le : B ≤ wr.heap.size
  obj : ∀ i, i < l.length → wr.heap[g i]? = some (.cells (bo i).c 111)
  ge : ∀ i, i < l.length → B ≤ g i
  row : wr.ownsRow B 106 1 va l.length ((List.range l.length).map fun i => .pointer (some ⟨g i, 0, none⟩))
  ok : ∀ i, i < l.length → BoOk B w s l l.length i (bo i)
section
variable {B : Nat} {w wr w' : World} {s : Shop} {l : List Bat} {g : Nat → Nat} {bo : Nat → BO} {va : Value}
theorem AllW.call (h : AllW B w s l g bo va wr) (hb : Below wr.heap.size wr w') : AllW B w s l g bo va w' :=
  ⟨h.bel.trans (hb.mono h.le), Nat.le_trans h.le hb.size, fun i hi => block_keep (h.obj i hi) hb, h.ge, ownsRow.below h.row hb, h.ok⟩
theorem AllW.alloc (h : AllW B w s l g bo va wr) (o : Obj) : AllW B w s l g bo va (wr.alloc o) := h.call ((Below.refl _ _).alloc (Nat.le_refl _) o)
theorem AllW.drew (h : AllW B w s l g bo va wr) (n : Nat) : AllW B w s l g bo va (wr.drewN n) := h.call (below_drewN (Below.refl _ _) n)
/-- A row of another kind grows, a block of another kind is turned. -/
theorem AllW.grown (h : AllW B w s l g bo va wr) {base sz n : Nat} {e : TypeId} {v : Value} {xs : List Value} (ho : wr.ownsRow base e sz v n xs) (hg : wr.grownBy w' v.ownBlock) (hb : B ≤ base) (h1 : e ≠ 111) (h2 : e ≠ 106) : AllW B w s l g bo va w' := by
  refine ⟨h.bel.trans (grown_below ho hg hb h.le), Nat.le_trans h.le hg.size, fun i hi => grown_keep ho hg (h.obj i hi) (Ne.symm h1), h.ge, ⟨h.row.1, ?_⟩, h.ok⟩
  rcases h.row.2 with h0 | ⟨b, cap, cur, e1, e2, e3, e4⟩
  · exact .inl h0
  · exact .inr ⟨b, cap, cur, e1, e2, grown_keep ho hg e3 (Ne.symm h2), e4⟩
theorem AllW.but (h : AllW B w s l g bo va wr) {gb : Nat} (hb : But gb wr w') (hB : B ≤ gb) {cs : Array Value} {t : TypeId} (hg : wr.heap[gb]? = some (.cells cs t)) (h1 : t ≠ 111) (h2 : t ≠ 106) : AllW B w s l g bo va w' := by
  refine ⟨h.bel.trans (hb.below hB h.le), Nat.le_trans h.le hb.size, fun i hi => ?_, h.ge, ownsRow.but h.row hb hg h2, h.ok⟩
  rw [hb.block _ (block_lt (h.obj i hi)) (by rintro rfl; rw [h.obj i hi] at hg; cases hg; exact h1 rfl)]
  exact h.obj i hi
theorem AllW.ptr (h : AllW B w s l g bo va wr) {i : Nat} (hi : i < l.length) : ∃ b c, va = .slice (some ⟨b, 0, none⟩) l.length c ∧ l.length ≤ c ∧ b < wr.heap.size ∧ wr.cell? ⟨b, i, none⟩ = some (.pointer (some ⟨g i, 0, none⟩)) := by
  obtain ⟨a, c, e⟩ := ownsRow_slice h.row
  subst e
  obtain ⟨b, e2, hb, hc, hcell⟩ := ownsRow_cell h.row hi
  subst e2
  refine ⟨b, c, rfl, hc, hb, ?_⟩
  rw [hcell, List.getElem?_map, List.getElem?_range hi]
  rfl
theorem AllW.shape (h : AllW B w s l g bo va wr) : ∃ a c, va = .slice a l.length c := ownsRow_slice h.row
/-- The cells of a batch. -/
theorem AllW.wt (h : AllW B w s l g bo va wr) {i : Nat} (hi : i < l.length) : wr.cell? ⟨g i, 3, none⟩ = some (.int .i64 (weightV (l.getD i default))) := by
  rw [cell_of_row _ _ 3 _ _ _ (h.obj i hi), ← (h.ok i hi).1]; rfl
theorem AllW.tk (h : AllW B w s l g bo va wr) {i : Nat} (hi : i < l.length) : wr.cell? ⟨g i, 4, none⟩ = some (.int .i64 (takenV l i l.length)) := by
  rw [cell_of_row _ _ 4 _ _ _ (h.obj i hi), ← (h.ok i hi).2.1]; rfl
theorem AllW.lo (h : AllW B w s l g bo va wr) {i : Nat} (hi : i < l.length) {t : Nat} (ht : t < 5) : wr.cell? ⟨g i, 5 + t * 2, none⟩ = some (.int .i64 (micV s l i t).1) := by
  rw [cell_of_row _ _ _ _ _ _ (h.obj i hi), ← (h.ok i hi).2.2.1]; exact (bo i).lo ht
theorem AllW.hi (h : AllW B w s l g bo va wr) {i : Nat} (hi : i < l.length) {t : Nat} (ht : t < 5) : wr.cell? ⟨g i, 5 + t * 2 + 1, none⟩ = some (.int .i64 (micV s l i t).2) := by
  rw [cell_of_row _ _ _ _ _ _ (h.obj i hi), ← (h.ok i hi).2.2.1]; exact (bo i).hi ht
theorem AllW.plo (h : AllW B w s l g bo va wr) {i : Nat} (hi : i < l.length) {t : Nat} (ht : t < 5) : wr.cell? ⟨g i, 15 + t * 2, none⟩ = some (.int .i64 (parV s l i t).1) := by
  rw [cell_of_row _ _ _ _ _ _ (h.obj i hi), ← (h.ok i hi).2.2.2.1]; exact (bo i).plo ht
theorem AllW.phi (h : AllW B w s l g bo va wr) {i : Nat} (hi : i < l.length) {t : Nat} (ht : t < 5) : wr.cell? ⟨g i, 15 + t * 2 + 1, none⟩ = some (.int .i64 (parV s l i t).2) := by
  rw [cell_of_row _ _ _ _ _ _ (h.obj i hi), ← (h.ok i hi).2.2.2.1]; exact (bo i).phi ht
end
theorem MS.all {B : Nat} {w wr : World} {s : Shop} {l : List Bat} {g : Nat → Nat} {bo : Nat → BO} {gs ga : Nat} {vt vl va : Value} (h : MS B w l.length g bo gs ga vt vl va wr) (ho : ∀ i, i < l.length → BoOk B w s l l.length i (bo i)) : AllW B w s l g bo va wr :=
  ⟨h.bel, h.le, h.obj, h.ge, h.row, ho⟩
/-- Sound batches. -/
structure AllOk (s : Shop) (l : List Bat) : Prop where
  sh : ShopOk s
  l1 : 1 ≤ l.length
  l6 : l.length ≤ 6
  pre : Prefix s l l.length
theorem all_ok {s : Shop} {l : List Bat} (h : batchesE s l = 0) : AllOk s l := by
  unfold batchesE at h
  split at h
  · rename_i h1; exact absurd h h1
  · rename_i h1
    split at h
    · simp at h
    · rename_i h2
      have h3 := outOne_false.1 (Bool.eq_false_iff.2 h2)
      exact ⟨shop_ok (by simpa using h1), by omega, by omega, map_range_zero.1 h⟩
/-- What melt hands back. -/
def MeltPost (w : World) (s : Shop) (l : List Bat) : Ending → World → Prop := fun e w' =>
  (batchesE s l ≠ 0 → e = .returned (.tuple #[.slice none 0 0, .int .i64 (batchesE s l)]) ∧ Below w.heap.size w w') ∧
  (batchesE s l = 0 → ∃ g bo va, e = .returned (.tuple #[va, .int .i64 0]) ∧ AllW w.heap.size w s l g bo va w')
theorem results_cell1_tmp {fn : Func} {p u : Tmp} (h : fn.results = #[.cell p 103, .tmp u]) (tmps : Array Value) (w : World) (g : Nat) (v : Value) (hp : tmps.getD p undef = .pointer (some ⟨g, 0, none⟩)) (hc : w.cell? ⟨g, 0, none⟩ = some v) :
    (results fn tmps).run Try.prog w = .ok (.tuple #[v, tmps.getD u undef]) w := by
  rw [results_cell_tmp h, hp]
  simp [asAddr, loadVar, Sem.run_bind, go_sem, hc]
set_option maxRecDepth 100000 in
set_option maxHeartbeats 8000000 in
/-- melt -/
theorem melt_any (s : Shop) (l : List Bat) (vt vl v : Value) (w : World) (hv : ShopAt w.heap.size w vt vl s) (hl' : BatsIn w.heap.size w v l) :
    Calls Try.prog 65 #[.agg #[vt, vl], v] w (MeltPost w s l) := by
  have HV := Lib.hid hv
  have HL := Lib.hid hl'
  obtain ⟨ta, tc, rfl, -, htl⟩ := sl_shape hv.1
  obtain ⟨la, lc, rfl, -, hll⟩ := sl_shape hv.2
  obtain ⟨va, vc, rfl, -, hvl⟩ := sl_shape hl'
  clear hv hl'
  have HE : Hid (batchesE s l = if checkE s ≠ 0 then checkE s else if outOne 1 6 l.length then 3 else (findE (batchEs s l) 0).2) := rfl
  have HCE : Hid ((checkV s).2.2 = checkE s) := rfl
  have HCH := fun w h => Lib.hid (check_any s (.slice ta s.things.length tc) (.slice la s.lots.length lc) w h)
  have C0 := Lib.hid (((Bs.nil w).push _ rfl (.cells #[.slice ta s.things.length tc, .slice la s.lots.length lc] 25)).push (w.heap.size + 1) (by simp) (.cells #[.slice none 0 0] 103))
  unfold MeltPost
  obtain ⟨E, hE⟩ : ∃ x, batchesE s l = x := ⟨_, rfl⟩
  rw [hE] at HE ⊢
  obtain ⟨cv, hcv⟩ : ∃ x, checkV s = x := ⟨_, rfl⟩
  simp only [hcv] at HCH HCE
  obtain ⟨p1, p2, p3⟩ := cv
  simp only at HCH HCE
  obtain ⟨r2, hr2⟩ : ∃ r, outOne 1 6 (l.length : Int) = r := ⟨_, rfl⟩
  rw [hr2, ← HCE.out] at HE
  have HR2 := Lib.hid hr2
  clear hE hcv hr2
  go_enter Try.func65, Try.ntmps65
  go_wp2_with fail
  refine (HCH _ ((HV.out.below C0.out.bel).mono C0.out.bel.size)).out.mono ?_
  rintro e w1 ⟨rfl, hb1⟩
  have C1 := Lib.hid (C0.out.call hb1)
  clear hb1 C0
  by_cases hz : p3 = 0
  case neg =>
    have hz2 : (p3 != 0) = true := by simpa using hz
    have HZ := Lib.hid hz
    clear hz
    have hf := C1.out.free 1 rfl 0
    have hc := C1.out.cell 1 rfl 0
    go_wp2_with (refine wpList_cell_bs rfl 103 _ _ rfl C1.out 1 (w.heap.size + 1) 0 _ 103 rfl rfl (.slice none 0 0) rfl (by simp) rfl info103 ?_; intro w2 C2)
    have HEE : Hid (E = p3) := by unfold Hid; rw [HE.out, if_pos HZ.out]
    refine bodyPost_ret (v := .tuple #[.slice none 0 0, .int .i64 p3]) ?_ rfl ?_
    · rw [results_cell1_tmp rfl _ _ (w.heap.size + 1) (.slice none 0 0) rfl (by rw [C2.cell 1 rfl]; rfl)]
      rfl
    · rw [HEE.out]
      exact ⟨fun _ => ⟨rfl, C2.bel⟩, fun h => absurd h HZ.out⟩
  subst hz
  have C1A := Lib.hid (C1.out.push _ rfl (.cells #[.int .i64 (l.length : Nat)] 3))
  go_wp2_with fail
  refine (out_one r2 1 6 _ HR2.out _ _ (C1A.out.get 2 rfl)).mono ?_
  rintro e w2 ⟨rfl, hb1⟩
  have C2 := Lib.hid ((C1A.out.call hb1).sub [(w.heap.size, .cells #[.slice ta s.things.length tc, .slice la s.lots.length lc] 25), (w.heap.size + 1, .cells #[.slice none 0 0] 103)] (by simp))
  clear hb1 C1 C1A
  cases r2
  case true =>
    go_wp2_with (refine wpList_cell_bs rfl 103 _ _ rfl C2.out 1 (w.heap.size + 1) 0 _ 103 rfl rfl (.slice none 0 0) rfl (by simp) rfl info103 ?_; intro w3 C3)
    have HEE : Hid (E = 3) := by unfold Hid; rw [HE.out]; simp
    refine bodyPost_ret (v := .tuple #[.slice none 0 0, .int .i64 3]) ?_ rfl ?_
    · rw [results_cell1_tmp rfl _ _ (w.heap.size + 1) (.slice none 0 0) rfl (by rw [C3.cell 1 rfl]; rfl)]
      rfl
    · rw [HEE.out]
      exact ⟨fun _ => ⟨rfl, C3.bel⟩, fun h => (by simp at h)⟩
  have HEE : Hid (E = (findE (batchEs s l) 0).2) := by unfold Hid; rw [HE.out]; simp
  have hl6 := (outOne_false.1 HR2.out).2
  have HSO := Lib.hid (shop_ok HCE.out.symm)
  have HM0 : Hid (MS w.heap.size w 0 (fun _ => 0) (fun _ => bo0 .nilFunc .nilFunc .nilFunc) w.heap.size (w.heap.size + 1) (.slice ta s.things.length tc) (.slice la s.lots.length lc) (.slice none 0 0) w2) :=
    ⟨C2.out.bel, C2.out.bel.size, fun i hi => by omega, fun i j hi => by omega, fun i hi => by omega, C2.out.get 0 rfl, Nat.le_refl _, C2.out.get 1 rfl, by omega, World.ownsRow_nil _ _ 106 1⟩
  clear C2 HE
  go_wp2_with fail
  refine (firstBat_any w.heap.size w w2 s HSO.out l (by omega) w.heap.size (w.heap.size + 1) _ _ _ _ HV.out HL.out _ _ HM0.out).mono ?_
  rintro e w3 ⟨⟨at', rfl⟩, hb3, hal, hok⟩
  have HB3 := Lib.hid hb3
  have HOK := Lib.hid hok
  obtain ⟨vx, hal⟩ := hal
  have HAL := Lib.hid hal
  clear hb3 hok hal HM0
  generalize (findE (batchEs s l) 0).2 = e2 at *
  by_cases hz : e2 = 0
  case neg =>
    have hz2 : (e2 != 0) = true := by simpa using hz
    have HZ := Lib.hid hz
    clear hz
    go_wp2_with (refine wpList_cell_but rfl 103 _ _ rfl (w.heap.size + 1) 0 _ 103 HAL.out rfl (.slice none 0 0) rfl (by simp) rfl info103 ?_; intro w4 hg4 hb4)
    refine bodyPost_ret (v := .tuple #[.slice none 0 0, .int .i64 e2]) ?_ rfl ?_
    · rw [results_cell1_tmp rfl _ _ (w.heap.size + 1) (.slice none 0 0) rfl (by rw [cell_of_row _ _ _ _ _ _ hg4]; rfl)]
      rfl
    · rw [HEE.out]
      exact ⟨fun _ => ⟨rfl, HB3.out.trans (hb4.below (by omega) HB3.out.size)⟩, fun h => absurd h HZ.out⟩
  subst hz
  obtain ⟨g, bo, vr, hM, hbo⟩ := HOK.out rfl
  have HM := Lib.hid hM
  have HA := Lib.hid (hM.all hbo)
  clear hM hbo HOK
  have q1 : w3.cell? ⟨w.heap.size + 1, 0, none⟩ = some vr := cell_of_row _ _ 0 _ _ _ HM.out.al
  obtain ⟨ra, rc, hvr⟩ := HA.out.shape
  subst hvr
  go_wp2_with (refine wpList_cell_but rfl 103 _ _ rfl (w.heap.size + 1) 0 _ 103 HM.out.al rfl (.slice ra l.length rc) rfl (by simp) rfl info103 ?_; intro w4 hg4 hb4)
  refine bodyPost_ret (v := .tuple #[.slice ra l.length rc, .int .i64 0]) ?_ rfl ?_
  · rw [results_cell1_tmp rfl _ _ (w.heap.size + 1) (.slice ra l.length rc) rfl (by rw [cell_of_row _ _ _ _ _ _ hg4]; rfl)]
    rfl
  · rw [HEE.out]
    exact ⟨fun h => absurd rfl h, fun _ => ⟨g, bo, _, rfl, HA.out.but hb4 (by omega) HM.out.al (by decide) (by decide)⟩⟩
end Go.Proofs.Ytaigbhhmmdfdcaa
/- Rows of ints, of ranges, of tables that a call makes; slices.Clone; Content. -/
namespace Go.Proofs.Ytaigbhhmmdfdcaa
open Go.RowKit
/-- A slice of so many elements has room for them. -/
theorem ownsRow_ints {w : World} {base : Nat} {v : Value} {l : List Int} (h : w.ownsRow base 3 1 v l.length (l.map (Value.int .i64))) (hl : l.length ≤ 1000) : IntsIn .i64 w.heap.size w v l ∧ ∃ a c, v = .slice a l.length c ∧ l.length ≤ c := by
  obtain ⟨_, h⟩ := h
  rcases h with ⟨rfl, h0⟩ | ⟨g, cap, cur, rfl, hb, hg, hn, hm, hc, ht⟩
  · have : l = [] := List.eq_nil_of_length_eq_zero h0
    subst this
    exact ⟨⟨none, 0, rfl, by simp, .inl rfl⟩, none, 0, rfl, by simp⟩
  · refine ⟨⟨_, cap, rfl, by omega, .inr ⟨g, 0, rfl, block_lt hg, fun i hi => ?_⟩⟩, _, cap, rfl, hn⟩
    rw [cell_of_row w g _ _ _ _ hg, Nat.zero_add]
    have hlt : i < cur.size := by omega
    have e : (cur.toList.take (l.length * 1))[i]? = (l.map (Value.int .i64))[i]? := by rw [ht]
    rw [List.getElem?_take, if_pos (by omega), List.getElem?_map, List.getElem?_eq_getElem hi] at e
    rw [← Array.getElem?_toList, e, List.getD_eq_getElem?_getD, List.getElem?_eq_getElem hi]; rfl
theorem info3' : ∃ i, Try.prog.info? 3 = some i ∧ i.zero = some (.int .i64 0) ∧ i.size = 1 ∧ i.bytes = 8 := by
  obtain ⟨i, h1, h2⟩ := Option.map_eq_some_iff.1 (show (Try.prog.info? 3).map (fun i => (i.zero, i.size, i.bytes)) = some (some (.int .i64 0), 1, 8) by kernel_rfl)
  simp only [Prod.mk.injEq] at h2
  exact ⟨i, h1, h2⟩
theorem one_int (x : Int) : ∀ u ∈ [Value.int .i64 x], u.oneCell' = true := fun u hu => by simp at hu; subst hu; rfl
/-- A row of ints that the call owns. -/
def OwnInts (base : Nat) (w : World) (v : Value) (l : List Int) : Prop := w.ownsRow base 3 1 v l.length (l.map (Value.int .i64))
theorem OwnInts.ints {base : Nat} {w : World} {v : Value} {l : List Int} (h : OwnInts base w v l) (hl : l.length ≤ 1000) : IntsIn .i64 w.heap.size w v l := (ownsRow_ints h hl).1
def spCells (l : List (Int × Int)) : List Value := l.flatMap fun p => [.int .i64 p.1, .int .i64 p.2]
theorem spCells_snoc (l : List (Int × Int)) (p : Int × Int) : spCells (l ++ [p]) = spCells l ++ [.int .i64 p.1, .int .i64 p.2] := by simp [spCells]
theorem spCells_at : ∀ (l : List (Int × Int)) (i : Nat), i < l.length → (spCells l)[i * 2]? = some (.int .i64 (l.getD i (0, 0)).1) ∧ (spCells l)[i * 2 + 1]? = some (.int .i64 (l.getD i (0, 0)).2)
  | [], i, h => by simp at h
  | p :: l, 0, _ => by simp [spCells]
  | p :: l, i + 1, h => by
    have := spCells_at l i (by simpa using h)
    have e : spCells (p :: l) = .int .i64 p.1 :: .int .i64 p.2 :: spCells l := rfl
    rw [e, show (i + 1) * 2 = i * 2 + 1 + 1 by omega]
    simpa using this
theorem ownsRow_spans {w : World} {base : Nat} {v : Value} {l : List (Int × Int)} (h : w.ownsRow base 51 2 v l.length (spCells l)) (hl : l.length ≤ 1000) : SpansIn w.heap.size w v l := by
  obtain ⟨_, h⟩ := h
  rcases h with ⟨rfl, h0⟩ | ⟨g, cap, cur, rfl, hb, hg, hn, hm, hc, ht⟩
  · have : l = [] := List.eq_nil_of_length_eq_zero h0
    subst this
    exact ⟨none, 0, rfl, by simp, by simp, .inl rfl⟩
  · have each : ∀ j u, j < l.length * 2 → (spCells l)[j]? = some u → w.cell? ⟨g, 0 + j, none⟩ = some u := by
      intro j u hj hu
      rw [cell_of_row w g _ _ _ _ hg, Nat.zero_add]
      have e : (cur.toList.take (l.length * 2))[j]? = (spCells l)[j]? := by rw [ht]
      rw [List.getElem?_take, if_pos hj] at e
      rw [← Array.getElem?_toList, e, hu]
    refine ⟨_, cap, rfl, by omega, hn, .inr ⟨g, 0, rfl, block_lt hg, fun i hi => ⟨each (i * 2) _ (by omega) (spCells_at l i hi).1, ?_⟩⟩⟩
    have := each (i * 2 + 1) _ (by omega) (spCells_at l i hi).2
    rw [← Nat.add_assoc] at this
    exact this
theorem info51' : ∃ i, Try.prog.info? 51 = some i ∧ i.zero = some (.agg #[.int .i64 0, .int .i64 0]) ∧ i.size = 2 ∧ i.bytes = 16 := by
  obtain ⟨i, h1, h2⟩ := Option.map_eq_some_iff.1 (show (Try.prog.info? 51).map (fun i => (i.zero, i.size, i.bytes)) = some (some (.agg #[.int .i64 0, .int .i64 0]), 2, 16) by kernel_rfl)
  simp only [Prod.mk.injEq] at h2
  exact ⟨i, h1, h2⟩

/-- A row of spans that the call owns. -/
def OwnSpans (base : Nat) (w : World) (v : Value) (l : List (Int × Int)) : Prop := w.ownsRow base 51 2 v l.length (spCells l)
theorem OwnSpans.spans {base : Nat} {w : World} {v : Value} {l : List (Int × Int)} (h : OwnSpans base w v l) (hl : l.length ≤ 1000) : SpansIn w.heap.size w v l := ownsRow_spans h hl
def RetSp (l : List (Int × Int)) (w : World) (e : Ending) (w' : World) : Prop := ∃ v, e = .returned v ∧ OwnSpans w.heap.size w' v l ∧ Below w.heap.size w w'
theorem two_ints (x y : Int) : ∀ u ∈ [Value.int .i64 x, .int .i64 y], u.oneCell' = true := fun u hu => by simp at hu; rcases hu with rfl | rfl <;> rfl
theorem info54' : ∃ i, Try.prog.info? 54 = some i ∧ i.zero = some (.slice none 0 0) ∧ i.size = 1 ∧ i.bytes = 24 := by
  obtain ⟨i, h1, h2⟩ := Option.map_eq_some_iff.1 (show (Try.prog.info? 54).map (fun i => (i.zero, i.size, i.bytes)) = some (some (.slice none 0 0), 1, 24) by kernel_rfl)
  simp only [Prod.mk.injEq] at h2
  exact ⟨i, h1, h2⟩
/-- A row of lists of ranges. -/
structure OwnTable (base : Nat) (w : World) (v : Value) (n : Nat) (us : List Value) (f : Nat → List (Int × Int)) : Prop where
  len : us.length = n
  row : w.ownsRow base 54 1 v n us
  each : ∀ i, i < n → OwnSpans base w (us.getD i .nilFunc) (f i)
theorem ownsRow.grown2 {w w' : World} {base base' sz n sz' n' : Nat} {e e' : TypeId} {v v' : Value} {xs xs' : List Value} (h : w.ownsRow base e sz v n xs) (ho : w.ownsRow base' e' sz' v' n' xs') (hg : w.grownBy w' v'.ownBlock) (hne : e ≠ e') : w'.ownsRow base e sz v n xs := by
  refine ⟨h.1, ?_⟩
  rcases h.2 with h0 | ⟨b, cap, cur, rfl, h1, h2, h3⟩
  · exact .inl h0
  · exact .inr ⟨b, cap, cur, rfl, h1, grown_keep ho hg h2 hne, h3⟩
theorem OwnTable.call {base : Nat} {w w' : World} {v : Value} {n : Nat} {us : List Value} {f : Nat → List (Int × Int)} (h : OwnTable base w v n us f) (hb : Below w.heap.size w w') : OwnTable base w' v n us f :=
  ⟨h.len, ownsRow.below h.row hb, fun i hi => ownsRow.below (h.each i hi) hb⟩
theorem OwnTable.more {base : Nat} {w w' : World} {v v' u : Value} {n : Nat} {us : List Value} {f : Nat → List (Int × Int)} (h : OwnTable base w v n us f) (hu : OwnSpans base w u (f n)) (hown : w'.ownsRow base 54 1 v' (n + 1) (us ++ [u])) (hg : w.grownBy w' v.ownBlock) :
    OwnTable base w' v' (n + 1) (us ++ [u]) f := by
  refine ⟨by simp [h.len], hown, fun i hi => ?_⟩
  by_cases hin : i < n
  · have e : (us ++ [u]).getD i .nilFunc = us.getD i .nilFunc := by
      rw [List.getD_eq_getElem?_getD, List.getElem?_append_left (by rw [h.len]; exact hin), List.getD_eq_getElem?_getD]
    rw [e]
    exact ownsRow.grown2 (h.each i hin) h.row hg (by decide)
  · obtain rfl : i = n := by omega
    have e : (us ++ [u]).getD i .nilFunc = u := by
      rw [List.getD_eq_getElem?_getD, List.getElem?_append_right (by rw [h.len]; exact Nat.le_refl _), h.len, Nat.sub_self]
      rfl
    rw [e]
    exact ownsRow.grown2 hu h.row hg (by decide)
theorem OwnTable.table {base : Nat} {w : World} {v : Value} {n : Nat} {us : List Value} {f : Nat → List (Int × Int)} (h : OwnTable base w v n us f) (hn : n ≤ 1000) (hf : ∀ i, i < n → (f i).length ≤ 1000) (l : List (List (Int × Int))) (hl : l.length = n) (he : ∀ i, i < n → l.getD i [] = f i) : TableIn w.heap.size w v l := by
  subst hl
  obtain ⟨_, h2⟩ := h.row
  rcases h2 with ⟨rfl, h0⟩ | ⟨g, cap, cur, rfl, hb, hg, hnn, hm, hc, ht⟩
  · have : l = [] := List.eq_nil_of_length_eq_zero h0
    subst this
    exact ⟨none, 0, rfl, by simp, by simp, .inl rfl⟩
  · refine ⟨_, cap, rfl, by omega, hnn, .inr ⟨g, 0, rfl, block_lt hg, fun i hi => ⟨us.getD i .nilFunc, ?_, ?_⟩⟩⟩
    · have e : (cur.toList.take (l.length * 1))[i]? = us[i]? := by rw [ht]
      rw [List.getElem?_take, if_pos (by omega)] at e
      show w.cell? ⟨g, 0 + i * 1, none⟩ = _
      rw [cell_of_row w g _ _ _ _ hg, Nat.zero_add, Nat.mul_one, ← Array.getElem?_toList, e, List.getD_eq_getElem?_getD, List.getElem?_eq_getElem (by rw [h.len]; exact hi)]
      rfl
    · have := (h.each i hi).spans (by have := hf i hi; omega)
      rw [← he i hi] at this
      exact this
theorem addr_add2 {g o j : Nat} : ((⟨g, o, none⟩ : Addr).add j) = ⟨g, o + j, none⟩ := by unfold Addr.add; split <;> simp_all
theorem spCells_length (l : List (Int × Int)) : (spCells l).length = l.length * 2 := by
  induction l with
  | nil => rfl
  | cons p l ih => rw [show spCells (p :: l) = .int .i64 p.1 :: .int .i64 p.2 :: spCells l from rfl]; simp [ih]; omega
theorem spCells_one (l : List (Int × Int)) : ∀ u ∈ spCells l, u.oneCell' = true := by
  intro u hu
  simp only [spCells, List.mem_flatMap] at hu
  obtain ⟨p, -, hp⟩ := hu
  exact two_ints _ _ u hp
theorem ownsRow_fresh51 (w : World) : (w.alloc (.cells #[] 51)).ownsRow w.heap.size 51 2 (.slice (some ⟨w.heap.size, 0, none⟩) 0 0) 0 [] :=
  ⟨rfl, .inr ⟨w.heap.size, 0, #[], rfl, Nat.le_refl _, heap_alloc_new _ _, Nat.le_refl _, Nat.zero_le _, rfl, rfl⟩⟩
set_option maxRecDepth 100000 in
set_option maxHeartbeats 4000000 in
/-- slices.Clone at ranges that lie in a row. -/
theorem clone_any (l : List (Int × Int)) (hl : l.length ≤ 1000) (b off c : Nat) (w : World) (hb : b < w.heap.size)
    (hc : ∀ i, i < l.length → w.cell? ⟨b, off + i * 2, none⟩ = some (.int .i64 (l.getD i (0, 0)).1) ∧ w.cell? ⟨b, off + i * 2 + 1, none⟩ = some (.int .i64 (l.getD i (0, 0)).2)) :
    Calls Try.prog 66 #[.slice (some ⟨b, off, none⟩) l.length c] w (RetSp l w) := by
  have HC := Lib.hid hc
  have HM := Lib.hid (spCells_length l)
  have H1 := Lib.hid (spCells_one l)
  have HAT := Lib.hid (spCells_at l)
  clear hc
  obtain ⟨n, hn⟩ : ∃ n, l.length = n := ⟨_, rfl⟩
  have HN := Lib.hid hn
  rw [hn] at hl HM ⊢
  clear hn
  obtain ⟨i0, hi0, hz0, hz1, hz2⟩ := info51'
  have HI0 := Lib.hid hi0
  have HZ0 := Lib.hid hz0
  have HZ1 := Lib.hid hz1
  have HZ2 := Lib.hid hz2
  clear hi0 hz0 hz1 hz2
  have hnews : Hid (∀ j u, (spCells l)[j]? = some u → (w.alloc (.cells #[] 51)).cell? ((⟨b, off, none⟩ : Addr).add j) = some u) := by
    intro j u hj
    have hjn : j < n * 2 := by rw [← HM.out]; exact (List.getElem?_eq_some_iff.1 hj).1
    have hB := ((Below.refl w.heap.size w).alloc (Nat.le_refl _) (.cells #[] 51))
    rw [addr_add2]
    obtain ⟨i, rfl | rfl⟩ : ∃ i, j = i * 2 ∨ j = i * 2 + 1 := ⟨j / 2, by omega⟩
    · have hi : i < l.length := by rw [HN.out]; omega
      rw [(HAT.out i hi).1] at hj
      cases hj
      exact (hB.cell (p := ⟨b, off + i * 2, none⟩) hb).trans (HC.out i hi).1
    · have hi : i < l.length := by rw [HN.out]; omega
      rw [(HAT.out i hi).2] at hj
      cases hj
      rw [← Nat.add_assoc]
      exact (hB.cell (p := ⟨b, off + i * 2 + 1, none⟩) hb).trans (HC.out i hi).2
  have hnil := fun w : World => Lib.run_eql_slice_nil (P := Try.prog) w 54 51 (some ⟨b, off, none⟩) n c 0 0 Try.underlying54
  simp only [Option.isNone] at hnil
  clear HC HAT
  go_enter Try.func66, Try.ntmps66
  go_wp2_with (at_builtin; refine wpList_append_own _ rfl _ _ 54 rfl w.heap.size 51 i0 (.agg #[.int .i64 0, .int .i64 0]) 2 16 Try.underlying54 HI0.out HZ0.out HZ1.out HZ2.out rfl (by decide) _ _ _ rfl (ownsRow_fresh51 w) ⟨b, off, none⟩ n c (spCells l) rfl HM.out hnews.out H1.out (by unfold maxLen; omega) (by omega) (by simp) ?_; intro v' w12 hown12 hgrow12 _)
  go_ret
  have hlt12 := World.ownsRow.lt (ownsRow_fresh51 w)
  refine ⟨v', rfl, ?_, ((Below.refl w.heap.size w).alloc (Nat.le_refl _) (.cells #[] 51)).grown hgrow12 (by simp) (fun k e => (hlt12 k e).1)⟩
  unfold OwnSpans
  rw [HN.out]
  simpa using hown12
end Go.Proofs.Ytaigbhhmmdfdcaa
/- Appending to rows of the call's own, in regions that draw their order. -/
namespace Go.Proofs.Ytaigbhhmmdfdcaa
open Go.RowKit
theorem cellB {B : Nat} {W w1 : World} (hb : Below B W w1) : (∀ b o, b < B → w1.cell? ⟨b, o, none⟩ = W.cell? ⟨b, o, none⟩) ∧ (∀ b o, b < B → w1.frozen? ⟨b, o, none⟩ = W.frozen? ⟨b, o, none⟩) :=
  ⟨fun b o h => hb.cell (p := ⟨b, o, none⟩) h, fun b o h => hb.frozen (p := ⟨b, o, none⟩) h⟩
theorem wpList_mv {P : Program} {ops : Array Oper} {rest : List Oper} {o : Oper} {a : Act} {w : World} {Q : Exit → Act → World → Prop} (hg : o.guard = none) (s : Operand) (ho : o.op = .move s) (v : Value) (hv : a.eval s = v)
    (h : wpList P ops Q rest (a.put o.dst v) w) : wpList P ops Q (o :: rest) a w := by
  refine wpList_plain hg fun K hK => ?_
  unfold Oper.wp execOp
  simp only [ho, Sem.run_pure, hv]
  exact hK _ _ h
/-- The row v, before the append; d1: the new element is laid (its slice: yb); d2: the longer row is ya. -/
structure AppX (wr : World) (base : Nat) (e : TypeId) (size : Nat) (v : Value) (n : Nat) (xs news : List Value) (d1 d2 : Bool) (yb ya : Value) (w' : World) : Prop where
  hb : base ≤ wr.heap.size
  bel : Below base wr w'
  row : d2 = false → w'.ownsRow base e size v n xs
  lay : d1 = true → d2 = false → ∃ g, yb = .slice (some ⟨g, 0, none⟩) 1 1 ∧ w'.heap[g]? = some (.cells news.toArray e)
  new : d2 = true → w'.ownsRow base e size ya (n + 1) (xs ++ news)
section
variable {wr : World} {base : Nat} {e : TypeId} {size : Nat} {v : Value} {n : Nat} {xs news : List Value} {w' w'' : World} {yb ya : Value}
theorem AppX.start (h : wr.ownsRow base e size v n xs) (hb : base ≤ wr.heap.size) : AppX wr base e size v n xs news false false yb ya wr.drew :=
  ⟨hb, (Below.refl _ _).drew, fun _ => ownsRow.below h (Below.refl _ wr).drew, fun h => (by cases h), fun h => (by cases h)⟩
theorem AppX.le {d1 d2 : Bool} (h : AppX wr base e size v n xs news d1 d2 yb ya w') : base ≤ w'.heap.size := Nat.le_trans h.hb h.bel.size
theorem AppX.call {d1 d2 : Bool} (h : AppX wr base e size v n xs news d1 d2 yb ya w') (hb : Below w'.heap.size w' w'') : AppX wr base e size v n xs news d1 d2 yb ya w'' :=
  ⟨h.hb, h.bel.trans (hb.mono (Nat.le_trans h.hb h.bel.size)), fun h2 => ownsRow.below (h.row h2) hb, fun h1 h2 => by
    obtain ⟨g, e1, e2⟩ := h.lay h1 h2
    exact ⟨g, e1, block_keep e2 hb⟩, fun h2 => ownsRow.below (h.new h2) hb⟩
theorem AppX.laid {yb' : Value} (h : AppX wr base e size v n xs news false false yb' ya w') : AppX wr base e size v n xs news true false (.slice (some ⟨w'.heap.size, 0, none⟩) 1 1) ya (w'.alloc (.cells news.toArray e)) :=
  ⟨h.hb, h.bel.alloc (Nat.le_trans h.hb h.bel.size) _, fun _ => (h.row rfl).alloc _, fun _ _ => ⟨_, rfl, heap_alloc_new _ _⟩, fun h => (by cases h)⟩
theorem AppX.got {d1 : Bool} {v' : Value} (h : AppX wr base e size v n xs news d1 false yb ya w') (hown : w''.ownsRow base e size v' (n + 1) (xs ++ news)) (hg : w'.grownBy w'' v.ownBlock) :
    AppX wr base e size v n xs news d1 true yb v' w'' :=
  ⟨h.hb, h.bel.grown hg (Nat.le_trans h.hb h.bel.size) (fun k e => (World.ownsRow.lt (h.row rfl) k e).1), fun h => (by cases h), fun _ h => (by cases h), fun _ => hown⟩
end
/-- A table grows by a list that a call makes: d1 the call is done, d2 its slice is laid, d3 the longer table is there, d4 the variable holds it. -/
structure CtW (wb : World) (base : Nat) (tv : Value) (k : Nat) (us : List Value) (f : Nat → List (Int × Int)) (d1 d2 d3 d4 : Bool) (yc yb ya yt : Value) (w' : World) : Prop where
  bel : Below base wb w'
  le : base ≤ w'.heap.size
  tab : d3 = false → OwnTable base w' tv k us f
  cl : d1 = true → d3 = false → OwnSpans base w' yc (f k)
  bd : d2 = true → d3 = false → ∃ b, yb = .slice (some ⟨b, 0, none⟩) 1 1 ∧ w'.heap[b]? = some (.cells #[yc] 54)
  ap : d3 = true → ∃ us', OwnTable base w' ya (k + 1) us' f
  t0 : d4 = false → yt = tv
  t1 : d4 = true → yt = ya
section
variable {wb : World} {base : Nat} {tv : Value} {k : Nat} {us : List Value} {f : Nat → List (Int × Int)} {d1 d2 d3 d4 : Bool} {yc yb ya yt : Value} {w' w'' : World}
theorem CtW.start (h : OwnTable base wb tv k us f) (hb : base ≤ wb.heap.size) : CtW wb base tv k us f false false false false yc yb ya tv wb.drew :=
  ⟨(Below.refl _ _).drew, hb, fun _ => h.call (Below.refl _ _).drew, fun h => (by cases h), fun h => (by cases h), fun h => (by cases h), fun _ => rfl, fun h => (by cases h)⟩
theorem CtW.cloned {v : Value} (h : CtW wb base tv k us f false false false d4 yc yb ya yt w') (hb : Below w'.heap.size w' w'') (hv : OwnSpans w'.heap.size w'' v (f k)) : CtW wb base tv k us f true false false d4 v yb ya yt w'' :=
  ⟨h.bel.trans (hb.mono h.le), Nat.le_trans h.le hb.size, fun _ => (h.tab rfl).call hb, fun _ _ => ownsRow.le hv h.le, fun h => (by cases h), fun h => (by cases h), h.t0, h.t1⟩
theorem CtW.laid (h : CtW wb base tv k us f true false false d4 yc yb ya yt w') : CtW wb base tv k us f true true false d4 yc (.slice (some ⟨w'.heap.size, 0, none⟩) 1 1) ya yt (w'.alloc (.cells #[yc] 54)) := by
  have hb := (Below.refl w'.heap.size w').alloc (Nat.le_refl _) (.cells #[yc] 54)
  exact ⟨h.bel.trans (hb.mono h.le), Nat.le_trans h.le hb.size, fun _ => (h.tab rfl).call hb, fun _ _ => ownsRow.below (h.cl rfl rfl) hb, fun _ _ => ⟨_, rfl, heap_alloc_new _ _⟩, fun h => (by cases h), h.t0, h.t1⟩
theorem CtW.got {v' : Value} (h : CtW wb base tv k us f true true false d4 yc yb ya yt w') (hd4 : d4 = false) (hown : w''.ownsRow base 54 1 v' (k + 1) (us ++ [yc])) (hg : w'.grownBy w'' tv.ownBlock) : CtW wb base tv k us f true true true d4 yc yb v' yt w'' :=
  ⟨h.bel.trans (grown_below (h.tab rfl).row hg (Nat.le_refl _) h.le), Nat.le_trans h.le hg.size, fun h => (by cases h), fun _ h => (by cases h), fun _ h => (by cases h), fun _ => ⟨_, (h.tab rfl).more (h.cl rfl rfl) hown hg⟩, h.t0, fun h => (by rw [hd4] at h; cases h)⟩
theorem CtW.put (h : CtW wb base tv k us f d1 d2 true d4 yc yb ya yt w') : CtW wb base tv k us f d1 d2 true true yc yb ya ya w' :=
  ⟨h.bel, h.le, fun h => (by cases h), fun _ h => (by cases h), fun _ h => (by cases h), h.ap, fun h => (by cases h), fun _ => rfl⟩
end
end Go.Proofs.Ytaigbhhmmdfdcaa
/- scent.Content. -/
namespace Go.Proofs.Ytaigbhhmmdfdcaa
open Go.RowKit
theorem row_eq (s : Shop) (l : List Bat) {k : Nat} (hk : k < l.length) : (rangesV s l).getD k [] = (List.range s.things.length).map (micV s l k) := by
  unfold rangesV
  rw [rowsV_get s l hk, rowsV_last]
  unfold rowV
  apply List.map_congr_left
  intro t ht
  rw [micV_eq s l hk, if_pos (List.mem_range.1 ht)]
theorem rangesV_length (s : Shop) (l : List Bat) : (rangesV s l).length = l.length := rowsV_length s l _
theorem mapr_get {α : Type} (f : Nat → α) (n i : Nat) (h : i < n) (d : α) : ((List.range n).map f).getD i d = f i := by
  rw [List.getD_eq_getElem?_getD, List.getElem?_map, List.getElem?_range h]; rfl
/-- A table is handed back, with an error. -/
def RetTable (t : List (List (Int × Int))) (E : Int) (w : World) : Ending → World → Prop := fun e w' => ∃ tv, e = .returned (.tuple #[tv, .int .i64 E]) ∧ TableIn w'.heap.size w' tv t ∧ Below w.heap.size w w'
set_option maxRecDepth 100000 in
set_option maxHeartbeats 8000000 in
theorem content_any (s : Shop) (l : List Bat) (vt vl v : Value) (w : World) (hv : ShopAt w.heap.size w vt vl s) (hl' : BatsIn w.heap.size w v l) :
    Calls Try.prog 19 #[.agg #[vt, vl], v] w (RetTable (contentV s l) (batchesE s l) w) := by
  have HV := Lib.hid hv
  have HL := Lib.hid hl'
  obtain ⟨ta, tc, rfl, -, htl⟩ := sl_shape hv.1
  obtain ⟨la, lc, rfl, -, hll⟩ := sl_shape hv.2
  obtain ⟨va, vc, rfl, -, hvl⟩ := sl_shape hl'
  clear hv hl'
  have hb0 := (Below.refl w.heap.size w).alloc (Nat.le_refl _) (.cells #[.slice ta s.things.length tc, .slice la s.lots.length lc] 25)
  have HB0 := Lib.hid hb0
  have HMELT := Lib.hid (melt_any s l _ _ _ _ (HV.out.next hb0) (HL.out.next hb0))
  clear hb0
  unfold RetTable
  unfold MeltPost at HMELT
  have HCV : Hid (contentV s l = if batchesE s l ≠ 0 then [] else rangesV s l) := rfl
  have HOKB := Lib.hid (all_ok (s := s) (l := l))
  obtain ⟨E, hE⟩ : ∃ x, batchesE s l = x := ⟨_, rfl⟩
  rw [hE] at HMELT HCV ⊢
  simp only [hE] at HOKB
  clear hE
  go_enter Try.func19, Try.ntmps19
  go_wp2_with fail
  refine HMELT.out.mono ?_
  rintro e w1 ⟨hbad, hgood⟩
  by_cases hz : E = 0
  case neg =>
    have hz2 : (E != 0) = true := by simpa using hz
    have HZ := Lib.hid hz
    obtain ⟨rfl, hb1⟩ := hbad hz
    clear hz hbad hgood
    have HB1 := Lib.hid (HB0.out.trans (hb1.mono (by simp)))
    clear hb1
    go_wp2_with fail
    go_ret2
    refine ⟨_, rfl, ?_, HB1.out⟩
    rw [HCV.out, if_pos HZ.out]
    exact SlIn.nil _ _
  subst hz
  obtain ⟨g, bo, vr, rfl, hA⟩ := hgood rfl
  have HA := Lib.hid hA
  have HOK := Lib.hid (HOKB.out rfl)
  clear hbad hgood hA HOKB HMELT
  obtain ⟨ra, rc, hvr⟩ := HA.out.shape
  subst hvr
  have hn6 := HOK.out.l6
  have hnt5 := HOK.out.sh.nt5
  have HW1 : Hid (w1.heap.size ≤ w1.heap.size) := Nat.le_refl _
  have HB1 := Lib.hid (HB0.out.trans (HA.out.bel.mono (by simp)))
  have HGS : Hid (w1.cell? ⟨w.heap.size, 0, none⟩ = some (.slice ta s.things.length tc)) :=
    (Below.cell (p := ⟨w.heap.size, 0, none⟩) HA.out.bel (by simp)).trans (cell_of_row _ _ 0 _ _ _ (heap_alloc_new w (.cells #[.slice ta s.things.length tc, .slice la s.lots.length lc] 25)))
  have hgsl : w.heap.size < w1.heap.size := by have := HA.out.le; simp at this; omega
  clear HW1
  obtain ⟨W1, HWW⟩ : ∃ x, Hid (w1.heap.size = x) := ⟨_, rfl⟩
  have HB2 := Lib.hid (Below.refl w1.heap.size w1)
  go_wp2_with fail
  rw [HWW.out] at hgsl HB2
  go_loopw [4, 20] (fun tx iv wr => ∃ (k : Nat) (us : List Value) (tv : Value), tv = tx ∧ iv = .int .i64 k ∧ k ≤ l.length ∧ Below W1 w1 wr ∧ W1 ≤ wr.heap.size ∧ OwnTable W1 wr tv k us (fun i => (List.range s.things.length).map (micV s l i))) (fun _ iv _ => l.length - (intOf iv).toNat)
  case atStart => exact ⟨0, [], _, rfl, rfl, by omega, HB2.out, by rw [HWW.out]; exact Nat.le_refl _, rfl, World.ownsRow_nil _ _ 54 1, fun i hi => by omega⟩
  case round =>
    obtain ⟨k, us, tv, rfl, rfl, hk, hBk, hW1, hT⟩ := hrel
    have HBk := Lib.hid hBk
    have HT := Lib.hid hT
    have HW1 := Lib.hid hW1
    clear hBk hT hW1
    obtain ⟨ta1, tc1, htv⟩ := ownsRow_slice HT.out.row
    have HTV := Lib.hid htv
    clear htv
    by_cases hkl : k < l.length
    · obtain ⟨pb, pc, he, hpc, hpb, hcell⟩ := HA.out.ptr hkl
      cases he
      rw [HWW.out] at hpb
      have HGK : Hid (g k < W1) := by rw [← HWW.out]; exact block_lt (HA.out.obj k hkl)
      have HCE : Hid (∀ t, t < 5 → wr.cell? ⟨g k, 5 + t * 2, none⟩ = some (.int .i64 (micV s l k t).1) ∧ wr.cell? ⟨g k, 5 + t * 2 + 1, none⟩ = some (.int .i64 (micV s l k t).2)) := fun t ht =>
        ⟨(HBk.out.cell (p := ⟨g k, _, none⟩) HGK.out).trans (HA.out.lo hkl ht), (HBk.out.cell (p := ⟨g k, _, none⟩) HGK.out).trans (HA.out.hi hkl ht)⟩
      have hcell := (HBk.out.cell (p := ⟨pb, k, none⟩) hpb).trans hcell
      have hgs := (HBk.out.cell (p := ⟨w.heap.size, 0, none⟩) hgsl).trans HGS.out
      have hki : (k : Int) < (l.length : Int) := by omega
      have hnt2 : (s.things.length : Int) ≤ 5 := by omega
      go_wp2_with fail
      refine wp_region_inv1 (by kernel_rfl) (by kernel_rfl) [32, 33, 34, 4] (fun D y w' => CtW wr W1 tv k us (fun i => (List.range s.things.length).map (micV s l i)) (D 8) (D 9) (D 10) (D 11) (y 32) (y 33) (y 34) (y 4) w') ?_ ?FC ?hFC ?_
      · exact CtW.start HT.out HW1.out
      case hFC =>
        intro y
        simp only [fill, List.foldl, Act.put, List.setIfInBounds_toArray, List.set]
        exact rfl
      apply obl_det
      case hrun =>
        intro D y wz hW hD R hR
        have HRR := Lib.hid hR
        clear hR
        have h11 : D 11 = false := hD.post _ 11 rfl (by kernel_rfl)
        refine wpList_mv rfl _ rfl tv (hW.t0 h11) ?_
        have HW := Lib.hid hW
        clear hW hD
        go_wp2
        exact HRR.out _ HW.out
      case hnp => rfl
      case hv => first | exact ⟨_, fun _ => rfl⟩ | exact ⟨undef, fun _ => rfl⟩
      iterate 7
        (apply obl_det
         case hrun =>
           intro D y wz hW hD R hR
           have HRR := Lib.hid hR
           clear hR
           have HW := Lib.hid hW
           have hc2 := (cellB hW.bel).1
           clear hW hD
           go_wp2
           exact HRR.out _ HW.out
         case hnp => rfl
         case hv => first | exact ⟨_, fun _ => rfl⟩ | exact ⟨undef, fun _ => rfl⟩)
      apply obl_priv 32
      case hd => rfl
      case hp => rfl
      case hrun =>
        intro D y wz hW hD R hR
        have HRR := Lib.hid hR
        clear hR
        have h8 : D 8 = false := hD.not
        have h9 : D 9 = false := hD.post _ 9 rfl (by kernel_rfl)
        have h10 : D 10 = false := hD.post _ 10 rfl (by kernel_rfl)
        have H9 := Lib.hid h9
        have H10 := Lib.hid h10
        rw [h8, h9, h10] at hW
        have HW := Lib.hid hW
        clear hW hD h8 h9 h10
        have HCL := Lib.hid (clone_any ((List.range s.things.length).map (micV s l k)) (by simp; omega) (g k) 5 5 wz (by have := HGK.out; have := HW.out.le; omega) (fun i hi => by
          have hi' : i < s.things.length := by simpa using hi
          rw [mapr_get _ _ _ hi']
          have e1 := HCE.out i (by omega)
          have hc2 := (cellB HW.out.bel).1
          exact ⟨(hc2 _ _ HGK.out).trans e1.1, (hc2 _ _ HGK.out).trans e1.2⟩))
        simp only [List.length_map, List.length_range] at HCL
        go_wp2_with fail
        refine HCL.out.mono ?_
        rintro e w'' ⟨cv, rfl, hown, hb⟩
        have HN := Lib.hid (HW.out.cloned hb hown)
        clear hown hb HCL
        go_wp2_with fail
        refine HRR.out cv _ ?_
        show CtW wr W1 tv k us (fun i => (List.range s.things.length).map (micV s l i)) true (D 9) (D 10) (D 11) cv (y 33) (y 34) (y 4) _
        rw [H9.out, H10.out]
        exact HN.out
      apply obl_priv 33
      case hd => rfl
      case hp => rfl
      case hrun =>
        intro D y wz hW hD R hR
        have HRR := Lib.hid hR
        clear hR
        have h8 : D 8 = true := hD.pre _ 8 rfl (by kernel_rfl)
        have h9 : D 9 = false := hD.not
        have h10 : D 10 = false := hD.post _ 10 rfl (by kernel_rfl)
        have H8 := Lib.hid h8
        have H10 := Lib.hid h10
        rw [h8, h9, h10] at hW
        obtain ⟨ya1, yc1, hsl⟩ := ownsRow_slice (hW.cl rfl rfl)
        simp only [List.length_map, List.length_range] at hsl
        have HW := Lib.hid hW
        have HSL := Lib.hid hsl
        clear hW hD h8 h9 h10 hsl
        rw [HSL.out]
        go_wp2
        rw [← HSL.out]
        refine HRR.out _ _ ?_
        show CtW wr W1 tv k us (fun i => (List.range s.things.length).map (micV s l i)) (D 8) true (D 10) (D 11) (y 32) (.slice (some ⟨wz.heap.size, 0, none⟩) 1 1) (y 34) (y 4) _
        rw [H8.out, H10.out]
        exact HW.out.laid
      apply obl_priv 34
      case hd => rfl
      case hp => rfl
      case hrun =>
        intro D y wz hW hD R hR
        have HRR := Lib.hid hR
        clear hR
        have h8 : D 8 = true := hD.pre _ 8 rfl (by kernel_rfl)
        have h9 : D 9 = true := hD.pre _ 9 rfl (by kernel_rfl)
        have h10 : D 10 = false := hD.not
        have h11 : D 11 = false := hD.post _ 11 rfl (by kernel_rfl)
        have H8 := Lib.hid h8
        have H9 := Lib.hid h9
        have H11 := Lib.hid h11
        rw [h8, h9, h10] at hW
        obtain ⟨ya1, yc1, hsl⟩ := ownsRow_slice (hW.cl rfl rfl)
        obtain ⟨gb, hyb, hgc⟩ := hW.bd rfl rfl
        have ho := (hW.tab rfl).row
        have hle := hW.le
        have HW := Lib.hid hW
        have HSL := Lib.hid hsl
        clear hW hD h8 h9 h10 h11 hsl
        obtain ⟨i0, hi0, hz0, hz1, hz2⟩ := info54'
        refine wpList_append_own _ rfl _ _ 32 rfl W1 54 i0 (.slice none 0 0) 1 24 Try.underlying32 hi0 hz0 hz1 hz2 rfl (by decide) _ _ _ rfl ho ⟨gb, 0, none⟩ 1 1 [y 32] hyb rfl (cell_news _ _ _ _ hgc) (one_of _ (by rw [HSL.out]; rfl)) (by unfold maxLen; omega) (by omega) hle ?_
        intro v' w12 hown12 hgrow12 _
        have HN := Lib.hid (HW.out.got H11.out hown12 hgrow12)
        clear ho hgc hown12 hgrow12 hi0 hz0 hz1 hz2 hyb
        go_wp2
        refine HRR.out v' _ ?_
        show CtW wr W1 tv k us (fun i => (List.range s.things.length).map (micV s l i)) (D 8) (D 9) true (D 11) (y 32) (y 33) v' (y 4) _
        rw [H8.out, H9.out]
        exact HN.out
      apply obl_priv 4
      case hd => rfl
      case hp => rfl
      case hrun =>
        intro D y wz hW hD R hR
        have HRR := Lib.hid hR
        clear hR
        have h10 : D 10 = true := hD.pre _ 10 rfl (by kernel_rfl)
        have H10 := Lib.hid h10
        have HW := Lib.hid hW
        clear hW hD h10
        go_wp2
        refine HRR.out (y 34) _ ?_
        show CtW wr W1 tv k us (fun i => (List.range s.things.length).map (micV s l i)) (D 8) (D 9) (D 10) true (y 32) (y 33) (y 34) (y 34) _
        have h := HW.out
        rw [H10.out] at h ⊢
        exact h.put
      apply obl_nil
      intro D y w8 hall hW
      have h10 := hall 10 (by decide)
      have h11 := hall 11 (by decide)
      rw [h10, h11] at hW
      obtain ⟨us', hT'⟩ := hW.ap rfl
      have hy := hW.t1 rfl
      have HT8 := Lib.hid hT'
      have HB8 := Lib.hid hW.bel
      have HLE8 := Lib.hid hW.le
      clear hW hall h10 h11 hT'
      rw [hy]
      clear hy
      generalize y 34 = yv at *
      generalize y 33 = yb at *
      generalize y 32 = yc at *
      go_wp2_with fail
      refine ⟨⟨k + 1, us', _, rfl, by push_cast; rfl, by omega, HBk.out.trans HB8.out, HLE8.out, HT8.out⟩, ?_⟩
      simp [intOf]
      omega
    · obtain rfl : k = l.length := by omega
      go_wp2_with fail
      go_ret2
      refine ⟨_, rfl, ?_, HB1.out.trans (HBk.out.mono (by rw [← HWW.out]; exact HB1.out.size))⟩
      rw [HCV.out, if_neg (fun h => h rfl)]
      exact HT.out.table (by omega) (fun i _ => by simp; omega) _ (rangesV_length s l) (fun i hi => row_eq s l hi)
end Go.Proofs.Ytaigbhhmmdfdcaa
/- scent.Left. -/
namespace Go.Proofs.Ytaigbhhmmdfdcaa
open Go.RowKit
/-- Ints are handed back, with an error. -/
def RetInts (t : List Int) (E : Int) (w : World) : Ending → World → Prop := fun e w' => ∃ tv, e = .returned (.tuple #[tv, .int .i64 E]) ∧ IntsIn .i64 w'.heap.size w' tv t ∧ Below w.heap.size w w'
theorem IntsIn.nil {k : IntKind} {o : Option Addr} {c : Nat} (B : Nat) (w : World) : IntsIn k B w (.slice o 0 c) [] := ⟨o, c, rfl, by simp, .inl rfl⟩
set_option maxRecDepth 100000 in
set_option maxHeartbeats 8000000 in
theorem left_any (s : Shop) (l : List Bat) (vt vl v : Value) (w : World) (hv : ShopAt w.heap.size w vt vl s) (hl' : BatsIn w.heap.size w v l) :
    Calls Try.prog 22 #[.agg #[vt, vl], v] w (RetInts (leftV s l) (batchesE s l) w) := by
  unfold RetInts
  have HV := Lib.hid hv
  have HL := Lib.hid hl'
  obtain ⟨ta, tc, rfl, -, htl⟩ := sl_shape hv.1
  obtain ⟨la, lc, rfl, -, hll⟩ := sl_shape hv.2
  obtain ⟨va, vc, rfl, -, hvl⟩ := sl_shape hl'
  clear hv hl'
  have hb0 := (Below.refl w.heap.size w).alloc (Nat.le_refl _) (.cells #[.slice ta s.things.length tc, .slice la s.lots.length lc] 25)
  have HB0 := Lib.hid hb0
  have HMELT := Lib.hid (melt_any s l _ _ _ _ (HV.out.next hb0) (HL.out.next hb0))
  clear hb0
  unfold MeltPost at HMELT
  have HCV : Hid (leftV s l = if batchesE s l ≠ 0 then [] else (List.range l.length).map fun k => weightV (l.getD k default) - takenV l k l.length) := rfl
  have HOKB := Lib.hid (all_ok (s := s) (l := l))
  obtain ⟨E, hE⟩ : ∃ x, batchesE s l = x := ⟨_, rfl⟩
  rw [hE] at HMELT HCV ⊢
  simp only [hE] at HOKB
  clear hE
  go_enter Try.func22, Try.ntmps22
  go_wp2_with fail
  refine HMELT.out.mono ?_
  rintro e w1 ⟨hbad, hgood⟩
  by_cases hz : E = 0
  case neg =>
    have hz2 : (E != 0) = true := by simpa using hz
    have HZ := Lib.hid hz
    obtain ⟨rfl, hb1⟩ := hbad hz
    clear hz hbad hgood
    have HB1 := Lib.hid (HB0.out.trans (hb1.mono (by simp)))
    clear hb1
    go_wp2_with fail
    go_ret2
    refine ⟨_, rfl, ?_, HB1.out⟩
    rw [HCV.out, if_pos HZ.out]
    exact IntsIn.nil _ _
  subst hz
  obtain ⟨g, bo, vr, rfl, hA⟩ := hgood rfl
  have HA := Lib.hid hA
  have HOK := Lib.hid (HOKB.out rfl)
  clear hbad hgood hA HOKB HMELT
  obtain ⟨ra, rc, hvr⟩ := HA.out.shape
  subst hvr
  have hn6 := HOK.out.l6
  have hnt5 := HOK.out.sh.nt5
  have HB1 := Lib.hid (HB0.out.trans (HA.out.bel.mono (by simp)))
  have HGS : Hid (w1.cell? ⟨w.heap.size, 0, none⟩ = some (.slice ta s.things.length tc) ∧ w1.cell? ⟨w.heap.size, 1, none⟩ = some (.slice la s.lots.length lc)) :=
    ⟨(Below.cell (p := ⟨w.heap.size, 0, none⟩) HA.out.bel (by simp)).trans (cell_of_row _ _ 0 _ _ _ (heap_alloc_new w (.cells #[.slice ta s.things.length tc, .slice la s.lots.length lc] 25))), (Below.cell (p := ⟨w.heap.size, 1, none⟩) HA.out.bel (by simp)).trans (cell_of_row _ _ 1 _ _ _ (heap_alloc_new w (.cells #[.slice ta s.things.length tc, .slice la s.lots.length lc] 25)))⟩
  have hgsl : w.heap.size < w1.heap.size := by have := HA.out.le; simp at this; omega
  obtain ⟨W1, HWW⟩ : ∃ x, Hid (w1.heap.size = x) := ⟨_, rfl⟩
  have HB2 := Lib.hid (Below.refl w1.heap.size w1)
  clear hgsl
  go_wp2_with fail
  rw [HWW.out] at HB2
  go_loopw [4, 20] (fun tx iv wr => ∃ (k : Nat) (tv : Value), tv = tx ∧ iv = .int .i64 k ∧ k ≤ l.length ∧ Below W1 w1 wr ∧ W1 ≤ wr.heap.size ∧ wr.ownsRow W1 3 1 tv k ((List.range k).map (fun i => Value.int .i64 (weightV (l.getD i default) - takenV l i l.length)))) (fun _ iv _ => l.length - (intOf iv).toNat)
  case atStart => exact ⟨0, _, rfl, rfl, by omega, HB2.out, by rw [HWW.out]; exact Nat.le_refl _, World.ownsRow_nil _ _ 3 1⟩
  case round =>
    obtain ⟨k, tv, rfl, rfl, hk, hBk, hW1, hT⟩ := hrel
    have HBk := Lib.hid hBk
    have HT := Lib.hid hT
    have HW1 := Lib.hid hW1
    clear hBk hT hW1
    by_cases hkl : k < l.length
    · obtain ⟨pb, pc, he, hpc, hpb, hcell⟩ := HA.out.ptr hkl
      cases he
      rw [HWW.out] at hpb
      have hgk : g k < W1 := by rw [← HWW.out]; exact block_lt (HA.out.obj k hkl)
      have q3 := (HBk.out.cell (p := ⟨g k, 3, none⟩) hgk).trans (HA.out.wt hkl)
      have q4 := (HBk.out.cell (p := ⟨g k, 4, none⟩) hgk).trans (HA.out.tk hkl)
      have hcell := (HBk.out.cell (p := ⟨pb, k, none⟩) hpb).trans hcell
      have hki : (k : Int) < (l.length : Int) := by omega
      have hpos := HOK.out.pre.pos HOK.out.sh hn6 (Nat.le_refl _) hkl
      have htk := taken_nonneg HOK.out.pre k
      have HXS : Hid (((List.range k).map (fun i => Value.int .i64 (weightV (l.getD i default) - takenV l i l.length))) ++ [.int .i64 (weightV (l.getD k default) - takenV l k l.length)] = (List.range (k + 1)).map (fun i => Value.int .i64 (weightV (l.getD i default) - takenV l i l.length))) := by unfold Hid; rw [List.range_succ, List.map_append]; rfl
      have hwr : W1 ≤ wr.heap.size := HW1.out
      generalize hwt : weightV (l.getD k default) = wt at *
      generalize htt : takenV l k l.length = tk at *
      clear hwt htt
      obtain ⟨ta1, tc1, htv⟩ := ownsRow_slice HT.out
      have HTV := Lib.hid htv
      clear htv
      go_wp2_with fail
      refine wp_region_inv1 (by kernel_rfl) (by kernel_rfl) [34, 35, 4] (fun D y w' => AppX wr (W1) 3 1 (tv) (k) (((List.range k).map (fun i => Value.int .i64 (weightV (l.getD i default) - takenV l i l.length)))) [.int .i64 (wt - tk)] (D 10) (D 11) (y 34) (y 35) w' ∧ (D 12 = false → y 4 = tv) ∧ (D 12 = true → y 4 = y 35)) ?_ ?F1 ?hF1 ?_
      · exact ⟨AppX.start HT.out HW1.out, fun _ => rfl, fun h => (by cases h)⟩
      case hF1 =>
        intro y
        simp only [fill, List.foldl, Act.put, List.setIfInBounds_toArray, List.set]
        exact rfl
      apply obl_det
      case hrun =>
        intro D y wz hW hD R hR
        have HRR := Lib.hid hR
        clear hR
        have h15 : D 12 = false := hD.post _ 12 rfl (by kernel_rfl)
        refine wpList_mv rfl _ rfl (tv) (hW.2.1 h15) ?_
        have HW := Lib.hid hW
        clear hW hD
        go_wp2
        exact HRR.out _ HW.out
      case hnp => rfl
      case hv => first | exact ⟨_, fun _ => rfl⟩ | exact ⟨undef, fun _ => rfl⟩
      iterate 9
        (apply obl_det
         case hrun =>
           intro D y wz hW hD R hR
           have HRR := Lib.hid hR
           clear hR
           have HW := Lib.hid hW
           have hc2 := (cellB hW.1.bel).1
           clear hW hD
           go_wp2
           exact HRR.out _ HW.out
         case hnp => rfl
         case hv => first | exact ⟨_, fun _ => rfl⟩ | exact ⟨undef, fun _ => rfl⟩)
      apply obl_priv 34
      case hd => rfl
      case hp => rfl
      case hrun =>
        intro D y wz hW hD R hR
        have HRR := Lib.hid hR
        clear hR
        have h13 : D 10 = false := hD.not
        have h14 : D 11 = false := hD.post _ 11 rfl (by kernel_rfl)
        have hA := hW.1
        rw [h13, h14] at hA
        have HA := Lib.hid hA.laid
        have HV := Lib.hid hW.2
        have H14 := Lib.hid h14
        clear hA hW hD h13 h14
        go_wp2
        refine HRR.out (.slice (some ⟨wz.heap.size, 0, none⟩) 1 1) _ ?_
        show AppX wr (W1) 3 1 (tv) (k) (((List.range k).map (fun i => Value.int .i64 (weightV (l.getD i default) - takenV l i l.length)))) [.int .i64 (wt - tk)] true (D 11) (.slice (some ⟨wz.heap.size, 0, none⟩) 1 1) (y 35) _ ∧ (D 12 = false → y 4 = tv) ∧ (D 12 = true → y 4 = y 35)
        rw [H14.out]
        exact ⟨HA.out, HV.out⟩
      apply obl_priv 35
      case hd => rfl
      case hp => rfl
      case hrun =>
        intro D y wz hW hD R hR
        have HRR := Lib.hid hR
        clear hR
        have h14 : D 11 = false := hD.not
        have h13 : D 10 = true := hD.pre _ 10 rfl (by kernel_rfl)
        have h15 : D 12 = false := hD.post _ 12 rfl (by kernel_rfl)
        have hA := hW.1
        rw [h13, h14] at hA
        have HA := Lib.hid hA
        have HV := Lib.hid (hW.2.1 h15)
        have H13 := Lib.hid h13
        have H15 := Lib.hid h15
        have hbase := hA.le
        have ho := hA.row rfl
        obtain ⟨g, hyb, hgc⟩ := hA.lay rfl rfl
        clear hA hW hD h13 h14 h15
        obtain ⟨i0, hi0, hz0, hz1, hz2⟩ := info3'
        refine wpList_append_own _ rfl _ _ 36 rfl (W1) 3 i0 (.int .i64 0) 1 8 Try.underlying36 hi0 hz0 hz1 hz2 rfl (by decide) _ _ _ rfl ho ⟨g, 0, none⟩ 1 1 [.int .i64 (wt - tk)] hyb rfl (cell_news _ _ _ _ hgc) (one_int _) (by unfold maxLen; omega) (by omega) (by omega) ?_
        intro v' w12 hown12 hgrow12 _
        have HA2 := Lib.hid (HA.out.got hown12 hgrow12)
        clear ho hgc hown12 hgrow12 hi0 hz0 hz1 hz2 hyb
        go_wp2
        refine HRR.out v' _ ?_
        show AppX wr (W1) 3 1 (tv) (k) (((List.range k).map (fun i => Value.int .i64 (weightV (l.getD i default) - takenV l i l.length)))) [.int .i64 (wt - tk)] (D 10) true (y 34) v' _ ∧ (D 12 = false → y 4 = tv) ∧ (D 12 = true → y 4 = v')
        rw [H13.out]
        exact ⟨HA2.out, fun _ => HV.out, fun h => (by rw [H15.out] at h; cases h)⟩
      apply obl_priv 4
      case hd => rfl
      case hp => rfl
      case hrun =>
        intro D y wz hW hD R hR
        have HRR := Lib.hid hR
        clear hR
        have HA := Lib.hid hW.1
        clear hW hD
        go_wp2
        refine HRR.out (y 35) _ ?_
        show AppX wr (W1) 3 1 (tv) (k) (((List.range k).map (fun i => Value.int .i64 (weightV (l.getD i default) - takenV l i l.length)))) [.int .i64 (wt - tk)] (D 10) (D 11) (y 34) (y 35) _ ∧ (true = false → y 35 = tv) ∧ (true = true → y 35 = y 35)
        exact ⟨HA.out, fun h => (by cases h), fun _ => rfl⟩
      apply obl_nil
      intro D y w8 hall hW
      have h14 := hall 11 (by decide)
      have hy := hW.2.2 (hall 12 (by decide))
      have hA := hW.1
      rw [h14] at hA
      have HO8 := Lib.hid (hA.new rfl)
      have C8 := Lib.hid hA.bel
      clear hA hW hall h14
      rw [hy]
      clear hy
      generalize y 35 = yv at HO8 ⊢
      generalize y 34 = yb at ⊢
      rw [HXS.out] at HO8
      go_wp2_with fail
      refine ⟨⟨k + 1, _, rfl, by push_cast; rfl, by omega, HBk.out.trans C8.out, Nat.le_trans HW1.out C8.out.size, HO8.out⟩, ?_⟩
      simp [intOf]
      omega
    · obtain rfl : k = l.length := by omega
      go_wp2_with fail
      go_ret2
      refine ⟨_, rfl, ?_, HB1.out.trans (HBk.out.mono (by rw [← HWW.out]; exact HB1.out.size))⟩
      rw [HCV.out, if_neg (fun h => h rfl)]
      refine OwnInts.ints (base := W1) ?_ (by simp; omega)
      unfold OwnInts
      rw [List.map_map, List.length_map, List.length_range]
      exact HT.out
end Go.Proofs.Ytaigbhhmmdfdcaa
