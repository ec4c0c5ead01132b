/- The batch of melt. -/
import Derived.Test.YtaigbhhmmdfdcaaW10
import Derived.StillTailTactics
import Derived.Test.YtaigbhhmmdfdcaaP3
namespace Go.Proofs.Ytaigbhhmmdfdcaa
open Go.RowKit
theorem sum_end (l : List Int) (n : Nat) (h : l.length = n) : sumTo l n = sumL l := by subst h; rfl
/-- The batches while one more takes of them. -/
def boT (l : List Bat) (k : Nat) (bo : Nat → BO) (i : Nat) : Nat → BO := fun j => if j < i then { bo j with tk := takenV l j (k + 1) } else bo j
theorem boT_zero (l : List Bat) (k : Nat) (bo : Nat → BO) : boT l k bo 0 = bo := by funext j; simp [boT]
theorem boT_at (l : List Bat) (k : Nat) (bo : Nat → BO) (i : Nat) : boT l k bo i i = bo i := by simp [boT]
theorem boT_succ (l : List Bat) (k : Nat) (bo : Nat → BO) (i : Nat) : upm (boT l k bo i) i { bo i with tk := takenV l i (k + 1) } = boT l k bo (i + 1) := by
  funext j
  unfold upm boT
  by_cases h : j = i
  · subst h; simp
  · rw [if_neg h]
    by_cases h2 : j < i
    · rw [if_pos h2, if_pos (by omega)]
    · rw [if_neg h2, if_neg (by omega)]
theorem over_succ (l : List Bat) (k i : Nat) : overB l k (i + 1) = (overB l k i || decide (weightV (l.getD i default) < takenV l i (k + 1))) := by
  unfold overB
  rw [List.range_succ, List.any_append]
  simp
theorem info109 : (Try.prog.info? 109).map (·.size) = some 10 := by kernel_rfl
theorem BO.mid (x : BO) {w : World} {g : Nat} (h : w.heap[g]? = some (.cells x.c 111)) : ∀ (j : Nat) (v : Value), (spC x.mi)[j]? = some v → w.cell? ⟨g, 5 + j, none⟩ = some v := by
  intro j v hv
  have hj : j < 10 := by
    have := (List.getElem?_eq_some_iff.1 hv).1
    simpa [spC] using this
  rw [cell_of_row _ _ _ _ _ _ h, ← hv]
  unfold BO.c
  rw [List.getElem?_toArray, List.getElem?_append_right (by simp), List.getElem?_append_left (by simp [spC]; omega)]
  simp
set_option maxRecDepth 100000 in
theorem run_index_sp (m : Nat → Int × Int) (t : Nat) (ht : t < 5) (w : World) : (Instr.index 109 (.agg (spC m).toArray) (.int .i64 (t : Int))).run Try.prog w = .ok (.agg #[.int .i64 (m t).1, .int .i64 (m t).2]) w := by
  have hu := Try.underlying109
  have hu2 := Try.underlying51
  have hs : ∀ w, (Go.sizeOf 51).run Try.prog w = .ok 2 w := by
    intro w
    cases hq : Try.prog.info? 51 with
    | none => have := info51; simp [hq] at this
    | some i => have := info51; simp [hq] at this; simp [Go.sizeOf, typeInfo, hq, this]
  unfold Instr.index
  simp only [asIntOf, Sem.run_bind, Sem.run_pure, Result.andThen_ok, run_underlying hu]
  rw [if_pos ⟨by omega, by omega⟩]
  simp only [Sem.run_bind, hs, Result.andThen_ok, Int.toNat_natCast]
  have hagg : (isAgg 51).run Try.prog w = .ok true w := by
    unfold isAgg; rw [Sem.run_bind, run_underlying hu2 w]; simp
  unfold part
  simp only [Sem.run_bind, hagg, Result.andThen_ok, if_true, hs]
  rcases lt5 ht with rfl | rfl | rfl | rfl | rfl <;> simp [spC]
/-- The parts that are reckoned. -/
def paTo (w : Int) (m : Nat → Int × Int) (c : Nat) : Nat → Int × Int := fun u => if u < c then partsV w (m u) else (0, 0)
theorem paTo_zero (w : Int) (m : Nat → Int × Int) : paTo w m 0 = fun _ => (0, 0) := by funext u; simp [paTo]
theorem paTo_succ (w : Int) (m : Nat → Int × Int) (t : Nat) (q : Int × Int) (h : q = partsV w (m t)) : upm (paTo w m t) t q = paTo w m (t + 1) := by
  subst h
  funext u
  unfold upm paTo
  by_cases h : u = t
  · subst h; simp
  · rw [if_neg h]
    by_cases h2 : u < t
    · rw [if_pos h2, if_pos (by omega)]
    · rw [if_neg h2, if_neg (by omega)]
theorem partsV_zero {w : Int} (hw : 0 < w) : partsV w (0, 0) = (0, 0) := by
  unfold partsV
  have h1 : (0 : Int) / w = 0 := Int.zero_ediv _
  have h2 : (0 + w - 1) / w = 0 := Int.ediv_eq_zero_of_lt (by omega) (by omega)
  simp only [h1, h2]
  rfl
theorem paTo_all (s : Shop) (l : List Bat) {k : Nat} (hk : k < l.length) (h5 : s.things.length ≤ 5) {w : Int} (hw : 0 < w) (he : weightV (l.getD k default) = w) : paTo w (micV s l k) 5 = parV s l k := by
  funext u
  unfold paTo parV
  rw [he]
  by_cases h : u < 5
  · rw [if_pos h]
  · rw [if_neg h, micV_eq s l hk, if_neg (by omega), partsV_zero hw]
theorem part_lo {lo hi w : Int} (h0 : 0 ≤ lo) (h1 : lo ≤ 2000000000000) (hw : 0 < w) : (if IntKind.i64.wrap (lo.tdiv w) < 1000000 then IntKind.i64.wrap (lo.tdiv w) else 1000000) = (partsV w (lo, hi)).1 := by
  have e : lo.tdiv w = lo / w := Int.tdiv_eq_ediv_of_nonneg h0
  have h2 : 0 ≤ lo / w := Int.ediv_nonneg h0 (by omega)
  have h3 : lo / w ≤ lo := Int.ediv_le_self _ h0
  rw [e, wrap_in (by omega) (by omega)]
  unfold partsV
  simp only
  split <;> omega
theorem part_hi {lo hi w : Int} (h0 : 0 ≤ hi) (h1 : hi ≤ 2000000000000) (hw : 0 < w) (hw2 : w ≤ 1200000) : (if IntKind.i64.wrap ((IntKind.i64.wrap (IntKind.i64.wrap (hi + w) - 1)).tdiv w) < 1000000 then IntKind.i64.wrap ((IntKind.i64.wrap (IntKind.i64.wrap (hi + w) - 1)).tdiv w) else 1000000) = (partsV w (lo, hi)).2 := by
  rw [wrap_in (a := hi + w) (by omega) (by omega), wrap_in (a := hi + w - 1) (by omega) (by omega)]
  have e : (hi + w - 1).tdiv w = (hi + w - 1) / w := Int.tdiv_eq_ediv_of_nonneg (by omega)
  have h2 : 0 ≤ (hi + w - 1) / w := Int.ediv_nonneg (by omega) (by omega)
  have h3 : (hi + w - 1) / w ≤ (hi + w - 1) := Int.ediv_le_self _ (by omega)
  rw [e, wrap_in (by omega) (by omega)]
  unfold partsV
  simp only
  split <;> omega
section
variable {P : Program} {ops : Array Oper} {rest : List Oper} {o : Oper} {a : Act} {w : World} {Q : Exit → Act → World → Prop}
/-- The parts of a thing are stored. -/
theorem wpList_part (hgd : o.guard = none) (ty : TypeId) (x y : Operand) (ho : o.op = .store ty x y) (X : BO) (g t : Nat) (ht : t < 5) (hg : w.heap[g]? = some (.cells X.c 111)) (hx : a.eval x = .pointer (some ⟨g, 15 + t * 2, none⟩)) (p q : Int)
    (hy : a.eval y = .agg #[.int .i64 p, .int .i64 q]) (hi : (P.info? ty).map (·.size) = some 2)
    (h : ∀ w', w'.heap[g]? = some (.cells ({ X with pa := upm X.pa t (p, q) } : BO).c 111) → But g w w' → wpList P ops Q rest (a.put o.dst undef) w') : wpList P ops Q (o :: rest) a w := by
  have hg' : w.heap[g]? = some (.cells ((X.c.toList.take (15 + t * 2)) ++ (X.c.toList.drop (15 + t * 2))).toArray 111) := by rw [List.take_append_drop]; simpa using hg
  have hs : X.c.toList.length = 25 := by simp [BO.size]
  refine wpList_mid_but hgd ty x y ho g (15 + t * 2) #[.int .i64 p, .int .i64 q] _ _ 111 hg' (by rw [List.length_take, hs]; omega) hx hy hi (by rw [List.length_drop, hs]; simp; omega) (by simp [Value.oneCell']) ?_
  intro w' hw hb
  refine h w' ?_ hb
  rw [hw]
  rcases lt5 ht with rfl | rfl | rfl | rfl | rfl <;> rfl
end
theorem cell_news (w : World) (g : Nat) (news : List Value) (t : TypeId) (h : w.heap[g]? = some (.cells news.toArray t)) : ∀ j u, news[j]? = some u → w.cell? ((⟨g, 0, none⟩ : Addr).add j) = some u := by
  intro j u hj
  have := cell_of_row w g j _ _ _ h
  rw [add_flat0]
  rw [Nat.zero_add, this]
  simpa using hj
where add_flat0 {g j : Nat} : ((⟨g, 0, none⟩ : Addr).add j) = ⟨g, 0 + j, none⟩ := by unfold Addr.add; split <;> simp_all
theorem one_of (x : Value) (h : x.oneCell' = true) : ∀ u ∈ [x], u.oneCell' = true := fun u hu => by simp at hu; subst hu; exact h
theorem info106' : ∃ i, Try.prog.info? 106 = some i ∧ i.zero = some (.pointer none) ∧ i.size = 1 ∧ i.bytes = 8 := by
  have h : (Try.prog.info? 106).map (fun i => (i.zero, i.size, i.bytes)) = some (some (.pointer none), 1, 8) := by kernel_rfl
  cases hq : Try.prog.info? 106 with
  | none => simp [hq] at h
  | some i =>
    simp only [hq, Option.map_some, Option.some.injEq, Prod.mk.injEq] at h
    exact ⟨i, rfl, h.1, h.2.1, h.2.2⟩
theorem info103 : (Try.prog.info? 103).map (·.size) = some 1 := by kernel_rfl
theorem boT_ok {B : Nat} {w : World} {s : Shop} {l : List Bat} {k : Nat} {bo : Nat → BO} {nb : Nat} (hnb : (l.getD k default).back.length = nb) {i : Nat} (h : BoOk B w s l k i (bo i)) : BoOk B w s l (k + 1) i (boT l k bo nb i) := by
  obtain ⟨h1, h2, h3, h4, h5⟩ := h
  unfold boT
  by_cases hi : i < nb
  · rw [if_pos hi]
    exact ⟨h1, rfl, h3, h4, h5⟩
  · rw [if_neg hi]
    refine ⟨h1, ?_, h3, h4, h5⟩
    have e : takenV l i (k + 1) = takenV l i k + (l.getD k default).back.getD i 0 := rfl
    rw [h2, e, back_none (by omega), Int.add_zero]
theorem taken_self {s : Shop} {l : List Bat} {k : Nat} (hp : Prefix s l (k + 1)) : takenV l k (k + 1) = 0 :=
  dot_zero fun j hj => back_none (by have := (bat_ok0 (batchE_zero (hp j hj)).1).blen; omega)
theorem But.setCell (g j : Nat) (w : World) (v : Value) : But g w (w.setCell ⟨g, j, none⟩ v) := ⟨rfl, rfl, rfl, by simp, fun k _ hk => heap_setCell_other _ _ _ _ hk⟩
theorem ints_at {k : IntKind} {B : Nat} {w : World} {a : Option Addr} {n c : Nat} {l : List Int} (h : IntsIn k B w (.slice a n c) l) {i : Nat} (hi : i < l.length) : ∃ b o, a = some ⟨b, o, none⟩ ∧ b < B ∧ w.cell? ⟨b, o + i, none⟩ = some (.int k (l.getD i 0)) := by
  obtain ⟨a', c', e, hl, h⟩ := h
  cases e
  rcases h with rfl | ⟨b, o, rfl, hb, h⟩
  · simp at hi
  · exact ⟨b, o, rfl, hb, h i hi⟩
set_option maxRecDepth 100000 in
set_option maxHeartbeats 40000000 in
theorem next_any (B : Nat) (w w0 : World) (s : Shop) (hs : ShopOk s) (l : List Bat) (hl : l.length ≤ 6) (k : Nat) (hk : k < l.length) (hp : Prefix s l k) (g : Nat → Nat) (bo : Nat → BO) (gs ga : Nat) (vt vl va vg vb vd : Value) (hv : ShopAt B w vt vl s) (hM : MS B w k g bo gs ga vt vl va w0)
    (hbo : ∀ i, i < k → BoOk B w s l k i (bo i)) (hx : BatAt B w vg vb vd (l.getD k default))
    (h1 : (l.getD k default).grams.length = s.lots.length) (h2 : (l.getD k default).back.length ≤ k) (h3 : (l.getD k default).added.length = s.things.length) :
    Calls Try.prog 95 #[.int .i64 k, .agg #[vg, vb, vd], .pointer (some ⟨gs, 0, none⟩), .pointer (some ⟨ga, 0, none⟩)] w0 (NextPost B w s l k gs ga vt vl) := by
  have HV := Lib.hid hv
  have HX := Lib.hid hx
  have HM := Lib.hid hM
  have HBO := Lib.hid hbo
  have HP := Lib.hid hp
  have HS := Lib.hid hs
  obtain ⟨sa, sc, rfl, hntc, hnt⟩ := sl_shape hv.1
  obtain ⟨ka, kc, rfl, hnlc, hnl⟩ := sl_shape hv.2
  obtain ⟨a1, c1, rfl, hn1⟩ := ints_shape hx.1
  obtain ⟨a2, c2, rfl, hn2⟩ := ints_shape hx.2.1
  obtain ⟨a3, c3, rfl, hn3c, hn3⟩ := sl_shape hx.2.2
  rw [h1] at HX hn1 ⊢
  rw [h3] at HX hn3c hn3 ⊢
  have HH1 := Lib.hid h1
  have HH2 := Lib.hid h2
  have HH3 := Lib.hid h3
  have hE0 : batchE0 s l k = if outB 0 100000 (l.getD k default).grams || outB 0 100000 (l.getD k default).back then 7 else spansE 10000000 (l.getD k default).added := by
    unfold batchE0
    rw [if_neg (by rw [h1, h3]; omega)]
  obtain ⟨nb, hnb⟩ : ∃ n, (l.getD k default).back.length = n := ⟨_, rfl⟩
  have HNB := Lib.hid hnb
  rw [hnb] at HX h2 hn2 ⊢
  have hnt5 := hs.nt5
  have hnl6 := hs.nl6
  clear hv hx hM hbo hp hs h1 h3 hnb
  obtain ⟨r1, hr1⟩ : ∃ r, outB 0 100000 (l.getD k default).grams = r := ⟨_, rfl⟩
  obtain ⟨r2, hr2⟩ : ∃ r, outB 0 100000 (l.getD k default).back = r := ⟨_, rfl⟩
  obtain ⟨e1, he1⟩ : ∃ r, spansE 10000000 (l.getD k default).added = r := ⟨_, rfl⟩
  rw [hr1, hr2, he1] at hE0
  have HE0 := Lib.hid hE0
  have HR1 := Lib.hid hr1
  have HR2 := Lib.hid hr2
  have HE1 := Lib.hid he1
  have HE : Hid (batchE s l k = if batchE0 s l k ≠ 0 then batchE0 s l k else if weightV (l.getD k default) = 0 then 8 else if overB l k k then 9 else 0) := rfl
  clear hE0 hr1 hr2 he1
  obtain ⟨nt, HNT⟩ : ∃ n, Hid (s.things.length = n) := ⟨_, rfl⟩
  obtain ⟨nl, HNL⟩ : ∃ n, Hid (s.lots.length = n) := ⟨_, rfl⟩
  rw [HNT.out] at HV HX HM hntc hnt hnt5 hn3c hn3 HH3 ⊢
  rw [HNL.out] at HV HX HM hnlc hnl hnl6 hn1 HH1 ⊢
  have HM1 := Lib.hid (HM.out.alloc (.cells #[.slice a1 nl c1, .slice a2 nb c2, .slice a3 nt c3] 75))
  have HG1 : Hid (((w0.alloc (.cells #[.slice a1 nl c1, .slice a2 nb c2, .slice a3 nt c3] 75)).alloc (.cells (bo0 (.slice a1 nl c1) (.slice a2 nb c2) (.slice a3 nt c3)).c 111)).heap[w0.heap.size + 1]? = some (.cells (bo0 (.slice a1 nl c1) (.slice a2 nb c2) (.slice a3 nt c3)).c 111)) := by
    have := heap_alloc_new (w0.alloc (.cells #[.slice a1 nl c1, .slice a2 nb c2, .slice a3 nt c3] 75)) (.cells (bo0 (.slice a1 nl c1) (.slice a2 nb c2) (.slice a3 nt c3)).c 111)
    rwa [World.size_alloc] at this
  have HM2 := Lib.hid (HM1.out.alloc (.cells (bo0 (.slice a1 nl c1) (.slice a2 nb c2) (.slice a3 nt c3)).c 111))
  have HLT : Hid (∀ i, i < k → g i ≠ w0.heap.size + 1) := fun i hi => by have := HM.out.lt hi; omega
  have HBL : Hid (B ≤ w0.heap.size + 1) := by have := HM.out.le; unfold Hid; omega
  have hgs := block_lt HM.out.sh
  have c0 := cell_of_row _ _ 0 _ _ _ HM.out.sh
  have c1' := cell_of_row _ _ 1 _ _ _ HM.out.sh
  have hq1 : ((nl : Int) != (nl : Int)) = false := by simp
  have hq2 : decide (k < nb) = false := decide_eq_false (by omega)
  have hq3 : ((nt : Int) != (nt : Int)) = false := by simp
  go_enter Try.func95, Try.ntmps95
  go_wp2_with fail
  go_quiet (fail)
  revert nq
  intro nq1
  simp only [Exit.then]
  have HG2 := Lib.hid (block_keep HG1.out (below_drewN (Below.refl _ _) nq1))
  have HM3 := Lib.hid (HM2.out.drew nq1)
  clear c0 c1' hq1 hq2 hq3 HM1 HM2 HG1
  go_wp2_with fail
  refine (ranges_any (l.getD k default).added 10000000 _ _ ((HX.out.2.2.below HM3.out.bel).mono HM3.out.le)).mono ?_
  rintro e w1 ⟨rfl, hb1⟩
  rw [HE1.out]
  have HM4 := Lib.hid (HM3.out.call hb1)
  have HG4 := Lib.hid (block_keep HG2.out hb1)
  clear hb1 HM3 HG2
  generalize w0.heap.size + 1 = gb at *
  have d0 : w1.cell? ⟨gb, 0, none⟩ = some (.slice a1 nl c1) := cell_of_row _ _ 0 _ _ _ HG4.out
  go_wp2_with fail
  refine (out_r r1 0 100000 _ HR1.out _ _ B ((HX.out.1.below HM4.out.bel)) HM4.out.le).mono ?_
  rintro e w2 ⟨rfl, hb1⟩
  have HM5 := Lib.hid (HM4.out.call hb1)
  have HG5 := Lib.hid (block_keep HG4.out hb1)
  clear hb1 HM4 HG4 d0
  cases r1
  case true =>
    have HEE : Hid (batchE s l k = 7) := by unfold Hid; rw [HE.out, HE0.out]; simp
    go_wp2_with fail
    go_ret
    exact ⟨ret_int HEE.out.symm, HM5.out.bel, ⟨_, HM5.out.al⟩, fun h => (by rw [HEE.out] at h; simp at h)⟩
  have d1 : w2.cell? ⟨gb, 1, none⟩ = some (.slice a2 nb c2) := cell_of_row _ _ 1 _ _ _ HG5.out
  go_wp2_with fail
  refine (out_r r2 0 100000 _ HR2.out _ _ B ((HX.out.2.1.below HM5.out.bel)) HM5.out.le).mono ?_
  rintro e w3 ⟨rfl, hb1⟩
  have HM6 := Lib.hid (HM5.out.call hb1)
  have HG6 := Lib.hid (block_keep HG5.out hb1)
  clear hb1 HM5 HG5 d1
  cases r2
  case true =>
    have HEE : Hid (batchE s l k = 7) := by unfold Hid; rw [HE.out, HE0.out]; simp
    go_wp2_with fail
    go_ret
    exact ⟨ret_int HEE.out.symm, HM6.out.bel, ⟨_, HM6.out.al⟩, fun h => (by rw [HEE.out] at h; simp at h)⟩
  by_cases hz : e1 = 0
  case neg =>
    have HEE : Hid (batchE s l k = e1) := by unfold Hid; rw [HE.out, HE0.out]; simp [hz]
    have hz2 : (e1 != 0) = true := by simpa using hz
    have HZ := Lib.hid hz
    clear hz
    go_wp2_with fail
    go_ret
    exact ⟨ret_int HEE.out.symm, HM6.out.bel, ⟨_, HM6.out.al⟩, fun h => (by rw [HEE.out] at h; exact absurd h HZ.out)⟩
  subst hz
  have hB0 : batchE0 s l k = 0 := by rw [HE0.out]; simp
  have HB := Lib.hid (bat_ok0 hB0)
  have HE' : Hid (batchE s l k = if weightV (l.getD k default) = 0 then 8 else if overB l k k then 9 else 0) := by unfold Hid; rw [HE.out, hB0]; simp
  clear HE HE0 hB0 HR1 HR2 HE1
  have d2 : w3.cell? ⟨gb, 2, none⟩ = some (.slice a3 nt c3) := cell_of_row _ _ 2 _ _ _ HG6.out
  go_wp2_with fail
  refine (pour_any _ gb (l.getD k default).added 1000 _ w3 HG6.out (by rw [HH3.out]; exact hnt5) (ok_start HB.out) ((HX.out.2.2.below HM6.out.bel).but HBL.out HM6.out.le)).mono ?_
  rintro e w4 ⟨⟨v4, rfl⟩, hg4, hb4⟩
  have HM7 := Lib.hid (HM6.out.but hb4 HBL.out HG6.out HLT.out)
  have HG7 : Hid (w4.heap[gb]? = some (.cells ({ bo0 (.slice a1 nl c1) (.slice a2 nb c2) (.slice a3 nt c3) with mi := midA s l k 0 } : BO).c 111)) := by
    have := hg4
    have ps := pour_start s l k
    rw [HNT.out] at ps
    rw [HH3.out] at this
    rw [← ps]
    exact this
  clear hg4 hb4 HM6 HG6 d2
  have d0 : w4.cell? ⟨gb, 0, none⟩ = some (.slice a1 nl c1) := cell_of_row _ _ 0 _ _ _ HG7.out
  go_wp2_with fail
  clear d0
  have HA0 : Hid (w4.heap[gb]? = some (.cells (⟨.slice a1 nl c1, .slice a2 nb c2, .slice a3 nt c3, sumTo (l.getD k default).grams 0, 0, midA s l k 0, fun _ => (0, 0)⟩ : BO).c 111)) := HG7.out
  clear HG7
  go_loopw [87] (fun iv wr => ∃ i : Nat, iv = .int .i64 i ∧ i ≤ nl ∧ MS B w k g bo gs ga (.slice sa nt sc) (.slice ka nl kc) va wr ∧
    wr.heap[gb]? = some (.cells (⟨.slice a1 nl c1, .slice a2 nb c2, .slice a3 nt c3, sumTo (l.getD k default).grams i, 0, midA s l k i, fun _ => (0, 0)⟩ : BO).c 111)) (fun iv _ => nl - (intOf iv).toNat)
  case atStart => exact ⟨0, rfl, by omega, HM7.out, HA0.out⟩
  case round =>
    obtain ⟨i, rfl, hi, hMi, hGi⟩ := hrel
    have HMi := Lib.hid hMi
    have HGi := Lib.hid hGi
    clear hMi hGi
    by_cases hlt : i < nl
    · obtain ⟨b1, o1, rfl, hbb1, hc1⟩ := ints_at HX.out.1 (show i < (l.getD k default).grams.length by rw [HH1.out]; exact hlt)
      obtain ⟨b2, o2, rfl, hbb2, -, -, u, hc2, hu⟩ := HV.out.2.at' (show i < s.lots.length by rw [HNL.out]; exact hlt)
      have hc1 := (HMi.out.bel.cell (p := ⟨b1, _, none⟩) hbb1).trans hc1
      have hc2 := (HMi.out.bel.cell (p := ⟨b2, _, none⟩) hbb2).trans hc2
      simp only [rdLot] at hc2
      have HU := Lib.hid hu
      have hwt := sumTo_bound HB.out.gram i
      have hgr := HB.out.gram i
      have HSUM : Hid (sumTo (l.getD k default).grams (i + 1) = sumTo (l.getD k default).grams i + (l.getD k default).grams.getD i 0) := rfl
      have d3 : wr.cell? ⟨gb, 3, none⟩ = some (.int .i64 (sumTo (l.getD k default).grams i)) := cell_of_row _ _ 3 _ _ _ HGi.out
      have HOK := Lib.hid (ok_lot HS.out hl HP.out hk HB.out (show i < s.lots.length by rw [HNL.out]; exact hlt))
      have HPL := Lib.hid (pour_lot s l k i)
      clear hu
      generalize (l.getD k default).grams.getD i 0 = n at *
      generalize sumTo (l.getD k default).grams i = wt at *
      have g1 := cell_of_row _ _ 1 _ _ _ HMi.out.sh
      have hne : gs ≠ gb := by
        rintro rfl
        have h1 := HMi.out.sh
        rw [HGi.out] at h1
        cases h1
      have hblt := HBL.out
      have f3 := frozen_of_row wr gb 3 _ _ HGi.out
      have hb2 : b2 ≠ gb := by omega
      have hb1 : b1 ≠ gb := by omega
      have HM8 := Lib.hid (HMi.out.but (But.setCell gb 3 wr (.int .i64 (wt + n))) HBL.out HGi.out HLT.out)
      have HG8 := Lib.hid (heap_setCell_same wr gb 3 _ _ (.int .i64 (wt + n)) HGi.out)
      rw [BO.set_wt] at HG8
      go_wp2_with fail
      refine (pour_any _ gb (s.lots.getD i default).parts n _ _ HG8.out (by rw [HS.out.plen i (by rw [HNL.out]; exact hlt), HNT.out]; exact hnt5) HOK.out ((HU.out.below HM8.out.bel).but HBL.out HM8.out.le)).mono ?_
      rintro e w5 ⟨⟨v5, rfl⟩, hg5, hb5⟩
      have HM9 := Lib.hid (HM8.out.but hb5 HBL.out HG8.out HLT.out)
      rw [HS.out.plen i (by rw [HNL.out]; exact hlt), HPL.out] at hg5
      have HG9 := Lib.hid hg5
      clear hg5 hb5 HM8 HG8 hc1 hc2 d3 g1 hne hblt hb1 hb2 f3
      go_wp2_with fail
      refine ⟨⟨i + 1, by push_cast; rfl, by omega, HM9.out, by rw [HSUM.out]; exact HG9.out⟩, ?_⟩
      simp [intOf]
      omega
    · obtain rfl : nl = i := by omega
      have d1 : wr.cell? ⟨gb, 1, none⟩ = some (.slice a2 nb c2) := cell_of_row _ _ 1 _ _ _ HGi.out
      go_wp2_with fail
      clear d1
      have HC0 : Hid (MS B w k g (boT l k bo 0) gs ga (.slice sa nt sc) (.slice ka nl kc) va wr) := by rw [boT_zero]; exact HMi.out
      have HB0 : Hid (wr.heap[gb]? = some (.cells (⟨.slice a1 nl c1, .slice a2 nb c2, .slice a3 nt c3, sumTo (l.getD k default).grams nl + sumTo (l.getD k default).back 0, 0, midB s l k 0, fun _ => (0, 0)⟩ : BO).c 111)) := by
        unfold Hid
        rw [midB_zero, HNL.out, show sumTo (l.getD k default).back 0 = 0 from rfl, Int.add_zero]
        exact HGi.out
      clear HMi HGi HM7 HA0
      go_loopw [11, 116] (fun ov iv wr => ∃ i : Nat, iv = .int .i64 i ∧ i ≤ nb ∧ ov = .bool (overB l k i) ∧ MS B w k g (boT l k bo i) gs ga (.slice sa nt sc) (.slice ka nl kc) va wr ∧
        wr.heap[gb]? = some (.cells (⟨.slice a1 nl c1, .slice a2 nb c2, .slice a3 nt c3, sumTo (l.getD k default).grams nl + sumTo (l.getD k default).back i, 0, midB s l k i, fun _ => (0, 0)⟩ : BO).c 111)) (fun _ iv _ => nb - (intOf iv).toNat)
      case atStart => exact ⟨0, rfl, by omega, rfl, HC0.out, HB0.out⟩
      case round =>
        obtain ⟨i, rfl, hi, rfl, hMi, hGi⟩ := hrel
        have HMi := Lib.hid hMi
        have HGi := Lib.hid hGi
        clear hMi hGi HC0 HB0
        by_cases hlt : i < nb
        · have hik : i < k := by omega
          obtain ⟨b1, o1, rfl, hbb1, hc1⟩ := ints_at HX.out.2.1 (show i < (l.getD k default).back.length by rw [HNB.out]; exact hlt)
          have hc1 := (HMi.out.bel.cell (p := ⟨b1, _, none⟩) hbb1).trans hc1
          have hwt := sumTo_bound HB.out.gram nl
          have hwb := sumTo_bound HB.out.back i
          have hgr := HB.out.back i
          have HSUM : Hid (sumTo (l.getD k default).back (i + 1) = sumTo (l.getD k default).back i + (l.getD k default).back.getD i 0) := rfl
          have HTK : Hid (takenV l i (k + 1) = takenV l i k + (l.getD k default).back.getD i 0) := rfl
          have htk := taken_nonneg HP.out i
          have hpos := HP.out.pos HS.out hl (by omega) hik
          have d3 : wr.cell? ⟨gb, 3, none⟩ = some (.int .i64 (sumTo (l.getD k default).grams nl + sumTo (l.getD k default).back i)) := cell_of_row _ _ 3 _ _ _ HGi.out
          have HOK := Lib.hid (ok_back HS.out hl HP.out hk HB.out (show i < (l.getD k default).back.length by rw [HNB.out]; exact hlt))
          have HPL := Lib.hid (pour_back s l (k := k) (by omega) hik)
          rw [HNT.out] at HOK HPL
          generalize (l.getD k default).back.getD i 0 = n at *
          generalize sumTo (l.getD k default).back i = wb at *
          generalize sumTo (l.getD k default).grams nl = wg at *
          go_wp2_with (refine wpList_cell_but rfl 3 _ _ rfl gb 3 _ 111 HGi.out rfl (.int .i64 (wg + wb + n)) rfl (by rw [BO.size]; decide) rfl info3 ?_; intro w5 hg5 hb5)
          rw [BO.set_wt] at hg5
          have HM8 := Lib.hid (HMi.out.but hb5 HBL.out HGi.out HLT.out)
          have HG8 := Lib.hid hg5
          clear hg5 hb5 hc1 d3
          obtain ⟨pb, pc, hva, hpc, hpb, hcell⟩ := HM8.out.ptr hik
          subst hva
          have q1 := cell_of_row _ _ 0 _ _ _ HM8.out.al
          have q3 := cell_of_row _ _ 0 _ _ _ HM8.out.sh
          have hik2 : (i : Int) < (k : Int) := by omega
          have hnt2 : (nt : Int) ≤ 5 := by omega
          go_still_tail 12, (by kernel_rfl)
          change wpList _ _ _ _ _ (w5.drewN 1)
          go_wp2_with fail
          have HM9 := Lib.hid (HM8.out.drew 1)
          have HG9 := Lib.hid (block_keep HG8.out (below_drewN (Below.refl _ _) 1))
          have HSP := Lib.hid (HM9.out.parts hik (HLT.out i hik) hnt5 (c := 5))
          rw [boT_at, (HBO.out i hik).2.2.2.1] at HSP
          clear HM8 HG8 q1 q3 hcell hpb
          refine (pour_any _ gb ((List.range nt).map (parV s l i)) n _ _ HG9.out (by simpa using hnt5) HOK.out HSP.out).mono ?_
          rintro e w6 ⟨⟨v6, rfl⟩, hg6, hb6⟩
          have HM10 := Lib.hid (HM9.out.but hb6 HBL.out HG9.out HLT.out)
          simp only [List.length_map, List.length_range] at hg6
          rw [HPL.out] at hg6
          have HG10 := Lib.hid hg6
          clear hg6 hb6 HM9 HG9 HSP
          obtain ⟨pb', pc', he, -, hpb, hcell⟩ := HM10.out.ptr hik
          cases he
          have q1 := cell_of_row _ _ 0 _ _ _ HM10.out.al
          have hobj := HM10.out.obj i hik
          rw [boT_at] at hobj
          have HOBJ := Lib.hid hobj
          clear hobj
          have q4 : w6.cell? ⟨g i, 4, none⟩ = some (.int .i64 (takenV l i k)) := by
            rw [cell_of_row _ _ 4 _ _ _ HOBJ.out, ← (HBO.out i hik).2.1]
            rfl
          have HGB : Hid (g i ≠ gb) := HLT.out i hik
          go_wp2_with (refine wpList_cell_but rfl 3 _ _ rfl (g i) 4 _ 111 HOBJ.out rfl (.int .i64 (takenV l i k + n)) rfl (by rw [BO.size]; decide) rfl info3 ?_; intro w7 hg7 hb7)
          rw [BO.set_tk, ← HTK.out] at hg7
          have hM11 := HM10.out.turn hik hb7 hg7
          rw [boT_succ] at hM11
          have HM11 := Lib.hid hM11
          have HG11 := Lib.hid ((hb7.block gb (block_lt HG10.out) (fun e => HGB.out e.symm)).trans HG10.out)
          clear hg7 hb7 HM10 HG10 q1 hcell hpb q4 HOBJ hM11
          obtain ⟨pb', pc', he, -, hpb, hcell⟩ := HM11.out.ptr hik
          cases he
          have q1 := cell_of_row _ _ 0 _ _ _ HM11.out.al
          have hobj := HM11.out.obj i hik
          have e0 : boT l k bo (i + 1) i = { bo i with tk := takenV l i (k + 1) } := by simp [boT]
          rw [e0] at hobj
          have HOBJ := Lib.hid hobj
          clear hobj e0
          have q4 : w7.cell? ⟨g i, 4, none⟩ = some (.int .i64 (takenV l i (k + 1))) := by
            rw [cell_of_row _ _ 4 _ _ _ HOBJ.out]
            rfl
          have q5 : w7.cell? ⟨g i, 3, none⟩ = some (.int .i64 (weightV (l.getD i default))) := by
            rw [cell_of_row _ _ 3 _ _ _ HOBJ.out, ← (HBO.out i hik).1]
            rfl
          have HOV := Lib.hid (over_succ l k i)
          generalize takenV l i (k + 1) = tk at *
          generalize weightV (l.getD i default) = wi at *
          generalize overB l k i = ob at *
          simp only [Act.put]
          cases ob
          all_goals
            go_quiet (fail)
            revert nq
            intro nq2
            simp only [Exit.inBlock, Exit.then]
            clear q1 q4 q5 hcell hpb
            go_wp2_with fail
            refine ⟨⟨i + 1, by push_cast; rfl, by omega, by rw [HOV.out]; simp, HM11.out.drew _, by rw [HSUM.out, ← Int.add_assoc]; exact block_keep HG11.out (below_drewN (Below.refl _ _) _)⟩, ?_⟩
            simp [intOf]
            omega
        · obtain rfl : nb = i := by omega
          have HWT : Hid (sumTo (l.getD k default).grams nl + sumTo (l.getD k default).back nb = weightV (l.getD k default)) := by
            unfold Hid
            rw [sum_end _ _ HH1.out, sum_end _ _ HNB.out]
            rfl
          have hwb := weight_bound HS.out (show k ≤ 6 by omega) HB.out
          rw [HWT.out] at HGi
          have hov := over_all HS.out hl HP.out hk HB.out
          rw [HNB.out] at hov
          rw [hov]
          have hmid := midB_end s l hk
          rw [HNB.out] at hmid
          rw [hmid] at HGi
          have d3 : wr.cell? ⟨gb, 3, none⟩ = some (.int .i64 (weightV (l.getD k default))) := cell_of_row _ _ 3 _ _ _ HGi.out
          clear hov hmid HWT
          obtain ⟨wk, hwk⟩ : ∃ x, weightV (l.getD k default) = x := ⟨_, rfl⟩
          have HWK := Lib.hid hwk
          rw [hwk] at HGi d3 hwb
          have HE2 := HE'.out
          rw [hwk] at HE2
          have HEE := Lib.hid HE2
          clear HE2 HE' hwk
          obtain ⟨ob, hob⟩ : ∃ x, overB l k k = x := ⟨_, rfl⟩
          have HEF := HEE.out
          rw [hob] at HEF ⊢
          have HEG := Lib.hid HEF
          have HOB := Lib.hid hob
          clear HEF HEE hob
          by_cases hz : wk = 0
          case pos =>
            subst hz
            have HR : Hid (batchE s l k = 8) := by unfold Hid; rw [HEG.out]; simp
            go_wp2_with fail
            go_ret
            exact ⟨ret_int HR.out.symm, HMi.out.bel, ⟨_, HMi.out.al⟩, fun h => (by rw [HR.out] at h; simp at h)⟩
          have hz2 : (wk == 0) = false := by simpa using hz
          have HZ := Lib.hid hz
          clear hz
          cases ob
          case true =>
            have HR : Hid (batchE s l k = 9) := by unfold Hid; rw [HEG.out]; simp [HZ.out]
            go_wp2_with fail
            go_ret
            exact ⟨ret_int HR.out.symm, HMi.out.bel, ⟨_, HMi.out.al⟩, fun h => (by rw [HR.out] at h; simp at h)⟩
          have HR : Hid (batchE s l k = 0) := by unfold Hid; rw [HEG.out]; simp [HZ.out]
          have HPK : Hid (Prefix s l (k + 1)) := fun j hj => by
            by_cases hjk : j = k
            · subst hjk; exact HR.out
            · exact HP.out j (by omega)
          have hmic := mic_ok HS.out hl HPK.out hk
          have HMC := Lib.hid hmic
          clear hmic
          have HCEL := Lib.hid (BO.mid _ HGi.out)
          go_wp2_with (refine wpList_load_mid rfl 109 _ rfl gb 5 rfl (spC (micV s l k)) _ HCEL.out Try.underlying109 rfl info109 ?_)
          clear HCEL d3
          have HD0 : Hid (wr.heap[gb]? = some (.cells (⟨.slice a1 nl c1, .slice a2 nb c2, .slice a3 nt c3, wk, 0, micV s l k, paTo wk (micV s l k) 0⟩ : BO).c 111)) := HGi.out
          clear HGi
          go_loopw [184] (fun iv wr => ∃ t : Nat, iv = .int .i64 t ∧ t ≤ 5 ∧ MS B w k g (boT l k bo nb) gs ga (.slice sa nt sc) (.slice ka nl kc) va wr ∧
            wr.heap[gb]? = some (.cells (⟨.slice a1 nl c1, .slice a2 nb c2, .slice a3 nt c3, wk, 0, micV s l k, paTo wk (micV s l k) t⟩ : BO).c 111)) (fun iv _ => 5 - (intOf iv).toNat)
          case atStart => exact ⟨0, rfl, by omega, HMi.out, HD0.out⟩
          case round =>
            obtain ⟨t, rfl, ht, hMi, hGi⟩ := hrel
            have HMt := Lib.hid hMi
            have HGt := Lib.hid hGi
            clear hMi hGi HMi HD0
            by_cases hlt : t < 5
            · have hmc := HMC.out t
              have hix := fun w => run_index_sp (micV s l k) t hlt w
              have hglt := block_lt HGt.out
              generalize hm : micV s l k t = q at *
              have HQ := Lib.hid hm
              clear hm
              obtain ⟨lo, hi⟩ := q
              simp only at hmc hix
              have hti : (t : Int) < 5 := by omega
              go_wp2_with fail
              clear hix
              obtain ⟨wv, hwv⟩ : ∃ x, wr.alloc (.cells #[.int .i64 lo, .int .i64 hi] 51) = x := ⟨_, rfl⟩
              rw [hwv]
              have HMv : Hid (MS B w k g (boT l k bo nb) gs ga (.slice sa nt sc) (.slice ka nl kc) va wv) := by rw [← hwv]; exact HMt.out.alloc _
              have HGv : Hid (wv.heap[gb]? = some (.cells (⟨.slice a1 nl c1, .slice a2 nb c2, .slice a3 nt c3, wk, 0, micV s l k, paTo wk (micV s l k) t⟩ : BO).c 111)) := by rw [← hwv]; exact block_keep HGt.out ((Below.refl _ _).alloc (Nat.le_refl _) _)
              have hnew : wv.heap[wr.heap.size]? = some (.cells #[.int .i64 lo, .int .i64 hi] 51) := by rw [← hwv]; exact heap_alloc_new _ _
              have e0 : wv.cell? ⟨wr.heap.size, 0, none⟩ = some (.int .i64 lo) := cell_of_row _ _ _ _ _ _ hnew
              have e1 : wv.cell? ⟨wr.heap.size, 1, none⟩ = some (.int .i64 hi) := cell_of_row _ _ _ _ _ _ hnew
              have d3 : wv.cell? ⟨gb, 3, none⟩ = some (.int .i64 wk) := cell_of_row _ _ 3 _ _ _ HGv.out
              clear hnew hwv HMt HGt
              generalize wr.heap.size = gx at *
              have hz3 : ¬ wk = 0 := HZ.out
              go_still_tail 28, (by kernel_rfl)
              change wpList _ _ _ _ _ (wv.drewN 1)
              have HMd := Lib.hid (HMv.out.drew 1)
              have HGd := Lib.hid (block_keep HGv.out (below_drewN (Below.refl _ _) 1))
              refine wpList_part rfl 51 _ _ rfl _ gb t hlt HGd.out rfl _ _ rfl info51 ?_
              intro w8 hg8 hb8
              have HM8 := Lib.hid (HMd.out.but hb8 HBL.out HGd.out HLT.out)
              simp only at hg8
              rw [part_lo (hi := hi) hmc.1 (by omega) (by omega), part_hi (lo := lo) (by omega) (by omega) (by omega) (by omega), paTo_succ wk (micV s l k) t _ (by rw [HQ.out])] at hg8
              have HG8 := Lib.hid hg8
              clear hg8 hb8 HMd HGd HMv HGv e0 e1 d3
              go_wp2_with fail
              refine ⟨⟨t + 1, by push_cast; rfl, by omega, HM8.out, HG8.out⟩, ?_⟩
              simp [intOf]
              omega
            · obtain rfl : t = 5 := by omega
              have hpa := paTo_all s l hk (by rw [HNT.out]; exact hnt5) (show 0 < wk by have := HZ.out; omega) HWK.out
              rw [hpa] at HGt
              have q1 := cell_of_row _ _ 0 _ _ _ HMt.out.al
              clear hpa
              have HMn := Lib.hid (HMt.out.alloc (.cells #[.pointer (some ⟨gb, 0, none⟩)] 106))
              have HGn := Lib.hid (block_keep HGt.out ((Below.refl _ _).alloc (Nat.le_refl _) (.cells #[.pointer (some ⟨gb, 0, none⟩)] 106)))
              have HNW := Lib.hid (heap_alloc_new wr (.cells #[.pointer (some ⟨gb, 0, none⟩)] 106))
              obtain ⟨i0, hi0, hz0, hz1, hz2⟩ := info106'
              have HI0 := Lib.hid hi0
              have HZ0 := Lib.hid hz0
              have HZ1 := Lib.hid hz1
              have HZ2 := Lib.hid hz2
              clear hi0 hz0 hz1 hz2
              go_wp2_with (at_builtin; refine wpList_append_own _ rfl _ _ 103 rfl B 106 i0 (.pointer none) 1 8 Try.underlying103 HI0.out HZ0.out HZ1.out HZ2.out rfl (by decide) _ _ _ rfl HMn.out.row ⟨wr.heap.size, 0, none⟩ 1 1 [.pointer (some ⟨gb, 0, none⟩)] rfl rfl (cell_news _ _ _ _ HNW.out) (one_of _ rfl) (by unfold maxLen; omega) (by omega) HMn.out.le ?_; intro v' w12 hown12 hgrow12 _; have hal := grown_keep HMn.out.row hgrow12 HMn.out.al (by decide); refine wpList_cell_but rfl 103 _ _ rfl ga 0 _ 103 hal rfl v' rfl (by simp) (by obtain ⟨a, c, e⟩ := ownsRow_slice hown12; rw [e]; rfl) info103 ?_; intro w13 hg13 hb13)
              have HMz := Lib.hid (HMn.out.more HGn.out HBL.out HLT.out hown12 hgrow12 hb13 hg13)
              go_wp2_with fail
              go_ret
              refine ⟨ret_int HR.out.symm, HMz.out.bel, ⟨_, HMz.out.al⟩, fun _ => ⟨_, _, _, HMz.out, fun i hi => ?_⟩⟩
              unfold upm
              by_cases hik : i = k
              · rw [if_pos hik]
                subst hik
                exact ⟨HWK.out.symm, (taken_self HPK.out).symm, rfl, rfl, by have h := HX.out; exact h⟩
              · rw [if_neg hik]
                exact boT_ok HNB.out (HBO.out i (by omega))
end Go.Proofs.Ytaigbhhmmdfdcaa
