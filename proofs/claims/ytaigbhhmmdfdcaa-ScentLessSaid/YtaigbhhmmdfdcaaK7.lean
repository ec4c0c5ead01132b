/- scent.Pull. -/
import Derived.Test.YtaigbhhmmdfdcaaK5
import Derived.Carry
import Derived.Scope
import Derived.WalkMore
import Derived.Lib.MinMax
namespace Go.Proofs.Ytaigbhhmmdfdcaa
open Go.RowKit Go.Shelf
attribute [local go_sem] Oper.semAt_some
/-- Ranges are handed back, with an error. -/
def RetSpans (t : List (Int × Int)) (E : Int) (w : World) : Ending → World → Prop := fun e w' => ∃ tv, e = .returned (.tuple #[tv, .int .i64 E]) ∧ SpansIn w'.heap.size w' tv t ∧ Below w.heap.size w w'
theorem ownsRow.keepC {w w' : World} {base sz n : Nat} {e : TypeId} {v : Value} {xs : List Value} (h : w.ownsRow base e sz v n xs) (hk : ∀ (k : Nat) (cs : Array Value) (t : TypeId) (fr : Nat × Nat), w.heap[k]? = some (Obj.cells cs t fr) → w'.heap[k]? = some (Obj.cells cs t fr)) : w'.ownsRow base e sz v n xs := by
  refine ⟨h.1, ?_⟩
  rcases h.2 with h0 | ⟨b, cap, cur, rfl, h1, h2, h3⟩
  · exact .inl h0
  · exact .inr ⟨b, cap, cur, rfl, h1, hk _ _ _ _ h2, h3⟩
theorem Bs.firmS {w : World} {l : List (Nat × Obj)} {B : Nat} (hl : ∀ p ∈ l, p.1 < B) (hw : w.heap.size ≤ B) : Firm B (Bs w l) := fun _ _ h hb => ⟨fun p hp => (hb.block _ (hl p hp)).trans (h.get' p hp), h.inc, h.ge, h.bel.trans (hb.mono hw)⟩
/-- What some things weaken a wick, at one end. -/
def sumK (s : Shop) (l : List Bat) (k : Nat) (e : Bool) (pre : List (Fin 5)) : Int := (pre.map fun i => (s.things.getD i.val default).weak * sd e (micV s l k i.val)).sum
theorem Bs.snoc {w W : World} {l : List (Nat × Obj)} (h : Bs w l W) {b : Nat} {o : Obj} (hl : ∀ p ∈ l, p.1 < b) (hb : W.heap[b]? = some o) (hw : w.heap.size ≤ b) : Bs w (l ++ [(b, o)]) W := by
  refine ⟨?_, ?_, ?_, h.bel⟩
  · intro p hp
    rcases List.mem_append.1 hp with hp | hp
    · exact h.get' p hp
    · simp only [List.mem_singleton] at hp
      subst hp
      exact hb
  · rw [List.map_append, List.pairwise_append]
    refine ⟨h.inc, by simp, ?_⟩
    intro a ha b' hb'
    simp only [List.mem_map] at ha hb'
    obtain ⟨p, hp, rfl⟩ := ha
    obtain ⟨q, hq, rfl⟩ := hb'
    simp only [List.mem_singleton] at hq
    subst hq
    exact hl p hp
  · intro p hp
    rcases List.mem_append.1 hp with hp | hp
    · exact h.ge p hp
    · simp only [List.mem_singleton] at hp
      subst hp
      exact hw
theorem weak_all {s : Shop} (hs : ShopOk s) (t : Nat) : 0 ≤ (s.things.getD t default).weak ∧ (s.things.getD t default).weak ≤ 100 := by
  by_cases h : t < s.things.length
  · exact hs.weak t h
  · rw [List.getD_eq_getElem?_getD, List.getElem?_eq_none (by omega)]
    exact ⟨Int.le_refl _, by decide⟩
theorem sumK_snoc (s : Shop) (l : List Bat) (k : Nat) (e : Bool) (pre : List (Fin 5)) (x : Fin 5) : sumK s l k e (pre ++ [x]) = sumK s l k e pre + (s.things.getD x.val default).weak * sd e (micV s l k x.val) := by
  simp [sumK]
theorem sumK_bound {s : Shop} (hs : ShopOk s) {l : List Bat} {k : Nat} (hm : ∀ t, 0 ≤ (micV s l k t).1 ∧ (micV s l k t).1 ≤ (micV s l k t).2 ∧ (micV s l k t).2 ≤ 2000000000000) (e : Bool) : ∀ pre : List (Fin 5), 0 ≤ sumK s l k e pre ∧ sumK s l k e pre ≤ pre.length * 200000000000000
  | [] => by simp [sumK]
  | x :: pre => by
    have ih := sumK_bound hs hm e pre
    have h1 := mul_bound (weak_all hs x.val) (sd_nonneg (hm x.val) e)
    have e1 : sumK s l k e (x :: pre) = (s.things.getD x.val default).weak * sd e (micV s l k x.val) + sumK s l k e pre := rfl
    rw [e1, List.length_cons]
    push_cast
    omega
/-- Blocks from B on stay. -/
structure HiK (B : Nat) (W w' : World) : Prop where
  size : W.heap.size ≤ w'.heap.size
  same : ∀ k, B ≤ k → k < W.heap.size → w'.heap[k]? = W.heap[k]?
theorem HiK.drew (B : Nat) (W : World) : HiK B W W.drew := ⟨Nat.le_refl _, fun _ _ _ => rfl⟩
theorem HiK.trans {B : Nat} {a b c : World} (h : HiK B a b) (k : HiK B b c) : HiK B a c := ⟨Nat.le_trans h.size k.size, fun i hi hl => (k.same i hi (Nat.lt_of_lt_of_le hl h.size)).trans (h.same i hi hl)⟩
theorem HiK.but {B g : Nat} {W w' : World} (h : But g W w') (hg : g < B) : HiK B W w' := ⟨h.size, fun i hi hl => h.block i hl (by omega)⟩
theorem wpListIn_cell_bb {P : Program} {ops : Array Oper} {rest : List Oper} {o : Oper} {a : Act} {w0 w : World} {Q : Exit → Act → World → Prop} {l : List (Nat × Obj)} {Fe : Fence} {n : Nat} (hgd : o.guard = none) (ty : TypeId) (x y : Operand) (ho : o.op = .store ty x y) (H : Bs w0 l w) (i g j : Nat) (old : Array Value) (t : TypeId) (hi : l[i]? = some (g, .cells old t))
    (hx : a.eval x = .pointer (some ⟨g, j, none⟩)) (v : Value) (hy : a.eval y = v) (hj : j < old.size) (h1 : v.oneCell' = true) (hn : (P.info? ty).map (·.size) = some 1)
    (h : ∀ w', Bs w0 (l.set i (g, .cells (old.setIfInBounds j v) t)) w' → But g w w' → wpListIn Fe n P ops Q rest (a.put o.dst undef) w') : wpListIn Fe n P ops Q (o :: rest) a w :=
  wpListIn_plain hgd fun _ hK => by
    have hc : w.cell? ⟨g, j, none⟩ = some old[j] := by rw [H.cell i hi]; simp [hj]
    unfold Oper.wpIn
    refine And.intro (fun f hf => by simp [Oper.about, ho] at hf) ?_
    rw [Oper.semAt_plain Fe a.eval o (by simp [ho])]
    unfold execOp
    simp only [ho, hx, hy, Instr.storeAt, Instr.sureAddr, Sem.run_bind, Sem.run_pure, Result.andThen_ok, run_store_at w g j ty v _ h1 hc (H.free i hi j) hn]
    exact hK _ _ (h _ (H.setCell i hi j v) (But.setCell g j w v))
theorem sumK_all {s : Shop} (hs : ShopOk s) (l : List Bat) (k : Nat) (e : Bool) : sumK s l k e ((filtK s.things 0 s.things.length).map (fun i => (⟨i % 5, Nat.mod_lt _ (by omega)⟩ : Fin 5))) = weakS s (fun t => sd e (micV s l k t)) s.things.length := by
  have h5 := hs.nt5
  have key : ∀ n, n ≤ s.things.length → sumK s l k e ((filtK s.things 0 n).map (fun i => (⟨i % 5, Nat.mod_lt _ (by omega)⟩ : Fin 5))) = weakS s (fun t => sd e (micV s l k t)) n := by
    intro n
    induction n with
    | zero => intro _; rfl
    | succ n ih =>
      intro hn
      have e1 : weakS s (fun t => sd e (micV s l k t)) (n + 1) = weakS s (fun t => sd e (micV s l k t)) n + (s.things.getD n default).weak * sd e (micV s l k n) := rfl
      have e2 : n % 5 = n := Nat.mod_eq_of_lt (by omega)
      rw [e1, ← ih (by omega), filtK_succ]
      by_cases hk : (s.things.getD n default).kind = 0
      · rw [if_pos (by simpa using hk), List.map_append, List.map_singleton, sumK_snoc]
        simp only [e2]
      · rw [if_neg (by simpa using hk), hs.weak0 n (by omega) hk]
        omega
  exact key _ (Nat.le_refl _)
theorem wpListIn_mv {P : Program} {ops : Array Oper} {rest : List Oper} {o : Oper} {a : Act} {w : World} {Q : Exit → Act → World → Prop} {Fe : Fence} {n : Nat} (hgd : o.guard = none) (s : Operand) (ho : o.op = .move s) (v : Value) (hv : a.eval s = v)
    (h : wpListIn Fe n P ops Q rest (a.put o.dst v) w) : wpListIn Fe n P ops Q (o :: rest) a w :=
  wpListIn_plain hgd fun _ hK => by
    unfold Oper.wpIn
    refine And.intro (fun f hf => by simp [Oper.about, ho] at hf) ?_
    rw [Oper.semAt_plain Fe a.eval o (by simp [ho])]
    unfold execOp
    simp only [ho, Sem.run_pure, hv]
    exact hK _ _ h
/-- What is done stays closed. -/
def Cl (l : List Oper) (D : Nat → Bool) : Prop := ∀ k o j, l[k]? = some o → bindsTo o j = true → D k = true → D j = true
theorem Cl.start (l : List Oper) : Cl l fun _ => false := fun _ _ _ _ _ h => by cases h
theorem Cl.step {l : List Oper} {D : Nat → Bool} {i : Nat} (h : Cl l D) (hD : Due l D i) : Cl l fun k => k == i || D k := by
  intro k o j ho hb hk
  show (j == i || D j) = true
  by_cases hki : k = i
  · subst hki
    rw [hD.pre o j ho hb, Bool.or_true]
  · have e : (k == i) = false := by simpa using hki
    dsimp only at hk
    rw [e, Bool.false_or] at hk
    rw [h k o j ho hb hk, Bool.or_true]
theorem Cl.up {l : List Oper} {D : Nat → Bool} (h : Cl l D) (k j : Nat) (o : Oper) (ho : l[k]? = some o) (hb : bindsTo o j = true) (hj : D j = false) : D k = false := by
  cases hk : D k with
  | false => rfl
  | true => rw [h k o j ho hb hk] at hj; cases hj
theorem wpIn_region_inv1C {P : Program} {Fe : Fence} {n id : Nat} {l : List Oper} {Q : Exit → Act → World → Prop} {a0 : Act} {w0 : World} (hm : P.follows .mixedOrders = true) (hlex : regLex l = true) (priv : List Tmp)
    (W : (Nat → Bool) → (Tmp → Value) → World → Prop) (hW0 : W (fun _ => false) (fun d => a0.tmps.getD d undef) w0.drew) (F : (Tmp → Value) → Act) (hF : ∀ y, fill priv a0 y = F y)
    (h : OblIn Fe n P l priv (fun D y w => Cl l D ∧ W D y w) Q 0 l F) : (Code.region id l.toArray true).wpIn Fe n P Q a0 w0 :=
  wpIn_region_inv1 hm hlex priv (fun D y w => Cl l D ∧ W D y w) ⟨Cl.start l, hW0⟩ F hF h
/-- All that is no cells stays. -/
def NonK (w w' : World) : Prop := ∀ (k : Nat) (o : Obj), w.heap[k]? = some o → o.isCells = false → w'.heap[k]? = some o
theorem NonK.drew (w : World) : NonK w w.drew := fun _ _ h _ => h
theorem NonK.trans {a b c : World} (h : NonK a b) (k : NonK b c) : NonK a c := fun i o hi hc => k i o (h i o hi hc) hc
theorem NonK.below {w w' : World} (h : Below w.heap.size w w') : NonK w w' := fun _ _ hi _ => block_keep hi h
theorem NonK.grown {w w' : World} {base size n : Nat} {e : TypeId} {v : Value} {xs : List Value} (h : w.ownsRow base e size v n xs) (hg : w.grownBy w' v.ownBlock) : NonK w w' := by
  intro k o hk hc
  by_cases hr : some k = v.ownBlock
  · rcases h.2 with ⟨rfl, _⟩ | ⟨g, cap, cur, rfl, h1, h2, h3⟩
    · cases hr
    · cases hr
      rw [h2] at hk
      cases hk
      simp [Obj.isCells] at hc
  · exact (hg.block k (block_lt hk) hr).trans hk
theorem info25 : (Try.prog.info? 25).map (·.size) = some 2 := by kernel_rfl
set_option maxRecDepth 100000 in
set_option maxHeartbeats 16000000 in
theorem pull_any (s : Shop) (l : List Bat) (vt vl v : Value) (w : World) (hv : ShopAt w.heap.size w vt vl s) (hl' : BatsIn w.heap.size w v l) :
    Calls Try.prog 31 #[.agg #[vt, vl], v] w (RetSpans (pullV s l) (batchesE s l) w) := by
  unfold RetSpans
  have HV := Lib.hid hv
  have HL := Lib.hid hl'
  obtain ⟨ta, tc, rfl, -, htl⟩ := sl_shape hv.1
  obtain ⟨la, lc, rfl, -, hll⟩ := sl_shape hv.2
  obtain ⟨va, vc, rfl, -, hvl⟩ := sl_shape hl'
  clear hv hl'
  have hb0 := (Below.refl w.heap.size w).alloc (Nat.le_refl _) (.cells #[.slice ta s.things.length tc, .slice la s.lots.length lc] 25)
  have HB0 := Lib.hid hb0
  have HMELT := Lib.hid (melt_any s l _ _ _ _ (HV.out.next hb0) (HL.out.next hb0))
  clear hb0
  unfold MeltPost at HMELT
  have HCV : Hid (pullV s l = if batchesE s l ≠ 0 then [] else (List.range l.length).map fun k => pullOf s (l.getD k default) ((rangesV s l).getD k [])) := rfl
  have HOKB := Lib.hid (all_ok (s := s) (l := l))
  obtain ⟨E, hE⟩ : ∃ x, batchesE s l = x := ⟨_, rfl⟩
  rw [hE] at HMELT HCV ⊢
  simp only [hE] at HOKB
  clear hE
  by_cases hz : E = 0
  case neg =>
    have hz2 : (E != 0) = true := by simpa using hz
    have HZ := Lib.hid hz
    clear hz
    go_enter Try.func31, Try.ntmps31
    go_wp2_with fail
    refine HMELT.out.mono ?_
    rintro e w1 ⟨hbad, -⟩
    obtain ⟨rfl, hb1⟩ := hbad HZ.out
    clear hbad
    have HB1 := Lib.hid (HB0.out.trans (hb1.mono (by simp)))
    clear hb1
    go_wp2_with fail
    go_ret2
    refine ⟨_, rfl, ?_, HB1.out⟩
    rw [HCV.out, if_pos HZ.out]
    exact SlIn.nil _ _
  subst hz
  refine (callsIn_wide (n := 3)).1 ?_
  refine callsIn_of_wp_marks Try.func31 rfl trivial ?_ rfl
  simp only [Try.ntmps31, List.size_toArray, List.length_cons, List.length_nil, Nat.reduceAdd, Nat.reduceSub, Array.replicate_succ, Array.replicate_zero, List.push_toArray, List.append_toArray, List.nil_append, List.cons_append]
  gi_wp2_with fail
  refine ⟨trivial, (callsIn_wide.2 HMELT.out).mono ?_⟩
  rintro e w1 ⟨-, hgood⟩
  obtain ⟨g, bo, vr, rfl, hA⟩ := hgood (by first | rfl | trivial)
  have HA := Lib.hid hA
  have HOK := Lib.hid (HOKB.out (by first | rfl | trivial))
  clear hgood hA HOKB HMELT
  obtain ⟨ra, rc, hvr⟩ := HA.out.shape
  subst hvr
  have hn6 := HOK.out.l6
  have hnt5 := HOK.out.sh.nt5
  obtain ⟨tb, tof, tc', hta, htc, htb, hT0⟩ := HV.out.1.row (by have := HOK.out.sh.nt1; omega)
  cases hta
  have hT := Lib.hid hT0
  clear hT0
  have HB1 := Lib.hid (HB0.out.trans (HA.out.bel.mono (by simp)))
  have HGS : Hid (w1.cell? ⟨w.heap.size, 0, none⟩ = some (.slice (some ⟨tb, tof, none⟩) s.things.length tc) ∧ w1.cell? ⟨w.heap.size, 1, none⟩ = some (.slice la s.lots.length lc)) :=
    ⟨(Below.cell (p := ⟨w.heap.size, 0, none⟩) HA.out.bel (by simp)).trans (cell_of_row _ _ 0 _ _ _ (heap_alloc_new w (.cells #[.slice (some ⟨tb, tof, none⟩) s.things.length tc, .slice la s.lots.length lc] 25))), (Below.cell (p := ⟨w.heap.size, 1, none⟩) HA.out.bel (by simp)).trans (cell_of_row _ _ 1 _ _ _ (heap_alloc_new w (.cells #[.slice (some ⟨tb, tof, none⟩) s.things.length tc, .slice la s.lots.length lc] 25)))⟩
  have hgsl : w.heap.size < w1.heap.size := by have := HA.out.le; simp at this; omega
  have HGB : Hid (w1.heap[w.heap.size]? = some (.cells #[.slice (some ⟨tb, tof, none⟩) s.things.length tc, .slice la s.lots.length lc] 25)) := block_keep (heap_alloc_new w (.cells #[.slice (some ⟨tb, tof, none⟩) s.things.length tc, .slice la s.lots.length lc] 25)) HA.out.bel
  obtain ⟨W1, HWW⟩ : ∃ x, Hid (w1.heap.size = x) := ⟨_, rfl⟩
  have HB2 := Lib.hid (Below.refl w1.heap.size w1)
  gi_wp2_with fail
  rw [HWW.out] at HB2 hgsl
  refine wpIn_loop (fun a wr => ∃ (k : Nat) (tv : Value) (us : Nat → Value) (ds : List Deferred), a = { tmps := #[.agg #[.slice (some ⟨tb, tof, none⟩) s.things.length tc, .slice la s.lots.length lc], .slice va l.length vc, .pointer (some ⟨w.heap.size, 0, none⟩), undef, tv, .int .i64 0, .slice ra l.length rc, undef, us 8, us 9, us 10, us 11, us 12, us 13, .tuple #[.slice ra l.length rc, .int .i64 0], .agg #[.slice (some ⟨tb, tof, none⟩) s.things.length tc, .slice la s.lots.length lc], .slice va l.length vc, .tuple #[.slice ra l.length rc, .int .i64 0], .slice ra l.length rc, .int .i64 0, .int .i64 0, .bool false, undef, .slice ra l.length rc, .int .i64 l.length, .int .i64 k, us 26, us 27, us 28, us 29, us 30, us 31, us 32, us 33, us 34, us 35, us 36, us 37, us 38, us 39, us 40, us 41, us 42, us 43, us 44, us 45, us 46, us 47, us 48, us 49, us 50, us 51, us 52, us 53, us 54, us 55, us 56, us 57, us 58, us 59, us 60, us 61, us 62, us 63, us 64, us 65, us 66, us 67, us 68, us 69, us 70, us 71, us 72, us 73, us 74, us 75, us 76, us 77, us 78, us 79, us 80, us 81, undef], defers := ds } ∧ k ≤ l.length ∧ Below W1 w1 wr ∧ W1 ≤ wr.heap.size ∧
    wr.ownsRow W1 51 2 tv k (spCells ((List.range k).map fun k => pullOf s (l.getD k default) ((rangesV s l).getD k []))) ∧ MarksOk W1 ds wr) (fun a _ => l.length - (intOf (a.tmps.getD 25 undef)).toNat) ?_ ?_
  · exact ⟨0, .slice none 0 0, fun _ => undef, [], rfl, by omega, HB2.out, by rw [HWW.out]; exact Nat.le_refl _, World.ownsRow_nil _ _ 51 2, trivial⟩
  rintro a wr ⟨k, tv, us, ds, rfl, hk, hBk, hW1, hT, hM⟩
  have HBk := Lib.hid hBk
  have HT := Lib.hid hT
  have HM := Lib.hid hM
  have HW1 := Lib.hid hW1
  clear hBk hT hM hW1
  by_cases hkl : k < l.length
  · obtain ⟨pb, pc, he, hpc, hpb, hcell⟩ := HA.out.ptr hkl
    cases he
    rw [HWW.out] at hpb
    have hcell := (HBk.out.cell (p := ⟨pb, k, none⟩) hpb).trans hcell
    have hki : (k : Int) < (l.length : Int) := by omega
    have hgk : g k < W1 := by rw [← HWW.out]; exact block_lt (HA.out.obj k hkl)
    have q3 := (HBk.out.cell (p := ⟨g k, 3, none⟩) hgk).trans (HA.out.wt hkl)
    have g0 := (HBk.out.cell (p := ⟨w.heap.size, 0, none⟩) hgsl).trans HGS.out.1
    have g1 := (HBk.out.cell (p := ⟨w.heap.size, 1, none⟩) hgsl).trans HGS.out.2
    have hgk2 : g k < wr.heap.size := Nat.lt_of_lt_of_le hgk HW1.out
    have hgs2 : w.heap.size < wr.heap.size := Nat.lt_of_lt_of_le hgsl HW1.out
    have hpos := HOK.out.pre.pos HOK.out.sh hn6 (Nat.le_refl _) hkl
    generalize hwt : weightV (l.getD k default) = wt at *
    have HWT := Lib.hid hwt
    clear hwt
    have HG25 : Hid ((((wr.alloc (.cells #[.pointer (some ⟨g k, 0, none⟩)] 106)).alloc (.cells #[.int .i64 (1000 * (1000 * wt))] 3)).alloc (.cells #[.int .i64 (1000 * (1000 * wt))] 3)).heap[w.heap.size]? = some (.cells #[.slice (some ⟨tb, tof, none⟩) s.things.length tc, .slice la s.lots.length lc] 25)) :=
      block_keep (block_keep (block_keep ((HBk.out.block _ hgsl).trans HGB.out) ((Below.refl _ _).alloc (Nat.le_refl _) _)) ((Below.refl _ _).alloc (Nat.le_refl _) _)) ((Below.refl _ _).alloc (Nat.le_refl _) _)
    gi_wp2_with (refine wpListIn_load_row rfl 25 _ rfl _ rfl _ _ _ _ HG25.out Try.underlying25 rfl info25 ?_)
    refine ⟨trivial, (callsIn_wide.2 (of_any 0 _ _ _ ⟨_, _, _, rfl⟩ ⟨_, _, _, rfl⟩)).mono ?_⟩
    rintro e w5 ⟨rfl, hw5⟩
    have C5 : Hid (Bs wr [(wr.heap.size, .cells #[.pointer (some ⟨g k, 0, none⟩)] 106), (wr.heap.size + 1, .cells #[.int .i64 (1000 * (1000 * wt))] 3), (wr.heap.size + 1 + 1, .cells #[.int .i64 (1000 * (1000 * wt))] 3), (wr.heap.size + 1 + 1 + 1, .cells #[.slice (some ⟨tb, tof, none⟩) s.things.length tc, .slice la s.lots.length lc] 25), (wr.heap.size + 1 + 1 + 1 + 1, .cells #[.int .i64 0] 3)] w5) := by
      rw [hw5]
      exact ((((Bs.nil wr).push _ rfl _ |>.push (wr.heap.size + 1) (by simp) _).push (wr.heap.size + 1 + 1) (by simp) _).push (wr.heap.size + 1 + 1 + 1) (by simp) _).push (wr.heap.size + 1 + 1 + 1 + 1) (by simp) _
    have hz5 : w5.heap.size = wr.heap.size + 5 := by rw [hw5]; simp
    clear hw5 hcell q3 g0 g1
    have hb5 : Below w.heap.size w w5 := HB1.out.trans ((HBk.out.mono (Nat.le_of_lt hgsl)).trans (C5.out.bel.mono (Nat.le_of_lt hgs2)))
    have HMI := Lib.hid (mic_ok HOK.out.sh hn6 (fun j hj => HOK.out.pre j (by omega)) hkl)
    gi_wp2_with fail
    refine wpIn_range_firm (α := Fin 5) rfl (by omega) (gf := 101) (lb := #[.pointer (some ⟨wr.heap.size + 1 + 1 + 1, 0, none⟩), .pointer (some ⟨wr.heap.size + 1 + 1 + 1 + 1, 0, none⟩)]) rfl trivial (enters_of Try.func101 (by kernel_rfl) rfl)
      (of1_gives (fun x => encT s.things x.val) (fun i => (⟨i % 5, Nat.mod_lt _ (by omega)⟩ : Fin 5)) s.things 0 2 (by omega) hnt5 (wr.heap.size + 1 + 1 + 1) (wr.heap.size + 1 + 1 + 1 + 1) tb tof tc (.slice la s.lots.length lc) w5 (C5.out.get 3 rfl) (C5.out.get 4 rfl) (Nat.lt_of_lt_of_le htb hb5.size) htc (fun i hi => rdThing.mono hb5.size (rdThing.below htb hb5 (hT.out i hi))) (fun i hi => by show encT s.things (i % 5) = _; rw [Nat.mod_eq_of_lt (by omega)]))
      (fun h k => MiK.t h k) (MiK.b (by omega) (by omega)) (fun _ => rfl)
      (fun pre W => Bs wr [(wr.heap.size, .cells #[.pointer (some ⟨g k, 0, none⟩)] 106), (wr.heap.size + 1, .cells #[.int .i64 (1000 * (1000 * wt) - sumK s l k true (pre))] 3), (wr.heap.size + 1 + 1, .cells #[.int .i64 (1000 * (1000 * wt) - sumK s l k false (pre))] 3), (wr.heap.size + 1 + 1 + 1, .cells #[.slice (some ⟨tb, tof, none⟩) s.things.length tc, .slice la s.lots.length lc] 25), (wr.heap.size + 1 + 1 + 1 + 1, .cells #[.int .i64 0] 3)] W) (fun _ _ _ => False)
      (fun _ => Bs.firmS (by intro p hp; simp at hp; rcases hp with rfl | rfl | rfl | rfl | rfl <;> simp <;> omega) (by omega)) (fun _ _ _ _ h _ => h) (by simpa [sumK] using C5.out)
      (fun x a' W => ∃ Bx, w5.heap.size ≤ Bx ∧ W.heap[Bx]? = some (.cells #[.string (s.things.getD x.val default).name, .int .i64 (s.things.getD x.val default).kind, .int .i64 (s.things.getD x.val default).limit, .int .i64 (s.things.getD x.val default).weak, .int .i64 (s.things.getD x.val default).fade] 62) ∧ a' = { tmps := #[.agg #[.slice (some ⟨tb, tof, none⟩) s.things.length tc, .slice la s.lots.length lc], .slice va l.length vc, .pointer (some ⟨w.heap.size, 0, none⟩), undef, tv, .int .i64 0, .slice (some ⟨pb, 0, none⟩) l.length rc, undef, .pointer (some ⟨wr.heap.size, 0, none⟩), .int .i64 (1000 * wt), .pointer (some ⟨wr.heap.size + 1, 0, none⟩), .pointer (some ⟨wr.heap.size + 1 + 1, 0, none⟩), .int .i64 (x.val : Nat), .pointer (some ⟨Bx, 0, none⟩), .tuple #[.slice (some ⟨pb, 0, none⟩) l.length rc, .int .i64 0], .agg #[.slice (some ⟨tb, tof, none⟩) s.things.length tc, .slice la s.lots.length lc], .slice va l.length vc, .tuple #[.slice (some ⟨pb, 0, none⟩) l.length rc, .int .i64 0], .slice (some ⟨pb, 0, none⟩) l.length rc, .int .i64 0, .int .i64 0, .bool false, undef, .slice (some ⟨pb, 0, none⟩) l.length rc, .int .i64 l.length, .int .i64 k, .bool true, .pointer (some ⟨pb, k, none⟩), .pointer (some ⟨g k, 0, none⟩), .pointer (some ⟨g k, 0, none⟩), .pointer (some ⟨g k, 0, none⟩), .pointer (some ⟨g k, 3, none⟩), .int .i64 wt, .int .i64 (1000 * wt), .int .i64 (1000 * wt), .int .i64 (1000 * (1000 * wt)), .int .i64 (1000 * wt), .int .i64 (1000 * (1000 * wt)), .agg #[.slice (some ⟨tb, tof, none⟩) s.things.length tc, .slice la s.lots.length lc], .func (.func 101) #[] #[.pointer (some ⟨wr.heap.size + 1 + 1 + 1, 0, none⟩), .pointer (some ⟨wr.heap.size + 1 + 1 + 1 + 1, 0, none⟩)], .int .i64 (x.val : Nat), .agg #[.string (s.things.getD x.val default).name, .int .i64 (s.things.getD x.val default).kind, .int .i64 (s.things.getD x.val default).limit, .int .i64 (s.things.getD x.val default).weak, .int .i64 (s.things.getD x.val default).fade], us 42, us 43, us 44, us 45, us 46, us 47, us 48, us 49, us 50, us 51, us 52, us 53, us 54, us 55, us 56, us 57, us 58, us 59, us 60, us 61, us 62, us 63, us 64, us 65, us 66, us 67, us 68, us 69, us 70, us 71, us 72, us 73, us 74, us 75, us 76, us 77, us 78, us 79, us 80, us 81, undef], defers := [] })
      (fun x a' W l o o' h _ hl hc => by
        obtain ⟨Bx, h1, h2, h3⟩ := h
        refine ⟨Bx, h1, ?_, h3⟩
        by_cases e : Bx = l
        · subst e
          rw [h2] at hl
          cases hl
          simp [Obj.isCells] at hc
        · exact (World.putObj_heap_other e).trans h2)
      ?assign ?body ?done ?stop
    case stop =>
      intro D c pre W _ _ h _
      exact h.elim
    case assign =>
      intro lp pre x W K hI hszV hK
      have HK := Lib.hid hK
      have HI := Lib.hid hI
      clear hK hI
      simp only [encT]
      gi_wp2_with fail
      have hb := (Below.refl W.heap.size W).alloc (Nat.le_refl _) (.cells #[.string (s.things.getD x.val default).name, .int .i64 (s.things.getD x.val default).kind, .int .i64 (s.things.getD x.val default).limit, .int .i64 (s.things.getD x.val default).weak, .int .i64 (s.things.getD x.val default).fade] 62)
      exact HK.out _ _ ⟨hb.size, fun k o _ hk _ => block_keep hk hb⟩ (MiK.below (by have := hb5.size; omega) (by omega) hb) (HI.out.call hb) ⟨W.heap.size, hszV, heap_alloc_new _ _, rfl⟩
    case body =>
      rintro lp pre x a' W hszW hI ⟨Bx, hBx, hbx, rfl⟩ hlen
      have hws := weak_all HOK.out.sh x.val
      have hmi := HMI.out x.val
      have hs1 := sumK_bound HOK.out.sh HMI.out true pre
      have hs2 := sumK_bound HOK.out.sh HMI.out false pre
      have HSN1 := Lib.hid (sumK_snoc s l k true pre x)
      have HSN2 := Lib.hid (sumK_snoc s l k false pre x)
      have hlen5 : (pre.length : Int) ≤ 4 := by omega
      have hx5 := x.isLt
      have HQH : Hid (wr.cell? ⟨g k, 5 + x.val * 2 + 1, none⟩ = some (.int .i64 (micV s l k x.val).2)) := (HBk.out.cell (p := ⟨g k, _, none⟩) hgk).trans (HA.out.hi hkl x.isLt)
      have HQL : Hid (wr.cell? ⟨g k, 5 + x.val * 2, none⟩ = some (.int .i64 (micV s l k x.val).1)) := (HBk.out.cell (p := ⟨g k, _, none⟩) hgk).trans (HA.out.lo hkl x.isLt)
      have HC1 := Lib.hid (Bs.snoc hI (by intro p hp; simp at hp; rcases hp with rfl | rfl | rfl | rfl | rfl <;> simp <;> omega) hbx (by omega))
      have HI := Lib.hid hI
      clear hI hbx
      unfold sd at HSN1 HSN2
      simp only [if_true, Bool.false_eq_true, if_false] at HSN1 HSN2
      generalize s.things.getD x.val default = th at *
      generalize micV s l k x.val = mm at *
      obtain ⟨nm, kd, lm, wk, fade⟩ := th
      obtain ⟨m1, m2⟩ := mm
      simp only at hws hmi HSN1 HSN2 HQH HQL HC1
      have hm1 := mul_bound (show 0 ≤ wk ∧ wk ≤ 100 from hws) (show 0 ≤ m1 ∧ m1 ≤ 2000000000000 by omega)
      have hm2 := mul_bound (show 0 ≤ wk ∧ wk ≤ 100 from hws) (show 0 ≤ m2 ∧ m2 ≤ 2000000000000 by omega)
      obtain ⟨lo, hlo⟩ : ∃ q, 1000 * (1000 * wt) - sumK s l k true pre = q := ⟨_, rfl⟩
      obtain ⟨hi, hhi⟩ : ∃ q, 1000 * (1000 * wt) - sumK s l k false pre = q := ⟨_, rfl⟩
      have hlo1 : -1000000000000000 ≤ lo ∧ lo ≤ 2000000000000 := by omega
      have hhi1 : -1000000000000000 ≤ hi ∧ hi ≤ 2000000000000 := by omega
      have HLO := Lib.hid hlo
      have HHI := Lib.hid hhi
      rw [hlo, hhi] at HC1
      clear hlo hhi hs1 hs2
      generalize hxv : x.val = xv at *
      have hx5i : (xv : Int) < 5 := by omega
      gi_wp2_with fail
      refine wpIn_region_inv0 (by kernel_rfl) (by kernel_rfl) (fun D w' => (D 12 = false → Bs wr [(wr.heap.size, .cells #[.pointer (some ⟨g k, 0, none⟩)] 106), (wr.heap.size + 1, .cells #[.int .i64 (lo)] 3), (wr.heap.size + 1 + 1, .cells #[.int .i64 (hi)] 3), (wr.heap.size + 1 + 1 + 1, .cells #[.slice (some ⟨tb, tof, none⟩) s.things.length tc, .slice la s.lots.length lc] 25), (wr.heap.size + 1 + 1 + 1 + 1, .cells #[.int .i64 0] 3), (Bx, .cells #[.string nm, .int .i64 kd, .int .i64 lm, .int .i64 wk, .int .i64 fade] 62)] w') ∧ (D 12 = true → Bs wr [(wr.heap.size, .cells #[.pointer (some ⟨g k, 0, none⟩)] 106), (wr.heap.size + 1, .cells #[.int .i64 (lo - wk * m2)] 3), (wr.heap.size + 1 + 1, .cells #[.int .i64 (hi)] 3), (wr.heap.size + 1 + 1 + 1, .cells #[.slice (some ⟨tb, tof, none⟩) s.things.length tc, .slice la s.lots.length lc] 25), (wr.heap.size + 1 + 1 + 1 + 1, .cells #[.int .i64 0] 3), (Bx, .cells #[.string nm, .int .i64 kd, .int .i64 lm, .int .i64 wk, .int .i64 fade] 62)] w') ∧ HiK w5.heap.size W w') ⟨fun _ => HC1.out.drew, fun h => (by cases h), HiK.drew _ _⟩ ?_
      iterate 12
        (apply obl_detIn
         case hrun =>
           intro D y wz hW hD R hR
           have HRR := Lib.hid hR
           clear hR
           have h12 : D 12 = false := hD.post _ 12 rfl (by kernel_rfl)
           have CZ := hW.1 h12
           have z0 := CZ.cell 0 rfl 0
           have z1 := CZ.cell 1 rfl 0
           have z2 := CZ.cell 5 rfl 3
           have z3 := (CZ.bel.cell (p := ⟨g k, 5 + xv * 2 + 1, none⟩) hgk2).trans HQH.out
           have hgz := Nat.lt_of_lt_of_le hgk2 CZ.bel.size
           have HW := Lib.hid hW
           clear hW hD h12 CZ
           gi_wp2_with fail
           exact HRR.out _ HW.out
         case hnp => rfl
         case hv => first | exact ⟨_, fun _ => rfl⟩ | exact ⟨undef, fun _ => rfl⟩)
      apply obl_detIn
      case hrun =>
        intro D y wz hW hD R hR
        have HRR := Lib.hid hR
        clear hR
        have h12 : D 12 = false := hD.not
        have CZ := Lib.hid (hW.1 h12)
        have HZK := Lib.hid hW.2.2
        clear hW hD h12
        refine wpListIn_cell_bb rfl 3 _ _ rfl CZ.out 1 (wr.heap.size + 1) 0 _ 3 rfl rfl (.int .i64 (lo - wk * m2)) rfl (by simp) rfl info3 ?_
        intro w6 C6 hb6
        have HC6 := Lib.hid C6
        have HZ6 := Lib.hid (HZK.out.trans (HiK.but hb6 (by omega)))
        clear C6 hb6
        gi_wp2_with fail
        exact HRR.out _ ⟨fun h => (by cases h), fun _ => HC6.out, HZ6.out⟩
      case hnp => rfl
      case hv => first | exact ⟨_, fun _ => rfl⟩ | exact ⟨undef, fun _ => rfl⟩
      apply obl_nilIn
      intro D y w7 hall hW
      have HC2 := Lib.hid (hW.2.1 (hall 12 (by decide)))
      have HK2 := Lib.hid hW.2.2
      clear hW hall
      gi_wp2_with fail
      refine wpIn_region_inv0 (by kernel_rfl) (by kernel_rfl) (fun D w' => (D 12 = false → Bs wr [(wr.heap.size, .cells #[.pointer (some ⟨g k, 0, none⟩)] 106), (wr.heap.size + 1, .cells #[.int .i64 ((lo - wk * m2))] 3), (wr.heap.size + 1 + 1, .cells #[.int .i64 (hi)] 3), (wr.heap.size + 1 + 1 + 1, .cells #[.slice (some ⟨tb, tof, none⟩) s.things.length tc, .slice la s.lots.length lc] 25), (wr.heap.size + 1 + 1 + 1 + 1, .cells #[.int .i64 0] 3), (Bx, .cells #[.string nm, .int .i64 kd, .int .i64 lm, .int .i64 wk, .int .i64 fade] 62)] w') ∧ (D 12 = true → Bs wr [(wr.heap.size, .cells #[.pointer (some ⟨g k, 0, none⟩)] 106), (wr.heap.size + 1, .cells #[.int .i64 (lo - wk * m2)] 3), (wr.heap.size + 1 + 1, .cells #[.int .i64 (hi - wk * m1)] 3), (wr.heap.size + 1 + 1 + 1, .cells #[.slice (some ⟨tb, tof, none⟩) s.things.length tc, .slice la s.lots.length lc] 25), (wr.heap.size + 1 + 1 + 1 + 1, .cells #[.int .i64 0] 3), (Bx, .cells #[.string nm, .int .i64 kd, .int .i64 lm, .int .i64 wk, .int .i64 fade] 62)] w') ∧ HiK w5.heap.size W w') ⟨fun _ => HC2.out.drew, fun h => (by cases h), HK2.out.trans (HiK.drew _ _)⟩ ?_
      iterate 12
        (apply obl_detIn
         case hrun =>
           intro D y wz hW hD R hR
           have HRR := Lib.hid hR
           clear hR
           have h12 : D 12 = false := hD.post _ 12 rfl (by kernel_rfl)
           have CZ := hW.1 h12
           have z0 := CZ.cell 0 rfl 0
           have z1 := CZ.cell 2 rfl 0
           have z2 := CZ.cell 5 rfl 3
           have z3 := (CZ.bel.cell (p := ⟨g k, 5 + xv * 2, none⟩) hgk2).trans HQL.out
           have hgz := Nat.lt_of_lt_of_le hgk2 CZ.bel.size
           have HW := Lib.hid hW
           clear hW hD h12 CZ
           gi_wp2_with fail
           exact HRR.out _ HW.out
         case hnp => rfl
         case hv => first | exact ⟨_, fun _ => rfl⟩ | exact ⟨undef, fun _ => rfl⟩)
      apply obl_detIn
      case hrun =>
        intro D y wz hW hD R hR
        have HRR := Lib.hid hR
        clear hR
        have h12 : D 12 = false := hD.not
        have CZ := Lib.hid (hW.1 h12)
        have HZK := Lib.hid hW.2.2
        clear hW hD h12
        refine wpListIn_cell_bb rfl 3 _ _ rfl CZ.out 2 (wr.heap.size + 1 + 1) 0 _ 3 rfl rfl (.int .i64 (hi - wk * m1)) rfl (by simp) rfl info3 ?_
        intro w6 C6 hb6
        have HC6 := Lib.hid C6
        have HZ6 := Lib.hid (HZK.out.trans (HiK.but hb6 (by omega)))
        clear C6 hb6
        gi_wp2_with fail
        exact HRR.out _ ⟨fun h => (by cases h), fun _ => HC6.out, HZ6.out⟩
      case hnp => rfl
      case hv => first | exact ⟨_, fun _ => rfl⟩ | exact ⟨undef, fun _ => rfl⟩
      apply obl_nilIn
      intro D y w8 hall hW
      have HC3 := Lib.hid (hW.2.1 (hall 12 (by decide)))
      have HK3 := Lib.hid hW.2.2
      clear hW hall
      simp only [Exit.inBlock]
      refine ⟨⟨HK3.out.size, fun q o hq hqo _ => (HK3.out.same q hq (block_lt hqo)).trans hqo⟩, ⟨HK3.out.size, fun q cs tt fr hq hqo => (HK3.out.same q hq (block_lt hqo)).trans hqo, ?_, ?_⟩, ?_⟩
      · exact (HC3.out.bel.block tb (by omega)).trans (HI.out.bel.block tb (by omega)).symm
      · exact (HC3.out.get 4 rfl).trans (HI.out.get 4 rfl).symm
      · show Bs wr _ w8
        rw [HSN1.out, HSN2.out, ← Int.sub_sub, ← Int.sub_sub, HLO.out, HHI.out]
        exact HC3.out.sub _ (List.sublist_append_left [_, _, _, _, _] [_])
    case done =>
      intro Dm xs W hD hS hI hDW
      have HI := Lib.hid hI
      have HDW := Lib.hid hDW
      have HS1 : Hid (sumK s l k true xs = weakS s (fun t => (micV s l k t).2) s.things.length) := by rw [hS]; exact sumK_all HOK.out.sh l k true
      have HS2 : Hid (sumK s l k false xs = weakS s (fun t => (micV s l k t).1) s.things.length) := by rw [hS]; exact sumK_all HOK.out.sh l k false
      have hb1 := sumK_bound HOK.out.sh HMI.out true xs
      have hb2 := sumK_bound HOK.out.sh HMI.out false xs
      have hxl : (xs.length : Int) ≤ 5 := by rw [hS, List.length_map]; have := filtK_length s.things 0 s.things.length; omega
      clear hI hDW hS
      obtain ⟨lo, hlo⟩ : ∃ q, 1000 * (1000 * wt) - sumK s l k true xs = q := ⟨_, rfl⟩
      obtain ⟨hi, hhi⟩ : ∃ q, 1000 * (1000 * wt) - sumK s l k false xs = q := ⟨_, rfl⟩
      have hlo1 : -1000000000000000 ≤ lo ∧ lo ≤ 2000000000000 := by omega
      have hhi1 : -1000000000000000 ≤ hi ∧ hi ≤ 2000000000000 := by omega
      have HLO := Lib.hid hlo
      have HHI := Lib.hid hhi
      rw [hlo, hhi] at HI
      clear hlo hhi hb1 hb2
      have HROW := Lib.hid (ownsRow.below HT.out HI.out.bel)
      have HWL1 : Hid (W1 ≤ W.heap.size) := Nat.le_trans HW1.out HI.out.bel.size
      have hw0 : 0 < 1000 * wt := by omega
      have y1 := HI.out.cell 1 rfl 0
      have y2 := HI.out.cell 2 rfl 0
      gi_wp2_with fail
      have hwz : ¬ 1000 * wt = 0 := by omega
      have ht1 : (hi + 1000 * wt - 1).natAbs ≤ 10000000000000000 := by omega
      refine wpIn_region_inv1C (by kernel_rfl) (by kernel_rfl) [79, 80, 4] (fun D y w' => AppX W (W1) 51 2 (tv) (k) ((spCells ((List.range k).map fun k => pullOf s (l.getD k default) ((rangesV s l).getD k [])))) [.int .i64 (max 0 lo / (1000 * wt)), .int .i64 ((max 0 hi + 1000 * wt - 1) / (1000 * wt))] (D 13) (D 14) (y 79) (y 80) w' ∧ (D 15 = false → y 4 = tv) ∧ (D 15 = true → y 4 = y 80) ∧ (D 13 = false → w'.heap = W.heap) ∧ NonK W w') ?_ ?F2 ?hF2 ?_
      · exact ⟨AppX.start HROW.out HWL1.out, fun _ => rfl, fun h => (by cases h), fun _ => rfl, NonK.drew _⟩
      case hF2 =>
        intro y
        simp only [fill, List.foldl, Act.put, List.setIfInBounds_toArray, List.set]
        exact rfl
      apply obl_detIn
      case hrun =>
        intro D y wz hW hD R hR
        obtain ⟨hC, hW⟩ := hW
        replace hR := fun w' h => hR w' ⟨hC.step hD, h⟩
        have HRR := Lib.hid hR
        clear hR
        have h15 : D 15 = false := hD.post _ 15 rfl (by kernel_rfl)
        refine wpListIn_mv rfl _ rfl (tv) (hW.2.1 h15) ?_
        have HW := Lib.hid hW
        clear hW hD hC
        gi_wp2
        exact HRR.out _ HW.out
      case hnp => rfl
      case hv => first | exact ⟨_, fun _ => rfl⟩ | exact ⟨undef, fun _ => rfl⟩
      iterate 12
        (apply obl_detIn
         case hrun =>
           intro D y wz hW hD R hR
           obtain ⟨hC, hW⟩ := hW
           replace hR := fun w' h => hR w' ⟨hC.step hD, h⟩
           have HRR := Lib.hid hR
           clear hR
           have HW := Lib.hid hW
           first
             | (have h13 : D 13 = false := hC.up 13 12 _ rfl (by kernel_rfl) (hC.up 12 4 _ rfl (by kernel_rfl) (hC.up 4 2 _ rfl (by kernel_rfl) (hC.up 2 1 _ rfl (by kernel_rfl) hD.not)))
                have z1 := (World.cell?_of_block (a := ⟨wr.heap.size + 1, 0, none⟩) (by rw [hW.2.2.2.1 h13])).trans y1
                clear h13)
             | (have h13 : D 13 = false := hC.up 13 12 _ rfl (by kernel_rfl) (hC.up 12 11 _ rfl (by kernel_rfl) (hC.up 11 9 _ rfl (by kernel_rfl) (hC.up 9 8 _ rfl (by kernel_rfl) (hC.up 8 6 _ rfl (by kernel_rfl) (hC.up 6 5 _ rfl (by kernel_rfl) hD.not)))))
                have z2 := (World.cell?_of_block (a := ⟨wr.heap.size + 1 + 1, 0, none⟩) (by rw [hW.2.2.2.1 h13])).trans y2
                clear h13)
             | skip
           clear hW hD hC
           gi_wp2
           exact HRR.out _ HW.out
         case hnp => rfl
         case hv => first | exact ⟨_, fun _ => rfl⟩ | exact ⟨undef, fun _ => rfl⟩)
      apply obl_privIn 79
      case hd => rfl
      case hp => rfl
      case hrun =>
        intro D y wz hW hD R hR
        obtain ⟨hC, hW⟩ := hW
        replace hR := fun x w' h => hR x w' ⟨hC.step hD, h⟩
        have HRR := Lib.hid hR
        clear hR
        have h13 : D 13 = false := hD.not
        have h14 : D 14 = false := hD.post _ 14 rfl (by kernel_rfl)
        have hA := hW.1
        rw [h13, h14] at hA
        have HA := Lib.hid hA.laid
        have HV := Lib.hid hW.2
        have H14 := Lib.hid h14
        clear hA hC hW hD h13 h14
        gi_wp2
        refine HRR.out (.slice (some ⟨wz.heap.size, 0, none⟩) 1 1) _ ?_
        show AppX W (W1) 51 2 (tv) (k) ((spCells ((List.range k).map fun k => pullOf s (l.getD k default) ((rangesV s l).getD k [])))) [.int .i64 (max 0 lo / (1000 * wt)), .int .i64 ((max 0 hi + 1000 * wt - 1) / (1000 * wt))] true (D 14) (.slice (some ⟨wz.heap.size, 0, none⟩) 1 1) (y 80) _ ∧ (D 15 = false → y 4 = tv) ∧ (D 15 = true → y 4 = y 80) ∧ _
        rw [H14.out]
        exact ⟨HA.out, HV.out.1, HV.out.2.1, fun h => (by cases h), HV.out.2.2.2.trans (NonK.below ((Below.refl _ _).alloc (Nat.le_refl _) _))⟩
      apply obl_privIn 80
      case hd => rfl
      case hp => rfl
      case hrun =>
        intro D y wz hW hD R hR
        obtain ⟨hC, hW⟩ := hW
        replace hR := fun x w' h => hR x w' ⟨hC.step hD, h⟩
        have HRR := Lib.hid hR
        clear hR
        have h14 : D 14 = false := hD.not
        have h13 : D 13 = true := hD.pre _ 13 rfl (by kernel_rfl)
        have h15 : D 15 = false := hD.post _ 15 rfl (by kernel_rfl)
        have hA := hW.1
        rw [h13, h14] at hA
        have HA := Lib.hid hA
        have HV := Lib.hid (hW.2.1 h15)
        have HN := Lib.hid hW.2.2.2.2
        have H13 := Lib.hid h13
        have H15 := Lib.hid h15
        have hbase := hA.le
        have ho := hA.row rfl
        obtain ⟨g, hyb, hgc⟩ := hA.lay rfl rfl
        clear hA hC hW hD h13 h14 h15
        obtain ⟨i0, hi0, hz0, hz1, hz2⟩ := info51'
        refine wpListIn_append_own wz rfl _ _ 54 rfl (W1) 51 i0 (.agg #[.int .i64 0, .int .i64 0]) 2 16 Try.underlying54 hi0 hz0 hz1 hz2 rfl (by decide) _ _ _ rfl ho ⟨g, 0, none⟩ 1 1 [.int .i64 (max 0 lo / (1000 * wt)), .int .i64 ((max 0 hi + 1000 * wt - 1) / (1000 * wt))] hyb rfl (cell_news _ _ _ _ hgc) (two_ints _ _) (by unfold maxLen; omega) (by omega) (by omega) ?_
        intro v' w12 hown12 hgrow12 _
        have HA2 := Lib.hid (HA.out.got hown12 hgrow12)
        have HN2 := Lib.hid (HN.out.trans (NonK.grown ho hgrow12))
        clear ho hgc hown12 hgrow12 hi0 hz0 hz1 hz2 hyb
        gi_wp2
        refine HRR.out v' _ ?_
        show AppX W (W1) 51 2 (tv) (k) ((spCells ((List.range k).map fun k => pullOf s (l.getD k default) ((rangesV s l).getD k [])))) [.int .i64 (max 0 lo / (1000 * wt)), .int .i64 ((max 0 hi + 1000 * wt - 1) / (1000 * wt))] (D 13) true (y 79) v' _ ∧ (D 15 = false → y 4 = tv) ∧ (D 15 = true → y 4 = v') ∧ _
        rw [H13.out]
        exact ⟨HA2.out, fun _ => HV.out, fun h => (by rw [H15.out] at h; cases h), fun h => (by simp at h), HN2.out⟩
      apply obl_privIn 4
      case hd => rfl
      case hp => rfl
      case hrun =>
        intro D y wz hW hD R hR
        obtain ⟨hC, hW⟩ := hW
        replace hR := fun x w' h => hR x w' ⟨hC.step hD, h⟩
        have HRR := Lib.hid hR
        clear hR
        have HA := Lib.hid hW.1
        have HN := Lib.hid hW.2.2.2.2
        have H13 := Lib.hid (hD.pre _ 13 rfl (by kernel_rfl) : D 13 = true)
        clear hW hD hC
        gi_wp2
        refine HRR.out (y 80) _ ?_
        show AppX W (W1) 51 2 (tv) (k) ((spCells ((List.range k).map fun k => pullOf s (l.getD k default) ((rangesV s l).getD k [])))) [.int .i64 (max 0 lo / (1000 * wt)), .int .i64 ((max 0 hi + 1000 * wt - 1) / (1000 * wt))] (D 13) (D 14) (y 79) (y 80) _ ∧ (true = false → y 80 = tv) ∧ (true = true → y 80 = y 80) ∧ _
        exact ⟨HA.out, fun h => (by cases h), fun _ => rfl, fun h => (by have h2 : D 13 = false := (Bool.or_eq_false_iff.1 h).2; rw [H13.out] at h2; cases h2), HN.out⟩
      apply obl_nilIn
      intro D y w8 hall hW
      replace hW := hW.2
      have HN8 := Lib.hid hW.2.2.2.2
      have h14 := hall 14 (by decide)
      have hy := hW.2.2.1 (hall 15 (by decide))
      have hA := hW.1
      rw [h14] at hA
      have HO8 := Lib.hid (hA.new rfl)
      have C8 := Lib.hid hA.bel
      clear hA hW hall h14
      rw [hy]
      clear hy
      generalize y 80 = yv at HO8 ⊢
      generalize y 79 = yb at ⊢
      simp only [Exit.inBlock, Exit.then]
      gi_wp2_with fail
      have GIVE : ∀ a : Act, a = { tmps := #[.agg #[.slice (some ⟨tb, tof, none⟩) s.things.length tc, .slice la s.lots.length lc], .slice va l.length vc, .pointer (some ⟨w.heap.size, 0, none⟩), undef, yv, .int .i64 0, .slice (some ⟨pb, 0, none⟩) l.length rc, undef, (a.tmps.getD 8 undef), (a.tmps.getD 9 undef), (a.tmps.getD 10 undef), (a.tmps.getD 11 undef), (a.tmps.getD 12 undef), (a.tmps.getD 13 undef), .tuple #[.slice (some ⟨pb, 0, none⟩) l.length rc, .int .i64 0], .agg #[.slice (some ⟨tb, tof, none⟩) s.things.length tc, .slice la s.lots.length lc], .slice va l.length vc, .tuple #[.slice (some ⟨pb, 0, none⟩) l.length rc, .int .i64 0], .slice (some ⟨pb, 0, none⟩) l.length rc, .int .i64 0, .int .i64 0, .bool false, undef, .slice (some ⟨pb, 0, none⟩) l.length rc, .int .i64 l.length, .int .i64 ((k : Int) + 1), (a.tmps.getD 26 undef), (a.tmps.getD 27 undef), (a.tmps.getD 28 undef), (a.tmps.getD 29 undef), (a.tmps.getD 30 undef), (a.tmps.getD 31 undef), (a.tmps.getD 32 undef), (a.tmps.getD 33 undef), (a.tmps.getD 34 undef), (a.tmps.getD 35 undef), (a.tmps.getD 36 undef), (a.tmps.getD 37 undef), (a.tmps.getD 38 undef), (a.tmps.getD 39 undef), (a.tmps.getD 40 undef), (a.tmps.getD 41 undef), (a.tmps.getD 42 undef), (a.tmps.getD 43 undef), (a.tmps.getD 44 undef), (a.tmps.getD 45 undef), (a.tmps.getD 46 undef), (a.tmps.getD 47 undef), (a.tmps.getD 48 undef), (a.tmps.getD 49 undef), (a.tmps.getD 50 undef), (a.tmps.getD 51 undef), (a.tmps.getD 52 undef), (a.tmps.getD 53 undef), (a.tmps.getD 54 undef), (a.tmps.getD 55 undef), (a.tmps.getD 56 undef), (a.tmps.getD 57 undef), (a.tmps.getD 58 undef), (a.tmps.getD 59 undef), (a.tmps.getD 60 undef), (a.tmps.getD 61 undef), (a.tmps.getD 62 undef), (a.tmps.getD 63 undef), (a.tmps.getD 64 undef), (a.tmps.getD 65 undef), (a.tmps.getD 66 undef), (a.tmps.getD 67 undef), (a.tmps.getD 68 undef), (a.tmps.getD 69 undef), (a.tmps.getD 70 undef), (a.tmps.getD 71 undef), (a.tmps.getD 72 undef), (a.tmps.getD 73 undef), (a.tmps.getD 74 undef), (a.tmps.getD 75 undef), (a.tmps.getD 76 undef), (a.tmps.getD 77 undef), (a.tmps.getD 78 undef), (a.tmps.getD 79 undef), (a.tmps.getD 80 undef), (a.tmps.getD 81 undef), undef], defers := { target := Target.collected Dm, args := #[] } :: ds } → (∃ (k : Nat) (tv : Value) (us : Nat → Value) (ds : List Deferred), a = { tmps := #[.agg #[.slice (some ⟨tb, tof, none⟩) s.things.length tc, .slice la s.lots.length lc], .slice va l.length vc, .pointer (some ⟨w.heap.size, 0, none⟩), undef, tv, .int .i64 0, .slice (some ⟨pb, 0, none⟩) l.length rc, undef, us 8, us 9, us 10, us 11, us 12, us 13, .tuple #[.slice (some ⟨pb, 0, none⟩) l.length rc, .int .i64 0], .agg #[.slice (some ⟨tb, tof, none⟩) s.things.length tc, .slice la s.lots.length lc], .slice va l.length vc, .tuple #[.slice (some ⟨pb, 0, none⟩) l.length rc, .int .i64 0], .slice (some ⟨pb, 0, none⟩) l.length rc, .int .i64 0, .int .i64 0, .bool false, undef, .slice (some ⟨pb, 0, none⟩) l.length rc, .int .i64 l.length, .int .i64 k, us 26, us 27, us 28, us 29, us 30, us 31, us 32, us 33, us 34, us 35, us 36, us 37, us 38, us 39, us 40, us 41, us 42, us 43, us 44, us 45, us 46, us 47, us 48, us 49, us 50, us 51, us 52, us 53, us 54, us 55, us 56, us 57, us 58, us 59, us 60, us 61, us 62, us 63, us 64, us 65, us 66, us 67, us 68, us 69, us 70, us 71, us 72, us 73, us 74, us 75, us 76, us 77, us 78, us 79, us 80, us 81, undef], defers := ds } ∧ k ≤ l.length ∧ Below W1 w1 w8 ∧ W1 ≤ w8.heap.size ∧
    w8.ownsRow W1 51 2 tv k (spCells ((List.range k).map fun k => pullOf s (l.getD k default) ((rangesV s l).getD k []))) ∧ MarksOk W1 ds w8) := by
        intro a ha
        refine ⟨k + 1, yv, fun i => a.tmps.getD i undef, _, ha, by omega, HBk.out.trans ((HI.out.bel.mono HW1.out).trans C8.out), Nat.le_trans HWL1.out C8.out.size, ?_, MarksOk.more HM.out (HN8.out _ _ HDW.out rfl) (Nat.le_trans HW1.out (by omega)) (by omega) ((NonK.below HI.out.bel).trans HN8.out)⟩
        have e : pullOf s (l.getD k default) ((rangesV s l).getD k []) = (max 0 lo / (1000 * wt), (max 0 hi + 1000 * wt - 1) / (1000 * wt)) := by
          unfold pullOf
          rw [HWT.out, ← HLO.out, ← HHI.out, HS1.out, HS2.out]
          rfl
        rw [List.range_succ, List.map_append, List.map_singleton, spCells_snoc, e]
        exact HO8.out
      refine ⟨GIVE _ rfl, ?_⟩
      show l.length - ((k : Int) + 1).toNat < l.length - (k : Int).toNat
      omega
  · obtain rfl : k = l.length := by omega
    gi_wp2_with fail
    refine leaves_marks (B := W1) HM.out (fun w' hck => ?_)
    simp only [LeavesInM, LeavesIn]
    refine ⟨.tuple #[tv, .int .i64 0], by rw [results_tmp2 (fn := Try.f31) rfl]; rfl, _, rfl, ?_, HB1.out.trans ((HBk.out.trans hck.bel).mono (by rw [← HWW.out]; exact HB1.out.size))⟩
    rw [HCV.out, if_neg (fun h => h (by first | rfl | trivial))]
    have hrow := ownsRow.keepC HT.out hck.cells
    refine ownsRow_spans (base := W1) ?_ (by simp; omega)
    rw [List.length_map, List.length_range]
    exact hrow
end Go.Proofs.Ytaigbhhmmdfdcaa
