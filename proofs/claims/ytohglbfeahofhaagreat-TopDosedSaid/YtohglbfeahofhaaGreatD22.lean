/- blend.Cheapest at the example. -/
import Derived.Deep.Cut
import Derived.Deep.CutBlock
import Derived.Test.YtohglbfeahofhaaGreatD21
namespace Go.Proofs.YtohglbfeahofhaaGreat
open Go.RowKit Go.Shelf
attribute [local go_sem] Oper.semAt_some
def priceX (x : List Int) : Int := sumG gPrice (exL.zip x) (exL.zip x).length
def bestStep (b : Option (List Int) × Int) (x : List Int) : Option (List Int) × Int :=
  match b.1 with
  | none => (some x, priceX x)
  | some _ => if priceX x < b.2 then (some x, priceX x) else b
def bestTo (l : List (List Int)) : Option (List Int) × Int := l.foldl bestStep (none, 0)
theorem bestTo_snoc (l : List (List Int)) (x : List Int) : bestTo (l ++ [x]) = bestStep (bestTo l) x := by unfold bestTo; rw [List.foldl_append]; rfl
theorem best_ex : bestTo fitL = (some [4, 15, 1], 8200) := by kernel_rfl
def BestAt (lo r : Nat) (W : World) (v : Value) : Option (List Int) → Prop
  | none => v = .slice none 0 0
  | some x => RowAt lo r W v x
theorem BestAt.cells {lo r : Nat} {W W' : World} {v : Value} {b : Option (List Int)} (h : BestAt lo r W v b) (hb : ∀ k cs t, r ≠ k → lo ≤ k → W.heap[k]? = some (Obj.cells cs t) → W'.heap[k]? = some (Obj.cells cs t)) : BestAt lo r W' v b := by
  cases b with
  | none => exact h
  | some x => exact RowAt.cells h hb
/-- What holds between the rounds. -/
structure ChI (w : World) (a : Option Addr) (cap r : Nat) (pre : List Rec) (W : World) : Prop where
  bel : Below w.heap.size w W
  sz : w.heap.size + 4 ≤ W.heap.size
  l : W.heap[w.heap.size]? = some (.cells #[.slice a 3 cap] 22)
  v : ∃ v, W.heap[w.heap.size + 2]? = some (.cells #[v] 30) ∧ BestAt (w.heap.size + 4) r W v (bestTo (pre.map Subtype.val)).1
  n : W.heap[w.heap.size + 3]? = some (.cells #[.int .i64 (bestTo (pre.map Subtype.val)).2] 3)
theorem ChI.stab {w : World} {a : Option Addr} {cap r : Nat} (hr : w.heap.size + 4 ≤ r) (pre : List Rec) : StabR r (ChI w a cap r pre) := by
  intro W W' h hb
  have k := fun {b : Nat} {o : Obj} (e : b ≠ r) (hh : W.heap[b]? = some o) => (hb.block b (block_lt hh) e).trans hh
  obtain ⟨v, h1, h2⟩ := h.v
  exact ⟨h.bel.trans (hb.below (by omega) (by have := h.sz; omega)), Nat.le_trans h.sz hb.size, k (by omega) h.l, ⟨v, k (by omega) h1, h2.cells fun _ _ _ e _ hh => k (Ne.symm e) hh⟩, k (by omega) h.n⟩
theorem ChI.turn {w : World} {a : Option Addr} {cap r B : Nat} (hB : w.heap.size ≤ B) (pre : List Rec) : TurnyR B (ChI w a cap r pre) := by
  intro W l o o' hl h hh hc
  have k := fun {b : Nat} {cs : Array Value} {t : TypeId} (hq : W.heap[b]? = some (.cells cs t)) => cells_turnF (o' := o') hh hc b cs t hq
  obtain ⟨v, h1, h2⟩ := h.v
  exact ⟨h.bel.trans ⟨rfl, rfl, rfl, by simp [World.putObj], fun q hq => World.putObj_heap_other (by omega)⟩, by simp [World.putObj]; exact h.sz, k h.l, ⟨v, k h1, h2.cells fun _ _ _ _ _ hq => k hq⟩, k h.n⟩
theorem fit_all : (fitL.all fun x => decide (x.length = 3) && (List.range 3).all fun i => decide (0 ≤ x.getD i 0 ∧ x.getD i 0 ≤ 20)) = true := by kernel_rfl
theorem rec_R3 (x : Rec) : R3 x.1 := by
  have h := List.all_eq_true.1 fit_all x.1 x.2
  rw [Bool.and_eq_true, decide_eq_true_eq] at h
  exact ⟨h.1, fun i hi => of_decide_eq_true (List.all_eq_true.1 h.2 i (List.mem_range.2 hi))⟩
theorem bestStep_none {b : Option (List Int) × Int} (h : b.1 = none) (x : List Int) : bestStep b x = (some x, priceX x) := by unfold bestStep; rw [h]
theorem bestStep_less {b : Option (List Int) × Int} (x : List Int) (hl : priceX x < b.2) : bestStep b x = (some x, priceX x) := by
  unfold bestStep
  cases b.1 with
  | none => rfl
  | some y => simp only; rw [if_pos hl]
theorem bestStep_not {b : Option (List Int) × Int} {y : List Int} (h : b.1 = some y) (x : List Int) (hl : ¬ priceX x < b.2) : bestStep b x = b := by unfold bestStep; rw [h]; simp only; rw [if_neg hl]
/-- What holds behind the rounds. -/
structure FinC (w : World) (Dm r : Nat) (u : Value) (W : World) : Prop where
  bel : Below w.heap.size w W
  sz : w.heap.size + 4 ≤ W.heap.size
  v : W.heap[w.heap.size + 2]? = some (.cells #[u] 30)
  n : W.heap[w.heap.size + 3]? = some (.cells #[.int .i64 8200] 3)
  row : RowAt (w.heap.size + 4) r W u [4, 15, 1]
  d : W.heap[Dm]? = some (.deferred (some []))
theorem FinC.but {w : World} {Dm r b : Nat} {v : Value} {W W' : World} (h : FinC w Dm r v W) (h1 : w.heap.size ≤ b) (h2 : b < w.heap.size + 4) (h3 : w.heap.size + 4 ≤ Dm) (hb : But b W W') (hv : W'.heap[w.heap.size + 2]? = some (.cells #[v] 30)) (hn : W'.heap[w.heap.size + 3]? = some (.cells #[.int .i64 8200] 3)) : FinC w Dm r v W' :=
  ⟨h.bel.trans (hb.below h1 (by have := h.sz; omega)), Nat.le_trans h.sz hb.size, hv, hn, h.row.low (by omega) hb, (hb.block _ (block_lt h.d) (by omega)).trans h.d⟩
theorem FinC.drew {w : World} {Dm r : Nat} {v : Value} {W : World} (h : FinC w Dm r v W) : FinC w Dm r v W.drew := by
  have hb : Below W.heap.size W W.drew := (Below.refl _ W).drew
  exact ⟨h.bel.trans (hb.mono (by have := h.sz; omega)), Nat.le_trans h.sz hb.size, block_keep h.v hb, block_keep h.n hb, h.row.below hb, block_keep h.d hb⟩
set_option maxRecDepth 100000 in
set_option maxHeartbeats 16000000 in
theorem cheapest_ok (v : Value) (pb : Nat) (w : World) (hv : BWaxesIn w.heap.size w v exL) (hp : SpansIn w.heap.size w (.slice (some ⟨pb, 0, none⟩) 3 3) exW) :
    Calls Tryz.prog 21 #[v, .agg (wishC (.slice (some ⟨pb, 0, none⟩) 3 3))] w fun e w' => ∃ v, e = .returned (.tuple #[v, .int .i64 8200, .int .i64 0]) ∧ IntsIn .i64 w'.heap.size w' v [4, 15, 1] ∧ Below w.heap.size w w' := by
  obtain ⟨a, cap, rfl, hcap, -⟩ := sl_shape hv
  have hl3 : exL.length = 3 := rfl
  have HV := Lib.hid hv
  have HP := Lib.hid hp
  rw [hl3] at HV ⊢
  have HOD := fun v w h1 h2 => Lib.hid (odd_ok v pb w h1 h2)
  clear hv hp hl3 hcap
  have C0 : Hid (Bs w [(w.heap.size, .cells #[.slice a 3 cap] 22), (w.heap.size + 1, .cells (wishC (.slice (some ⟨pb, 0, none⟩) 3 3)) 70), (w.heap.size + 2, .cells #[.slice none 0 0] 30), (w.heap.size + 3, .cells #[.int .i64 0] 3)] _) := Lib.hid (((((Bs.nil w).push _ rfl (.cells #[.slice a 3 cap] 22)).push (w.heap.size + 1) (by simp) (.cells (wishC (.slice (some ⟨pb, 0, none⟩) 3 3)) 70)).push (w.heap.size + 2) (by simp) (.cells #[.slice none 0 0] 30)).push (w.heap.size + 3) (by simp) (.cells #[.int .i64 0] 3))
  have c0 := C0.out.cell 0 rfl 0
  refine (callsIn_wide (n := 9)).1 ?_
  refine callsIn_of_wp_marks Tryz.func21 rfl trivial ?_ rfl
  simp only [Tryz.ntmps21, List.size_toArray, List.length_cons, List.length_nil, Nat.reduceAdd, Nat.reduceSub, Array.replicate_succ, Array.replicate_zero, List.push_toArray, List.append_toArray, List.nil_append, List.cons_append]
  refine wpIn_wide.2 ?_
  go_wp2_with (refine wpList_load_row rfl 70 _ rfl _ rfl _ _ _ _ (C0.out.get 1 rfl) Tryz.underlying70 rfl infoWish ?_)
  refine (HOD _ _ ((HV.out.below C0.out.bel).mono C0.out.bel.size) ((HP.out.below C0.out.bel).mono C0.out.bel.size)).out.mono ?_
  rintro e w1 ⟨rfl, hb⟩
  have C1 := Lib.hid (C0.out.call hb)
  clear hb C0 HOD c0
  have c0 := C1.out.cell 0 rfl 0
  go_wp2_with (refine wpList_load_row rfl 70 _ rfl _ rfl _ _ _ _ (C1.out.get 1 rfl) Tryz.underlying70 rfl infoWish ?_)
  refine (fitting_any a cap pb _).mono ?_
  rintro e w4 ⟨rfl, hw4⟩
  have C4 : Hid (Bs w ([(w.heap.size, .cells #[.slice a 3 cap] 22), (w.heap.size + 1, .cells (wishC (.slice (some ⟨pb, 0, none⟩) 3 3)) 70), (w.heap.size + 2, .cells #[.slice none 0 0] 30), (w.heap.size + 3, .cells #[.int .i64 0] 3)] ++ [(w1.heap.size, .cells #[.slice a 3 cap] 22)] ++ [(w1.heap.size + 1, .cells (wishC (.slice (some ⟨pb, 0, none⟩) 3 3)) 70)]) w4) := by
    rw [hw4]
    exact (C1.out.push _ rfl (.cells #[.slice a 3 cap] 22)).push (w1.heap.size + 1) (by simp) (.cells (wishC (.slice (some ⟨pb, 0, none⟩) 3 3)) 70)
  have HZ4 : Hid (w4.heap.size = w1.heap.size + 2) := by unfold Hid; rw [hw4]; simp
  have HZ1 : Hid (w.heap.size + 4 ≤ w1.heap.size) := C1.out.lt 3 rfl
  clear hw4 C1 c0
  simp only [List.cons_append, List.nil_append] at C4
  go_wp2_with fail
  have HGV := Lib.hid (fit_gives 8 w.heap.size w1.heap.size (w1.heap.size + 1) pb (fun k => k = w.heap.size + 2 ∨ k = w.heap.size + 3) a cap w4 (C4.out.get 4 rfl) (C4.out.get 5 rfl) C4.out.bel.size (by have := HZ1.out; omega) (by have := HZ1.out; omega) (fun k hk => by have := HZ1.out; have := HZ4.out; omega) (HV.out.below C4.out.bel) (HP.out.below C4.out.bel))
  have HZ5 : Hid (w.heap.size + 6 ≤ w4.heap.size) := by unfold Hid; rw [HZ4.out]; have := HZ1.out; omega
  have HI0 : Hid (∀ r, w4.heap.size ≤ r → ChI w a cap r [] w4) := fun r _ => ⟨C4.out.bel, by have := HZ5.out; omega, C4.out.get 0 rfl, ⟨_, C4.out.get 2 rfl, rfl⟩, C4.out.get 3 rfl⟩
  clear C4
  refine (wpIn_wide (n := 9)).1 ?_
  refine wpIn_range_row (α := Rec) rfl (by omega) (gf := 90) (lb := #[.pointer (some ⟨w1.heap.size, 0, none⟩), .pointer (some ⟨w1.heap.size + 1, 0, none⟩)]) rfl trivial (enters_of Tryz.func90 (by kernel_rfl) rfl) HGV.out
    (fun h k => FitK.t h k) (FitK.turn (by have := HZ5.out; omega)) (fun _ _ => rfl)
    (fun r pre W => ChI w a cap r pre W) (fun _ _ _ _ => False) (fun r pre hr => ChI.stab (by have := HZ5.out; omega) pre) (fun _ _ _ _ _ _ h _ => h) (fun r pre => ChI.turn (by have := HZ5.out; omega) pre) (fun _ _ _ _ _ _ _ _ h _ _ => h) HI0.out
    (fun r x a' W => a' = { tmps := #[.slice a 3 cap, .agg (wishC (.slice (some ⟨pb, 0, none⟩) 3 3)), .pointer (some ⟨w.heap.size, 0, none⟩), .pointer (some ⟨w.heap.size + 1, 0, none⟩), .pointer (some ⟨w.heap.size + 1 + 1, 0, none⟩), .pointer (some ⟨w.heap.size + 1 + 1 + 1, 0, none⟩), .int .i64 0, .slice (some ⟨r, 0, none⟩) 3 3, undef, .slice a 3 cap, .agg (wishC (.slice (some ⟨pb, 0, none⟩) 3 3)), .int .i64 0, .int .i64 0, .bool false, undef, .slice a 3 cap, .agg (wishC (.slice (some ⟨pb, 0, none⟩) 3 3)), .func (.func 90) #[] #[.pointer (some ⟨w1.heap.size, 0, none⟩), .pointer (some ⟨w1.heap.size + 1, 0, none⟩)], .slice (some ⟨r, 0, none⟩) 3 3, undef, undef, undef, undef, undef, undef, undef, undef, undef, undef, undef, undef, undef, undef, undef, undef, undef, undef], defers := [] } ∧ W.heap[r]? = some (.cells (ints x.1) 3)) (fun r x a' W l o o' h _ hh hc => ⟨h.1, cells_turnF hh hc _ _ _ h.2⟩) ?assign ?body ?done ?stop
  case stop =>
    intro D r c pre W _ _ _ h _
    exact h.elim
  case assign =>
    intro lp r pre x W K hr hI hszV hrow hK
    have HK := Lib.hid hK
    have HI := Lib.hid hI
    have HRW := Lib.hid hrow
    clear hK hI hrow
    gi_wp2_with fail
    exact HK.out _ _ ⟨Nat.le_refl _, fun _ _ _ h _ => h⟩ (FitK.refl _ _ _) HI.out ⟨rfl, HRW.out⟩
  case body =>
    rintro lp r pre x a' W hr hszW hI ⟨rfl, hrow⟩ hlen
    obtain ⟨v, h1, h2⟩ := hI.v
    have HBA := Lib.hid h2
    have HB4 := Lib.hid h1
    have HB5 := Lib.hid hI.n
    have HBL := Lib.hid hI.bel
    have HS := Lib.hid hI.sz
    have HL := Lib.hid hI.l
    have HRW := Lib.hid hrow
    have HR := Lib.hid (rec_R3 x)
    have HSN : Hid (bestTo ((pre ++ [x]).map Subtype.val) = bestStep (bestTo (pre.map Subtype.val)) x.1) := by unfold Hid; rw [List.map_append]; exact bestTo_snoc _ _
    have HPX : Hid (priceX x.1 = sumG gPrice (exL.zip x.1) (exL.zip x.1).length) := rfl
    have hrr : w.heap.size + 6 ≤ r := by have := HZ5.out; omega
    have HRR := Lib.hid hrr
    generalize bestTo (pre.map Subtype.val) = B at *
    obtain ⟨b1, p1⟩ := B
    simp only at HBA HB5
    clear h1 h2 hI hrow hlen hrr
    have c_l := cell_of_row _ _ 0 _ _ _ HL.out
    gi_wp2_with fail
    refine ⟨trivial, (callsIn_wide.2 (blend_ok exL x.1 (by decide) (by decide) HR.out.len _ _ W ((HV.out.below HBL.out).mono HBL.out.size) (intsIn_blk HRW.out rfl (by rw [HR.out.len]; decide) HR.out.len))).mono ?_⟩
    rintro e W1 ⟨rfl, hpp, hb1⟩
    have HPP := Lib.hid hpp
    have HW1 := Lib.hid hb1
    clear hpp hb1 c_l
    gi_wp2_with fail
    refine ⟨trivial, (callsIn_wide.2 (whole_price (exL.zip x.1) (ex_psok HR.out) (by rw [ex_pslen HR.out]; decide) _ W1 HPP.out)).mono ?_⟩
    rintro e W2 ⟨rfl, hb2⟩
    have HW2 : Hid (Below W.heap.size W W2) := HW1.out.trans (hb2.mono HW1.out.size)
    clear hb2 HPP HW1
    rw [← HPX.out]
    obtain ⟨n, HN⟩ : ∃ n, Hid (priceX x.1 = n) := ⟨_, rfl⟩
    rw [HN.out]
    clear HPX
    have c_v : W2.cell? ⟨w.heap.size + 1 + 1, 0, none⟩ = some v := cell_of_row _ _ 0 _ _ _ (block_keep HB4.out HW2.out)
    have c_n : W2.cell? ⟨w.heap.size + 1 + 1 + 1, 0, none⟩ = some (.int .i64 p1) := cell_of_row _ _ 0 _ _ _ (block_keep HB5.out HW2.out)
    cases b1 with
    | none =>
      obtain rfl : v = .slice none 0 0 := HBA.out
      have HST := Lib.hid (bestStep_none (b := (none, p1)) rfl x.1)
      have hnil := fun w : World => Lib.run_eql_slice_nil (P := Tryz.prog) w 30 3 none 0 0 0 0 Tryz.underlying30
      simp only [Option.isNone] at hnil
      rw [HN.out] at HST
      gi_wp2_with fail
      refine ⟨trivial, (callsIn_wide.2 (cloneI_ok x.1 HR.out.len r 3 W2 (block_keep HRW.out HW2.out))).mono ?_⟩
      rintro e W3 ⟨cv, rfl, hrv, hb3⟩
      have HRV := Lib.hid (hrv.lower (lo' := w.heap.size + 4) (Nat.le_trans HS.out HW2.out.size))
      have HW3 : Hid (Below W.heap.size W W3) := HW2.out.trans (hb3.mono HW2.out.size)
      obtain ⟨cg, cc, ccs, rfl, -, -, -, -⟩ := hrv.at'
      clear hrv hb3 c_v c_n HW2
      gi_wp2_with (first | (refine wpListIn_cell_but rfl 30 _ _ rfl (w.heap.size + 2) 0 _ _ (block_keep HB4.out HW3.out) rfl _ rfl (by simp) rfl infoINS ?_; intro W4 hg4 hb4; have HG4 := Lib.hid hg4; have HB4b := Lib.hid hb4; clear hg4 hb4) | (refine wpListIn_cell_but rfl 3 _ _ rfl (w.heap.size + 3) 0 _ _ ((HB4b.out.block _ (block_lt (block_keep HB5.out HW3.out)) (by omega)).trans (block_keep HB5.out HW3.out)) rfl _ rfl (by simp) rfl info3s ?_; intro W5 hg5 hb5; have HG5 := Lib.hid hg5; have HB5b := Lib.hid hb5; clear hg5 hb5))
      try simp only [Exit.inBlock]
      have hs3 := HW3.out.size
      have hss := HS.out
      have hz := HZ5.out
      have hl5 := HB5b.out.size
      have hl4 := HB4b.out.size
      refine ⟨(Keeps.below HW3.out).trans ((Keeps.but HB4b.out (by omega)).trans (Keeps.but HB5b.out (by omega))), (FitK.below HW3.out (by omega)).t ((FitK.but HB4b.out (.inl rfl) (by omega) (by omega)).t (FitK.but HB5b.out (.inr rfl) (by omega) (by omega))), ?_⟩
      refine ⟨HBL.out.trans ((HW3.out.mono (by omega)).trans ((HB4b.out.below (by omega) (by omega)).trans (HB5b.out.below (by omega) (by omega)))), by omega, ?_, ⟨_, (HB5b.out.block _ (block_lt HG4.out) (by omega)).trans HG4.out, ?_⟩, ?_⟩
      · have h3 := block_keep HL.out HW3.out
        have h4 := (HB4b.out.block _ (block_lt h3) (by omega)).trans h3
        exact (HB5b.out.block _ (block_lt h4) (by omega)).trans h4
      · rw [HSN.out, HST.out]
        exact (HRV.out.low (by omega) HB4b.out).low (by omega) HB5b.out
      · rw [HSN.out, HST.out]
        exact HG5.out
    | some y =>
      obtain ⟨yg, yc, ycs, rfl, -, -, -, -⟩ := RowAt.at' HBA.out
      have hnil := fun w : World => Lib.run_eql_slice_nil (P := Tryz.prog) w 30 3 (some ⟨yg, 0, none⟩) 3 yc 0 0 Tryz.underlying30
      simp only [Option.isNone] at hnil
      by_cases hlt : n < p1
      · have HST := Lib.hid (bestStep_less (b := (some y, p1)) x.1 (by rw [HN.out]; exact hlt))
        rw [HN.out] at HST
        gi_wp2_with fail
        refine ⟨trivial, (callsIn_wide.2 (cloneI_ok x.1 HR.out.len r 3 W2 (block_keep HRW.out HW2.out))).mono ?_⟩
        rintro e W3 ⟨cv, rfl, hrv, hb3⟩
        have HRV := Lib.hid (hrv.lower (lo' := w.heap.size + 4) (Nat.le_trans HS.out HW2.out.size))
        have HW3 : Hid (Below W.heap.size W W3) := HW2.out.trans (hb3.mono HW2.out.size)
        obtain ⟨cg, cc, ccs, rfl, -, -, -, -⟩ := hrv.at'
        clear hrv hb3 c_v c_n HW2
        gi_wp2_with (first | (refine wpListIn_cell_but rfl 30 _ _ rfl (w.heap.size + 2) 0 _ _ (block_keep HB4.out HW3.out) rfl _ rfl (by simp) rfl infoINS ?_; intro W4 hg4 hb4; have HG4 := Lib.hid hg4; have HB4b := Lib.hid hb4; clear hg4 hb4) | (refine wpListIn_cell_but rfl 3 _ _ rfl (w.heap.size + 3) 0 _ _ ((HB4b.out.block _ (block_lt (block_keep HB5.out HW3.out)) (by omega)).trans (block_keep HB5.out HW3.out)) rfl _ rfl (by simp) rfl info3s ?_; intro W5 hg5 hb5; have HG5 := Lib.hid hg5; have HB5b := Lib.hid hb5; clear hg5 hb5))
        try simp only [Exit.inBlock]
        have hs3 := HW3.out.size
        have hss := HS.out
        have hz := HZ5.out
        have hl5 := HB5b.out.size
        have hl4 := HB4b.out.size
        refine ⟨(Keeps.below HW3.out).trans ((Keeps.but HB4b.out (by omega)).trans (Keeps.but HB5b.out (by omega))), (FitK.below HW3.out (by omega)).t ((FitK.but HB4b.out (.inl rfl) (by omega) (by omega)).t (FitK.but HB5b.out (.inr rfl) (by omega) (by omega))), ?_⟩
        refine ⟨HBL.out.trans ((HW3.out.mono (by omega)).trans ((HB4b.out.below (by omega) (by omega)).trans (HB5b.out.below (by omega) (by omega)))), by omega, ?_, ⟨_, (HB5b.out.block _ (block_lt HG4.out) (by omega)).trans HG4.out, ?_⟩, ?_⟩
        · have h3 := block_keep HL.out HW3.out
          have h4 := (HB4b.out.block _ (block_lt h3) (by omega)).trans h3
          exact (HB5b.out.block _ (block_lt h4) (by omega)).trans h4
        · rw [HSN.out, HST.out]
          exact (HRV.out.low (by omega) HB4b.out).low (by omega) HB5b.out
        · rw [HSN.out, HST.out]
          exact HG5.out
      · have HST := Lib.hid (bestStep_not (b := (some y, p1)) rfl x.1 (by rw [HN.out]; exact hlt))
        gi_wp2_with fail
        try simp only [Exit.inBlock]
        have hs2 := HW2.out.size
        have hss := HS.out
        refine ⟨Keeps.below HW2.out, FitK.below HW2.out (by omega), ⟨HBL.out.trans (HW2.out.mono (by omega)), by omega, block_keep HL.out HW2.out, ⟨_, block_keep HB4.out HW2.out, ?_⟩, ?_⟩⟩
        · rw [HSN.out, HST.out]
          exact RowAt.below HBA.out HW2.out
        · rw [HSN.out, HST.out]
          exact block_keep HB5.out HW2.out
  case done =>
    intro Dm r xs W hD hr hS hI hDW
    obtain ⟨v, h1, h2⟩ := hI.v
    have hn := hI.n
    rw [hS, best_ex] at h2 hn
    obtain ⟨yg, yc, ycs, rfl, -, -, -, -⟩ := RowAt.at' h2
    have FC : FinC w Dm r (.slice (some ⟨yg, 0, none⟩) 3 yc) W := ⟨hI.bel, hI.sz, h1, hn, h2, hDW⟩
    have HF := Lib.hid FC
    have HDm := Lib.hid hD
    clear h1 h2 hn hI hS FC hDW hD
    have hnil := fun w : World => Lib.run_eql_slice_nil (P := Tryz.prog) w 30 3 (some ⟨yg, 0, none⟩) 3 yc 0 0 Tryz.underlying30
    simp only [Option.isNone] at hnil
    have c_v : W.cell? ⟨w.heap.size + 1 + 1, 0, none⟩ = some (.slice (some ⟨yg, 0, none⟩) 3 yc) := cell_of_row _ _ 0 _ _ _ HF.out.v
    try simp only [Exit.inBlock]
    go_upto_region 11 with fail
    refine wp_region_inv0 (by kernel_rfl) (by kernel_rfl) (fun D w' => FinC w Dm r (.slice (some ⟨yg, 0, none⟩) 3 yc) w') HF.out.drew ?_
    iterate 2
      (apply obl_det
       case hrun =>
         intro D y wz hW hD R hR
         have HRR := Lib.hid hR
         clear hR
         have HW := Lib.hid hW
         have c_v : wz.cell? ⟨w.heap.size + 1 + 1, 0, none⟩ = some (.slice (some ⟨yg, 0, none⟩) 3 yc) := cell_of_row _ _ 0 _ _ _ HW.out.v
         have c_n : wz.cell? ⟨w.heap.size + 1 + 1 + 1, 0, none⟩ = some (.int .i64 8200) := cell_of_row _ _ 0 _ _ _ HW.out.n
         clear hW hD
         go_wp2
         exact HRR.out _ HW.out
       case hnp => rfl
       case hv => first | exact ⟨_, fun _ => rfl⟩ | exact ⟨undef, fun _ => rfl⟩)
    apply obl_det
    case hrun =>
      intro D y wz hW hD R hR
      have HRR := Lib.hid hR
      clear hR
      have HW := Lib.hid hW
      clear hW hD
      refine wpList_cell_but rfl 30 _ _ rfl (w.heap.size + 2) 0 _ _ HW.out.v rfl _ rfl (by simp) rfl infoINS ?_
      intro w' hg' hb'
      have HF3 := Lib.hid (HW.out.but (by omega) (by omega) (by have := HDm.out; have := HZ5.out; omega) hb' hg' ((hb'.block _ (block_lt HW.out.n) (by omega)).trans HW.out.n))
      go_simp
      exact HRR.out _ HF3.out
    case hnp => rfl
    case hv => first | exact ⟨_, fun _ => rfl⟩ | exact ⟨undef, fun _ => rfl⟩
    apply obl_det
    case hrun =>
      intro D y wz hW hD R hR
      have HRR := Lib.hid hR
      clear hR
      have HW := Lib.hid hW
      clear hW hD
      refine wpList_cell_but rfl 3 _ _ rfl (w.heap.size + 3) 0 _ _ HW.out.n rfl _ rfl (by simp) rfl info3s ?_
      intro w' hg' hb'
      have HF3 := Lib.hid (HW.out.but (by omega) (by omega) (by have := HDm.out; have := HZ5.out; omega) hb' ((hb'.block _ (block_lt HW.out.v) (by omega)).trans HW.out.v) hg')
      go_simp
      exact HRR.out _ HF3.out
    case hnp => rfl
    case hv => first | exact ⟨_, fun _ => rfl⟩ | exact ⟨undef, fun _ => rfl⟩
    apply obl_det
    case hrun =>
      intro D y wz hW hD R hR
      have HRR := Lib.hid hR
      clear hR
      have HW := Lib.hid hW
      have c_v : wz.cell? ⟨w.heap.size + 1 + 1, 0, none⟩ = some (.slice (some ⟨yg, 0, none⟩) 3 yc) := cell_of_row _ _ 0 _ _ _ HW.out.v
      have c_n : wz.cell? ⟨w.heap.size + 1 + 1 + 1, 0, none⟩ = some (.int .i64 8200) := cell_of_row _ _ 0 _ _ _ HW.out.n
      clear hW hD
      go_wp2
      exact HRR.out _ HW.out
    case hnp => rfl
    case hv => first | exact ⟨_, fun _ => rfl⟩ | exact ⟨undef, fun _ => rfl⟩
    apply obl_nil
    intro D y w8 hall hW
    have HF2 := Lib.hid hW
    clear hW hall HF c_v
    go_wp2_with fail
    refine leaves_marks (B := w4.heap.size) ⟨⟨Dm, rfl, HDm.out, HF2.out.d, by simp⟩, trivial⟩ (fun w' hck => ?_)
    simp only [LeavesInM, LeavesIn]
    have c_v : w'.cell? ⟨w.heap.size + 2, 0, none⟩ = some (.slice (some ⟨yg, 0, none⟩) 3 yc) := cell_of_row _ _ 0 _ _ _ (hck.cells _ _ _ _ HF2.out.v)
    have c_n : w'.cell? ⟨w.heap.size + 3, 0, none⟩ = some (.int .i64 8200) := cell_of_row _ _ 0 _ _ _ (hck.cells _ _ _ _ HF2.out.n)
    refine ⟨_, results_c2_tmp rfl _ _ _ _ _ _ _ rfl rfl rfl c_v c_n, _, rfl, ?_, HF2.out.bel.trans (hck.bel.mono (by have := HZ5.out; omega))⟩
    exact (HF2.out.row.cells fun _ _ _ _ _ h => hck.cells _ _ _ _ h).ints rfl
end Go.Proofs.YtohglbfeahofhaaGreat
