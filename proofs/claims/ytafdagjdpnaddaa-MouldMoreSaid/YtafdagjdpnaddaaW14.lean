/- mould.Warm. -/
import Derived.Test.YtafdagjdpnaddaaW13
import Derived.Test.YtafdagjdpnaddaaW9
namespace Go.Proofs.Ytafdagjdpnaddaa
open Go.RowKit Go.Shelf
attribute [local go_sem] Oper.semAt_some
section
variable {P : Program} {Fe : Fence} {n : Nat}
/-- A row is stored in the middle of a block. -/
theorem wpListIn_store_midrow {ops : Array Oper} {rest : List Oper} {o : Oper} {a : Act} {w : World} {Q : Exit → Act → World → Prop} (hgd : o.guard = none) (ty : TypeId) (x y : Operand) (ho : o.op = .store ty x y)
    (g off : Nat) (cells : Array Value) (pre rest' : List Value) (t : TypeId) (hg : w.heap[g]? = some (.cells (pre ++ rest').toArray t)) (hoff : pre.length = off) (hx : a.eval x = .pointer (some ⟨g, off, none⟩)) (hy : a.eval y = .agg cells)
    (hi : (P.info? ty).map (·.size) = some cells.size) (hfit : cells.size ≤ rest'.length) (h1 : cells.all (·.oneCell') = true)
    (h : wpListIn Fe n P ops Q rest (a.put o.dst undef) (w.setRow g (pre ++ cells.toList ++ rest'.drop cells.size).toArray)) : wpListIn Fe n P ops Q (o :: rest) a w :=
  wpListIn_plain hgd fun _ hK => by
    subst hoff
    have ht : w.there g pre.length cells.size := by
      intro j hj
      refine ⟨?_, frozen_of_row w g _ _ _ hg⟩
      rw [cell_of_row w g _ _ _ _ hg]
      simp only [List.getElem?_toArray]
      rw [List.getElem?_append_right (by omega), Nat.add_sub_cancel_left]
      simp
      omega
    have hs := run_storeVar_mid (P := P) w g pre.length ty cells ht hi h1
    rw [setCells_row g t _ _ w _ hg, writeAt_list (pre ++ rest') cells.toList pre rest' rfl (by simpa using hfit)] at hs
    unfold Oper.wpIn
    refine And.intro (fun f hf => by simp [Oper.about, ho] at hf) ?_
    rw [Oper.semAt_plain Fe a.eval o (by simp [ho])]
    unfold execOp
    simp only [ho, hx, hy, Instr.storeAt, Instr.sureAddr, Sem.run_bind, Sem.run_pure, Result.andThen_ok, hs]
    exact hK _ _ (by simpa using h)
end
theorem KeepsFrom.row {B X : Nat} (h : X < B) (W : World) (cs : Array Value) : KeepsFrom B W (W.setRow X cs) := ⟨by simp, fun k _ hk e _ => (setRow_other W X k cs (by omega)).trans e⟩
/-- Two rows of eight, one behind the other. -/
def ends2 (A B : List Int) : Array Value := (A.map (Value.int .i64) ++ B.map (Value.int .i64)).toArray
theorem ends2_fst {A B C : List Int} (hA : A.length = 8) (hC : C.length = 8) : ([] ++ (ints C).toList ++ (A.map (Value.int .i64) ++ B.map (Value.int .i64)).drop (ints C).size).toArray = ends2 C B := by
  unfold ends2
  rw [ints_size, hC, List.drop_left' (by simp [hA])]
  simp [ints]
theorem ends2_snd {A B C : List Int} (hB : B.length = 8) (hC : C.length = 8) : (A.map (Value.int .i64) ++ (ints C).toList ++ (B.map (Value.int .i64)).drop (ints C).size).toArray = ends2 A C := by
  unfold ends2
  rw [ints_size, hC, List.drop_eq_nil_of_le (by simp [hB])]
  simp [ints]
theorem ends2_at {A B : List Int} (hA : A.length = 8) (i : Nat) : (i < 8 → (ends2 A B)[i]? = some (.int .i64 (A.getD i 0))) ∧ (i < B.length → (ends2 A B)[8 + i]? = some (.int .i64 (B.getD i 0))) := by
  unfold ends2
  constructor
  · intro h
    simp [List.getElem?_append_left, hA, h, List.getD]
  · intro h
    simp only [List.getElem?_toArray]
    rw [List.getElem?_append_right (by simp [hA])]
    simp [hA, h, List.getD]
theorem Bs.firm {w : World} {l : List (Nat × Obj)} {B : Nat} (hl : ∀ p ∈ l, p.1 < B) (hw : w.heap.size ≤ B) : Firm B (Bs w l) := fun _ _ h hb => h.app hb hl hw
def RetSpE (l : List (Int × Int)) (er : Int) (w : World) (e : Ending) (w' : World) : Prop := ∃ v, e = .returned (.tuple #[v, .int .i64 er]) ∧ OwnSpans w.heap.size w' v l ∧ Below w.heap.size w w'
theorem OwnSpans.mono {base base' : Nat} {w : World} {v : Value} {l : List (Int × Int)} (h : OwnSpans base w v l) (hb : base' ≤ base) : OwnSpans base' w v l := by
  refine ⟨h.1, ?_⟩
  rcases h.2 with h0 | ⟨g, cap, cur, rfl, h1, h2, h3⟩
  · exact .inl h0
  · exact .inr ⟨g, cap, cur, rfl, by omega, h2, h3⟩
theorem OwnSpans.nil (base : Nat) (w : World) : OwnSpans base w (.slice none 0 0) [] := World.ownsRow_nil w base 23 2
set_option maxRecDepth 100000 in
set_option maxHeartbeats 8000000 in
theorem warm_bad (m : Mou) (N : Int) (h : checkE m ≠ 0 ∨ within N 0 600 = false) (w : World) : Calls Try.prog 23 #[.agg #[.int .i64 m.rings, .int .i64 m.give, .int .i64 m.pl, .int .i64 m.ph, .int .i64 m.wl, .int .i64 m.wh, .int .i64 m.set, .int .i64 m.shrink, .int .i64 m.skin, .int .i64 m.fill, .int .i64 m.gap, .int .i64 m.deep], .int .i64 N] w (RetSpE [] (warmV m N).2 w) := by
  obtain ⟨E, hE⟩ : ∃ E, checkE m = E := ⟨_, rfl⟩
  have HE := Lib.hid hE
  have C0 := Lib.hid (((Bs.nil w).push _ rfl (.cells #[.int .i64 m.rings, .int .i64 m.give, .int .i64 m.pl, .int .i64 m.ph, .int .i64 m.wl, .int .i64 m.wh, .int .i64 m.set, .int .i64 m.shrink, .int .i64 m.skin, .int .i64 m.fill, .int .i64 m.gap, .int .i64 m.deep] 25)).push (w.heap.size + 1) (by simp) (.cells #[.int .i64 N] 3))
  by_cases h0 : E = 0
  · subst h0
    have hw : within N 0 600 = false := h.resolve_left (by rw [hE]; simp)
    have HV : Hid ((warmV m N).2 = 7) := by unfold Hid warmV; rw [if_neg (by rw [hE]; simp), if_pos hw]
    have HO : Hid (outB 0 600 [N] = true) := by unfold Hid; rw [out_one, hw]; rfl
    clear hE h hw
    go_enter Try.func23, Try.ntmps23
    go_wp2_with fail
    refine (check_any m _).mono ?_
    rintro e w1 ⟨rfl, hbw⟩
    have C1 := Lib.hid (C0.out.call hbw)
    have c1 := C1.out.cell 1 rfl
    clear hbw C0
    rw [HE.out]
    go_wp2_with fail
    refine (out_r true 0 600 _ HO.out _ _ (intsIn_new' w1 _ rfl [N] (by simp) 1 rfl 1)).mono ?_
    rintro e w2 ⟨rfl, hbw⟩
    have C2 := Lib.hid ((C1.out.alloc _).call hbw)
    clear hbw C1 c1
    go_wp2_with fail
    go_ret2
    exact ⟨_, by rw [HV.out]; rfl, OwnSpans.nil _ _, C2.out.bel⟩
  · have HV : Hid ((warmV m N).2 = E) := by unfold Hid warmV; rw [if_pos (by rw [hE]; exact h0), hE]
    have hz : (E != 0) = true := by simpa using h0
    clear hE h h0
    go_enter Try.func23, Try.ntmps23
    go_wp2_with fail
    refine (check_any m _).mono ?_
    rintro e w1 ⟨rfl, hbw⟩
    have C1 := Lib.hid (C0.out.call hbw)
    clear hbw C0
    rw [HE.out]
    go_wp2_with fail
    go_ret2
    exact ⟨_, by rw [HV.out]; rfl, OwnSpans.nil _ _, C1.out.bel⟩
set_option maxRecDepth 100000 in
set_option maxHeartbeats 8000000 in
theorem warm_good (m : Mou) (hm : Valid m) (N : Nat) (hN : N ≤ 600) (w : World) : Calls Try.prog 23 #[.agg #[.int .i64 m.rings, .int .i64 m.give, .int .i64 m.pl, .int .i64 m.ph, .int .i64 m.wl, .int .i64 m.wh, .int .i64 m.set, .int .i64 m.shrink, .int .i64 m.skin, .int .i64 m.fill, .int .i64 m.gap, .int .i64 m.deep], .int .i64 N] w (RetSpE ((warmL m false N).zip (warmL m true N)) 0 w) := by
  have HM := Lib.hid hm
  have HE := Lib.hid (check_of_valid hm)
  obtain ⟨r, hr⟩ : ∃ r : Nat, m.rings = r := ⟨m.rings.toNat, by have := hm.r1; omega⟩
  have hr1 : 1 ≤ r := by have := hm.r1; omega
  have hr8 : r ≤ 8 := by have := hm.r8; omega
  have HR := Lib.hid hr
  have HO : Hid (outB 0 600 [(N : Int)] = false) := by unfold Hid; rw [out_one, within_iff.2 ⟨by omega, by omega⟩]; rfl
  have C0 := Lib.hid (((Bs.nil w).push _ rfl (.cells #[.int .i64 m.rings, .int .i64 m.give, .int .i64 m.pl, .int .i64 m.ph, .int .i64 m.wl, .int .i64 m.wh, .int .i64 m.set, .int .i64 m.shrink, .int .i64 m.skin, .int .i64 m.fill, .int .i64 m.gap, .int .i64 m.deep] 25)).push (w.heap.size + 1) (by simp) (.cells #[.int .i64 (N : Int)] 3))
  clear hm hr
  refine (callsIn_wide (n := 3)).1 ?_
  refine callsIn_of_wp_marks Try.func23 rfl trivial ?_ rfl
  simp only [Try.ntmps23, List.size_toArray, List.length_cons, List.length_nil, Nat.reduceAdd, Nat.reduceSub, Array.replicate_succ, Array.replicate_zero, List.push_toArray, List.append_toArray, List.nil_append, List.cons_append]
  gi_wp2_with fail
  refine ⟨trivial, (callsIn_wide.2 (check_any m _)).mono ?_⟩
  rintro e w1 ⟨rfl, hbw⟩
  have C1 := Lib.hid (C0.out.call hbw)
  have c1 := C1.out.cell 1 rfl
  clear hbw C0
  rw [HE.out]
  gi_wp2_with fail
  refine ⟨trivial, (callsIn_wide.2 (out_r false 0 600 _ HO.out _ _ (intsIn_new' w1 _ rfl [(N : Int)] (by simp) 1 rfl 1))).mono ?_⟩
  rintro e w2 ⟨rfl, hbw⟩
  have C2 := Lib.hid ((C1.out.alloc _).call hbw)
  have c0 := C2.out.cell 0 rfl
  clear hbw C1 c1
  gi_wp2_with fail
  refine wpIn_world (fun Wk => Bs w ([] ++ [(w.heap.size, .cells #[.int .i64 m.rings, .int .i64 m.give, .int .i64 m.pl, .int .i64 m.ph, .int .i64 m.wl, .int .i64 m.wh, .int .i64 m.set, .int .i64 m.shrink, .int .i64 m.skin, .int .i64 m.fill, .int .i64 m.gap, .int .i64 m.deep] 25)] ++ [(w.heap.size + 1, .cells #[.int .i64 (N : Int)] 3)] ++ [(w2.heap.size, .cells #[.int .i64 m.rings, .int .i64 m.give, .int .i64 m.pl, .int .i64 m.ph, .int .i64 m.wl, .int .i64 m.wh, .int .i64 m.set, .int .i64 m.shrink, .int .i64 m.skin, .int .i64 m.fill, .int .i64 m.gap, .int .i64 m.deep] 85)] ++ [(w2.heap.size + 1, .cells (ends2 (List.replicate 8 0) (List.replicate 8 0)) 92)] ++ [(w2.heap.size + 1 + 1, .cells #[.func (.func 55) #[] #[], .func (.func 56) #[] #[]] 96)]) Wk) ?_ ?_
  · exact ((C2.out.push w2.heap.size rfl (.cells #[.int .i64 m.rings, .int .i64 m.give, .int .i64 m.pl, .int .i64 m.ph, .int .i64 m.wl, .int .i64 m.wh, .int .i64 m.set, .int .i64 m.shrink, .int .i64 m.skin, .int .i64 m.fill, .int .i64 m.gap, .int .i64 m.deep] 85)).push (w2.heap.size + 1) (by simp) (.cells (ends2 (List.replicate 8 0) (List.replicate 8 0)) 92)).push (w2.heap.size + 1 + 1) (by simp) (.cells #[.func (.func 55) #[] #[], .func (.func 56) #[] #[]] 96)
  intro Wk hC
  have CK := Lib.hid hC
  have ck := hC.cell 4 rfl
  have ck3 := hC.cell 2 rfl
  clear hC C2 c0
  have hHP : ∀ (hot : Bool) (k : Nat), (pad (warmL m hot k)).length = 8 := fun hot k => pad_length (by rw [warmL_length, HR.out, Int.toNat_natCast]; exact hr8)
  have HP := hHP
  have HW12 : Hid (w.heap.size + 1 < w2.heap.size) := (List.pairwise_iff_getElem.1 CK.out.inc 1 2 (by simp) (by simp) (by omega))
  clear hHP
  refine wpIn_loop_rounds 3 ?_
  rw [roundsIn_succ]
  have hwk2 : w2.heap.size + 1 + 1 < Wk.heap.size := CK.out.lt 4 rfl
  have hwk3 : w2.heap.size < Wk.heap.size := CK.out.lt 2 rfl
  have hw2 : w.heap.size + 1 < w2.heap.size := HW12.out
  gi_wp2_with fail
  refine ⟨trivial, (callsIn_wide.2 (minutes_f 55 m _)).mono ?_⟩
  rintro e' wy ⟨rfl, rfl⟩
  gi_wp2_with fail
  refine wpIn_world (fun W0 => Bs w ([] ++ [(w.heap.size, .cells #[.int .i64 m.rings, .int .i64 m.give, .int .i64 m.pl, .int .i64 m.ph, .int .i64 m.wl, .int .i64 m.wh, .int .i64 m.set, .int .i64 m.shrink, .int .i64 m.skin, .int .i64 m.fill, .int .i64 m.gap, .int .i64 m.deep] 25)] ++ [(w.heap.size + 1, .cells #[.int .i64 (N : Int)] 3)] ++ [(w2.heap.size, .cells #[.int .i64 m.rings, .int .i64 m.give, .int .i64 m.pl, .int .i64 m.ph, .int .i64 m.wl, .int .i64 m.wh, .int .i64 m.set, .int .i64 m.shrink, .int .i64 m.skin, .int .i64 m.fill, .int .i64 m.gap, .int .i64 m.deep] 85)] ++ [(w2.heap.size + 1, .cells (ends2 (List.replicate 8 0) (List.replicate 8 0)) 92)] ++ [(w2.heap.size + 1 + 1, .cells #[.func (.func 55) #[] #[], .func (.func 56) #[] #[]] 96)] ++ [(Wk.heap.size, .cells #[.int .i64 0] 3)]) W0 ∧ W0.heap[Wk.heap.size + 1]? = some (.cells #[.int .i64 m.rings, .int .i64 m.give, .int .i64 m.pl, .int .i64 m.ph, .int .i64 m.wl, .int .i64 m.wh, .int .i64 m.set, .int .i64 m.shrink, .int .i64 m.skin, .int .i64 m.fill, .int .i64 m.gap, .int .i64 m.deep] 85) ∧ W0.heap[Wk.heap.size + 1 + 1]? = some (.cells #[.func (.func 55) #[] #[]] 96) ∧ W0.heap.size = Wk.heap.size + 3 ∧ True) ?_ ?_
  · have h1 := CK.out.push (Wk.heap.size) rfl (.cells #[.int .i64 0] 3)
    have h2 := (h1.push (Wk.heap.size + 1) (by simp) (.cells #[.int .i64 m.rings, .int .i64 m.give, .int .i64 m.pl, .int .i64 m.ph, .int .i64 m.wl, .int .i64 m.wh, .int .i64 m.set, .int .i64 m.shrink, .int .i64 m.skin, .int .i64 m.fill, .int .i64 m.gap, .int .i64 m.deep] 85)).push (Wk.heap.size + 1 + 1) (by simp) (.cells #[.func (.func 55) #[] #[]] 96)
    exact ⟨h2.sub _ ((List.sublist_append_left _ _).trans (List.sublist_append_left _ _)), h2.get 6 rfl, h2.get 7 rfl, by simp, trivial⟩
  rintro W0 ⟨hC0, hbm, hbo, hsz0, hX0⟩
  have HX0 := Lib.hid hX0
  clear hX0
  have HC0 := Lib.hid hC0
  have HBM := Lib.hid hbm
  have HBO := Lib.hid hbo
  clear hC0 hbm hbo
  refine wpIn_range_firm (α := Mi) rfl (by omega) (gf := 69) (lb := #[.pointer (some ⟨Wk.heap.size + 1, 0, none⟩), .pointer (some ⟨Wk.heap.size + 1 + 1, 0, none⟩)]) rfl trivial (enters_of Try.func69 (by kernel_rfl) rfl)
    (minutes_gives (encM m false) dayM false m HM.out 2 (by omega) 55 (Wk.heap.size + 1) (Wk.heap.size + 1 + 1) rfl W0 (fun k hk => by unfold encM; rw [dayM_val hk]) HBM.out HBO.out)
    (fun h k => MiK.t h k) (MiK.b (by omega) (by omega)) (fun _ => rfl)
    (fun pre W => Bs w ([] ++ [(w.heap.size, .cells #[.int .i64 m.rings, .int .i64 m.give, .int .i64 m.pl, .int .i64 m.ph, .int .i64 m.wl, .int .i64 m.wh, .int .i64 m.set, .int .i64 m.shrink, .int .i64 m.skin, .int .i64 m.fill, .int .i64 m.gap, .int .i64 m.deep] 25)] ++ [(w.heap.size + 1, .cells #[.int .i64 (N : Int)] 3)] ++ [(w2.heap.size, .cells #[.int .i64 m.rings, .int .i64 m.give, .int .i64 m.pl, .int .i64 m.ph, .int .i64 m.wl, .int .i64 m.wh, .int .i64 m.set, .int .i64 m.shrink, .int .i64 m.skin, .int .i64 m.fill, .int .i64 m.gap, .int .i64 m.deep] 85)] ++ [(w2.heap.size + 1, .cells (ends2 (List.replicate 8 0) (List.replicate 8 0)) 92)] ++ [(w2.heap.size + 1 + 1, .cells #[.func (.func 55) #[] #[], .func (.func 56) #[] #[]] 96)] ++ [(Wk.heap.size, .cells #[.int .i64 0] 3)]) W ∧ (∀ x ∈ pre, x.1 ≠ N) ∧ True) (fun c _ W => c = .exit 3 ∧ Bs w ([] ++ [(w.heap.size, .cells #[.int .i64 m.rings, .int .i64 m.give, .int .i64 m.pl, .int .i64 m.ph, .int .i64 m.wl, .int .i64 m.wh, .int .i64 m.set, .int .i64 m.shrink, .int .i64 m.skin, .int .i64 m.fill, .int .i64 m.gap, .int .i64 m.deep] 25)] ++ [(w.heap.size + 1, .cells #[.int .i64 (N : Int)] 3)] ++ [(w2.heap.size, .cells #[.int .i64 m.rings, .int .i64 m.give, .int .i64 m.pl, .int .i64 m.ph, .int .i64 m.wl, .int .i64 m.wh, .int .i64 m.set, .int .i64 m.shrink, .int .i64 m.skin, .int .i64 m.fill, .int .i64 m.gap, .int .i64 m.deep] 85)] ++ [(w2.heap.size + 1, .cells (ends2 (pad (warmL m false N)) (List.replicate 8 0)) 92)] ++ [(w2.heap.size + 1 + 1, .cells #[.func (.func 55) #[] #[], .func (.func 56) #[] #[]] 96)] ++ [(Wk.heap.size, .cells #[.int .i64 0] 3)]) W ∧ True)
    (fun _ _ _ h hb => ⟨Bs.firm (B := W0.heap.size) (by intro p hp; simp at hp; rcases hp with rfl | rfl | rfl | rfl | rfl | rfl <;> simp <;> omega) (by omega) _ _ h.1 hb, h.2.1, trivial⟩) (fun _ _ _ _ h hb => ⟨h.1, Bs.firm (B := W0.heap.size) (by intro p hp; simp at hp; rcases hp with rfl | rfl | rfl | rfl | rfl | rfl <;> simp <;> omega) (by omega) _ _ h.2.1 hb, trivial⟩) ⟨HC0.out, by simp, trivial⟩
    (fun x a' W => ∃ Bx, W0.heap.size ≤ Bx ∧ W.heap[Bx]? = some (.cells (ints (pad (warmL m false x.1))) 87) ∧ a' = { tmps := #[.agg #[.int .i64 m.rings, .int .i64 m.give, .int .i64 m.pl, .int .i64 m.ph, .int .i64 m.wl, .int .i64 m.wh, .int .i64 m.set, .int .i64 m.shrink, .int .i64 m.skin, .int .i64 m.fill, .int .i64 m.gap, .int .i64 m.deep], .int .i64 (N : Int), .pointer (some ⟨w.heap.size, 0, none⟩), .pointer (some ⟨w.heap.size + 1, 0, none⟩), .slice none 0 0, .int .i64 0, .int .i64 0, .pointer (some ⟨w2.heap.size, 0, none⟩), .pointer (some ⟨w2.heap.size + 1, 0, none⟩), .pointer (some ⟨Wk.heap.size, 0, none⟩), .func (.func 55) #[] #[], .int .i64 (x.1 : Int), .pointer (some ⟨Bx, 0, none⟩), .agg #[.int .i64 m.rings, .int .i64 m.give, .int .i64 m.pl, .int .i64 m.ph, .int .i64 m.wl, .int .i64 m.wh, .int .i64 m.set, .int .i64 m.shrink, .int .i64 m.skin, .int .i64 m.fill, .int .i64 m.gap, .int .i64 m.deep], .int .i64 0, .bool false, .int .i64 0, .bool false, undef, .bool false, .int .i64 (N : Int), .slice (some ⟨w1.heap.size, 0, none⟩) 1 1, .bool false, .agg #[.int .i64 m.rings, .int .i64 m.give, .int .i64 m.pl, .int .i64 m.ph, .int .i64 m.wl, .int .i64 m.wh, .int .i64 m.set, .int .i64 m.shrink, .int .i64 m.skin, .int .i64 m.fill, .int .i64 m.gap, .int .i64 m.deep], .agg #[.int .i64 m.rings, .int .i64 m.give, .int .i64 m.pl, .int .i64 m.ph, .int .i64 m.wl, .int .i64 m.wh, .int .i64 m.set, .int .i64 m.shrink, .int .i64 m.skin, .int .i64 m.fill, .int .i64 m.gap, .int .i64 m.deep], .slice (some ⟨w2.heap.size + 1 + 1, 0, none⟩) 2 2, .int .i64 2, .int .i64 0, .bool true, .int .i64 0, .pointer (some ⟨w2.heap.size + 1 + 1, 0, none⟩), .func (.func 55) #[] #[], .agg #[.int .i64 m.rings, .int .i64 m.give, .int .i64 m.pl, .int .i64 m.ph, .int .i64 m.wl, .int .i64 m.wh, .int .i64 m.set, .int .i64 m.shrink, .int .i64 m.skin, .int .i64 m.fill, .int .i64 m.gap, .int .i64 m.deep], .func (.func 55) #[] #[], .func (.func 69) #[] #[.pointer (some ⟨Wk.heap.size + 1, 0, none⟩), .pointer (some ⟨Wk.heap.size + 1 + 1, 0, none⟩)], .int .i64 (x.1 : Int), .agg (ints (pad (warmL m false x.1))), undef, undef, undef, undef, undef, undef, undef, undef, undef, undef, undef, undef, undef, undef, undef, undef, undef, undef], defers := [] })
    (fun x a' W l o o' h _ hl hc => by
      obtain ⟨Bx, h1, h2, h3⟩ := h
      refine ⟨Bx, h1, ?_, h3⟩
      by_cases e : Bx = l
      · subst e
        rw [h2] at hl
        cases hl
        simp [Obj.isCells] at hc
      · exact (World.putObj_heap_other e).trans h2)
    ?assign0 ?body0 ?done0 ?stop0
  case assign0 =>
    rintro l pre x W K hI hszV hK
    have HP8 := Lib.hid (HP false x.1)
    have HK := Lib.hid hK
    have HI := Lib.hid hI
    clear hK hI
    have hz : (W.alloc (.cells (ints (List.replicate 8 0)) 87)).heap[W.heap.size]? = some (.cells (ints (List.replicate 8 0)) 87) := heap_alloc_new W _
    have HZ := Lib.hid hz
    clear hz
    simp only [encM]
    gi_wp2_with (refine wpListIn_store_row rfl 87 _ _ rfl W.heap.size (ints (pad (warmL m false x.1))) rfl rfl 87 _ HZ.out (by rw [ints_size, HP8.out]; exact info87) (by rw [ints_size, ints_size, HP8.out]; rfl) (ints_oneCell _) ?_)
    have hb : Below W.heap.size W ((W.alloc (.cells (ints (List.replicate 8 0)) 87)).setRow W.heap.size (ints (pad (warmL m false x.1)))) := below_setRow ((Below.refl _ _).alloc (Nat.le_refl _) _) (Nat.le_refl _) _
    exact HK.out _ _ ⟨hb.size, fun k o _ hk _ => block_keep hk hb⟩ (MiK.below (by omega) (by omega) hb) ⟨HI.out.1.call hb, HI.out.2.1, trivial⟩ ⟨W.heap.size, hszV, setRow_heap _ _ _ _ _ _ HZ.out, rfl⟩
  case body0 =>
    rintro l pre x a' W hszW ⟨hI, hne, hX⟩ ⟨Bx, hBx, hbx, rfl⟩ hlen
    have HI := Lib.hid hI
    have HBX := Lib.hid hbx
    have HNE := Lib.hid hne
    have HP8 := Lib.hid (HP false x.1)
    have c1 := hI.cell 1 rfl
    have c5 := hI.cell 5 rfl
    have hn1 : 1 ≤ 3 - 1 - 1 := by omega
    clear hI hbx hlen hne
    by_cases hx : x.1 = N
    · have hd : ((x.1 : Int) == (N : Int)) = true := by simp [hx]
      have HX := Lib.hid hx
      clear hx
      gi_wp2_with (first | refine wpListIn_load_row rfl 87 _ rfl _ rfl _ _ _ _ HBX.out Try.underlying87 rfl (by rw [ints_size, HP8.out]; exact info87) ?_ | refine wpListIn_store_midrow rfl 87 _ _ rfl (w2.heap.size + 1) 0 (ints (pad (warmL m false x.1))) [] ((List.replicate 8 0).map (.int .i64) ++ (List.replicate 8 0).map (.int .i64)) 92 (HI.out.get 3 rfl) rfl rfl rfl (by rw [ints_size, HP8.out]; exact info87) (by rw [ints_size, HP8.out]; simp) (ints_oneCell _) ?_; rw [ends2_fst (by simp) HP8.out, HX.out])
      have hB2 := HI.out.setRow 3 rfl (ends2 (pad (warmL m false N)) (List.replicate 8 0))
      exact ⟨KeepsFrom.row (by omega) _ _, rfl, hB2, trivial⟩
    · have hd : ((x.1 : Int) == (N : Int)) = false := by simp; omega
      gi_wp2_with fail
      refine ⟨KeepsFrom.refl _ _, MiK.below (by omega) (by omega) (Below.refl _ _), HI.out, ?_, hX⟩
      intro y hy
      rcases List.mem_append.1 hy with hy | hy
      · exact HNE.out y hy
      · simp at hy; rw [hy]; exact hx
  case done0 =>
    rintro D xs W hD rfl ⟨hI, hne, hX⟩ hK
    exfalso
    have hmem : dayM N ∈ upA dayM 601 := List.mem_map.2 ⟨N, List.mem_range.2 (by omega), rfl⟩
    exact hne _ hmem (dayM_val (by omega))
  rintro D0 c pre W0' hD0 ⟨q, hq, rfl⟩ ⟨rfl, hI, hX⟩ hK0
  have HK0 := Lib.hid hK0
  have HX1 := Lib.hid hX
  have CK := Lib.hid (hI.sub _ (List.sublist_append_left _ _))
  have hsz0' : W0.heap.size ≤ D0 := hD0
  have hDl0 : D0 < W0'.heap.size := block_lt hK0
  clear hI hK0 HC0 HBM HBO hX ck ck3
  refine wpIn_exit ?_
  gi_wp2_with fail
  have ck4 := CK.out.cell 4 rfl
  have ck2 := CK.out.cell 2 rfl
  rw [roundsIn_succ]
  have hwk2 : w2.heap.size + 1 + 1 < W0'.heap.size := CK.out.lt 4 rfl
  have hwk3 : w2.heap.size < W0'.heap.size := CK.out.lt 2 rfl
  have hw2 : w.heap.size + 1 < w2.heap.size := HW12.out
  gi_wp2_with fail
  refine ⟨trivial, (callsIn_wide.2 (minutes_f 56 m _)).mono ?_⟩
  rintro e' wy ⟨rfl, rfl⟩
  gi_wp2_with fail
  refine wpIn_world (fun W0 => Bs w ([] ++ [(w.heap.size, .cells #[.int .i64 m.rings, .int .i64 m.give, .int .i64 m.pl, .int .i64 m.ph, .int .i64 m.wl, .int .i64 m.wh, .int .i64 m.set, .int .i64 m.shrink, .int .i64 m.skin, .int .i64 m.fill, .int .i64 m.gap, .int .i64 m.deep] 25)] ++ [(w.heap.size + 1, .cells #[.int .i64 (N : Int)] 3)] ++ [(w2.heap.size, .cells #[.int .i64 m.rings, .int .i64 m.give, .int .i64 m.pl, .int .i64 m.ph, .int .i64 m.wl, .int .i64 m.wh, .int .i64 m.set, .int .i64 m.shrink, .int .i64 m.skin, .int .i64 m.fill, .int .i64 m.gap, .int .i64 m.deep] 85)] ++ [(w2.heap.size + 1, .cells (ends2 (pad (warmL m false N)) (List.replicate 8 0)) 92)] ++ [(w2.heap.size + 1 + 1, .cells #[.func (.func 55) #[] #[], .func (.func 56) #[] #[]] 96)] ++ [(W0'.heap.size, .cells #[.int .i64 1] 3)]) W0 ∧ W0.heap[W0'.heap.size + 1]? = some (.cells #[.int .i64 m.rings, .int .i64 m.give, .int .i64 m.pl, .int .i64 m.ph, .int .i64 m.wl, .int .i64 m.wh, .int .i64 m.set, .int .i64 m.shrink, .int .i64 m.skin, .int .i64 m.fill, .int .i64 m.gap, .int .i64 m.deep] 85) ∧ W0.heap[W0'.heap.size + 1 + 1]? = some (.cells #[.func (.func 56) #[] #[]] 96) ∧ W0.heap.size = W0'.heap.size + 3 ∧ W0.heap[D0]? = some (.deferred (some []))) ?_ ?_
  · have h1 := CK.out.push (W0'.heap.size) rfl (.cells #[.int .i64 1] 3)
    have h2 := (h1.push (W0'.heap.size + 1) (by simp) (.cells #[.int .i64 m.rings, .int .i64 m.give, .int .i64 m.pl, .int .i64 m.ph, .int .i64 m.wl, .int .i64 m.wh, .int .i64 m.set, .int .i64 m.shrink, .int .i64 m.skin, .int .i64 m.fill, .int .i64 m.gap, .int .i64 m.deep] 85)).push (W0'.heap.size + 1 + 1) (by simp) (.cells #[.func (.func 56) #[] #[]] 96)
    exact ⟨h2.sub _ ((List.sublist_append_left _ _).trans (List.sublist_append_left _ _)), h2.get 6 rfl, h2.get 7 rfl, by simp, block_keep HK0.out ((((Below.refl _ _).alloc (Nat.le_refl _) _).alloc (by simp) _).alloc (by simp; omega) _)⟩
  rintro W1 ⟨hC0, hbm, hbo, hsz1, hX0⟩
  have HX0 := Lib.hid hX0
  clear hX0
  have HC0 := Lib.hid hC0
  have HBM := Lib.hid hbm
  have HBO := Lib.hid hbo
  clear hC0 hbm hbo
  refine wpIn_range_firm (α := Mi) rfl (by omega) (gf := 69) (lb := #[.pointer (some ⟨W0'.heap.size + 1, 0, none⟩), .pointer (some ⟨W0'.heap.size + 1 + 1, 0, none⟩)]) rfl trivial (enters_of Try.func69 (by kernel_rfl) rfl)
    (minutes_gives (encM m true) dayM true m HM.out 2 (by omega) 56 (W0'.heap.size + 1) (W0'.heap.size + 1 + 1) rfl W1 (fun k hk => by unfold encM; rw [dayM_val hk]) HBM.out HBO.out)
    (fun h k => MiK.t h k) (MiK.b (by omega) (by omega)) (fun _ => rfl)
    (fun pre W => Bs w ([] ++ [(w.heap.size, .cells #[.int .i64 m.rings, .int .i64 m.give, .int .i64 m.pl, .int .i64 m.ph, .int .i64 m.wl, .int .i64 m.wh, .int .i64 m.set, .int .i64 m.shrink, .int .i64 m.skin, .int .i64 m.fill, .int .i64 m.gap, .int .i64 m.deep] 25)] ++ [(w.heap.size + 1, .cells #[.int .i64 (N : Int)] 3)] ++ [(w2.heap.size, .cells #[.int .i64 m.rings, .int .i64 m.give, .int .i64 m.pl, .int .i64 m.ph, .int .i64 m.wl, .int .i64 m.wh, .int .i64 m.set, .int .i64 m.shrink, .int .i64 m.skin, .int .i64 m.fill, .int .i64 m.gap, .int .i64 m.deep] 85)] ++ [(w2.heap.size + 1, .cells (ends2 (pad (warmL m false N)) (List.replicate 8 0)) 92)] ++ [(w2.heap.size + 1 + 1, .cells #[.func (.func 55) #[] #[], .func (.func 56) #[] #[]] 96)] ++ [(W0'.heap.size, .cells #[.int .i64 1] 3)]) W ∧ (∀ x ∈ pre, x.1 ≠ N) ∧ W.heap[D0]? = some (.deferred (some []))) (fun c _ W => c = .exit 3 ∧ Bs w ([] ++ [(w.heap.size, .cells #[.int .i64 m.rings, .int .i64 m.give, .int .i64 m.pl, .int .i64 m.ph, .int .i64 m.wl, .int .i64 m.wh, .int .i64 m.set, .int .i64 m.shrink, .int .i64 m.skin, .int .i64 m.fill, .int .i64 m.gap, .int .i64 m.deep] 25)] ++ [(w.heap.size + 1, .cells #[.int .i64 (N : Int)] 3)] ++ [(w2.heap.size, .cells #[.int .i64 m.rings, .int .i64 m.give, .int .i64 m.pl, .int .i64 m.ph, .int .i64 m.wl, .int .i64 m.wh, .int .i64 m.set, .int .i64 m.shrink, .int .i64 m.skin, .int .i64 m.fill, .int .i64 m.gap, .int .i64 m.deep] 85)] ++ [(w2.heap.size + 1, .cells (ends2 (pad (warmL m false N)) (pad (warmL m true N))) 92)] ++ [(w2.heap.size + 1 + 1, .cells #[.func (.func 55) #[] #[], .func (.func 56) #[] #[]] 96)] ++ [(W0'.heap.size, .cells #[.int .i64 1] 3)]) W ∧ W.heap[D0]? = some (.deferred (some [])))
    (fun _ _ _ h hb => ⟨Bs.firm (B := W1.heap.size) (by intro p hp; simp at hp; rcases hp with rfl | rfl | rfl | rfl | rfl | rfl <;> simp <;> omega) (by omega) _ _ h.1 hb, h.2.1, (hb.block _ (by omega)).trans h.2.2⟩) (fun _ _ _ _ h hb => ⟨h.1, Bs.firm (B := W1.heap.size) (by intro p hp; simp at hp; rcases hp with rfl | rfl | rfl | rfl | rfl | rfl <;> simp <;> omega) (by omega) _ _ h.2.1 hb, (hb.block _ (by omega)).trans h.2.2⟩) ⟨HC0.out, by simp, HX0.out⟩
    (fun x a' W => ∃ Bx, W1.heap.size ≤ Bx ∧ W.heap[Bx]? = some (.cells (ints (pad (warmL m true x.1))) 87) ∧ a' = { tmps := #[.agg #[.int .i64 m.rings, .int .i64 m.give, .int .i64 m.pl, .int .i64 m.ph, .int .i64 m.wl, .int .i64 m.wh, .int .i64 m.set, .int .i64 m.shrink, .int .i64 m.skin, .int .i64 m.fill, .int .i64 m.gap, .int .i64 m.deep], .int .i64 (N : Int), .pointer (some ⟨w.heap.size, 0, none⟩), .pointer (some ⟨w.heap.size + 1, 0, none⟩), .slice none 0 0, .int .i64 0, .int .i64 0, .pointer (some ⟨w2.heap.size, 0, none⟩), .pointer (some ⟨w2.heap.size + 1, 0, none⟩), .pointer (some ⟨W0'.heap.size, 0, none⟩), .func (.func 56) #[] #[], .int .i64 (x.1 : Int), .pointer (some ⟨Bx, 0, none⟩), .agg #[.int .i64 m.rings, .int .i64 m.give, .int .i64 m.pl, .int .i64 m.ph, .int .i64 m.wl, .int .i64 m.wh, .int .i64 m.set, .int .i64 m.shrink, .int .i64 m.skin, .int .i64 m.fill, .int .i64 m.gap, .int .i64 m.deep], .int .i64 0, .bool false, .int .i64 0, .bool false, undef, .bool false, .int .i64 (N : Int), .slice (some ⟨w1.heap.size, 0, none⟩) 1 1, .bool false, .agg #[.int .i64 m.rings, .int .i64 m.give, .int .i64 m.pl, .int .i64 m.ph, .int .i64 m.wl, .int .i64 m.wh, .int .i64 m.set, .int .i64 m.shrink, .int .i64 m.skin, .int .i64 m.fill, .int .i64 m.gap, .int .i64 m.deep], .agg #[.int .i64 m.rings, .int .i64 m.give, .int .i64 m.pl, .int .i64 m.ph, .int .i64 m.wl, .int .i64 m.wh, .int .i64 m.set, .int .i64 m.shrink, .int .i64 m.skin, .int .i64 m.fill, .int .i64 m.gap, .int .i64 m.deep], .slice (some ⟨w2.heap.size + 1 + 1, 0, none⟩) 2 2, .int .i64 2, .int .i64 1, .bool true, .int .i64 1, .pointer (some ⟨w2.heap.size + 1 + 1, 1, none⟩), .func (.func 56) #[] #[], .agg #[.int .i64 m.rings, .int .i64 m.give, .int .i64 m.pl, .int .i64 m.ph, .int .i64 m.wl, .int .i64 m.wh, .int .i64 m.set, .int .i64 m.shrink, .int .i64 m.skin, .int .i64 m.fill, .int .i64 m.gap, .int .i64 m.deep], .func (.func 56) #[] #[], .func (.func 69) #[] #[.pointer (some ⟨W0'.heap.size + 1, 0, none⟩), .pointer (some ⟨W0'.heap.size + 1 + 1, 0, none⟩)], .int .i64 (x.1 : Int), .agg (ints (pad (warmL m true x.1))), undef, undef, undef, undef, undef, undef, .int .i64 1, undef, undef, undef, undef, undef, undef, undef, undef, undef, undef, undef], defers := [] })
    (fun x a' W l o o' h _ hl hc => by
      obtain ⟨Bx, h1, h2, h3⟩ := h
      refine ⟨Bx, h1, ?_, h3⟩
      by_cases e : Bx = l
      · subst e
        rw [h2] at hl
        cases hl
        simp [Obj.isCells] at hc
      · exact (World.putObj_heap_other e).trans h2)
    ?assign1 ?body1 ?done1 ?stop1
  case assign1 =>
    rintro l pre x W K hI hszV hK
    have HP8 := Lib.hid (HP true x.1)
    have HK := Lib.hid hK
    have HI := Lib.hid hI
    clear hK hI
    have hz : (W.alloc (.cells (ints (List.replicate 8 0)) 87)).heap[W.heap.size]? = some (.cells (ints (List.replicate 8 0)) 87) := heap_alloc_new W _
    have HZ := Lib.hid hz
    clear hz
    simp only [encM]
    gi_wp2_with (refine wpListIn_store_row rfl 87 _ _ rfl W.heap.size (ints (pad (warmL m true x.1))) rfl rfl 87 _ HZ.out (by rw [ints_size, HP8.out]; exact info87) (by rw [ints_size, ints_size, HP8.out]; rfl) (ints_oneCell _) ?_)
    have hb : Below W.heap.size W ((W.alloc (.cells (ints (List.replicate 8 0)) 87)).setRow W.heap.size (ints (pad (warmL m true x.1)))) := below_setRow ((Below.refl _ _).alloc (Nat.le_refl _) _) (Nat.le_refl _) _
    exact HK.out _ _ ⟨hb.size, fun k o _ hk _ => block_keep hk hb⟩ (MiK.below (by omega) (by omega) hb) ⟨HI.out.1.call hb, HI.out.2.1, block_keep HI.out.2.2 hb⟩ ⟨W.heap.size, hszV, setRow_heap _ _ _ _ _ _ HZ.out, rfl⟩
  case body1 =>
    rintro l pre x a' W hszW ⟨hI, hne, hX⟩ ⟨Bx, hBx, hbx, rfl⟩ hlen
    have HI := Lib.hid hI
    have HBX := Lib.hid hbx
    have HNE := Lib.hid hne
    have HP8 := Lib.hid (HP true x.1)
    have c1 := hI.cell 1 rfl
    have c5 := hI.cell 5 rfl
    have hn1 : 1 ≤ 3 - 1 - 1 := by omega
    clear hI hbx hlen hne
    by_cases hx : x.1 = N
    · have hd : ((x.1 : Int) == (N : Int)) = true := by simp [hx]
      have HX := Lib.hid hx
      clear hx
      gi_wp2_with (first | refine wpListIn_load_row rfl 87 _ rfl _ rfl _ _ _ _ HBX.out Try.underlying87 rfl (by rw [ints_size, HP8.out]; exact info87) ?_ | refine wpListIn_store_midrow rfl 87 _ _ rfl (w2.heap.size + 1) 8 (ints (pad (warmL m true x.1))) ((pad (warmL m false N)).map (.int .i64)) ((List.replicate 8 0).map (.int .i64)) 92 (HI.out.get 3 rfl) (by rw [List.length_map]; exact HP false N) rfl rfl (by rw [ints_size, HP8.out]; exact info87) (by rw [ints_size, HP8.out]; simp) (ints_oneCell _) ?_; rw [ends2_snd (by simp) HP8.out, HX.out])
      have hB2 := HI.out.setRow 3 rfl (ends2 (pad (warmL m false N)) (pad (warmL m true N)))
      exact ⟨KeepsFrom.row (by omega) _ _, rfl, hB2, (setRow_other _ _ _ _ (by omega)).trans hX⟩
    · have hd : ((x.1 : Int) == (N : Int)) = false := by simp; omega
      gi_wp2_with fail
      refine ⟨KeepsFrom.refl _ _, MiK.below (by omega) (by omega) (Below.refl _ _), HI.out, ?_, hX⟩
      intro y hy
      rcases List.mem_append.1 hy with hy | hy
      · exact HNE.out y hy
      · simp at hy; rw [hy]; exact hx
  case done1 =>
    rintro D xs W hD rfl ⟨hI, hne, hX⟩ hK
    exfalso
    have hmem : dayM N ∈ upA dayM 601 := List.mem_map.2 ⟨N, List.mem_range.2 (by omega), rfl⟩
    exact hne _ hmem (dayM_val (by omega))
  rintro D1 c pre W1' hD1 ⟨q, hq, rfl⟩ ⟨rfl, hI, hX⟩ hK1
  have HK1 := Lib.hid hK1
  have HX2 := Lib.hid hX
  have CK := Lib.hid (hI.sub _ (List.sublist_append_left _ _))
  have hsz1' : W1.heap.size ≤ D1 := hD1
  have hDl1 : D1 < W1'.heap.size := block_lt hK1
  clear hI hK1 HC0 HBM HBO hX ck4 ck2
  refine wpIn_exit ?_
  gi_wp2_with fail
  rw [roundsIn_succ]
  gi_wp2_with fail
  have hrr : m.rings = (r : Int) := HR.out
  have hr8i : (r : Int) ≤ 8 := by omega
  have HLC : Hid ((warmL m false N).length = r) := by unfold Hid; rw [warmL_length, HR.out, Int.toNat_natCast]
  have HLH : Hid ((warmL m true N).length = r) := by unfold Hid; rw [warmL_length, HR.out, Int.toNat_natCast]
  rw [hrr]
  refine wpIn_region_inv1 (by kernel_rfl) (by kernel_rfl) [54, 4] (fun D y w' => Below W1'.heap.size W1' w' ∧ (D 10 = true → OwnSpans w.heap.size w' (y 54) ((warmL m false N).zip (warmL m true N))) ∧ (D 11 = true → y 4 = y 54)) ?_ ?FX ?hFX ?_
  · exact ⟨(Below.refl _ _).drew, fun h => (by cases h), fun h => (by cases h)⟩
  case hFX =>
    intro y
    simp only [fill, List.foldl, Act.put, List.setIfInBounds_toArray, List.set]
    exact rfl
  iterate 10
    (apply obl_detIn
     case hrun =>
       intro D y wz hW hD R hR
       have HRR := Lib.hid hR
       clear hR
       have HW := Lib.hid hW
       have c0 := (CK.out.call hW.1).cell 2 rfl
       clear hW hD
       gi_wp2
       exact HRR.out _ HW.out
     case hnp => rfl
     case hv => first | exact ⟨_, fun _ => rfl⟩ | exact ⟨undef, fun _ => rfl⟩)
  apply obl_privIn 54
  case hd => rfl
  case hp => rfl
  case hrun =>
    intro D y wz hW hD R hR
    have HRR := Lib.hid hR
    clear hR
    have HD11 := Lib.hid (hD.post _ 11 rfl (by kernel_rfl))
    have HW := Lib.hid hW
    have CZ := CK.out.call hW.1
    have hi1 : IntsIn .i64 wz.heap.size wz (.slice (some ⟨w2.heap.size + 1, 0, none⟩) (warmL m false N).length 8) (warmL m false N) :=
      ⟨_, _, rfl, by rw [HLC.out]; omega, .inr ⟨_, _, rfl, CZ.lt 3 rfl, fun i hi => by
        rw [HLC.out] at hi
        rw [CZ.cell 3 rfl, Nat.zero_add, (ends2_at (B := pad (warmL m true N)) (HP false N) i).1 (by omega), pad_at (by rw [HLC.out]; exact hi)]⟩⟩
    have hi2 : IntsIn .i64 wz.heap.size wz (.slice (some ⟨w2.heap.size + 1, 8, none⟩) (warmL m true N).length 8) (warmL m true N) :=
      ⟨_, _, rfl, by rw [HLH.out]; omega, .inr ⟨_, _, rfl, CZ.lt 3 rfl, fun i hi => by
        rw [HLH.out] at hi
        rw [CZ.cell 3 rfl, (ends2_at (B := pad (warmL m true N)) (HP false N) i).2 (by rw [HP]; omega), pad_at (by rw [HLH.out]; exact hi)]⟩⟩
    have hc := joined_any (warmL m false N) (warmL m true N) (by rw [HLC.out, HLH.out]) (by rw [HLC.out]; omega) _ _ wz hi1 hi2
    rw [HLC.out, HLH.out] at hc
    have hzw := CZ.bel.size
    clear hW hD CZ hi1 hi2
    gi_wp2_with fail
    refine ⟨trivial, (callsIn_wide.2 hc).mono ?_⟩
    rintro e' w8 ⟨v, rfl, hos, hbw⟩
    have HOS := Lib.hid (OwnSpans.mono hos hzw)
    have HBW := Lib.hid hbw
    clear hc hos hbw hzw
    gi_wp2_with fail
    refine HRR.out v _ ⟨HW.out.1.trans (HBW.out.mono HW.out.1.size), fun _ => HOS.out, fun h => ?_⟩
    have h' : D 11 = true := h
    rw [HD11.out] at h'
    cases h'
  apply obl_privIn 4
  case hd => rfl
  case hp => rfl
  case hrun =>
    intro D y wz hW hD R hR
    have HRR := Lib.hid hR
    clear hR
    have HW := Lib.hid hW
    clear hW hD
    gi_wp2
    exact HRR.out (y 54) _ ⟨HW.out.1, HW.out.2.1, fun _ => rfl⟩
  apply obl_detIn
  case hrun =>
    intro D y wz hW hD R hR
    have HRR := Lib.hid hR
    clear hR
    have HW := Lib.hid hW
    clear hW hD
    gi_wp2
    exact HRR.out _ HW.out
  case hnp => rfl
  case hv => first | exact ⟨_, fun _ => rfl⟩ | exact ⟨undef, fun _ => rfl⟩
  apply obl_nilIn
  intro D y w9 hall hW
  have HOS := Lib.hid (hW.2.1 (hall 10 (by decide)))
  have hy4 := hW.2.2 (hall 11 (by decide))
  have HB9 := Lib.hid hW.1
  rw [hy4]
  clear hW hall hy4
  generalize y 54 = v at HOS ⊢
  have HK1' := Lib.hid (block_keep HK1.out HB9.out)
  have HK0' := Lib.hid (block_keep HX2.out HB9.out)
  have hwW := CK.out.bel.size
  have HBB := Lib.hid (CK.out.bel.trans (HB9.out.mono hwW))
  gi_wp2_with fail
  have hD01 : D0 ≠ D1 := by omega
  have hk0 : (w9.putObj D1 (.deferred none)).heap[D0]? = some (.deferred (some [])) := (World.putObj_heap_other hD01).trans HK0'.out
  refine ⟨by simp, .inl ⟨_, _, rfl, run_takeDeferred HK1'.out, ?_⟩⟩
  refine ⟨by simp, .inl ⟨_, _, rfl, run_takeDeferred hk0, ?_⟩⟩
  simp only [LeavesInM, LeavesIn]
  refine ⟨.tuple #[v, .int .i64 0], by rw [results_tmp2 (fn := Try.f23) rfl]; rfl, v, rfl, ?_, (HBB.out.trans (below_turn (by omega) _ _)).trans (below_turn (by omega) _ _)⟩
  exact ownsRow_putObj (ownsRow_putObj HOS.out _ HK1'.out rfl) _ hk0 rfl
end Go.Proofs.Ytafdagjdpnaddaa
