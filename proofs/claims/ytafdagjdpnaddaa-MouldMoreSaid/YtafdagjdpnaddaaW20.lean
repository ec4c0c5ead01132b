/- mould.Hollow. -/
import Derived.Test.YtafdagjdpnaddaaW19
import Derived.StillTailTactics
import Derived.Deep.QuietTactic
import Derived.BigQuiet
import Derived.Outline
namespace Go.Proofs.Ytafdagjdpnaddaa
open Go.RowKit
theorem intsIn_rowN {w : World} {b n : Nat} {l : List Int} {c : Nat} {t : TypeId} (h : w.heap[b]? = some (.cells (ints l) t)) (hl : l.length = n) (hn : n ≤ 1000) : IntsIn .i64 w.heap.size w (.slice (some ⟨b, 0, none⟩) n c) l := by
  subst hl
  exact intsIn_row h hn
theorem upto_succ {P : Nat → Prop} {k : Nat} (h : ∀ i, i < k → P i) (hk : P k) : ∀ i, i < k + 1 → P i := fun i hi => by
  by_cases e : i = k
  · rw [e]; exact hk
  · exact h i (by omega)
/-- One cell is stored; all other blocks are kept. -/
theorem wpList_cell_bk {P : Program} {ops : Array Oper} {rest : List Oper} {o : Oper} {a : Act} {w0 w : World} {Q : Exit → Act → World → Prop} {l : List (Nat × Obj)} (hgd : o.guard = none) (ty : TypeId) (x y : Operand) (ho : o.op = .store ty x y) (H : Bs w0 l w) (i g j : Nat) (old : Array Value) (t : TypeId) (hi : l[i]? = some (g, .cells old t))
    (hx : a.eval x = .pointer (some ⟨g, j, none⟩)) (v : Value) (hy : a.eval y = v) (hj : j < old.size) (h1 : v.oneCell' = true) (hn : (P.info? ty).map (·.size) = some 1)
    (h : ∀ w', Bs w0 (l.set i (g, .cells (old.setIfInBounds j v) t)) w' → (∀ k, k ≠ g → w'.heap[k]? = w.heap[k]?) → wpList P ops Q rest (a.put o.dst undef) w') : wpList P ops Q (o :: rest) a w :=
  wpList_plain hgd fun _ hK => by
    have hc : w.cell? ⟨g, j, none⟩ = some old[j] := by rw [H.cell i hi]; simp [hj]
    unfold Oper.wp execOp
    simp only [ho, hx, hy, Instr.storeAt, Instr.sureAddr, Sem.run_bind, Sem.run_pure, Result.andThen_ok, run_store_at w g j ty v _ h1 hc (H.free i hi j) hn]
    exact hK _ _ (h _ (H.setCell i hi j v) (fun k hk => heap_setCell_other _ _ _ _ hk))
/-- What open has made. -/
structure TS (m : Mou) (g1 g2 r bt lo : Nat) (w : World) : Prop where
  h1 : w.heap[g1]? = some (.cells (ints (whenP m false)) 3)
  h2 : w.heap[g2]? = some (.cells (ints (whenP m true)) 3)
  h3 : w.heap[bt]? = some (.cells #[.int .i64 m.rings, .int .i64 m.give, .int .i64 m.pl, .int .i64 m.ph, .int .i64 m.wl, .int .i64 m.wh, .int .i64 m.set, .int .i64 m.shrink, .int .i64 m.skin, .int .i64 m.fill, .int .i64 m.gap, .int .i64 m.deep, .slice (some ⟨g1, 0, none⟩) r r, .slice (some ⟨g2, 0, none⟩) r r] 102)
  l1 : lo ≤ g1
  l2 : lo ≤ g2
  l3 : lo ≤ bt
  r8 : r ≤ 8
  hr : m.rings = (r : Int)
section
variable {m : Mou} {g1 g2 r bt lo : Nat} {w w' : World}
theorem TS.len (h : TS m g1 g2 r bt lo w) (hot : Bool) : (whenP m hot).length = r := by rw [whenP_length, h.hr, Int.toNat_natCast]
theorem TS.call (h : TS m g1 g2 r bt lo w) (hb : Below w.heap.size w w') : TS m g1 g2 r bt lo w' :=
  ⟨block_keep h.h1 hb, block_keep h.h2 hb, block_keep h.h3 hb, h.l1, h.l2, h.l3, h.r8, h.hr⟩
theorem TS.keep (h : TS m g1 g2 r bt lo w) (hk : ∀ k, lo ≤ k → w'.heap[k]? = w.heap[k]?) : TS m g1 g2 r bt lo w' :=
  ⟨(hk _ h.l1).trans h.h1, (hk _ h.l2).trans h.h2, (hk _ h.l3).trans h.h3, h.l1, h.l2, h.l3, h.r8, h.hr⟩
theorem TS.set (h : TS m g1 g2 r bt lo w) {b : Nat} (hb : b < lo) (j : Nat) (v : Value) : TS m g1 g2 r bt lo (w.setCell ⟨b, j, none⟩ v) :=
  h.keep (fun k hk => heap_setCell_other _ _ _ _ (by show k ≠ b; omega))
theorem TS.cold (h : TS m g1 g2 r bt lo w) : IntsIn .i64 w.heap.size w (.slice (some ⟨g1, 0, none⟩) r r) (whenP m false) := intsIn_rowN h.h1 (h.len false) (by have := h.r8; omega)
theorem TS.hot (h : TS m g1 g2 r bt lo w) : IntsIn .i64 w.heap.size w (.slice (some ⟨g2, 0, none⟩) r r) (whenP m true) := intsIn_rowN h.h2 (h.len true) (by have := h.r8; omega)
theorem TS.times (h : TS m g1 g2 r bt lo w) : TimesAt m (whenP m false) (some ⟨g1, 0, none⟩) (some ⟨g2, 0, none⟩) r bt w.heap.size w := ⟨block_lt h.h3, h.h3, h.len false, h.r8, h.cold⟩
end
theorem whenP_range (m : Mou) (hot : Bool) {r : Nat} (hr : m.rings = (r : Int)) : ∀ i, i < r → 0 ≤ (whenP m hot).getD i 0 ∧ (whenP m hot).getD i 0 ≤ 601 := fun i hi => by
  rw [whenP_getD _ _ (by rw [hr]; simpa using hi)]
  exact setAtE_bound m hot i
theorem PlanOk.order {m : Mou} (hm : Valid m) {plan : List Int} (h : PlanOk m plan) : InOrder plan := ⟨h.r0, fun _ _ hij hj => Int.le_of_lt (h.le hm hij hj)⟩
theorem thick_any (m : Mou) {plan : List Int} (h : ∀ i, i < plan.length → 0 ≤ plan.getD i 0 ∧ plan.getD i 0 ≤ 600) : plan.any (thick m (whenP m false)) = !poursB m (endsL m false) plan := by
  unfold poursB
  rw [List.any_eq_not_all_not]
  congr 1
  rw [Bool.eq_iff_iff, List.all_eq_true, List.all_eq_true]
  have e : ∀ x ∈ plan, (!thick m (whenP m false) x) = decide ((skinN (endsL m false) x : Int) ≤ m.skin) := by
    intro x hx
    obtain ⟨i, hi, rfl⟩ := List.mem_iff_getElem.1 hx
    have := h i hi
    rw [show plan.getD i 0 = plan[i] by simp [List.getD, hi]] at this
    unfold thick
    rw [skin_eq m false this.2, Bool.eq_iff_iff]
    simp
  constructor
  · intro h x hx; rw [← e x hx]; exact h x hx
  · intro h x hx; rw [e x hx]; exact h x hx
def RetHol (x : (Int × Int) × (Int × Int) × Int) (w : World) (e : Ending) (w' : World) : Prop :=
  e = .returned (.tuple #[.agg #[.int .i64 x.1.1, .int .i64 x.1.2, .int .i64 x.2.1.1, .int .i64 x.2.1.2], .int .i64 x.2.2]) ∧ Below w.heap.size w w'
theorem hollowV_bad {m : Mou} {plan : List Int} {E : Int} (h : hollowE m plan = E) (hE : E ≠ 0) : hollowV m plan = ((0, 0), (0, 0), E) := by
  unfold hollowV
  rw [if_pos (by rw [h]; exact hE), h]
theorem info45 : (Try.prog.info? 45).map (·.size) = some 4 := by kernel_rfl
set_option maxRecDepth 100000 in
set_option maxHeartbeats 8000000 in
theorem hollow_bad (m : Mou) (h : checkE m ≠ 0) (plan : List Int) (vp : Value) (w : World) : Calls Try.prog 31 #[.agg #[.int .i64 m.rings, .int .i64 m.give, .int .i64 m.pl, .int .i64 m.ph, .int .i64 m.wl, .int .i64 m.wh, .int .i64 m.set, .int .i64 m.shrink, .int .i64 m.skin, .int .i64 m.fill, .int .i64 m.gap, .int .i64 m.deep], vp] w (RetHol (hollowV m plan) w) := by
  have C0 := Lib.hid (((Bs.nil w).push _ rfl (.cells #[.int .i64 m.rings, .int .i64 m.give, .int .i64 m.pl, .int .i64 m.ph, .int .i64 m.wl, .int .i64 m.wh, .int .i64 m.set, .int .i64 m.shrink, .int .i64 m.skin, .int .i64 m.fill, .int .i64 m.gap, .int .i64 m.deep] 25)).push (w.heap.size + 1) (by simp) (.cells #[.int .i64 0, .int .i64 0, .int .i64 0, .int .i64 0] 45))
  have HV : Hid (hollowV m plan = ((0, 0), (0, 0), checkE m)) := hollowV_bad (by unfold hollowE; rw [if_pos h]) h
  have hc := fun w => open_bad m h w
  have HC := Lib.hid hc
  have hz : (checkE m != 0) = true := by simpa using h
  clear h hc
  generalize checkE m = E at *
  go_enter Try.func31, Try.ntmps31
  go_wp2_with fail
  refine (HC.out _).mono ?_
  rintro e w1 ⟨rfl, hbw⟩
  have C1 := Lib.hid ((C0.out.call hbw).alloc (.cells zero14 102))
  clear hbw C0
  unfold zero14
  go_wp2_with (first | refine wpList_load_bs rfl 45 _ rfl C1.out 1 _ _ _ rfl rfl _ Try.underlying45 rfl info45 ?_ | (refine wpList_store_bs rfl 45 _ _ rfl C1.out 1 _ _ _ _ rfl rfl rfl info45 rfl (by simp [Value.oneCell']) ?_; intro w7 hC7))
  rw [HV.out]
  refine bodyPost_ret (v := .tuple #[.agg #[.int .i64 0, .int .i64 0, .int .i64 0, .int .i64 0], .int .i64 E]) (results_ct (fn := Try.f31) rfl _ _ _ _ _ _ _ _ rfl rfl (hC7.get 1 rfl) Try.underlying45 rfl info45) rfl ⟨rfl, hC7.bel⟩
set_option maxRecDepth 100000 in
set_option maxHeartbeats 8000000 in
theorem hollow_good (m : Mou) (h : checkE m = 0) (plan : List Int) (vp : Value) (w : World) (hv : IntsIn .i64 w.heap.size w vp plan) : Calls Try.prog 31 #[.agg #[.int .i64 m.rings, .int .i64 m.give, .int .i64 m.pl, .int .i64 m.ph, .int .i64 m.wl, .int .i64 m.wh, .int .i64 m.set, .int .i64 m.shrink, .int .i64 m.skin, .int .i64 m.fill, .int .i64 m.gap, .int .i64 m.deep], vp] w (RetHol (hollowV m plan) w) := by
  have C0 := Lib.hid (((Bs.nil w).push _ rfl (.cells #[.int .i64 m.rings, .int .i64 m.give, .int .i64 m.pl, .int .i64 m.ph, .int .i64 m.wl, .int .i64 m.wh, .int .i64 m.set, .int .i64 m.shrink, .int .i64 m.skin, .int .i64 m.fill, .int .i64 m.gap, .int .i64 m.deep] 25)).push (w.heap.size + 1) (by simp) (.cells #[.int .i64 0, .int .i64 0, .int .i64 0, .int .i64 0] 45))
  have HM := Lib.hid (valid_of_check h)
  obtain ⟨r, hr⟩ : ∃ r : Nat, m.rings = r := ⟨m.rings.toNat, by have := HM.out.r1; omega⟩
  have HR := Lib.hid hr
  have hr1 : 1 ≤ r := by have := HM.out.r1; omega
  have hr8 : r ≤ 8 := by have := HM.out.r8; omega
  have hc := fun w => open_good m h w
  have HC := Lib.hid hc
  have hmx := max_never (m := m) HM.out.r1 true
  rw [hr, Int.toNat_natCast] at hmx
  have HMX := Lib.hid hmx
  have H := Lib.hid h
  have HVP := Lib.hid hv
  obtain ⟨a, c, rfl, hl, hpc⟩ := hv
  have HPC := Lib.hid hpc
  clear hmx hc h hr hpc
  go_enter Try.func31, Try.ntmps31
  go_wp2_with fail
  refine (HC.out _).mono ?_
  rintro e w1 ⟨v1, v2, rfl, hf1, hf2, hbw⟩
  have C1 := Lib.hid (C0.out.call hbw)
  have hw1 : w.heap.size + 1 < w1.heap.size := C1.out.lt 1 rfl
  obtain ⟨g1, n1, e1, rfl, hg1, hl1⟩ := hf1
  obtain ⟨g2, n2, e2, rfl, hg2, hl2⟩ := hf2
  obtain rfl : r = n1 := (e1.trans (by rw [whenP_length, HR.out, Int.toNat_natCast])).symm
  obtain rfl : r = n2 := (e2.trans (by rw [whenP_length, HR.out, Int.toNat_natCast])).symm
  clear e1 e2
  have TA : Hid (TS m g1 g2 r w1.heap.size (w.heap.size + 2) (w1.alloc (.cells #[.int .i64 m.rings, .int .i64 m.give, .int .i64 m.pl, .int .i64 m.ph, .int .i64 m.wl, .int .i64 m.wh, .int .i64 m.set, .int .i64 m.shrink, .int .i64 m.skin, .int .i64 m.fill, .int .i64 m.gap, .int .i64 m.deep, .slice (some ⟨g1, 0, none⟩) r r, .slice (some ⟨g2, 0, none⟩) r r] 102))) :=
    ⟨block_keep hg1 ((Below.refl _ _).alloc (Nat.le_refl _) _), block_keep hg2 ((Below.refl _ _).alloc (Nat.le_refl _) _), heap_alloc_new _ _, by simpa using hl1, by simpa using hl2, by omega, hr8, HR.out⟩
  have C2 := Lib.hid (C1.out.alloc (.cells #[.int .i64 m.rings, .int .i64 m.give, .int .i64 m.pl, .int .i64 m.ph, .int .i64 m.wl, .int .i64 m.wh, .int .i64 m.set, .int .i64 m.shrink, .int .i64 m.skin, .int .i64 m.fill, .int .i64 m.gap, .int .i64 m.deep, .slice (some ⟨g1, 0, none⟩) r r, .slice (some ⟨g2, 0, none⟩) r r] 102))
  clear hg1 hg2 hl1 hl2 hbw C1 C0
  by_cases h40 : 40 < plan.length
  · have HV : Hid (hollowV m plan = ((0, 0), (0, 0), 3)) := hollowV_bad (by unfold hollowE planE; rw [if_neg (by simp [H.out]), if_pos h40]; rfl) (by decide)
    have h40i : (40 : Int) < (plan.length : Int) := by omega
    clear HM HMX
    go_wp2_with (first | refine wpList_load_bs rfl 45 _ rfl C2.out 1 _ _ _ rfl rfl _ Try.underlying45 rfl info45 ?_ | (refine wpList_store_bs rfl 45 _ _ rfl C2.out 1 _ _ _ _ rfl rfl rfl info45 rfl (by simp [Value.oneCell']) ?_; intro w7 hC7))
    rw [HV.out]
    refine bodyPost_ret (v := .tuple #[.agg #[.int .i64 0, .int .i64 0, .int .i64 0, .int .i64 0], .int .i64 3]) (results_ct (fn := Try.f31) rfl _ _ _ _ _ _ _ _ rfl rfl (hC7.get 1 rfl) Try.underlying45 rfl info45) rfl ⟨rfl, hC7.bel⟩
  have h40i : (plan.length : Int) ≤ 40 := by omega
  have h40j : ¬ (40 : Int) < (plan.length : Int) := by omega
  go_wp2_with fail
  go_loopw [26] (fun i wr => ∃ k : Nat, k ≤ plan.length ∧ i = .int .i64 k ∧ (∀ i, i < k → planAt m plan i = 0) ∧ Bs w ([] ++ [(w.heap.size, .cells #[.int .i64 m.rings, .int .i64 m.give, .int .i64 m.pl, .int .i64 m.ph, .int .i64 m.wl, .int .i64 m.wh, .int .i64 m.set, .int .i64 m.shrink, .int .i64 m.skin, .int .i64 m.fill, .int .i64 m.gap, .int .i64 m.deep] 25)] ++ [(w.heap.size + 1, .cells #[.int .i64 0, .int .i64 0, .int .i64 0, .int .i64 0] 45)]) wr ∧ TS m g1 g2 r w1.heap.size (w.heap.size + 2) wr) (fun i _ => plan.length - (intOf i).toNat)
  case atStart => exact ⟨0, by omega, rfl, fun i hi => by omega, C2.out, TA.out⟩
  case round =>
    obtain ⟨k, hk, rfl, hok, hC, hT⟩ := hrel
    have C3 := Lib.hid hC
    have T3 := Lib.hid hT
    have HOK := Lib.hid hok
    by_cases hlt : k < plan.length
    · obtain ⟨b, o, rfl, hbB, hc⟩ : ∃ b o, a = some ⟨b, o, none⟩ ∧ b < w.heap.size ∧ ∀ i, i < plan.length → w.cell? ⟨b, o + i, none⟩ = some (.int .i64 (plan.getD i 0)) := by
        rcases HPC.out with h | h
        · rw [h] at hlt; simp at hlt
        · exact h
      have HC9 := Lib.hid hc
      have hck := (hC.bel.cell (p := ⟨b, o + k, none⟩) hbB).trans (hc k hlt)
      have HPE : Hid (planAt m plan k ≠ 0 → hollowE m plan = planAt m plan k) := fun hne => by
        have e : planE m plan = planAt m plan k := by unfold planE; rw [if_neg h40]; exact firstErr_at hok hne _ hlt
        unfold hollowE
        rw [if_neg (by simp [H.out]), if_pos (by rw [e]; exact hne), e]
      have HPA : Hid (planAt m plan k = if within (plan.getD k 0) 0 600 = false then 7 else if 0 < k ∧ plan.getD k 0 - plan.getD (k - 1) 0 < m.gap then 2 else 0) := Lib.hid rfl
      have hki : (k : Int) < (plan.length : Int) := by omega
      have hdk : decide ((k : Int) < (plan.length : Int)) = true := decide_eq_true hki
      have hdk' : decide (k < plan.length) = true := decide_eq_true hlt
      have HLT := Lib.hid hlt
      obtain ⟨x, hx⟩ : ∃ x, plan.getD k 0 = x := ⟨_, rfl⟩
      have HX := Lib.hid hx
      rw [hx] at hck HPA
      obtain ⟨bo, hbo⟩ : ∃ b, outB 0 600 [x] = b := ⟨_, rfl⟩
      have HB := Lib.hid hbo
      clear hc hok hx hbo hC hT h40 hlt hk
      have hlen : plan.length ≤ 1000000000000000 := hl
      go_wp2_with fail
      refine (out_r bo 0 600 [x] HB.out _ _ (intsIn_new' wr wr.heap.size rfl [x] (by simp) 1 rfl 1)).mono ?_
      rintro e w2 ⟨rfl, hbw⟩
      have C4 := Lib.hid ((C3.out.alloc (.cells (ints [x]) 3)).call hbw)
      have T4 := Lib.hid ((T3.out.call ((Below.refl _ _).alloc (Nat.le_refl _) (.cells (ints [x]) 3))).call hbw)
      clear hbw C3 T3
      cases bo
      rotate_left
      · have HV : Hid (hollowV m plan = ((0, 0), (0, 0), 7)) := by
          have := HB.out
          rw [out_one] at this
          have e : planAt m plan k = 7 := by rw [HPA.out, if_pos (by simpa using this)]
          exact hollowV_bad ((HPE.out (by rw [e]; decide)).trans e) (by decide)
        go_wp2_with (first | refine wpList_load_bs rfl 45 _ rfl C4.out 1 _ _ _ rfl rfl _ Try.underlying45 rfl info45 ?_ | (refine wpList_store_bs rfl 45 _ _ rfl C4.out 1 _ _ _ _ rfl rfl rfl info45 rfl (by simp [Value.oneCell']) ?_; intro w7 hC7))
        rw [HV.out]
        refine bodyPost_ret (v := .tuple #[.agg #[.int .i64 0, .int .i64 0, .int .i64 0, .int .i64 0], .int .i64 7]) (results_ct (fn := Try.f31) rfl _ _ _ _ _ _ _ _ rfl rfl (hC7.get 1 rfl) Try.underlying45 rfl info45) rfl ⟨rfl, hC7.bel⟩
      have hwn : within x 0 600 = true := by
        have := HB.out
        rw [out_one] at this
        simpa using this
      rw [if_neg (by rw [hwn]; simp)] at HPA
      have hn6 := within_iff.1 hwn
      clear hwn
      have c10 : w2.cell? ⟨w1.heap.size, 10, none⟩ = some (.int .i64 m.gap) := cell_of_row w2 w1.heap.size 10 _ _ _ T4.out.h3
      have hg1 : 1 ≤ m.gap := HM.out.a1
      have hg6 : m.gap ≤ 60 := HM.out.a6
      have hck2 := (C4.out.bel.cell (p := ⟨b, o + k, none⟩) hbB).trans (HC9.out k HLT.out)
      rw [HX.out] at hck2
      clear hck
      by_cases hk0 : k = 0
      · have hd0 : decide ((0 : Int) < (k : Int)) = false := decide_eq_false (by omega)
        have hd0' : decide (0 < k) = false := decide_eq_false (by omega)
        have HPZ : Hid (planAt m plan k = 0) := by unfold Hid; rw [HPA.out, if_neg (by omega)]
        clear HPA hk0
        go_wp2
        go_quiet (fail)
        go_wp2
        go_roundw
        case rel => exact ⟨k + 1, HLT.out, by go_num, upto_succ HOK.out HPZ.out, C4.out.drewN _, T4.out.call (below_drewN (Below.refl _ _) _)⟩
        case measure => have := HLT.out; simp [intOf]; omega
      · have hd0 : decide ((0 : Int) < (k : Int)) = true := decide_eq_true (by omega)
        have hd0' : decide (0 < k) = true := decide_eq_true (by omega)
        obtain ⟨j, hj⟩ : ∃ j : Nat, j + 1 = k := ⟨k - 1, by omega⟩
        have hjk : (k : Int) - 1 = (j : Int) := by omega
        have hjp : (j : Int) < (plan.length : Int) := by omega
        have hcj := (C4.out.bel.cell (p := ⟨b, o + j, none⟩) hbB).trans (HC9.out j (by have := HLT.out; omega))
        have hjr : 0 ≤ plan.getD j 0 ∧ plan.getD j 0 ≤ 600 := (planAt_zero.1 (HOK.out j (by omega))).1
        rw [show k - 1 = j by omega] at HPA
        generalize plan.getD j 0 = z at *
        by_cases hgp : x - z < m.gap
        · have hdg : decide (x - z < m.gap) = true := decide_eq_true hgp
          have HV : Hid (hollowV m plan = ((0, 0), (0, 0), 2)) := by
            have e : planAt m plan k = 2 := by rw [HPA.out, if_pos ⟨by omega, hgp⟩]
            exact hollowV_bad ((HPE.out (by rw [e]; decide)).trans e) (by decide)
          clear HPA HPE hk0 hj
          go_wp2
          go_quiet (fail)
          have C5 := Lib.hid (C4.out.drewN nq)
          go_wp2_with (first | refine wpList_load_bs rfl 45 _ rfl C5.out 1 _ _ _ rfl rfl _ Try.underlying45 rfl info45 ?_ | (refine wpList_store_bs rfl 45 _ _ rfl C5.out 1 _ _ _ _ rfl rfl rfl info45 rfl (by simp [Value.oneCell']) ?_; intro w7 hC7))
          rw [HV.out]
          refine bodyPost_ret (v := .tuple #[.agg #[.int .i64 0, .int .i64 0, .int .i64 0, .int .i64 0], .int .i64 2]) (results_ct (fn := Try.f31) rfl _ _ _ _ _ _ _ _ rfl rfl (hC7.get 1 rfl) Try.underlying45 rfl info45) rfl ⟨rfl, hC7.bel⟩
        · have hdg : decide (x - z < m.gap) = false := decide_eq_false hgp
          have HPZ : Hid (planAt m plan k = 0) := by unfold Hid; rw [HPA.out, if_neg (by omega)]
          clear HPA HPE hk0 hj
          go_wp2
          go_quiet (fail)
          go_wp2
          go_roundw
          case rel => exact ⟨k + 1, HLT.out, by go_num, upto_succ HOK.out HPZ.out, C4.out.drewN _, T4.out.call (below_drewN (Below.refl _ _) _)⟩
          case measure => have := HLT.out; simp [intOf]; omega
    · have hke : k = plan.length := by omega
      have hki : ¬ ((k : Int) < (plan.length : Int)) := by omega
      have hdk : decide ((k : Int) < (plan.length : Int)) = false := decide_eq_false hki
      have hpz : planE m plan = 0 := by unfold planE; rw [if_neg h40]; exact firstErr_of (fun i hi => hok i (by omega))
      have HPK := Lib.hid (plan_ok.1 hpz)
      have HPZ := Lib.hid hpz
      have HVPW := Lib.hid (HVP.out.below hC.bel)
      have c5 : wr.cell? ⟨w1.heap.size, 13, none⟩ = some (.slice (some ⟨g2, 0, none⟩) r r) := cell_of_row wr w1.heap.size 13 _ _ _ hT.h3
      have hl2 := hT.len true
      have HL2 := Lib.hid hl2
      have hth := thick_any m HPK.out.r0
      obtain ⟨th, hth2⟩ : ∃ b, plan.any (thick m (whenP m false)) = b := ⟨_, rfl⟩
      have HTH := Lib.hid hth2
      have HTP : Hid (th = !poursB m (endsL m false) plan) := by unfold Hid; rw [← hth2]; exact hth
      have hlen : plan.length ≤ 1000000000000000 := hl
      clear hC hT hok h40 hlt hke hpz hl2 hth hth2 hk
      go_wp2_with fail
      refine (max_any (whenP m true) _ _ _ T3.out.hot r HL2.out (by omega)).mono ?_
      rintro e w2 ⟨rfl, rfl⟩
      obtain ⟨mx, hmx⟩ : ∃ x, maxTo (whenP m true) r = x := ⟨_, rfl⟩
      rw [hmx] at HMX ⊢
      clear hmx
      by_cases hx : mx = 601
      · have HV : Hid (hollowV m plan = ((0, 0), (0, 0), 9)) := hollowV_bad (by unfold hollowE; rw [if_neg (by simp [H.out]), if_neg (by simp [HPZ.out]), if_pos (HMX.out.1 hx)]) (by decide)
        have hz : (mx == 601) = true := by simpa using hx
        clear hx
        go_wp2_with (first | refine wpList_load_bs rfl 45 _ rfl C3.out 1 _ _ _ rfl rfl _ Try.underlying45 rfl info45 ?_ | (refine wpList_store_bs rfl 45 _ _ rfl C3.out 1 _ _ _ _ rfl rfl rfl info45 rfl (by simp [Value.oneCell']) ?_; intro w7 hC7))
        rw [HV.out]
        refine bodyPost_ret (v := .tuple #[.agg #[.int .i64 0, .int .i64 0, .int .i64 0, .int .i64 0], .int .i64 9]) (results_ct (fn := Try.f31) rfl _ _ _ _ _ _ _ _ rfl rfl (hC7.get 1 rfl) Try.underlying45 rfl info45) rfl ⟨rfl, hC7.bel⟩
      have hnv : neverB (endsL m true) = false := by
        cases hn : neverB (endsL m true) with
        | false => rfl
        | true => exact absurd (HMX.out.2 hn) hx
      have HNV := Lib.hid hnv
      have hz : (mx == 601) = false := by simpa using hx
      clear hx hnv HMX
      go_wp2_with fail
      refine (hContains_r th m (whenP m false) _ _ r w1.heap.size plan HTH.out _ _ T3.out.times (HVPW.out.mono C3.out.bel.size)).mono ?_
      rintro e w3 ⟨rfl, hbw⟩
      have C4 := Lib.hid (C3.out.call hbw)
      have T4 := Lib.hid (T3.out.call hbw)
      clear hbw C3 T3
      cases th
      rotate_left
      · have HV : Hid (hollowV m plan = ((0, 0), (0, 0), 9)) := hollowV_bad (by unfold hollowE; rw [if_neg (by simp [H.out]), if_neg (by simp [HPZ.out]), if_neg (by simp [HNV.out]), if_pos (by have := HTP.out; cases hq : poursB m (endsL m false) plan <;> simp [hq] at this ⊢)]) (by decide)
        go_wp2_with (first | refine wpList_load_bs rfl 45 _ rfl C4.out 1 _ _ _ rfl rfl _ Try.underlying45 rfl info45 ?_ | (refine wpList_store_bs rfl 45 _ _ rfl C4.out 1 _ _ _ _ rfl rfl rfl info45 rfl (by simp [Value.oneCell']) ?_; intro w7 hC7))
        rw [HV.out]
        refine bodyPost_ret (v := .tuple #[.agg #[.int .i64 0, .int .i64 0, .int .i64 0, .int .i64 0], .int .i64 9]) (results_ct (fn := Try.f31) rfl _ _ _ _ _ _ _ _ rfl rfl (hC7.get 1 rfl) Try.underlying45 rfl info45) rfl ⟨rfl, hC7.bel⟩
      have hpb : poursB m (endsL m false) plan = true := by have := HTP.out; cases hq : poursB m (endsL m false) plan <;> simp [hq] at this ⊢
      have HW1 := Lib.hid (whenP_ok (never_cold HM.out HNV.out))
      have HW2 := Lib.hid (whenP_ok HNV.out)
      obtain ⟨h0, hh0⟩ : ∃ x, holV m (whenP m false) plan = x := ⟨_, rfl⟩
      obtain ⟨p0, hp0⟩ : ∃ x, pourL (fall m (whenP m false)) m.fill plan = x := ⟨_, rfl⟩
      obtain ⟨h9, hh9⟩ : ∃ x, holV m (whenP m true) plan = x := ⟨_, rfl⟩
      obtain ⟨p9, hp9⟩ : ∃ x, pourL (fall m (whenP m true)) m.fill plan = x := ⟨_, rfl⟩
      have HV : Hid (hollowV m plan = ((h0, h9), (p9, p0), 0)) := by
        unfold Hid hollowV
        rw [if_neg (by unfold hollowE; rw [if_neg (by simp [H.out]), if_neg (by simp [HPZ.out]), if_neg (by simp [HNV.out]), if_neg (by simp [hpb])]; simp), ← hh0, ← hp0, ← hh9, ← hp9, HW1.out, HW2.out]
      have HE1 := Lib.hid (end_any m HM.out (whenP m false) r (T4.out.len false) HR.out.symm (whenP_range m false HR.out) plan (HPK.out.order HM.out) (some ⟨g1, 0, none⟩) (some ⟨g2, 0, none⟩))
      have HE2 := Lib.hid (end_any m HM.out (whenP m true) r (T4.out.len true) HR.out.symm (whenP_range m true HR.out) plan (HPK.out.order HM.out) (some ⟨g1, 0, none⟩) (some ⟨g2, 0, none⟩))
      rw [hh0, hp0] at HE1
      rw [hh9, hp9] at HE2
      clear hh0 hp0 hh9 hp9 hpb
      have c12 : w3.cell? ⟨w1.heap.size, 12, none⟩ = some (.slice (some ⟨g1, 0, none⟩) r r) := cell_of_row w3 w1.heap.size 12 _ _ _ T4.out.h3
      go_wp2_with (refine wpList_load_row rfl 102 _ rfl _ rfl 102 _ _ _ T4.out.h3 Try.underlying102 rfl info102 ?_)
      refine (HE1.out _ _ _ T4.out.cold ((HVP.out.below C4.out.bel).mono C4.out.bel.size)).mono ?_
      rintro e w5 ⟨rfl, hbw⟩
      have C5 := Lib.hid (C4.out.call hbw)
      have T5 := Lib.hid (T4.out.call hbw)
      clear hbw C4 T4 c12
      go_wp2_with (first | (refine wpList_cell_bk rfl 3 _ _ rfl C5.out 1 _ 0 _ _ rfl rfl (.int .i64 h0) rfl (by simp) rfl info3 ?_; intro w6 hC6 hk6; have C6 : Hid (Bs w ([] ++ [(w.heap.size, .cells #[.int .i64 m.rings, .int .i64 m.give, .int .i64 m.pl, .int .i64 m.ph, .int .i64 m.wl, .int .i64 m.wh, .int .i64 m.set, .int .i64 m.shrink, .int .i64 m.skin, .int .i64 m.fill, .int .i64 m.gap, .int .i64 m.deep] 25)] ++ [(w.heap.size + 1, .cells #[.int .i64 h0, .int .i64 0, .int .i64 0, .int .i64 0] 45)]) w6) := hC6; have T6 := Lib.hid (T5.out.keep (w' := w6) (fun k hk => hk6 k (by omega))); clear hC6 hk6 C5 T5) | (refine wpList_cell_bk rfl 3 _ _ rfl C6.out 1 _ 3 _ _ rfl rfl (.int .i64 p0) rfl (by simp) rfl info3 ?_; intro w7 hC7 hk7; have C7 : Hid (Bs w ([] ++ [(w.heap.size, .cells #[.int .i64 m.rings, .int .i64 m.give, .int .i64 m.pl, .int .i64 m.ph, .int .i64 m.wl, .int .i64 m.wh, .int .i64 m.set, .int .i64 m.shrink, .int .i64 m.skin, .int .i64 m.fill, .int .i64 m.gap, .int .i64 m.deep] 25)] ++ [(w.heap.size + 1, .cells #[.int .i64 h0, .int .i64 0, .int .i64 0, .int .i64 p0] 45)]) w7) := hC7; have T7 := Lib.hid (T6.out.keep (w' := w7) (fun k hk => hk7 k (by omega))); have c13 : w7.cell? ⟨w1.heap.size, 13, none⟩ = some (.slice (some ⟨g2, 0, none⟩) r r) := cell_of_row w7 w1.heap.size 13 _ _ _ T7.out.h3; clear hC7 hk7 C6 T6) | refine wpList_load_row rfl 102 _ rfl _ rfl 102 _ _ _ T7.out.h3 Try.underlying102 rfl info102 ?_)
      refine (HE2.out _ _ _ T7.out.hot ((HVP.out.below C7.out.bel).mono C7.out.bel.size)).mono ?_
      rintro e w8 ⟨rfl, hbw⟩
      have C8 := Lib.hid (C7.out.call hbw)
      clear hbw C7 T7
      go_wp2_with (first | (refine wpList_cell_bk rfl 3 _ _ rfl C8.out 1 _ 1 _ _ rfl rfl (.int .i64 h9) rfl (by simp) rfl info3 ?_; intro w9 hC9 hk9; have C9 : Hid (Bs w ([] ++ [(w.heap.size, .cells #[.int .i64 m.rings, .int .i64 m.give, .int .i64 m.pl, .int .i64 m.ph, .int .i64 m.wl, .int .i64 m.wh, .int .i64 m.set, .int .i64 m.shrink, .int .i64 m.skin, .int .i64 m.fill, .int .i64 m.gap, .int .i64 m.deep] 25)] ++ [(w.heap.size + 1, .cells #[.int .i64 h0, .int .i64 h9, .int .i64 0, .int .i64 p0] 45)]) w9) := hC9; clear hC9 hk9 C8) | (refine wpList_cell_bk rfl 3 _ _ rfl C9.out 1 _ 2 _ _ rfl rfl (.int .i64 p9) rfl (by simp) rfl info3 ?_; intro w10 hC10 hk10; have C10 : Hid (Bs w ([] ++ [(w.heap.size, .cells #[.int .i64 m.rings, .int .i64 m.give, .int .i64 m.pl, .int .i64 m.ph, .int .i64 m.wl, .int .i64 m.wh, .int .i64 m.set, .int .i64 m.shrink, .int .i64 m.skin, .int .i64 m.fill, .int .i64 m.gap, .int .i64 m.deep] 25)] ++ [(w.heap.size + 1, .cells #[.int .i64 h0, .int .i64 h9, .int .i64 p9, .int .i64 p0] 45)]) w10) := hC10; clear hC10 hk10 C9) | refine wpList_load_bs rfl 45 _ rfl C10.out 1 _ _ _ rfl rfl _ Try.underlying45 rfl info45 ?_ | (refine wpList_store_bs rfl 45 _ _ rfl C10.out 1 _ _ _ _ rfl rfl rfl info45 rfl (by simp [Value.oneCell']) ?_; intro w11 hC11))
      rw [HV.out]
      refine bodyPost_ret (v := .tuple #[.agg #[.int .i64 h0, .int .i64 h9, .int .i64 p9, .int .i64 p0], .int .i64 0]) (results_ct (fn := Try.f31) rfl _ _ _ _ _ _ _ _ rfl rfl (hC11.get 1 rfl) Try.underlying45 rfl info45) rfl ⟨rfl, hC11.bel⟩
theorem hollow_any (m : Mou) (plan : List Int) (vp : Value) (w : World) (hv : IntsIn .i64 w.heap.size w vp plan) : Calls Try.prog 31 #[.agg #[.int .i64 m.rings, .int .i64 m.give, .int .i64 m.pl, .int .i64 m.ph, .int .i64 m.wl, .int .i64 m.wh, .int .i64 m.set, .int .i64 m.shrink, .int .i64 m.skin, .int .i64 m.fill, .int .i64 m.gap, .int .i64 m.deep], vp] w (RetHol (hollowV m plan) w) := by
  by_cases h : checkE m = 0
  · exact hollow_good m h plan vp w hv
  · exact hollow_bad m h plan vp w
end Go.Proofs.Ytafdagjdpnaddaa
