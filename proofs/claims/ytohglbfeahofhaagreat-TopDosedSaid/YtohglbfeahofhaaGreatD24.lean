/- blend.Stays at the example. -/
import Derived.Deep.Cut
import Derived.Deep.CutBlock
import Derived.WalkMore
import Derived.Test.YtohglbfeahofhaaGreatD23
namespace Go.Proofs.YtohglbfeahofhaaGreat
open Go.RowKit Go.Shelf
attribute [local go_sem] Oper.semAt_some
def exR : List Int := [4, 15, 1]
def moreX (x : List Int) : Int := 3400 - restX x
def loStep (lo : Int) (x : List Int) : Int := if x.getD 0 0 = 4 then lo else max lo (moreX x)
def loTo (l : List (List Int)) : Int := l.foldl loStep 0
theorem loTo_snoc (l : List (List Int)) (x : List Int) : loTo (l ++ [x]) = loStep (loTo l) x := by unfold loTo; rw [List.foldl_append]; rfl
theorem lo_ex : loTo fitL = 400 := by kernel_rfl
theorem rest_ex : restX exR = 3400 := by kernel_rfl
theorem why_ex : whyV exR = 0 := by kernel_rfl
theorem exR_ok : ROk 3 exR := ⟨rfl, fun i hi => by
  have h3 : i = 0 ∨ i = 1 ∨ i = 2 := by omega
  rcases h3 with rfl | rfl | rfl <;> decide, by kernel_rfl⟩
theorem more_all : (fitL.all fun x => decide (x.getD 0 0 = 4 ∧ moreX x = 0) || decide (x.getD 0 0 = 5 ∧ 0 ≤ moreX x ∧ moreX x ≤ 1000)) = true := by kernel_rfl
theorem rec_more (x : Rec) : (x.1.getD 0 0 = 4 ∧ moreX x.1 = 0) ∨ (x.1.getD 0 0 = 5 ∧ 0 ≤ moreX x.1 ∧ moreX x.1 ≤ 1000) := by
  have h := List.all_eq_true.1 more_all x.1 x.2
  rw [Bool.or_eq_true, decide_eq_true_eq, decide_eq_true_eq] at h
  exact h
/-- What holds between the rounds. -/
structure StI (w : World) (a ra : Option Addr) (cap rcap f10 : Nat) (pre : List Rec) (W : World) : Prop where
  bel : Below w.heap.size w W
  sz : f10 < W.heap.size
  l : W.heap[w.heap.size]? = some (.cells #[.slice a 3 cap] 22)
  rc : W.heap[w.heap.size + 2]? = some (.cells #[.slice ra 3 rcap] 30)
  wx : W.heap[w.heap.size + 3]? = some (.cells #[.int .i64 0] 3)
  s : W.heap[w.heap.size + 4]? = some (.cells #[.int .i64 (loTo (pre.map Subtype.val)), .int .i64 100000] 41)
  f : W.heap[f10]? = some (.cells #[.func (.func 57) #[] #[.pointer (some ⟨w.heap.size, 0, none⟩), .pointer (some ⟨w.heap.size + 3, 0, none⟩)]] 128)
section
variable {w : World} {a ra : Option Addr} {cap rcap f10 : Nat}
theorem StI.stab {r : Nat} (hf : w.heap.size + 5 ≤ f10) (hr : f10 < r) (pre : List Rec) : StabR r (StI w a ra cap rcap f10 pre) := by
  intro W W' h hb
  have k := fun {b : Nat} {o : Obj} (e : b ≠ r) (hh : W.heap[b]? = some o) => (hb.block b (block_lt hh) e).trans hh
  exact ⟨h.bel.trans (hb.below (by omega) (by have := h.sz; omega)), Nat.lt_of_lt_of_le h.sz hb.size, k (by omega) h.l, k (by omega) h.rc, k (by omega) h.wx, k (by omega) h.s, k (by omega) h.f⟩
theorem StI.turn {B : Nat} (hB : w.heap.size ≤ B) (pre : List Rec) : TurnyR B (StI w a ra cap rcap f10 pre) := by
  intro W l o o' hl h hh hc
  have k := fun {b : Nat} {cs : Array Value} {t : TypeId} (hq : W.heap[b]? = some (.cells cs t)) => cells_turnF (o' := o') hh hc b cs t hq
  exact ⟨h.bel.trans ⟨rfl, rfl, rfl, by simp [World.putObj], fun q hq => World.putObj_heap_other (by omega)⟩, by simp [World.putObj]; exact h.sz, k h.l, k h.rc, k h.wx, k h.s, k h.f⟩
end
theorem infoRT : (Tryz.prog.info? 128).map (·.size) = some 1 := by kernel_rfl
set_option maxRecDepth 100000 in
set_option maxHeartbeats 16000000 in
theorem stays_ok (v rv : Value) (pb : Nat) (w : World) (hv : BWaxesIn w.heap.size w v exL) (hp : SpansIn w.heap.size w (.slice (some ⟨pb, 0, none⟩) 3 3) exW) (hrv : IntsIn .i64 w.heap.size w rv exR) :
    Calls Tryz.prog 22 #[v, .agg (wishC (.slice (some ⟨pb, 0, none⟩) 3 3)), rv, .int .i64 0] w fun e w' => e = .returned (.tuple #[.agg #[.int .i64 400, .int .i64 100000], .int .i64 0]) ∧ Below w.heap.size w w' := by
  obtain ⟨a, cap, rfl, hcap, -⟩ := sl_shape hv
  obtain ⟨ra, rcap, rfl, -⟩ := id hrv
  have hl3 : exL.length = 3 := rfl
  have hr3 : exR.length = 3 := rfl
  have HV := Lib.hid hv
  have HP := Lib.hid hp
  have HRV := Lib.hid hrv
  rw [hl3] at HV ⊢
  rw [hr3] at HRV ⊢
  have HOD := fun v w h1 h2 => Lib.hid (odd_ok v pb w h1 h2)
  have HST := fun v rv w h1 h2 => Lib.hid (strange_ok (l := exL) (r := exR) exR_ok (by decide) v rv w h1 h2)
  have HWY := fun v rv w h1 h2 h3 => Lib.hid (why_ok (R3.of exR_ok) v rv pb w h1 h2 h3)
  rw [why_ex] at HWY
  clear hv hp hl3 hr3 hrv hcap
  have C0 : Hid (Bs w [(w.heap.size, .cells #[.slice a 3 cap] 22), (w.heap.size + 1, .cells (wishC (.slice (some ⟨pb, 0, none⟩) 3 3)) 70), (w.heap.size + 2, .cells #[.slice ra 3 rcap] 30), (w.heap.size + 3, .cells #[.int .i64 0] 3), (w.heap.size + 4, .cells #[.int .i64 0, .int .i64 0] 41)] _) := Lib.hid ((((((Bs.nil w).push _ rfl (.cells #[.slice a 3 cap] 22)).push (w.heap.size + 1) (by simp) (.cells (wishC (.slice (some ⟨pb, 0, none⟩) 3 3)) 70)).push (w.heap.size + 2) (by simp) (.cells #[.slice ra 3 rcap] 30)).push (w.heap.size + 3) (by simp) (.cells #[.int .i64 0] 3)).push (w.heap.size + 4) (by simp) (.cells #[.int .i64 0, .int .i64 0] 41))
  have c0 := C0.out.cell 0 rfl 0
  refine (callsIn_wide (n := 9)).1 ?_
  refine callsIn_of_wp_marks Tryz.func22 rfl trivial ?_ rfl
  simp only [Tryz.ntmps22, List.size_toArray, List.length_cons, List.length_nil, Nat.reduceAdd, Nat.reduceSub, Array.replicate_succ, Array.replicate_zero, List.push_toArray, List.append_toArray, List.nil_append, List.cons_append]
  refine wpIn_wide.2 ?_
  go_wp2_with fail
  go_step3
  go_wp2_with (refine wpList_load_row rfl 70 _ rfl _ rfl _ _ _ _ (C0.out.get 1 rfl) Tryz.underlying70 rfl infoWish ?_)
  refine (HOD _ _ ((HV.out.below C0.out.bel).mono C0.out.bel.size) ((HP.out.below C0.out.bel).mono C0.out.bel.size)).out.mono ?_
  rintro e w1 ⟨rfl, hb⟩
  have C1 := Lib.hid (C0.out.call hb)
  clear hb C0 HOD c0
  have c0 := C1.out.cell 0 rfl 0
  have c2 := C1.out.cell 2 rfl 0
  go_wp2_with fail
  refine (HST _ _ _ ((HV.out.below C1.out.bel).mono C1.out.bel.size) ((HRV.out.below C1.out.bel).mono C1.out.bel.size)).out.mono ?_
  rintro e w2 ⟨rfl, hb⟩
  have C2 := Lib.hid (C1.out.call hb)
  clear hb C1 HST c0 c2
  have c0 := C2.out.cell 0 rfl 0
  have c3 := C2.out.cell 3 rfl 0
  go_wp2_with fail
  refine (kout_row false 0 2 [0] 1 rfl (by simp) (by decide) _ _ rfl _ (heap_alloc_new _ _)).mono ?_
  rintro e w3 ⟨rfl, hb⟩
  have C3 := Lib.hid ((C2.out.alloc _).call hb)
  clear hb C2 c0 c3
  have c0 := C3.out.cell 0 rfl 0
  have c2 := C3.out.cell 2 rfl 0
  go_wp2_with (refine wpList_load_row rfl 70 _ rfl _ rfl _ _ _ _ (C3.out.get 1 rfl) Tryz.underlying70 rfl infoWish ?_)
  refine (HWY _ _ _ ((HV.out.below C3.out.bel).mono C3.out.bel.size) ((HRV.out.below C3.out.bel).mono C3.out.bel.size) ((HP.out.below C3.out.bel).mono C3.out.bel.size)).out.mono ?_
  rintro e w4 ⟨rfl, hb⟩
  have C4 := Lib.hid (C3.out.call hb)
  clear hb C3 HWY c0 c2
  have C4p := Lib.hid (C4.out.push _ rfl (.cells #[.nilFunc] 128))
  have HF5 : Hid (w.heap.size + 5 ≤ w4.heap.size) := C4.out.lt 4 rfl
  go_wp2_with (first | (refine wpList_cell_bz rfl 128 _ _ rfl C4p.out 5 _ 0 _ _ rfl rfl _ rfl (by simp) rfl infoRT ?_; intro w5 hC hz; have C5 : Hid (Bs w ([(w.heap.size, .cells #[.slice a 3 cap] 22), (w.heap.size + 1, .cells (wishC (.slice (some ⟨pb, 0, none⟩) 3 3)) 70), (w.heap.size + 2, .cells #[.slice ra 3 rcap] 30), (w.heap.size + 3, .cells #[.int .i64 0] 3), (w.heap.size + 4, .cells #[.int .i64 0, .int .i64 0] 41)] ++ [(w4.heap.size, .cells #[.func (.func 57) #[] #[.pointer (some ⟨w.heap.size, 0, none⟩), .pointer (some ⟨w.heap.size + 3, 0, none⟩)]] 128)]) w5) := hC; clear hC C4 C4p hz) | (refine wpList_cell_bs rfl 3 _ _ rfl C5.out 4 _ 1 _ _ rfl rfl _ rfl (by simp) rfl info3s ?_; intro w6 hC; have C6 : Hid (Bs w ([(w.heap.size, .cells #[.slice a 3 cap] 22), (w.heap.size + 1, .cells (wishC (.slice (some ⟨pb, 0, none⟩) 3 3)) 70), (w.heap.size + 2, .cells #[.slice ra 3 rcap] 30), (w.heap.size + 3, .cells #[.int .i64 0] 3), (w.heap.size + 4, .cells #[.int .i64 0, .int .i64 100000] 41)] ++ [(w4.heap.size, .cells #[.func (.func 57) #[] #[.pointer (some ⟨w.heap.size, 0, none⟩), .pointer (some ⟨w.heap.size + 3, 0, none⟩)]] 128)]) w6) := hC; clear hC C5; have c0 := C6.out.cell 0 rfl 0))
  go_step3
  go_wp2_with (refine wpList_load_row rfl 70 _ rfl _ rfl _ _ _ _ (C6.out.get 1 rfl) Tryz.underlying70 rfl infoWish ?_)
  refine (fitting_any a cap pb _).mono ?_
  rintro e w7 ⟨rfl, hw7⟩
  have C7 : Hid (Bs w ([(w.heap.size, .cells #[.slice a 3 cap] 22), (w.heap.size + 1, .cells (wishC (.slice (some ⟨pb, 0, none⟩) 3 3)) 70), (w.heap.size + 2, .cells #[.slice ra 3 rcap] 30), (w.heap.size + 3, .cells #[.int .i64 0] 3), (w.heap.size + 4, .cells #[.int .i64 0, .int .i64 100000] 41)] ++ [(w4.heap.size, .cells #[.func (.func 57) #[] #[.pointer (some ⟨w.heap.size, 0, none⟩), .pointer (some ⟨w.heap.size + 3, 0, none⟩)]] 128)] ++ [(w6.heap.size, .cells #[.slice a 3 cap] 22)] ++ [(w6.heap.size + 1, .cells (wishC (.slice (some ⟨pb, 0, none⟩) 3 3)) 70)]) w7) := by
    rw [hw7]
    exact (C6.out.push _ rfl (.cells #[.slice a 3 cap] 22)).push (w6.heap.size + 1) (by simp) (.cells (wishC (.slice (some ⟨pb, 0, none⟩) 3 3)) 70)
  have HZ7 : Hid (w7.heap.size = w6.heap.size + 2) := by unfold Hid; rw [hw7]; simp
  have HZ6 : Hid (w4.heap.size + 1 ≤ w6.heap.size) := C6.out.lt 5 rfl
  clear hw7 C6 c0
  simp only [List.cons_append, List.nil_append] at C7
  go_wp2_with fail
  have HGV := Lib.hid (fit_gives 8 w.heap.size w6.heap.size (w6.heap.size + 1) pb (fun k => k = w.heap.size + 4) a cap w7 (C7.out.get 6 rfl) (C7.out.get 7 rfl) C7.out.bel.size (by have := HZ6.out; have := HF5.out; omega) (by have := HZ6.out; have := HF5.out; omega) (fun k hk => by have := HZ6.out; have := HZ7.out; have := HF5.out; omega) (HV.out.below C7.out.bel) (HP.out.below C7.out.bel))
  have HZ8 : Hid (w4.heap.size + 3 ≤ w7.heap.size) := by unfold Hid; rw [HZ7.out]; have := HZ6.out; omega
  have HI0 : Hid (∀ r, w7.heap.size ≤ r → StI w a ra cap rcap w4.heap.size [] w7) := fun r _ => ⟨C7.out.bel, by have := HZ8.out; omega, C7.out.get 0 rfl, C7.out.get 2 rfl, C7.out.get 3 rfl, C7.out.get 4 rfl, C7.out.get 5 rfl⟩
  clear C7
  refine (wpIn_wide (n := 9)).1 ?_
  refine wpIn_range_row (α := Rec) rfl (by omega) (gf := 90) (lb := #[.pointer (some ⟨w6.heap.size, 0, none⟩), .pointer (some ⟨w6.heap.size + 1, 0, none⟩)]) rfl trivial (enters_of Tryz.func90 (by kernel_rfl) rfl) HGV.out
    (fun h k => FitK.t h k) (FitK.turn (by have := HZ8.out; have := HF5.out; omega)) (fun _ _ => rfl)
    (fun r pre W => StI w a ra cap rcap w4.heap.size pre W) (fun _ _ _ _ => False) (fun r pre hr => StI.stab HF5.out (by have := HZ8.out; omega) pre) (fun _ _ _ _ _ _ h _ => h) (fun r pre => StI.turn (by have := HZ8.out; have := HF5.out; omega) pre) (fun _ _ _ _ _ _ _ _ h _ _ => h) HI0.out
    (fun r x a' W => a' = { tmps := #[.slice a 3 cap, .agg (wishC (.slice (some ⟨pb, 0, none⟩) 3 3)), .slice ra 3 rcap, .int .i64 0, .pointer (some ⟨w.heap.size, 0, none⟩), .pointer (some ⟨w.heap.size + 1, 0, none⟩), .pointer (some ⟨w.heap.size + 1 + 1, 0, none⟩), .pointer (some ⟨w.heap.size + 1 + 1 + 1, 0, none⟩), .pointer (some ⟨w.heap.size + 1 + 1 + 1 + 1, 0, none⟩), .int .i64 0, .pointer (some ⟨w4.heap.size, 0, none⟩), .slice (some ⟨r, 0, none⟩) 3 3, undef, undef, .slice a 3 cap, .agg (wishC (.slice (some ⟨pb, 0, none⟩) 3 3)), .int .i64 0, .int .i64 0, .bool false, undef, undef, .slice a 3 cap, .slice ra 3 rcap, .int .i64 0, .bool false, .int .i64 0, .bool false, undef, undef, .bool false, .slice a 3 cap, .int .i64 3, .int .i64 2, .int .i64 0, .slice (some ⟨w2.heap.size, 0, none⟩) 1 1, .bool false, undef, .bool false, .slice a 3 cap, .agg (wishC (.slice (some ⟨pb, 0, none⟩) 3 3)), .slice ra 3 rcap, .int .i64 0, .bool false, undef, .func (.func 57) #[] #[.pointer (some ⟨w.heap.size, 0, none⟩), .pointer (some ⟨w.heap.size + 1 + 1 + 1, 0, none⟩)], .pointer (some ⟨w.heap.size + 1 + 1 + 1 + 1, 1, none⟩), .slice a 3 cap, .agg (wishC (.slice (some ⟨pb, 0, none⟩) 3 3)), .func (.func 90) #[] #[.pointer (some ⟨w6.heap.size, 0, none⟩), .pointer (some ⟨w6.heap.size + 1, 0, none⟩)], .slice (some ⟨r, 0, none⟩) 3 3, undef, undef, undef, undef, undef, undef, undef, undef, undef, undef, undef, undef, undef, undef, undef, undef, undef, undef, undef, undef, undef, undef, undef, undef, undef, undef, undef, undef, undef, undef, undef, undef, undef, undef, undef, undef, undef, undef, undef, undef, undef, undef, undef, undef, undef, undef, undef, undef, undef, undef, undef], defers := [] } ∧ W.heap[r]? = some (.cells (ints x.1) 3)) (fun r x a' W l o o' h _ hh hc => ⟨h.1, cells_turnF hh hc _ _ _ h.2⟩) ?assign ?body ?done ?stop
  case stop =>
    intro D r c pre W _ _ _ h _
    exact h.elim
  case assign =>
    intro lp r pre x W K hr hI hszV hrow hK
    have HK := Lib.hid hK
    have HI := Lib.hid hI
    have HRW := Lib.hid hrow
    clear hK hI hrow
    gi_wp2_with fail
    exact HK.out _ _ ⟨Nat.le_refl _, fun _ _ _ h _ => h⟩ (FitK.refl _ _ _) HI.out ⟨rfl, HRW.out⟩
  case body =>
    rintro lp r pre x a' W hr hszW hI ⟨rfl, hrow⟩ hlen
    dsimp only
    have HI := Lib.hid hI
    have HRW := Lib.hid hrow
    have HR := Lib.hid (rec_R3 x)
    have hmo := rec_more x
    have HSN : Hid (loTo ((pre ++ [x]).map Subtype.val) = loStep (loTo (pre.map Subtype.val)) x.1) := by unfold Hid; rw [List.map_append]; exact loTo_snoc _ _
    have HLS : Hid (loStep (loTo (pre.map Subtype.val)) x.1 = if x.1.getD 0 0 = 4 then loTo (pre.map Subtype.val) else max (loTo (pre.map Subtype.val)) (moreX x.1)) := rfl
    have HMX : Hid (moreX x.1 = 3400 - restX x.1) := rfl
    have hxc : W.cell? ⟨r, 0, none⟩ = some (.int .i64 (x.1.getD 0 0)) := by rw [cell_of_row _ _ _ _ _ _ HRW.out, ints_get _ _ (by rw [HR.out.len]; decide)]
    have HXC := Lib.hid hxc
    obtain ⟨rb, ro, he, hrbl, hrx⟩ : ∃ b o, ra = some ⟨b, o, none⟩ ∧ b < w.heap.size ∧ w.cell? ⟨b, o + 0, none⟩ = some (.int .i64 4) := HRV.out.atU (i := 0) (by decide)
    subst he
    rw [Nat.add_zero] at hrx
    have HRC : Hid (W.cell? ⟨rb, ro, none⟩ = some (.int .i64 4)) := (HI.out.bel.cell (p := ⟨rb, ro, none⟩) hrbl).trans hrx
    have HRB : Hid (rb < W.heap.size) := Nat.lt_of_lt_of_le hrbl HI.out.bel.size
    have HRE := fun W2 h1 h2 h3 h4 => Lib.hid (rest_ok (R3.of exR_ok) a cap (.slice (some ⟨rb, ro, none⟩) 3 rcap) w.heap.size (w.heap.size + 3) W2 h1 h2 h3 h4)
    rw [rest_ex] at HRE
    have HRX : ∀ W2, W2.heap[w.heap.size]? = some (.cells #[.slice a 3 cap] 22) → W2.heap[w.heap.size + 3]? = some (.cells #[.int .i64 0] 3) → BWaxesIn W2.heap.size W2 (.slice a 3 cap) exL → IntsIn .i64 W2.heap.size W2 (.slice (some ⟨r, 0, none⟩) 3 3) x.1 → Hid (Calls Tryz.prog 57 #[.slice (some ⟨r, 0, none⟩) 3 3, .pointer (some ⟨w.heap.size, 0, none⟩), .pointer (some ⟨w.heap.size + 3, 0, none⟩)] W2 fun e w' => e = .returned (.int .i64 (restX x.1)) ∧ Below W2.heap.size W2 w') := fun W2 h1 h2 h3 h4 => Lib.hid (rest_ok HR.out a cap _ _ _ W2 h1 h2 h3 h4)
    obtain ⟨lo, HLO⟩ : ∃ z, Hid (loTo (pre.map Subtype.val) = z) := ⟨_, rfl⟩
    obtain ⟨m, HMM⟩ : ∃ z, Hid (moreX x.1 = z) := ⟨_, rfl⟩
    obtain ⟨x0, HX0⟩ : ∃ z, Hid (x.1.getD 0 0 = z) := ⟨_, rfl⟩
    obtain ⟨q, HQ⟩ : ∃ z, Hid (restX x.1 = z) := ⟨_, rfl⟩
    obtain ⟨by_, HY⟩ : ∃ z, Hid (4 - x0 = z) := ⟨_, rfl⟩
    rw [HLO.out, HX0.out, HMM.out] at HLS
    rw [HLO.out] at HSN
    rw [HQ.out] at HRX
    rw [HMM.out, HQ.out] at HMX
    rw [HX0.out] at HXC
    rw [HX0.out, HMM.out] at hmo
    have HBY : Hid (wrap64 (4 - x0) = by_) := by unfold Hid; rw [← HY.out]; exact wrapU (by omega)
    have HMO : Hid (wrap64 (3400 - q) = m) := by have := HMX.out; unfold Hid; rw [← this]; exact wrapU (by omega)
    have HSI := Lib.hid HI.out.s
    rw [HLO.out] at HSI
    have hcase : (by_ = 0 ∧ m = 0 ∧ x0 = 4) ∨ (by_ = -1 ∧ 0 ≤ m ∧ m ≤ 1000 ∧ x0 = 5) := by have := HY.out; omega
    have HCA := Lib.hid hcase
    clear hcase hmo hxc hrbl hrx hrow hI HQ HMM HX0 HY HMX
    gi_wp2_with fail
    refine wpIn_region_inv0 (by kernel_rfl) (by kernel_rfl) (fun D w' => Below W.heap.size W w') (Below.refl _ _).drew ?_
    iterate 11
      (apply obl_detIn
       case hrun =>
         intro D y wz hW hD R hR
         have HRR := Lib.hid hR
         clear hR
         have HW := Lib.hid hW
         have hsz := HW.out.size
         have c6 : wz.cell? ⟨w.heap.size + 1 + 1, 0, none⟩ = some (.slice (some ⟨rb, ro, none⟩) 3 rcap) := cell_of_row _ _ 0 _ _ _ (block_keep HI.out.rc HW.out)
         have c7 : wz.cell? ⟨w.heap.size + 1 + 1 + 1, 0, none⟩ = some (.int .i64 0) := cell_of_row _ _ 0 _ _ _ (block_keep HI.out.wx HW.out)
         have c10 := cell_of_row _ _ 0 _ _ _ (block_keep HI.out.f HW.out)
         have cr := (HW.out.cell (p := ⟨rb, ro, none⟩) HRB.out).trans HRC.out
         have cx := (HW.out.cell (p := ⟨r, 0, none⟩) (block_lt HRW.out)).trans HXC.out
         have by1 := HBY.out
         have mo1 := HMO.out
         clear hW hD
         gi_wp2
         exact HRR.out _ HW.out
       case hnp => rfl
       case hv => first | exact ⟨_, fun _ => rfl⟩ | exact ⟨undef, fun _ => rfl⟩)
    apply obl_detIn
    case hrun =>
      intro D y wz hW hD R hR
      have HRR := Lib.hid hR
      clear hR
      have HW := Lib.hid hW
      clear hW hD
      gi_wp2_with fail
      refine ⟨trivial, (callsIn_wide.2 ((HRE _ (block_keep HI.out.l HW.out) (block_keep HI.out.wx HW.out) ((HV.out.below (HI.out.bel.trans (HW.out.mono HI.out.bel.size))).mono (Nat.le_trans HI.out.bel.size HW.out.size)) ((HRV.out.below (HI.out.bel.trans (HW.out.mono HI.out.bel.size))).mono (Nat.le_trans HI.out.bel.size HW.out.size))).out)).mono ?_⟩
      rintro e w' ⟨rfl, hb⟩
      have HB2 := Lib.hid (HW.out.trans (hb.mono HW.out.size))
      clear hb
      gi_wp2_with fail
      exact HRR.out _ HB2.out
    case hnp => rfl
    case hv => first | exact ⟨_, fun _ => rfl⟩ | exact ⟨undef, fun _ => rfl⟩
    iterate 2
      (apply obl_detIn
       case hrun =>
         intro D y wz hW hD R hR
         have HRR := Lib.hid hR
         clear hR
         have HW := Lib.hid hW
         have hsz := HW.out.size
         have c6 : wz.cell? ⟨w.heap.size + 1 + 1, 0, none⟩ = some (.slice (some ⟨rb, ro, none⟩) 3 rcap) := cell_of_row _ _ 0 _ _ _ (block_keep HI.out.rc HW.out)
         have c7 : wz.cell? ⟨w.heap.size + 1 + 1 + 1, 0, none⟩ = some (.int .i64 0) := cell_of_row _ _ 0 _ _ _ (block_keep HI.out.wx HW.out)
         have c10 := cell_of_row _ _ 0 _ _ _ (block_keep HI.out.f HW.out)
         have cr := (HW.out.cell (p := ⟨rb, ro, none⟩) HRB.out).trans HRC.out
         have cx := (HW.out.cell (p := ⟨r, 0, none⟩) (block_lt HRW.out)).trans HXC.out
         have by1 := HBY.out
         have mo1 := HMO.out
         clear hW hD
         gi_wp2
         exact HRR.out _ HW.out
       case hnp => rfl
       case hv => first | exact ⟨_, fun _ => rfl⟩ | exact ⟨undef, fun _ => rfl⟩)
    apply obl_detIn
    case hrun =>
      intro D y wz hW hD R hR
      have HRR := Lib.hid hR
      clear hR
      have HW := Lib.hid hW
      clear hW hD
      gi_wp2_with fail
      refine ⟨trivial, (callsIn_wide.2 ((HRX _ (block_keep HI.out.l HW.out) (block_keep HI.out.wx HW.out) ((HV.out.below (HI.out.bel.trans (HW.out.mono HI.out.bel.size))).mono (Nat.le_trans HI.out.bel.size HW.out.size)) (intsIn_blk (block_keep HRW.out HW.out) rfl (by rw [HR.out.len]; decide) HR.out.len)).out)).mono ?_⟩
      rintro e w' ⟨rfl, hb⟩
      have HB2 := Lib.hid (HW.out.trans (hb.mono HW.out.size))
      clear hb
      gi_wp2_with fail
      exact HRR.out _ HB2.out
    case hnp => rfl
    case hv => first | exact ⟨_, fun _ => rfl⟩ | exact ⟨undef, fun _ => rfl⟩
    iterate 3
      (apply obl_detIn
       case hrun =>
         intro D y wz hW hD R hR
         have HRR := Lib.hid hR
         clear hR
         have HW := Lib.hid hW
         have hsz := HW.out.size
         have c6 : wz.cell? ⟨w.heap.size + 1 + 1, 0, none⟩ = some (.slice (some ⟨rb, ro, none⟩) 3 rcap) := cell_of_row _ _ 0 _ _ _ (block_keep HI.out.rc HW.out)
         have c7 : wz.cell? ⟨w.heap.size + 1 + 1 + 1, 0, none⟩ = some (.int .i64 0) := cell_of_row _ _ 0 _ _ _ (block_keep HI.out.wx HW.out)
         have c10 := cell_of_row _ _ 0 _ _ _ (block_keep HI.out.f HW.out)
         have cr := (HW.out.cell (p := ⟨rb, ro, none⟩) HRB.out).trans HRC.out
         have cx := (HW.out.cell (p := ⟨r, 0, none⟩) (block_lt HRW.out)).trans HXC.out
         have by1 := HBY.out
         have mo1 := HMO.out
         clear hW hD
         gi_wp2
         exact HRR.out _ HW.out
       case hnp => rfl
       case hv => first | exact ⟨_, fun _ => rfl⟩ | exact ⟨undef, fun _ => rfl⟩)
    apply obl_nilIn
    intro D y w8 hall hW
    have HW8 : Hid (Below W.heap.size W w8) := hW
    clear hW hall
    rw [HBY.out, HMO.out]
    have hs8 := HW8.out.size
    have hsW := HI.out.bel.size
    have hsf := HI.out.sz
    have hf5 := HF5.out
    have hz8 := HZ8.out
    rcases HCA.out with ⟨rfl, rfl, rfl⟩ | ⟨rfl, h0, h1, rfl⟩
    · gi_wp2_with fail
      try simp only [Exit.inBlock]
      refine ⟨Keeps.below HW8.out, FitK.below HW8.out (by omega), ⟨HI.out.bel.trans (HW8.out.mono HI.out.bel.size), Nat.lt_of_lt_of_le HI.out.sz hs8, block_keep HI.out.l HW8.out, block_keep HI.out.rc HW8.out, block_keep HI.out.wx HW8.out, ?_, block_keep HI.out.f HW8.out⟩⟩
      rw [HSN.out, HLS.out, if_pos trivial]
      exact block_keep HSI.out HW8.out
    · have HN1 : Hid (wrap64 (-m) = -m) := wrapU (by omega)
      have HN2 : Hid (wrap64 m = m) := wrapU (by omega)
      have HDN := fun w => Lib.hid (down_ok (-m) 1 (by omega) (by omega) w)
      rw [Int.ediv_one] at HDN
      have HS8 := Lib.hid (block_keep HSI.out HW8.out)
      gi_wp2_with fail
      refine wpIn_region_inv0 (by kernel_rfl) (by kernel_rfl) (fun D w' => (D 10 = false → Below w8.heap.size w8 w') ∧ (D 10 = true → w'.heap[w.heap.size + 4]? = some (.cells #[.int .i64 (max lo m), .int .i64 100000] 41) ∧ But (w.heap.size + 4) w8 w')) ⟨fun _ => (Below.refl _ _).drew, fun h => (by cases h)⟩ ?_
      apply obl_detIn
      case hrun =>
        intro D y wz hW hD R hR
        have HRR := Lib.hid hR
        clear hR
        have h10 : D 10 = false := hD.post _ 10 rfl (by kernel_rfl)
        have H10 := Lib.hid h10
        replace hW := hW.1 h10
        clear h10
        have HW := Lib.hid hW
        have cs := cell_of_row _ _ 0 _ _ _ (block_keep HS8.out HW.out)
        have hn1 := HN1.out
        have hn2 := HN2.out
        clear hW hD
        gi_wp2
        exact HRR.out _ ⟨fun _ => HW.out, fun h => absurd (show D 10 = true from h) (by rw [H10.out]; decide)⟩
      case hnp => rfl
      case hv => first | exact ⟨_, fun _ => rfl⟩ | exact ⟨undef, fun _ => rfl⟩
      apply obl_detIn
      case hrun =>
        intro D y wz hW hD R hR
        have HRR := Lib.hid hR
        clear hR
        have h10 : D 10 = false := hD.post _ 10 rfl (by kernel_rfl)
        have H10 := Lib.hid h10
        replace hW := hW.1 h10
        clear h10
        have HW := Lib.hid hW
        have cs := cell_of_row _ _ 0 _ _ _ (block_keep HS8.out HW.out)
        have hn1 := HN1.out
        have hn2 := HN2.out
        clear hW hD
        gi_wp2
        exact HRR.out _ ⟨fun _ => HW.out, fun h => absurd (show D 10 = true from h) (by rw [H10.out]; decide)⟩
      case hnp => rfl
      case hv => first | exact ⟨_, fun _ => rfl⟩ | exact ⟨undef, fun _ => rfl⟩
      apply obl_detIn
      case hrun =>
        intro D y wz hW hD R hR
        have HRR := Lib.hid hR
        clear hR
        have h10 : D 10 = false := hD.post _ 10 rfl (by kernel_rfl)
        have H10 := Lib.hid h10
        replace hW := hW.1 h10
        clear h10
        have HW := Lib.hid hW
        have cs := cell_of_row _ _ 0 _ _ _ (block_keep HS8.out HW.out)
        have hn1 := HN1.out
        have hn2 := HN2.out
        clear hW hD
        gi_wp2
        exact HRR.out _ ⟨fun _ => HW.out, fun h => absurd (show D 10 = true from h) (by rw [H10.out]; decide)⟩
      case hnp => rfl
      case hv => first | exact ⟨_, fun _ => rfl⟩ | exact ⟨undef, fun _ => rfl⟩
      apply obl_detIn
      case hrun =>
        intro D y wz hW hD R hR
        have HRR := Lib.hid hR
        clear hR
        have h10 : D 10 = false := hD.post _ 10 rfl (by kernel_rfl)
        have H10 := Lib.hid h10
        replace hW := hW.1 h10
        clear h10
        have HW := Lib.hid hW
        have cs := cell_of_row _ _ 0 _ _ _ (block_keep HS8.out HW.out)
        have hn1 := HN1.out
        have hn2 := HN2.out
        clear hW hD
        gi_wp2
        exact HRR.out _ ⟨fun _ => HW.out, fun h => absurd (show D 10 = true from h) (by rw [H10.out]; decide)⟩
      case hnp => rfl
      case hv => first | exact ⟨_, fun _ => rfl⟩ | exact ⟨undef, fun _ => rfl⟩
      apply obl_detIn
      case hrun =>
        intro D y wz hW hD R hR
        have HRR := Lib.hid hR
        clear hR
        have h10 : D 10 = false := hD.post _ 10 rfl (by kernel_rfl)
        have H10 := Lib.hid h10
        replace hW := hW.1 h10
        clear h10
        have HW := Lib.hid hW
        have cs := cell_of_row _ _ 0 _ _ _ (block_keep HS8.out HW.out)
        have hn1 := HN1.out
        have hn2 := HN2.out
        clear hW hD
        gi_wp2
        exact HRR.out _ ⟨fun _ => HW.out, fun h => absurd (show D 10 = true from h) (by rw [H10.out]; decide)⟩
      case hnp => rfl
      case hv => first | exact ⟨_, fun _ => rfl⟩ | exact ⟨undef, fun _ => rfl⟩
      apply obl_detIn
      case hrun =>
        intro D y wz hW hD R hR
        have HRR := Lib.hid hR
        clear hR
        have h10 : D 10 = false := hD.post _ 10 rfl (by kernel_rfl)
        have H10 := Lib.hid h10
        replace hW := hW.1 h10
        clear h10
        have HW := Lib.hid hW
        have cs := cell_of_row _ _ 0 _ _ _ (block_keep HS8.out HW.out)
        have hn1 := HN1.out
        have hn2 := HN2.out
        clear hW hD
        gi_wp2
        exact HRR.out _ ⟨fun _ => HW.out, fun h => absurd (show D 10 = true from h) (by rw [H10.out]; decide)⟩
      case hnp => rfl
      case hv => first | exact ⟨_, fun _ => rfl⟩ | exact ⟨undef, fun _ => rfl⟩
      apply obl_detIn
      case hrun =>
        intro D y wz hW hD R hR
        have HRR := Lib.hid hR
        clear hR
        have h10 : D 10 = false := hD.post _ 10 rfl (by kernel_rfl)
        have H10 := Lib.hid h10
        replace hW := hW.1 h10
        clear h10
        have HW := Lib.hid hW
        clear hW hD
        gi_wp2_with fail
        refine ⟨trivial, (callsIn_wide.2 (HDN _).out).mono ?_⟩
        rintro e w' ⟨rfl, rfl⟩
        gi_wp2_with fail
        exact HRR.out _ ⟨fun _ => HW.out, fun h => absurd (show D 10 = true from h) (by rw [H10.out]; decide)⟩
      case hnp => rfl
      case hv => first | exact ⟨_, fun _ => rfl⟩ | exact ⟨undef, fun _ => rfl⟩
      apply obl_detIn
      case hrun =>
        intro D y wz hW hD R hR
        have HRR := Lib.hid hR
        clear hR
        have h10 : D 10 = false := hD.post _ 10 rfl (by kernel_rfl)
        have H10 := Lib.hid h10
        replace hW := hW.1 h10
        clear h10
        have HW := Lib.hid hW
        have cs := cell_of_row _ _ 0 _ _ _ (block_keep HS8.out HW.out)
        have hn1 := HN1.out
        have hn2 := HN2.out
        clear hW hD
        gi_wp2
        exact HRR.out _ ⟨fun _ => HW.out, fun h => absurd (show D 10 = true from h) (by rw [H10.out]; decide)⟩
      case hnp => rfl
      case hv => first | exact ⟨_, fun _ => rfl⟩ | exact ⟨undef, fun _ => rfl⟩
      apply obl_detIn
      case hrun =>
        intro D y wz hW hD R hR
        have HRR := Lib.hid hR
        clear hR
        have h10 : D 10 = false := hD.post _ 10 rfl (by kernel_rfl)
        have H10 := Lib.hid h10
        replace hW := hW.1 h10
        clear h10
        have HW := Lib.hid hW
        have cs := cell_of_row _ _ 0 _ _ _ (block_keep HS8.out HW.out)
        have hn1 := HN1.out
        have hn2 := HN2.out
        clear hW hD
        gi_wp2
        exact HRR.out _ ⟨fun _ => HW.out, fun h => absurd (show D 10 = true from h) (by rw [H10.out]; decide)⟩
      case hnp => rfl
      case hv => first | exact ⟨_, fun _ => rfl⟩ | exact ⟨undef, fun _ => rfl⟩
      apply obl_detIn
      case hrun =>
        intro D y wz hW hD R hR
        have HRR := Lib.hid hR
        clear hR
        have h10 : D 10 = false := hD.post _ 10 rfl (by kernel_rfl)
        have H10 := Lib.hid h10
        replace hW := hW.1 h10
        clear h10
        have HW := Lib.hid hW
        have cs := cell_of_row _ _ 0 _ _ _ (block_keep HS8.out HW.out)
        have hn1 := HN1.out
        have hn2 := HN2.out
        clear hW hD
        gi_wp2
        exact HRR.out _ ⟨fun _ => HW.out, fun h => absurd (show D 10 = true from h) (by rw [H10.out]; decide)⟩
      case hnp => rfl
      case hv => first | exact ⟨_, fun _ => rfl⟩ | exact ⟨undef, fun _ => rfl⟩
      apply obl_detIn
      case hrun =>
        intro D y wz hW hD R hR
        have HRR := Lib.hid hR
        clear hR
        have h10 : D 10 = false := hD.not
        replace hW := hW.1 h10
        clear h10
        have HW := Lib.hid hW
        clear hW hD
        refine wpListIn_cell_but rfl 3 _ _ rfl (w.heap.size + 4) 0 _ _ (block_keep HS8.out HW.out) rfl _ rfl (by simp) rfl info3s ?_
        intro w' hg' hb'
        have HG := Lib.hid hg'
        have HBB := Lib.hid ((But.of HW.out).trans hb')
        clear hg' hb'
        go_simp
        exact HRR.out _ ⟨fun h => (by cases h), fun _ => ⟨HG.out, HBB.out⟩⟩
      case hnp => rfl
      case hv => first | exact ⟨_, fun _ => rfl⟩ | exact ⟨undef, fun _ => rfl⟩
      apply obl_nilIn
      intro D y w9 hall hW
      obtain ⟨hg9, hb9⟩ := hW.2 (hall 10 (by decide))
      have HG9 := Lib.hid hg9
      have HB9 := Lib.hid hb9
      clear hW hall hg9 hb9
      gi_wp2_with fail
      try simp only [Exit.inBlock]
      have k := fun {b : Nat} {o : Obj} (e : b ≠ w.heap.size + 4) (hh : W.heap[b]? = some o) => (HB9.out.block b (Nat.lt_of_lt_of_le (block_lt hh) hs8) e).trans (block_keep hh HW8.out)
      refine ⟨(Keeps.below HW8.out).trans (Keeps.but HB9.out (by omega)), (FitK.below HW8.out (by omega)).t (FitK.but HB9.out rfl (by omega) (by omega)), ⟨HI.out.bel.trans ((HW8.out.mono HI.out.bel.size).trans (HB9.out.below (by omega) (by omega))), Nat.lt_of_lt_of_le HI.out.sz (Nat.le_trans hs8 HB9.out.size), k (by omega) HI.out.l, k (by omega) HI.out.rc, k (by omega) HI.out.wx, ?_, k (by omega) HI.out.f⟩⟩
      rw [HSN.out, HLS.out, if_neg (by decide)]
      exact HG9.out
  case done =>
    intro Dm r xs W hD hr hS hI hDW
    have hs := hI.s
    rw [hS, lo_ex] at hs
    have HS := Lib.hid hs
    have HBL := Lib.hid hI.bel
    have HSZ := Lib.hid hI.sz
    have HDm := Lib.hid hD
    have HDW := Lib.hid hDW
    clear hs hI hS hDW hD
    have c_lo : W.cell? ⟨w.heap.size + 1 + 1 + 1 + 1, 0, none⟩ = some (.int .i64 400) := cell_of_row _ _ 0 _ _ _ HS.out
    have c_hi : W.cell? ⟨w.heap.size + 1 + 1 + 1 + 1, 1, none⟩ = some (.int .i64 100000) := cell_of_row _ _ 1 _ _ _ HS.out
    dsimp only
    try simp only [Exit.inBlock]
    go_wp2_with (first | (refine wpList_load_row rfl 41 _ rfl _ rfl _ _ _ _ HS.out Tryz.underlying41 rfl infoSpan ?_) | (refine wpList_mid_but rfl 41 _ _ rfl (w.heap.size + 4) 0 #[.int .i64 400, .int .i64 100000] [] [.int .i64 400, .int .i64 100000] 41 HS.out rfl rfl rfl infoSpan (by simp) (by simp [Value.oneCell']) ?_; intro W2 hg2 hb2; have HG2 : Hid (W2.heap[w.heap.size + 4]? = some (.cells #[.int .i64 400, .int .i64 100000] 41)) := hg2; have HB2 := Lib.hid hb2; clear hg2 hb2))
    try rw [Exit.noGoto_ret]
    have hf5 := HF5.out
    have hsz := HSZ.out
    have hz8 := HZ8.out
    have hdm := HDm.out
    refine leaves_marks (B := w7.heap.size) ⟨⟨Dm, rfl, HDm.out, (HB2.out.block _ (block_lt HDW.out) (by omega)).trans HDW.out, by simp⟩, trivial⟩ (fun w' hck => ?_)
    simp only [LeavesInM, LeavesIn]
    exact ⟨_, results_row_tmp rfl _ _ _ _ _ _ _ rfl rfl (hck.cells _ _ _ _ HG2.out) Tryz.underlying41 rfl infoSpan, rfl, HBL.out.trans ((HB2.out.below (by omega) (by have := HBL.out.size; omega)).trans (hck.bel.mono (by omega)))⟩
end Go.Proofs.YtohglbfeahofhaaGreat
