/- Walks: Keeps, Take, Pale; Made plainly. -/
import Derived.Test.YtaigbhhmmdfdcaaK3
import Derived.Test.YtaigbhhmmdfdcaaK1
import Derived.WalkMore
/- scent.Keeps. -/
namespace Go.Proofs.Ytaigbhhmmdfdcaa
open Go.RowKit
theorem stood51 : Try.prog.stoodInHeld 51 = false := by kernel_rfl
theorem fields51 : Try.prog.underlying 51 = some (.struct (Try.prog.fieldsOf 51)) := by kernel_rfl
set_option maxRecDepth 100000 in
theorem run_equalIn_span (d : Nat) (a b c e : Int) (w : World) : (Op.equalIn (d + 2) 51 (.agg #[.int .i64 a, .int .i64 b]) (.agg #[.int .i64 c, .int .i64 e])).run Try.prog w = .ok (a == c && b == e) w := by
  rw [run_equalIn_agg w (d + 1) 51 _ _ fields51 stood51]
  go_simp
  by_cases h1 : a = c <;> by_cases h2 : b = e <;> simp [h1, h2]
theorem sizeOf51 (w : World) : (Go.sizeOf 51).run Try.prog w = .ok 2 w := by
  cases hq : Try.prog.info? 51 with
  | none => have := info51; simp [hq] at this
  | some i => have := info51; simp [hq] at this; simp [Go.sizeOf, typeInfo, hq, this]
theorem part_sp (m : Nat → Int × Int) (t : Nat) (ht : t < 5) (w : World) : (part 51 (spC m).toArray (t * 2)).run Try.prog w = .ok (.agg #[.int .i64 (m t).1, .int .i64 (m t).2]) w := by
  have hagg : (isAgg 51).run Try.prog w = .ok true w := by
    unfold isAgg; rw [Sem.run_bind, run_underlying Try.underlying51 w]; simp
  unfold part
  simp only [Sem.run_bind, hagg, Result.andThen_ok, if_true, sizeOf51]
  rcases lt5 ht with rfl | rfl | rfl | rfl | rfl <;> simp [spC]
theorem run_eqloop_sp (d : Nat) (l m : Nat → Int × Int) (w : World) :
    ∀ (c s : Nat), s + c = 5 →
    (forIn (List.range' s c) ((none : Option Bool), ()) fun i __s => do
                let __do_lift ← part 51 (spC l).toArray (i * 2)
                let __do_lift_1 ← part 51 (spC m).toArray (i * 2)
                let __do_lift ← Op.equalIn (d + 2) 51 __do_lift __do_lift_1
                if (!__do_lift) = true then pure (ForInStep.done (some false, ()))
                  else pure (ForInStep.yield (none, ()))).run Try.prog w = .ok (if (List.range' s c).all (fun i => l i == m i) then (none, ()) else (some false, ())) w
  | 0, s, h => by simp
  | c + 1, s, h => by
    have ih := run_eqloop_sp d l m w c (s + 1) (by omega)
    rw [List.range'_succ, List.forIn_cons]
    simp only [Sem.run_bind, part_sp l s (by omega) w, part_sp m s (by omega) w, Result.andThen_ok, run_equalIn_span]
    have e : ((l s).1 == (m s).1 && (l s).2 == (m s).2) = (l s == m s) := rfl
    rw [e, List.all_cons]
    cases hh : (l s == m s)
    · simp
    · simp only [Bool.not_true, Bool.false_eq_true, if_false, Sem.run_pure, Result.andThen_ok, Bool.true_and]
      exact ih
theorem run_equalIn_sp (l m : Nat → Int × Int) (w : World) :
    (Op.equalIn 10000 109 (.agg (spC l).toArray) (.agg (spC m).toArray)).run Try.prog w = .ok ((List.range' 0 5).all (fun i => l i == m i)) w := by
  have key := run_eqloop_sp 9997 l m w 5 0 rfl
  rw [show (10000 : Nat) = 9999 + 1 from rfl, Op.equalIn]
  simp only [Sem.run_bind, run_underlying Try.underlying109, Result.andThen_ok, sizeOf51]
  rw [Std.Legacy.Range.forIn_eq_forIn_range']
  simp only [Std.Legacy.Range.size, Nat.sub_zero, Nat.add_one_sub_one, Nat.div_one]
  rw [key]
  cases (List.range' 0 5).all (fun i => l i == m i) <;> simp
theorem firstOf_next {f : Nat → Bool} {t : Nat} (h0 : firstOf f t = none) (h1 : f t = false) : firstOf f (t + 1) = none := by
  simp [firstOf, h0, h1]
/-- Three ints are handed back. -/
def Ret3 (t : Int × Int × Int) (w : World) : Ending → World → Prop := fun e w' => e = .returned (.tuple #[.int .i64 t.1, .int .i64 t.2.1, .int .i64 t.2.2]) ∧ Below w.heap.size w w'
set_option maxRecDepth 100000 in
set_option maxHeartbeats 8000000 in
theorem keeps_any (s : Shop) (l : List Bat) (vt vl v : Value) (w : World) (hv : ShopAt w.heap.size w vt vl s) (hl' : BatsIn w.heap.size w v l) :
    Calls Try.prog 25 #[.agg #[vt, vl], v] w (Ret3 (keepsV s l) w) := by
  unfold Ret3
  have HV := Lib.hid hv
  have HL := Lib.hid hl'
  obtain ⟨ta, tc, rfl, -, htl⟩ := sl_shape hv.1
  obtain ⟨la, lc, rfl, -, hll⟩ := sl_shape hv.2
  obtain ⟨va, vc, rfl, -, hvl⟩ := sl_shape hl'
  clear hv hl'
  have hb0 := (Below.refl w.heap.size w).alloc (Nat.le_refl _) (.cells #[.slice ta s.things.length tc, .slice la s.lots.length lc] 25)
  have HB0 := Lib.hid hb0
  have HMELT := Lib.hid (melt_any s l _ _ _ _ (HV.out.next hb0) (HL.out.next hb0))
  clear hb0
  unfold MeltPost at HMELT
  have HCV : Hid (keepsV s l = if batchesE s l ≠ 0 then (0, 0, batchesE s l) else ((keepsTo s l l.length).1, (keepsTo s l l.length).2, 0)) := rfl
  have HOKB := Lib.hid (all_ok (s := s) (l := l))
  obtain ⟨E, hE⟩ : ∃ x, batchesE s l = x := ⟨_, rfl⟩
  rw [hE] at HMELT HCV
  try rw [hE]
  simp only [hE] at HOKB
  clear hE
  go_enter Try.func25, Try.ntmps25
  go_wp2_with fail
  go_step3
  go_wp2_with fail
  refine HMELT.out.mono ?_
  rintro e w1 ⟨hbad, hgood⟩
  by_cases hz : E = 0
  case neg =>
    have hz2 : (E != 0) = true := by simpa using hz
    have HZ := Lib.hid hz
    obtain ⟨rfl, hb1⟩ := hbad hz
    clear hz hbad hgood
    have HB1 := Lib.hid (HB0.out.trans (hb1.mono (by simp)))
    clear hb1
    go_wp2_with fail
    try rw [Exit.noGoto_ret]
    go_ret3
    rw [HCV.out, if_pos HZ.out]
    exact ⟨rfl, HB1.out⟩
  subst hz
  obtain ⟨g, bo, vr, rfl, hA⟩ := hgood rfl
  have HA := Lib.hid hA
  have HOK := Lib.hid (HOKB.out rfl)
  clear hbad hgood hA HOKB HMELT
  obtain ⟨ra, rc, hvr⟩ := HA.out.shape
  subst hvr
  have hn6 := HOK.out.l6
  have hnt5 := HOK.out.sh.nt5
  have HB1 := Lib.hid (HB0.out.trans (HA.out.bel.mono (by simp)))
  have HGS : Hid (w1.cell? ⟨w.heap.size, 0, none⟩ = some (.slice ta s.things.length tc) ∧ w1.cell? ⟨w.heap.size, 1, none⟩ = some (.slice la s.lots.length lc)) :=
    ⟨(Below.cell (p := ⟨w.heap.size, 0, none⟩) HA.out.bel (by simp)).trans (cell_of_row _ _ 0 _ _ _ (heap_alloc_new w (.cells #[.slice ta s.things.length tc, .slice la s.lots.length lc] 25))), (Below.cell (p := ⟨w.heap.size, 1, none⟩) HA.out.bel (by simp)).trans (cell_of_row _ _ 1 _ _ _ (heap_alloc_new w (.cells #[.slice ta s.things.length tc, .slice la s.lots.length lc] 25)))⟩
  have hgsl : w.heap.size < w1.heap.size := by have := HA.out.le; simp at this; omega
  obtain ⟨W1, HWW⟩ : ∃ x, Hid (w1.heap.size = x) := ⟨_, rfl⟩
  have HB2 := Lib.hid (Below.refl w1.heap.size w1)
  rw [if_neg (fun h => h rfl)] at HCV
  go_wp2_with fail
  go_step3
  go_wp2_with fail
  rw [HWW.out] at HB2 hgsl
  go_loopw [4, 5, 23] (fun t4 t5 iv wr => ∃ (k : Nat), t4 = .int .i64 (-1) ∧ t5 = .int .i64 (-1) ∧ iv = .int .i64 k ∧ k ≤ l.length ∧ Below W1 w1 wr ∧ W1 ≤ wr.heap.size ∧ keepsTo s l k = (-1, -1)) (fun _ _ iv _ => l.length - (intOf iv).toNat)
  case atStart => exact ⟨0, rfl, rfl, rfl, by omega, HB2.out, by rw [HWW.out]; exact Nat.le_refl _, rfl⟩
  case round =>
    obtain ⟨k, rfl, rfl, rfl, hk, hBk, hW1, hT⟩ := hrel
    have HBk := Lib.hid hBk
    have HT := Lib.hid hT
    have HW1 := Lib.hid hW1
    clear hBk hT hW1
    by_cases hkl : k < l.length
    · obtain ⟨pb, pc, he, hpc, hpb, hcell⟩ := HA.out.ptr hkl
      cases he
      rw [HWW.out] at hpb
      have hgk : g k < W1 := by rw [← HWW.out]; exact block_lt (HA.out.obj k hkl)
      have hcell := (HBk.out.cell (p := ⟨pb, k, none⟩) hpb).trans hcell
      have hki : (k : Int) < (l.length : Int) := by omega
      have hpos := HOK.out.pre.pos HOK.out.sh hn6 (Nat.le_refl _) hkl
      have HOBJ : Hid (wr.heap[g k]? = some (.cells (bo k).c 111)) := by
        rw [← HA.out.obj k hkl]
        exact HBk.out.block _ hgk
      have HCEL := Lib.hid (BO.mid _ HOBJ.out)
      rw [(HA.out.ok k hkl).2.2.1] at HCEL
      go_wp2_with (refine wpList_load_mid rfl 109 _ rfl (g k) 5 rfl (spC (micV s l k)) _ HCEL.out Try.underlying109 rfl info109 ?_)
      have hni := HOK.out.sh.limit
      have hmi := mic_ok HOK.out.sh hn6 (fun j hj => HOK.out.pre j (by omega)) hkl
      have HNI := Lib.hid hni
      have HMI := Lib.hid hmi
      clear hni hmi HCEL
      obtain ⟨r, hr⟩ : ∃ r, (List.range' 0 5).all (fun i => micV s l k i == (fun _ => (0, 0)) i) = r := ⟨_, rfl⟩
      have HR := Lib.hid hr
      have heq := fun w => run_equalIn_sp (micV s l k) (fun _ => (0, 0)) w
      rw [hr] at heq
      have hz0 : (spC (fun _ => (0, 0))).toArray = #[.int .i64 0, .int .i64 0, .int .i64 0, .int .i64 0, .int .i64 0, .int .i64 0, .int .i64 0, .int .i64 0, .int .i64 0, .int .i64 0] := rfl
      rw [hz0] at heq
      clear hr hz0
      cases r
      case true =>
        have HNX : Hid (keepsTo s l (k + 1) = (-1, -1)) := by
          refine keepsTo_next HT.out (keepsT_zero HOK.out.sh (by omega) (fun t ht => ?_))
          have := List.all_eq_true.1 HR.out t (by simp; omega)
          have h2 : micV s l k t = (0, 0) := by simpa using this
          rw [h2]
        go_wp2_with fail
        refine ⟨⟨k + 1, rfl, rfl, by push_cast; rfl, by omega, HBk.out, HW1.out, HNX.out⟩, ?_⟩
        simp [intOf]
        omega
      case false =>
        have hgs0 := (HBk.out.cell (p := ⟨w.heap.size, 0, none⟩) hgsl).trans HGS.out.1
        have hgs2 : w.heap.size < wr.heap.size := Nat.lt_of_lt_of_le hgsl HW1.out
        go_wp2_with fail
        clear heq
        have HBk0 := Lib.hid HBk.out
        have HW10 := Lib.hid HW1.out
        go_loopw [4, 5, 37] (fun t4 t5 jv wr => ∃ (t : Nat), t4 = .int .i64 (-1) ∧ t5 = .int .i64 (-1) ∧ jv = .int .i64 t ∧ t ≤ s.things.length ∧ Below W1 w1 wr ∧ W1 ≤ wr.heap.size ∧ firstOf (aboveB s (l.getD k default) ((rangesV s l).getD k [])) t = none) (fun _ _ jv _ => s.things.length - (intOf jv).toNat)
        case atStart => exact ⟨0, rfl, rfl, rfl, by omega, HBk0.out, HW10.out, rfl⟩
        case round =>
          obtain ⟨t, rfl, rfl, rfl, ht, hBt, hWt, hFt⟩ := hrel
          have HBt := Lib.hid hBt
          have HWt := Lib.hid hWt
          have HFt := Lib.hid hFt
          clear hBt hWt hFt hcell hgs0 hgs2
          by_cases htn : t < s.things.length
          · obtain ⟨tb, tof, hta, htb, x1, x2, x3, x4, x5, -⟩ := HV.out.1.at' htn
            subst hta
            have hlim := HNI.out t htn
            have hmi := HMI.out t
            have hb2 := HB1.out
            have htb2 : tb < W1 := by rw [← HWW.out]; exact Nat.lt_of_lt_of_le htb HB1.out.size
            have x1 := (HBt.out.cell (p := ⟨tb, _, none⟩) htb2).trans ((HB1.out.cell (p := ⟨tb, _, none⟩) htb).trans x1)
            have x2 := (HBt.out.cell (p := ⟨tb, _, none⟩) htb2).trans ((HB1.out.cell (p := ⟨tb, _, none⟩) htb).trans x2)
            have x3 := (HBt.out.cell (p := ⟨tb, _, none⟩) htb2).trans ((HB1.out.cell (p := ⟨tb, _, none⟩) htb).trans x3)
            have x4 := (HBt.out.cell (p := ⟨tb, _, none⟩) htb2).trans ((HB1.out.cell (p := ⟨tb, _, none⟩) htb).trans x4)
            have x5 := (HBt.out.cell (p := ⟨tb, _, none⟩) htb2).trans ((HB1.out.cell (p := ⟨tb, _, none⟩) htb).trans x5)
            simp only [rdThing] at x1 x2 x3 x4 x5
            clear hb2
            have HAB : Hid (aboveB s (l.getD k default) ((rangesV s l).getD k []) t = decide ((s.things.getD t default).limit * weightV (l.getD k default) < (micV s l k t).2)) := rfl
            have q0 := HA.out.hi hkl (show t < 5 by omega)
            have q1 := HA.out.wt hkl
            have hmul := mul_bound (show 0 ≤ (s.things.getD t default).limit ∧ (s.things.getD t default).limit ≤ 1000000 from hlim) (show 0 ≤ weightV (l.getD k default) ∧ weightV (l.getD k default) ≤ 1200000 by omega)
            generalize s.things.getD t default = x at *
            generalize weightV (l.getD k default) = wt at *
            generalize (micV s l k t).2 = hi at *
            obtain ⟨nm, kd, lm, wk, fd⟩ := x
            simp only at x1 x2 x3 x4 x5 hmul hlim HAB
            have htn2 : (t : Int) < (s.things.length : Int) := by omega
            have ht5 : (t : Int) < 5 := by omega
            go_wp2_with fail
            obtain ⟨wv, hwv⟩ : ∃ x, wr.alloc (.cells #[.string nm, .int .i64 kd, .int .i64 lm, .int .i64 wk, .int .i64 fd] 62) = x := ⟨_, rfl⟩
            rw [hwv]
            have hBv : Below W1 w1 wv := by rw [← hwv]; exact HBt.out.alloc HWt.out _
            have hnew : wv.heap[wr.heap.size]? = some (.cells #[.string nm, .int .i64 kd, .int .i64 lm, .int .i64 wk, .int .i64 fd] 62) := by rw [← hwv]; exact heap_alloc_new _ _
            have hsv : W1 ≤ wv.heap.size := by rw [← hwv]; simp; have := HWt.out; omega
            have e2 : wv.cell? ⟨wr.heap.size, 2, none⟩ = some (.int .i64 lm) := cell_of_row _ _ _ _ _ _ hnew
            have q0 := (hBv.cell (p := ⟨g k, _, none⟩) hgk).trans q0
            have q1 := (hBv.cell (p := ⟨g k, _, none⟩) hgk).trans q1
            have HBv := Lib.hid hBv
            have HSv := Lib.hid hsv
            clear hBv hsv hnew hwv x1 x2 x3 x4 x5
            generalize wr.heap.size = gx at *
            have hm1 : -9223372036854775808 ≤ lm * wt := by omega
            have hm2 : lm * wt ≤ 9223372036854775807 := by omega
            by_cases hab : lm * wt < hi
            · have hd : decide (lm * wt < hi) = true := decide_eq_true hab
              have HK : Hid (keepsTo s l l.length = ((k : Int), (t : Int))) := keepsTo_found HT.out (firstOf_some HFt.out (by rw [HAB.out]; exact hd) htn) hkl
              clear hab
              go_quiet (fail)
              revert nq
              intro nq1
              simp only [Exit.then]
              go_wp2_with fail
              try rw [Exit.noGoto_ret]
              go_ret3
              rw [HCV.out, HK.out]
              exact ⟨rfl, HB1.out.trans (Below.mono (HBv.out.trans (below_drewN (Below.refl _ _) nq1)) (by rw [← HWW.out]; exact HB1.out.size))⟩
            · have hd : decide (lm * wt < hi) = false := decide_eq_false hab
              have HNF : Hid (firstOf (aboveB s (l.getD k default) ((rangesV s l).getD k [])) (t + 1) = none) := by
                exact firstOf_next HFt.out (by rw [HAB.out]; exact hd)
              clear hab
              go_quiet (fail)
              revert nq
              intro nq1
              simp only [Exit.then]
              go_wp2_with fail
              refine ⟨⟨t + 1, rfl, rfl, by push_cast; rfl, by omega, HBv.out.trans (below_drewN (Below.refl _ _) nq1), HSv.out, HNF.out⟩, ?_⟩
              simp [intOf]
              omega
          · obtain rfl : t = s.things.length := by omega
            have HNX : Hid (keepsTo s l (k + 1) = (-1, -1)) := keepsTo_next HT.out HFt.out
            go_wp2_with fail
            refine ⟨⟨k + 1, rfl, rfl, by push_cast; rfl, by omega, HBt.out, HWt.out, HNX.out⟩, ?_⟩
            simp [intOf]
            omega
    · obtain rfl : k = l.length := by omega
      go_wp2_with fail
      try rw [Exit.noGoto_ret]
      go_ret3
      rw [HCV.out, HT.out]
      exact ⟨rfl, HB1.out.trans (HBk.out.mono (by rw [← HWW.out]; exact HB1.out.size))⟩
end Go.Proofs.Ytaigbhhmmdfdcaa
/- scent.down, Take. -/
namespace Go.Proofs.Ytaigbhhmmdfdcaa
open Go.RowKit
theorem down_eq (a b : Int) (hb : 0 < b) : a / b = if a.tmod b < 0 then a.tdiv b - 1 else a.tdiv b := by
  have h1 : b * a.tdiv b + a.tmod b = a := Int.mul_tdiv_add_tmod a b
  have h2 : a.tmod b < b := Int.tmod_lt_of_pos a hb
  have h3 : -b < a.tmod b := by
    have := Int.tmod_lt_of_pos (-a) hb
    rw [Int.neg_tmod] at this
    omega
  split
  · rename_i h
    exact ((Int.ediv_emod_unique (r := a.tmod b + b) hb).2 ⟨by rw [Int.mul_sub, Int.mul_one]; omega, by omega, by omega⟩).1
  · rename_i h
    exact ((Int.ediv_emod_unique (r := a.tmod b) hb).2 ⟨by omega, by omega, by omega⟩).1
set_option maxHeartbeats 1000000 in
theorem down_any (a b : Int) (hb : 0 < b) (hb2 : b ≤ 1000000000000000) (ha : -1000000000000000 ≤ a) (ha2 : a ≤ 1000000000000000) (w : World) :
    Calls Try.prog 73 #[.int .i64 a, .int .i64 b] w fun e w' => e = .returned (.int .i64 (a / b)) ∧ w' = w := by
  have HE := Lib.hid (down_eq a b hb)
  have hd := Int.natAbs_tdiv_le_natAbs a b
  have hb3 : ¬ b = 0 := by omega
  have hdw : IntKind.i64.wrap (a.tdiv b) = a.tdiv b := wrap_in (by omega) (by omega)
  go_enter Try.func73, Try.ntmps73
  by_cases h : a.tmod b < 0
  · have hq : decide (a.tmod b < 0) = true := decide_eq_true h
    have HG : Hid (a / b = a.tdiv b - 1) := by unfold Hid; rw [HE.out, if_pos h]
    clear h
    go_wp2_with fail
    go_ret
    exact ⟨ret_int HG.out.symm, rfl⟩
  · have hq : decide (a.tmod b < 0) = false := decide_eq_false h
    have HG : Hid (a / b = a.tdiv b) := by unfold Hid; rw [HE.out, if_neg h]
    clear h
    go_wp2_with fail
    go_ret
    exact ⟨ret_int HG.out.symm, rfl⟩
end Go.Proofs.Ytaigbhhmmdfdcaa
/- scent.Take. -/
namespace Go.Proofs.Ytaigbhhmmdfdcaa
open Go.RowKit
theorem results_span_tmp {fn : Func} {p u : Tmp} (h : fn.results = #[.cell p 51, .tmp u]) (tmps : Array Value) (w : World) (g : Nat) (cs : Array Value) (hp : tmps.getD p undef = .pointer (some ⟨g, 0, none⟩)) (hg : w.heap[g]? = some (.cells cs 51)) (hs : cs.size = 2) :
    (results fn tmps).run Try.prog w = .ok (.tuple #[.agg cs, tmps.getD u undef]) w := by
  rw [results_cell_tmp h, hp]
  simp [asAddr, run_loadVar_row w g 51 51 cs (0, 0) _ hg Try.underlying51 rfl (by rw [info51, hs])]
theorem down_bound (a b : Int) (hb : 0 < b) (h1 : -10000000000000 ≤ a) (h2 : a ≤ 10000000000000) : -10000000000000 ≤ a / b ∧ a / b ≤ 10000000000000 := by
  constructor
  · rw [Int.le_ediv_iff_mul_le hb]
    have : (10000000000000 : Int) * 1 ≤ 10000000000000 * b := Int.mul_le_mul_of_nonneg_left (by omega) (by omega)
    omega
  · rw [← Int.lt_add_one_iff, Int.ediv_lt_iff_lt_mul hb]
    have : (10000000000001 : Int) * 1 ≤ 10000000000001 * b := Int.mul_le_mul_of_nonneg_left (by omega) (by omega)
    omega
section
variable {P : Program} {ops : Array Oper} {rest : List Oper} {o : Oper} {a : Act} {w0 w : World} {Q : Exit → Act → World → Prop} {l : List (Nat × Obj)}
/-- One cell is stored: the blocks, and all others. -/
theorem wpList_cell_bb (hgd : o.guard = none) (ty : TypeId) (x y : Operand) (ho : o.op = .store ty x y) (H : Bs w0 l w) (i g j : Nat) (old : Array Value) (t : TypeId) (hi : l[i]? = some (g, .cells old t))
    (hx : a.eval x = .pointer (some ⟨g, j, none⟩)) (v : Value) (hy : a.eval y = v) (hj : j < old.size) (h1 : v.oneCell' = true) (hn : (P.info? ty).map (·.size) = some 1)
    (h : ∀ w', Bs w0 (l.set i (g, .cells (old.setIfInBounds j v) t)) w' → But g w w' → wpList P ops Q rest (a.put o.dst undef) w') : wpList P ops Q (o :: rest) a w :=
  wpList_cell_but hgd ty x y ho g j old t (H.get i hi) hx v hy hj h1 hn fun w' hg hb => h w' (H.but i hi hb hg) hb
end
/-- A range is handed back, with an error. -/
def RetSpan (t : (Int × Int) × Int) (w : World) : Ending → World → Prop := fun e w' => e = .returned (.tuple #[.agg #[.int .i64 t.1.1, .int .i64 t.1.2], .int .i64 t.2]) ∧ Below w.heap.size w w'
set_option maxRecDepth 100000 in
set_option maxHeartbeats 16000000 in
theorem take_any (s : Shop) (l : List Bat) (lot : Int) (vt vl v : Value) (w : World) (hv : ShopAt w.heap.size w vt vl s) (hl' : BatsIn w.heap.size w v l) :
    Calls Try.prog 29 #[.agg #[vt, vl], v, .int .i64 lot] w (RetSpan (takeV s l lot) w) := by
  unfold RetSpan
  have HV := Lib.hid hv
  have HL := Lib.hid hl'
  obtain ⟨ta, tc, rfl, -, htl⟩ := sl_shape hv.1
  obtain ⟨la, lc, rfl, -, hll⟩ := sl_shape hv.2
  obtain ⟨va, vc, rfl, -, hvl⟩ := sl_shape hl'
  clear hv hl'
  have C0 := Lib.hid (((Bs.nil w).push _ rfl (.cells #[.slice ta s.things.length tc, .slice la s.lots.length lc] 25)).push (w.heap.size + 1) (by simp) (.cells #[.int .i64 0, .int .i64 0] 51))
  have HMELT := Lib.hid (melt_any s l _ _ _ _ (HV.out.next C0.out.bel) (HL.out.next C0.out.bel))
  unfold MeltPost at HMELT
  have HCV : Hid (takeV s l lot = if batchesE s l ≠ 0 then ((0, 0), batchesE s l) else if outOne 0 (s.lots.length - 1) lot then ((0, 0), 4)
    else if (takeTo s (l.getD (l.length - 1) default) ((rangesV s l).getD (l.length - 1) []) lot.toNat s.things.length).2 < (takeTo s (l.getD (l.length - 1) default) ((rangesV s l).getD (l.length - 1) []) lot.toNat s.things.length).1 then ((0, 0), 9)
    else (takeTo s (l.getD (l.length - 1) default) ((rangesV s l).getD (l.length - 1) []) lot.toNat s.things.length, 0)) := rfl
  have HOKB := Lib.hid (all_ok (s := s) (l := l))
  obtain ⟨E, hE⟩ : ∃ x, batchesE s l = x := ⟨_, rfl⟩
  rw [hE] at HMELT HCV
  simp only [hE] at HOKB
  clear hE
  obtain ⟨r1, hr1⟩ : ∃ r, outOne 0 ((s.lots.length : Int) - 1) lot = r := ⟨_, rfl⟩
  rw [hr1] at HCV
  have HR1 := Lib.hid hr1
  clear hr1
  go_enter Try.func29, Try.ntmps29
  go_wp2_with fail
  refine HMELT.out.mono ?_
  rintro e w1 ⟨hbad, hgood⟩
  by_cases hz : E = 0
  case neg =>
    have hz2 : (E != 0) = true := by simpa using hz
    have HZ := Lib.hid hz
    obtain ⟨rfl, hb1⟩ := hbad hz
    clear hz hbad hgood
    have C1 := Lib.hid (C0.out.call hb1)
    clear hb1 C0
    go_wp2_with (first | refine wpList_load_bs rfl 51 _ rfl C1.out 1 (w.heap.size + 1) #[.int .i64 0, .int .i64 0] 51 rfl rfl _ Try.underlying51 rfl info51 ?_ | (refine wpList_store_bs rfl 51 _ _ rfl C1.out 1 (w.heap.size + 1) #[.int .i64 0, .int .i64 0] #[.int .i64 0, .int .i64 0] 51 rfl rfl rfl info51 rfl (by simp [Value.oneCell']) ?_; intro w2 C2))
    refine bodyPost_ret (v := .tuple #[.agg #[.int .i64 0, .int .i64 0], .int .i64 E]) ?_ rfl ?_
    · rw [results_span_tmp rfl _ _ (w.heap.size + 1) #[.int .i64 0, .int .i64 0] rfl (C2.get 1 rfl) rfl]
      rfl
    · rw [HCV.out, if_pos HZ.out]
      exact ⟨rfl, C2.bel⟩
  subst hz
  obtain ⟨g, bo, vr, rfl, hA⟩ := hgood rfl
  have HA := Lib.hid hA
  have HOK := Lib.hid (HOKB.out rfl)
  have C1 := Lib.hid (C0.out.call hA.bel)
  clear hbad hgood hA HOKB HMELT
  obtain ⟨ra, rc, hvr⟩ := HA.out.shape
  subst hvr
  have hn6 := HOK.out.l6
  have hn1 := HOK.out.l1
  have hnt5 := HOK.out.sh.nt5
  have hnl6 := HOK.out.sh.nl6
  rw [if_neg (fun h => h rfl)] at HCV
  have C1A := Lib.hid (C1.out.push _ rfl (.cells #[.int .i64 lot] 3))
  have hc1 := C1.out.cell 0 rfl 1
  go_wp2_with fail
  refine (out_one r1 0 _ _ HR1.out _ _ (C1A.out.get 2 rfl)).mono ?_
  rintro e w2 ⟨rfl, hb1⟩
  have C2 := Lib.hid ((C1A.out.call hb1).sub [(w.heap.size, .cells #[.slice ta s.things.length tc, .slice la s.lots.length lc] 25), (w.heap.size + 1, .cells #[.int .i64 0, .int .i64 0] 51)] (by simp))
  have HA2 := Lib.hid ((HA.out.alloc (.cells #[.int .i64 lot] 3)).call hb1)
  clear hb1 C1 C1A hc1 HA C0
  cases r1
  case true =>
    go_wp2_with (first | refine wpList_load_bs rfl 51 _ rfl C2.out 1 (w.heap.size + 1) #[.int .i64 0, .int .i64 0] 51 rfl rfl _ Try.underlying51 rfl info51 ?_ | (refine wpList_store_bs rfl 51 _ _ rfl C2.out 1 (w.heap.size + 1) #[.int .i64 0, .int .i64 0] #[.int .i64 0, .int .i64 0] 51 rfl rfl rfl info51 rfl (by simp [Value.oneCell']) ?_; intro w3 C3))
    refine bodyPost_ret (v := .tuple #[.agg #[.int .i64 0, .int .i64 0], .int .i64 4]) ?_ rfl ?_
    · rw [results_span_tmp rfl _ _ (w.heap.size + 1) #[.int .i64 0, .int .i64 0] rfl (C3.get 1 rfl) rfl]
      rfl
    · rw [HCV.out]
      exact ⟨rfl, C3.bel⟩
  simp only [Bool.false_eq_true, if_false] at HCV
  obtain ⟨lt, rfl⟩ : ∃ n : Nat, lot = n := ⟨lot.toNat, by have := (outOne_false.1 HR1.out).1; omega⟩
  have hlt : lt < s.lots.length := by have := (outOne_false.1 HR1.out).2; omega
  simp only [Int.toNat_natCast] at HCV
  obtain ⟨kl, HKL⟩ : ∃ k, Hid (l.length - 1 = k) := ⟨_, rfl⟩
  have hkl : kl < l.length := by have := HKL.out; omega
  have hkl2 : (l.length : Int) - 1 = kl := by have := HKL.out; omega
  rw [HKL.out] at HCV
  obtain ⟨pb, pc, he, hpc, hpb, hcell⟩ := HA2.out.ptr hkl
  cases he
  have HOBJ := Lib.hid (HA2.out.obj kl hkl)
  obtain ⟨hgB, hbB, haB⟩ := (HA2.out.ok kl hkl).2.2.2.2
  have hgl := (bat_ok0 (batchE_zero (HOK.out.pre kl hkl)).1)
  have hgr := hgl.gram lt
  obtain ⟨ga1, gc1, hvg, -⟩ := ints_shape hgB
  rw [hvg] at hgB
  obtain ⟨gb, go, hga, hgbB, hgc⟩ := ints_at hgB (show lt < (l.getD kl default).grams.length by rw [hgl.glen]; exact hlt)
  have hgc := (HA2.out.bel.cell (p := ⟨gb, _, none⟩) hgbB).trans hgc
  have q0 : w2.cell? ⟨g kl, 0, none⟩ = some (bo kl).vg := by rw [cell_of_row _ _ 0 _ _ _ HOBJ.out]; rfl
  rw [hvg, hga] at q0
  rw [hgl.glen] at q0
  clear hgB hbB haB hvg
  have HG := Lib.hid hgl
  clear hgl
  have hlt2 : (lt : Int) < (s.lots.length : Int) := by omega
  generalize hgrr : (l.getD kl default).grams.getD lt 0 = gr at *
  have HGR := Lib.hid hgrr
  clear hgrr
  go_wp2_with (refine wpList_cell_bb rfl 3 _ _ rfl C2.out 1 (w.heap.size + 1) 1 _ 51 rfl rfl (.int .i64 (100000 - gr)) rfl (by simp) rfl info3 ?_; intro w3 C3 hb3; have hc0 := C3.cell 0 rfl 0)
  have CC3 := Lib.hid C3
  have HBT := Lib.hid hb3
  have hrow := row_eq s l hkl
  have HROW := Lib.hid hrow
  have HTS : Hid (∀ t, t < s.things.length → takeTo s (l.getD kl default) ((rangesV s l).getD kl []) lt (t + 1) = takeStep (s.things.getD t default).limit (weightV (l.getD kl default)) (micV s l kl t) ((s.lots.getD lt default).parts.getD t (0, 0)) (takeTo s (l.getD kl default) ((rangesV s l).getD kl []) lt t)) := fun t ht => rfl
  have HT0 : Hid (takeTo s (l.getD kl default) ((rangesV s l).getD kl []) lt 0 = (0, 100000 - gr)) := by unfold Hid takeTo; rw [HGR.out]
  have hpos := HOK.out.pre.pos HOK.out.sh hn6 (Nat.le_refl _) hkl
  have HMI := Lib.hid (mic_ok HOK.out.sh hn6 (fun j hj => HOK.out.pre j (by omega)) hkl)
  clear hrow hgc q0 C3 hb3 hcell
  generalize takeTo s (l.getD kl default) ((rangesV s l).getD kl []) lt = TK at *
  go_loopw [53] (fun iv wr => ∃ (t : Nat) (lo hi : Int), iv = .int .i64 t ∧ t ≤ s.things.length ∧ TK t = (lo, hi) ∧ 0 ≤ lo ∧ lo ≤ 10000000000000 ∧ -10000000000000 ≤ hi ∧ hi ≤ 100000 ∧ Bs w [(w.heap.size, .cells #[.slice ta s.things.length tc, .slice la s.lots.length lc] 25), (w.heap.size + 1, .cells #[.int .i64 lo, .int .i64 hi] 51)] wr ∧ But (w.heap.size + 1) w2 wr) (fun iv _ => s.things.length - (intOf iv).toNat)
  case atStart => exact ⟨0, _, _, rfl, by omega, HT0.out, by omega, by omega, by omega, by omega, CC3.out, HBT.out⟩
  case round =>
    obtain ⟨t, lo, hi, rfl, ht, hTK, hlo, hlo2, hhi, hhi2, hC, hB⟩ := hrel
    have CR := Lib.hid hC
    have HBR := Lib.hid hB
    have HTK := Lib.hid hTK
    clear hC hB hTK CC3 HBT
    by_cases htn : t < s.things.length
    · have hsz2 : w.heap.size + 1 < w2.heap.size := C2.out.lt 1 rfl
      have BC : ∀ {b j : Nat}, b < w2.heap.size → b ≠ w.heap.size + 1 → wr.cell? ⟨b, j, none⟩ = w2.cell? ⟨b, j, none⟩ := fun h1 h2 => HBR.out.cell h1 h2
      obtain ⟨tb, tof, hta, htb, x1, x2, x3, x4, x5, -⟩ := HV.out.1.at' htn
      obtain ⟨lb, lof, hla, hlb, -, -, u, y2, hu⟩ := HV.out.2.at' hlt
      have hplen := HOK.out.sh.plen lt hlt
      obtain ⟨ua, uc, hue, -, -⟩ := sl_shape hu
      rw [hue] at hu y2
      obtain ⟨ub, uof, hua, hub, -, z2⟩ := hu.at' (show t < (s.lots.getD lt default).parts.length by rw [hplen]; exact htn)
      rw [hplen, hua] at y2
      subst hta hla
      have up : ∀ {b j : Nat}, b < w.heap.size → wr.cell? ⟨b, j, none⟩ = w.cell? ⟨b, j, none⟩ := fun hb => (CR.out.bel.cell (p := ⟨_, _, none⟩) hb)
      have x1 := (up htb).trans x1
      have x2 := (up htb).trans x2
      have x3 := (up htb).trans x3
      have x4 := (up htb).trans x4
      have x5 := (up htb).trans x5
      have y2 := (up hlb).trans y2
      have z2 := (up hub).trans z2
      simp only [rdThing] at x1 x2 x3 x4 x5
      simp only [rdLot] at y2
      simp only [rdSpan] at z2
      have hlim := HOK.out.sh.limit t htn
      have hprt := HOK.out.sh.part lt hlt t
      have hmi := HMI.out t
      have HSTEP := Lib.hid (HTS.out t htn)
      rw [HTK.out] at HSTEP
      have hgkB := HA2.out.ge kl hkl
      have hgk := HA2.out.obj kl hkl
      have hne : g kl ≠ w.heap.size + 1 := by simp at hgkB; omega
      have q3 := (BC (block_lt hgk) hne).trans (HA2.out.wt hkl)
      have q4 := (BC (block_lt hgk) hne).trans (HA2.out.hi hkl (show t < 5 by omega))
      have hgs0 := CR.out.cell 0 rfl 1
      have hgkl := Nat.lt_of_lt_of_le (block_lt hgk) HBR.out.size
      have hmul := mul_bound (show 0 ≤ (s.things.getD t default).limit ∧ (s.things.getD t default).limit ≤ 1000000 from hlim) (show 0 ≤ weightV (l.getD kl default) ∧ weightV (l.getD kl default) ≤ 1200000 by omega)
      clear hgk up BC hne hue
      generalize s.things.getD t default = x at *
      generalize weightV (l.getD kl default) = wt at *
      generalize micV s l kl t = mm at *
      generalize ((s.lots.getD lt default).parts.getD t (0, 0)) = pp at *
      obtain ⟨nm, kd, lm, wk, fd⟩ := x
      obtain ⟨m1, m2⟩ := mm
      obtain ⟨p1, p2⟩ := pp
      simp only at x1 x2 x3 x4 x5 hmul hlim hprt hmi q4 z2 HSTEP
      have htn2 : (t : Int) < (s.things.length : Int) := by omega
      have ht5 : (t : Int) < 5 := by omega
      go_wp2_with fail
      obtain ⟨wv, hwv⟩ : ∃ x, wr.alloc (.cells #[.string nm, .int .i64 kd, .int .i64 lm, .int .i64 wk, .int .i64 fd] 62) = x := ⟨_, rfl⟩
      rw [hwv]
      have hBv : Below wr.heap.size wr wv := by rw [← hwv]; exact (Below.refl _ _).alloc (Nat.le_refl _) _
      have hnew : wv.heap[wr.heap.size]? = some (.cells #[.string nm, .int .i64 kd, .int .i64 lm, .int .i64 wk, .int .i64 fd] 62) := by rw [← hwv]; exact heap_alloc_new _ _
      have e2 : wv.cell? ⟨wr.heap.size, 2, none⟩ = some (.int .i64 lm) := cell_of_row _ _ _ _ _ _ hnew
      have hwle := CR.out.bel.size
      have q3 := (hBv.cell (p := ⟨g kl, _, none⟩) hgkl).trans q3
      have q4 := (hBv.cell (p := ⟨g kl, _, none⟩) hgkl).trans q4
      have hgs0 := (hBv.cell (p := ⟨w.heap.size, _, none⟩) (CR.out.lt 0 rfl)).trans hgs0
      have y2 := (hBv.cell (p := ⟨lb, _, none⟩) (Nat.lt_of_lt_of_le hlb hwle)).trans y2
      have z2 := (hBv.cell (p := ⟨ub, _, none⟩) (Nat.lt_of_lt_of_le hub hwle)).trans z2
      have CV := Lib.hid (CR.out.call hBv)
      have HBV := Lib.hid (HBR.out.trans (But.of hBv))
      clear hBv hnew hwv x1 x2 x3 x4 x5
      generalize wr.heap.size = gx at *
      have hm1 : -9223372036854775808 ≤ lm * wt := by omega
      have hm2 : lm * wt ≤ 9223372036854775807 := by omega
      go_quiet (fail)
      revert nq
      intro nq1
      simp only [Exit.then]
      have CD := Lib.hid (CV.out.drewN nq1)
      have HBD := Lib.hid (HBV.out.trans (But.drewN _ wv nq1))
      clear e2 q3 q4 hgs0 y2 z2 CV HBV
      generalize wv.drewN nq1 = wq at *
      unfold takeStep at HSTEP
      simp only at HSTEP
      by_cases hp1 : 0 < p2 - lm
      · rw [if_pos hp1] at HSTEP
        have hp2 : p2 - lm ≤ 1000000 := by omega
        have hfr1 : -10000000000000 ≤ lm * wt - m2 := by omega
        have hfr2 : lm * wt - m2 ≤ 10000000000000 := by omega
        have hdn := down_bound (lm * wt - m2) (p2 - lm) hp1 (by omega) (by omega)
        generalize lm * wt - m2 = free at *
        generalize p2 - lm = each at *
        have hd1 : decide (0 < each) = true := decide_eq_true hp1
        have HDN := fun w => down_any free each hp1 (by omega) (by omega) (by omega) w
        go_wp2_with fail
        have gl1 := CD.out.cell 1 rfl 1
        refine wp_region_still_tail 7 (by kernel_rfl) (by kernel_rfl) ?_
        simp only [List.take_succ_cons, List.take_zero, List.drop_succ_cons, List.drop_zero]
        repeat still_step
        still_call (HDN _)
        repeat still_step
        try refine wpStill_nil ?_
        change wpList _ _ _ _ _ (wq.drewN 1)
        have CQ := Lib.hid (CD.out.drewN 1)
        have HBQ := Lib.hid (HBD.out.trans (But.drewN _ wq 1))
        clear gl1
        refine wpList_cell_bb rfl 3 _ _ rfl CQ.out 1 (w.heap.size + 1) 1 _ 51 rfl rfl _ rfl (by simp) rfl info3 ?_
        intro w4 C4 hb4
        have emin : (if free / each < hi then free / each else hi) = min hi (free / each) := by rw [Int.min_def]; split <;> split <;> omega
        change Bs w [(w.heap.size, .cells #[.slice (some ⟨tb, tof, none⟩) s.things.length tc, .slice (some ⟨lb, lof, none⟩) s.lots.length lc] 25), (w.heap.size + 1, .cells #[.int .i64 lo, .int .i64 (if free / each < hi then free / each else hi)] 51)] w4 at C4
        rw [emin] at C4
        have C5 := Lib.hid C4
        have HB5 := Lib.hid (HBQ.out.trans hb4)
        clear C4 hb4 emin CQ HBQ
        have hmn1 : -10000000000000 ≤ min hi (free / each) := by omega
        have hmn2 : min hi (free / each) ≤ 100000 := by omega
        go_wp2_with fail
        refine ⟨⟨t + 1, _, _, by push_cast; rfl, by omega, HSTEP.out, hlo, hlo2, hmn1, hmn2, C5.out, HB5.out⟩, ?_⟩
        simp [intOf]
        omega
      · rw [if_neg hp1] at HSTEP
        by_cases hp3 : p2 - lm < 0
        · rw [if_pos hp3, show lm - p2 = -(p2 - lm) by omega] at HSTEP
          have hfr1 : -10000000000000 ≤ lm * wt - m2 := by omega
          have hfr2 : lm * wt - m2 ≤ 10000000000000 := by omega
          have hdn := down_bound (lm * wt - m2) (-(p2 - lm)) (by omega) (by omega) (by omega)
          have hea : -1000000 ≤ p2 - lm := by omega
          generalize lm * wt - m2 = free at *
          generalize p2 - lm = each at *
          have hd1 : decide (0 < each) = false := decide_eq_false hp1
          have hd2 : decide (each < 0) = true := decide_eq_true hp3
          have hnw : IntKind.i64.wrap (-each) = -each := wrap_in (by omega) (by omega)
          have HDN := fun w => down_any free (-each) (by omega) (by omega) (by omega) (by omega) w
          generalize free / -each = q at *
          have hnw2 : IntKind.i64.wrap (-q) = -q := wrap_in (by omega) (by omega)
          go_wp2_with fail
          have gl1 := CD.out.cell 1 rfl 0
          refine wp_region_still_tail 9 (by kernel_rfl) (by kernel_rfl) ?_
          simp only [List.take_succ_cons, List.take_zero, List.drop_succ_cons, List.drop_zero]
          repeat still_step
          still_call (HDN _)
          repeat still_step
          try refine wpStill_nil ?_
          change wpList _ _ _ _ _ (wq.drewN 1)
          have CQ := Lib.hid (CD.out.drewN 1)
          have HBQ := Lib.hid (HBD.out.trans (But.drewN _ wq 1))
          clear gl1
          refine wpList_cell_bb rfl 3 _ _ rfl CQ.out 1 (w.heap.size + 1) 0 _ 51 rfl rfl _ rfl (by simp) rfl info3 ?_
          intro w4 C4 hb4
          have emin : (if lo < -q then -q else lo) = max lo (-q) := by rw [Int.max_def]; split <;> split <;> omega
          change Bs w [(w.heap.size, .cells #[.slice (some ⟨tb, tof, none⟩) s.things.length tc, .slice (some ⟨lb, lof, none⟩) s.lots.length lc] 25), (w.heap.size + 1, .cells #[.int .i64 (if lo < -q then -q else lo), .int .i64 hi] 51)] w4 at C4
          rw [emin] at C4
          have C5 := Lib.hid C4
          have HB5 := Lib.hid (HBQ.out.trans hb4)
          clear C4 hb4 emin CQ HBQ
          have hmn1 : 0 ≤ max lo (-q) := by omega
          have hmn2 : max lo (-q) ≤ 10000000000000 := by omega
          go_wp2_with fail
          refine ⟨⟨t + 1, _, _, by push_cast; rfl, by omega, HSTEP.out, hmn1, hmn2, hhi, hhi2, C5.out, HB5.out⟩, ?_⟩
          simp [intOf]
          omega
        · rw [if_neg hp3] at HSTEP
          have hd1 : decide (0 < p2 - lm) = false := decide_eq_false hp1
          have hd2 : decide (p2 - lm < 0) = false := decide_eq_false hp3
          have hfr1 : -10000000000000 ≤ lm * wt - m2 := by omega
          have hfr2 : lm * wt - m2 ≤ 10000000000000 := by omega
          generalize lm * wt - m2 = free at *
          generalize p2 - lm = each at *
          by_cases hp4 : free < 0
          · rw [if_pos hp4] at HSTEP
            have hd3 : decide (free < 0) = true := decide_eq_true hp4
            go_wp2_with (refine wpList_cell_bb rfl 3 _ _ rfl CD.out 1 (w.heap.size + 1) 1 _ 51 rfl rfl (.int .i64 (-1)) rfl (by simp) rfl info3 ?_; intro w4 C4 hb4)
            refine ⟨⟨t + 1, _, _, by push_cast; rfl, by omega, HSTEP.out, hlo, hlo2, by omega, by omega, C4, HBD.out.trans hb4⟩, ?_⟩
            simp [intOf]
            omega
          · rw [if_neg hp4] at HSTEP
            have hd3 : decide (free < 0) = false := decide_eq_false hp4
            go_wp2_with fail
            refine ⟨⟨t + 1, _, _, by push_cast; rfl, by omega, HSTEP.out, hlo, hlo2, hhi, hhi2, CD.out, HBD.out⟩, ?_⟩
            simp [intOf]
            omega
    · obtain rfl : t = s.things.length := by omega
      rw [HTK.out] at HCV
      simp only at HCV
      have gl0 := CR.out.cell 1 rfl 0
      have gl1 := CR.out.cell 1 rfl 1
      by_cases hlh : hi < lo
      · rw [if_pos hlh] at HCV
        have hd : decide (hi < lo) = true := decide_eq_true hlh
        go_wp2_with (refine wpList_store_bs rfl 51 _ _ rfl CR.out 1 (w.heap.size + 1) #[.int .i64 0, .int .i64 0] #[.int .i64 lo, .int .i64 hi] 51 rfl rfl rfl info51 rfl (by simp [Value.oneCell']) ?_; intro w4 C4)
        refine bodyPost_ret (v := .tuple #[.agg #[.int .i64 0, .int .i64 0], .int .i64 9]) ?_ rfl ?_
        · rw [results_span_tmp rfl _ _ (w.heap.size + 1) #[.int .i64 0, .int .i64 0] rfl (C4.get 1 rfl) rfl]
          rfl
        · rw [HCV.out]
          exact ⟨rfl, C4.bel⟩
      · rw [if_neg hlh] at HCV
        have hd : decide (hi < lo) = false := decide_eq_false hlh
        go_wp2_with (first | refine wpList_load_bs rfl 51 _ rfl CR.out 1 (w.heap.size + 1) #[.int .i64 lo, .int .i64 hi] 51 rfl rfl _ Try.underlying51 rfl info51 ?_ | (refine wpList_store_bs rfl 51 _ _ rfl CR.out 1 (w.heap.size + 1) #[.int .i64 lo, .int .i64 hi] #[.int .i64 lo, .int .i64 hi] 51 rfl rfl rfl info51 rfl (by simp [Value.oneCell']) ?_; intro w4 C4))
        refine bodyPost_ret (v := .tuple #[.agg #[.int .i64 lo, .int .i64 hi], .int .i64 0]) ?_ rfl ?_
        · rw [results_span_tmp rfl _ _ (w.heap.size + 1) #[.int .i64 lo, .int .i64 hi] rfl (C4.get 1 rfl) rfl]
          rfl
        · rw [HCV.out]
          exact ⟨rfl, C4.bel⟩
end Go.Proofs.Ytaigbhhmmdfdcaa
/- Pale's closures; sort.Search with them. -/
namespace Go.Proofs.Ytaigbhhmmdfdcaa
open Go.RowKit
/-- What Pale's closure reads: the micrograms, the dye, the batch, what shows. -/
structure PaleAt (w : World) (b1 b2 b3 b4 gk : Nat) (nm : ByteArray) (kd lm wk fade micro wt shows : Int) : Prop where
  c1 : w.heap[b1]? = some (.cells #[.int .i64 micro] 3)
  c2 : w.heap[b2]? = some (.cells #[.string nm, .int .i64 kd, .int .i64 lm, .int .i64 wk, .int .i64 fade] 62)
  c3 : w.heap[b3]? = some (.cells #[.pointer (some ⟨gk, 0, none⟩)] 106)
  c4 : w.heap[b4]? = some (.cells #[.int .i64 shows] 3)
  c5 : w.cell? ⟨gk, 3, none⟩ = some (.int .i64 wt)
  g5 : gk < w.heap.size
theorem PaleAt.call {w w' : World} {b1 b2 b3 b4 gk : Nat} {nm : ByteArray} {kd lm wk fade micro wt shows : Int} (h : PaleAt w b1 b2 b3 b4 gk nm kd lm wk fade micro wt shows) (hb : Below w.heap.size w w') : PaleAt w' b1 b2 b3 b4 gk nm kd lm wk fade micro wt shows :=
  ⟨block_keep h.c1 hb, block_keep h.c2 hb, block_keep h.c3 hb, block_keep h.c4 hb, (hb.cell (p := ⟨gk, 3, none⟩) h.g5).trans h.c5, Nat.lt_of_lt_of_le h.g5 hb.size⟩
/-- The numbers fit. -/
structure PaleOk (fade micro wt shows : Int) : Prop where
  f0 : 0 ≤ fade
  f1 : fade ≤ 1000
  m0 : 0 ≤ micro
  m1 : micro ≤ 2000000000000
  w0 : 0 ≤ wt
  w1 : wt ≤ 1200000
  s0 : 0 ≤ shows
  s1 : shows ≤ 1000000
set_option maxRecDepth 100000 in
set_option maxHeartbeats 4000000 in
theorem test78 (b1 b2 b3 b4 gk : Nat) (nm : ByteArray) (kd lm wk fade micro wt shows : Int) (ho : PaleOk fade micro wt shows) (d : Nat) (hd : d ≤ 40000) (w : World) (h : PaleAt w b1 b2 b3 b4 gk nm kd lm wk fade micro wt shows) :
    Calls Try.prog 78 #[.int .i64 d, .pointer (some ⟨b1, 0, none⟩), .pointer (some ⟨b2, 0, none⟩), .pointer (some ⟨b3, 0, none⟩), .pointer (some ⟨b4, 0, none⟩)] w
      fun e w' => e = .returned (.bool (paleB fade micro wt shows d)) ∧ Below w.heap.size w w' := by
  have c1 := cell_of_row _ _ 0 _ _ _ h.c1
  have c2 := cell_of_row _ _ 4 _ _ _ h.c2
  have c3 := cell_of_row _ _ 0 _ _ _ h.c3
  have c4 := cell_of_row _ _ 0 _ _ _ h.c4
  have c5 := h.c5
  clear h
  have h1 := mul_bound (show 0 ≤ fade ∧ fade ≤ 1000 from ⟨ho.f0, ho.f1⟩) (show 0 ≤ (d : Int) ∧ (d : Int) ≤ 40000 by omega)
  have h2 := mul_bound (show 0 ≤ 1000 * wt ∧ 1000 * wt ≤ 1200000000 by have := ho.w0; have := ho.w1; omega) (show 0 ≤ shows ∧ shows ≤ 1000000 from ⟨ho.s0, ho.s1⟩)
  have h3 := ho.w0
  have h4 := ho.w1
  have HR : Hid (paleB fade micro wt shows d = decide (micro * max 0 (1000 - fade * d) < 1000 * wt * shows)) := rfl
  by_cases hf : 1000 - fade * d ≤ 0
  · have HQ : Hid (paleB fade micro wt shows d = decide (0 < 1000 * wt * shows)) := by unfold Hid; rw [HR.out, Int.max_eq_left hf, Int.mul_zero]
    clear HR
    go_enter Try.func78, Try.ntmps78
    go_wp2_with fail
    go_quiet (fail)
    all_goals
      simp only [Exit.then]
      go_wp2_with fail
      try go_ret
      first
        | exact ⟨ret_bool HQ.out.symm, below_drewN (Below.refl _ _) _⟩
        | (exfalso; omega)
        | exact ⟨ret_bool (by rw [HQ.out]; rfl), below_drewN (Below.refl _ _) _⟩
  · have HQ : Hid (paleB fade micro wt shows d = decide (micro * (1000 - fade * d) < 1000 * wt * shows)) := by unfold Hid; rw [HR.out, Int.max_eq_right (by omega)]
    have h6 := mul_bound (show 0 ≤ micro ∧ micro ≤ 2000000000000 from ⟨ho.m0, ho.m1⟩) (show 0 ≤ 1000 - fade * d ∧ 1000 - fade * d ≤ 1000 by omega)
    clear HR
    go_enter Try.func78, Try.ntmps78
    go_wp2_with fail
    go_quiet (fail)
    all_goals
      simp only [Exit.then]
      go_wp2_with fail
      try go_ret
      first
        | exact ⟨ret_bool HQ.out.symm, below_drewN (Below.refl _ _) _⟩
        | (exfalso; omega)
        | exact ⟨ret_bool (by rw [HQ.out]; rfl), below_drewN (Below.refl _ _) _⟩
end Go.Proofs.Ytaigbhhmmdfdcaa
/- sort.Search with Pale's test; what Pale's closure finds. -/
namespace Go.Proofs.Ytaigbhhmmdfdcaa
open Go.RowKit
theorem paleB_mono {fade micro wt shows : Int} (h : PaleOk fade micro wt shows) {i j : Nat} (hij : i ≤ j) (hi : paleB fade micro wt shows i = true) : paleB fade micro wt shows j = true := by
  unfold paleB at *
  have h1 := of_decide_eq_true hi
  refine decide_eq_true (Int.lt_of_le_of_lt ?_ h1)
  refine Int.mul_le_mul_of_nonneg_left ?_ h.m0
  have := Int.mul_le_mul_of_nonneg_left (show (i : Int) ≤ j by omega) h.f0
  omega
theorem paleB_late {fade micro wt shows : Int} (h : PaleOk fade micro wt shows) {i : Nat} (hi : 1000 ≤ i) : paleB fade micro wt shows i = paleB fade micro wt shows (1000 : Nat) := by
  have e : max 0 (1000 - fade * (i : Int)) = max 0 (1000 - fade * ((1000 : Nat) : Int)) := by
    by_cases hf : fade = 0
    · subst hf; rw [Int.zero_mul, Int.zero_mul]
    · have h1 := Int.mul_le_mul_of_nonneg_left (show (1000 : Int) ≤ (i : Int) by omega) h.f0
      have h0 := h.f0
      have h2 : (1000 : Int) ≤ fade * 1000 := by omega
      rw [show ((1000 : Nat) : Int) = 1000 from rfl]
      omega
  unfold paleB
  rw [e]
theorem low_next {fade micro wt shows : Int} (h : PaleOk fade micro wt shows) {m : Nat} (h1 : paleB fade micro wt shows m = false) : ∀ x : Nat, x < m + 1 → paleB fade micro wt shows x = false := by
  intro x hx
  cases hq : paleB fade micro wt shows x with
  | false => rfl
  | true =>
    have := paleB_mono h (show x ≤ m by omega) hq
    rw [h1] at this
    cases this
/-- The day that Search finds. -/
theorem pale_found {fade micro wt shows : Int} (h : PaleOk fade micro wt shows) {r : Nat} (hr : r ≤ 40001) (h0 : ∀ x : Nat, x < r → paleB fade micro wt shows x = false) (h1 : ∀ x : Nat, r ≤ x → x < 40001 → paleB fade micro wt shows x = true) : paleV fade micro wt shows = r := by
  unfold paleV
  by_cases hr2 : r < 1001
  · have := firstOf_some (f := fun d => paleB fade micro wt shows (d : Int)) (firstOf_none.2 h0) (h1 r (Nat.le_refl _) (by omega)) hr2
    rw [this]
  · have hn := firstOf_none (f := fun d => paleB fade micro wt shows (d : Int)) (n := 1001) |>.2 (fun x hx => h0 x (by omega))
    rw [hn]
    have h2 := h0 1000 (by omega)
    by_cases hr3 : r < 40001
    · have h3 := h1 r (Nat.le_refl _) hr3
      rw [paleB_late h (by omega), h2] at h3
      cases h3
    · have : r = 40001 := by omega
      subst this
      rfl
set_option maxRecDepth 100000 in
set_option maxHeartbeats 4000000 in
theorem search_any (b1 b2 b3 b4 gk : Nat) (nm : ByteArray) (kd lm wk fade micro wt shows : Int) (ho : PaleOk fade micro wt shows) (w : World) (h : PaleAt w b1 b2 b3 b4 gk nm kd lm wk fade micro wt shows) :
    Calls Try.prog 77 #[.int .i64 40001, .func (.func 78) #[] #[.pointer (some ⟨b1, 0, none⟩), .pointer (some ⟨b2, 0, none⟩), .pointer (some ⟨b3, 0, none⟩), .pointer (some ⟨b4, 0, none⟩)]] w
      fun e w' => e = .returned (.int .i64 (paleV fade micro wt shows)) ∧ Below w.heap.size w w' := by
  have HP := Lib.hid h
  have HO := Lib.hid ho
  clear h ho
  go_enter Try.func77, Try.ntmps77
  go_wp2_with fail
  go_loopw [5, 6] (fun iv jv wr => ∃ i j : Nat, iv = .int .i64 i ∧ jv = .int .i64 j ∧ i ≤ j ∧ j ≤ 40001 ∧ Below w.heap.size w wr ∧ (∀ x : Nat, x < i → paleB fade micro wt shows x = false) ∧ (∀ x : Nat, j ≤ x → x < 40001 → paleB fade micro wt shows x = true)) (fun iv jv _ => (intOf jv).toNat - (intOf iv).toNat)
  case atStart => exact ⟨0, 40001, rfl, rfl, by omega, by omega, Below.refl _ _, fun x hx => by omega, fun x h1 h2 => by omega⟩
  case round =>
    obtain ⟨i, j, rfl, rfl, hij, hj, hb, hlo, hhi⟩ := hrel
    have HB := Lib.hid hb
    have HLO := Lib.hid hlo
    have HHI := Lib.hid hhi
    clear hb hlo hhi
    by_cases hlt : i < j
    · obtain ⟨m, hm⟩ : ∃ m, m = (i + j) / 2 := ⟨_, rfl⟩
      have hm1 : i ≤ m := by omega
      have hm2 : m < j := by omega
      have hmi : ((i : Int) + j) / 2 = m := by omega
      have HT := Lib.hid (test78 b1 b2 b3 b4 gk nm kd lm wk fade micro wt shows HO.out m (by omega) wr (HP.out.call HB.out))
      obtain ⟨r, hr⟩ : ∃ r, paleB fade micro wt shows m = r := ⟨_, rfl⟩
      rw [hr] at HT
      have HR := Lib.hid hr
      clear hr
      have hd : decide ((i : Int) < (j : Int)) = true := decide_eq_true (by omega)
      have hwm : IntKind.i64.wrap (m : Int) = m := wrap_in (by omega) (by omega)
      go_wp2_with fail
      unfold Oper.wp execOp
      simp [go_sem, hmi, Act.put, Act.eval]
      apply_assumption
      refine wpList_plain rfl fun _ hK => ?_
      unfold Oper.wp execOp
      simp [go_sem, hwm, Act.put, Act.eval]
      refine hK _ _ ?_
      clear hK hm hmi hwm
      go_wp2_with fail
      refine HT.out.mono ?_
      rintro e w' ⟨rfl, hbw⟩
      have HB2 := Lib.hid (HB.out.trans (hbw.mono HB.out.size))
      clear hbw HT
      cases r
      · go_wp2_with fail
        go_roundw
        case rel => exact ⟨m + 1, j, by push_cast; rfl, rfl, by omega, hj, HB2.out, low_next HO.out HR.out, HHI.out⟩
        case measure => simp [intOf]; omega
      · go_wp2_with fail
        go_roundw
        case rel => exact ⟨i, m, rfl, rfl, by omega, by omega, HB2.out, HLO.out, fun x h1 h2 => paleB_mono HO.out h1 HR.out⟩
        case measure => simp [intOf]; omega
    · obtain rfl : i = j := by omega
      have HV := Lib.hid (pale_found HO.out hj HLO.out HHI.out)
      go_wp2_with fail
      go_ret
      exact ⟨ret_int HV.out.symm, HB.out⟩
end Go.Proofs.Ytaigbhhmmdfdcaa
/- scent.Pale. -/
namespace Go.Proofs.Ytaigbhhmmdfdcaa
open Go.RowKit
set_option maxRecDepth 100000 in
set_option maxHeartbeats 4000000 in
theorem after_any (b2 b3 b4 gk : Nat) (nm : ByteArray) (kd lm wk fade micro wt shows : Int) (ho : PaleOk fade micro wt shows) (w : World)
    (c2 : w.heap[b2]? = some (.cells #[.string nm, .int .i64 kd, .int .i64 lm, .int .i64 wk, .int .i64 fade] 62)) (c3 : w.heap[b3]? = some (.cells #[.pointer (some ⟨gk, 0, none⟩)] 106)) (c4 : w.heap[b4]? = some (.cells #[.int .i64 shows] 3))
    (c5 : w.cell? ⟨gk, 3, none⟩ = some (.int .i64 wt)) (g5 : gk < w.heap.size) :
    Calls Try.prog 76 #[.int .i64 micro, .pointer (some ⟨b2, 0, none⟩), .pointer (some ⟨b3, 0, none⟩), .pointer (some ⟨b4, 0, none⟩)] w
      fun e w' => e = .returned (.int .i64 (paleV fade micro wt shows)) ∧ Below w.heap.size w w' := by
  have hb := (Below.refl w.heap.size w).alloc (Nat.le_refl _) (.cells #[.int .i64 micro] 3)
  have HB := Lib.hid hb
  have HS := Lib.hid (search_any w.heap.size b2 b3 b4 gk nm kd lm wk fade micro wt shows ho _ ⟨heap_alloc_new w (.cells #[.int .i64 micro] 3), block_keep c2 hb, block_keep c3 hb, block_keep c4 hb, (hb.cell (p := ⟨gk, 3, none⟩) g5).trans c5, Nat.lt_of_lt_of_le g5 hb.size⟩)
  clear hb c2 c3 c4 c5
  go_enter Try.func76, Try.ntmps76
  go_wp2_with fail
  refine HS.out.mono ?_
  rintro e w' ⟨rfl, hbw⟩
  have HB2 := Lib.hid (HB.out.trans (hbw.mono (by simp)))
  clear hbw
  go_wp2_with fail
  go_ret
  exact ⟨rfl, HB2.out⟩
theorem info106 : (Try.prog.info? 106).map (·.size) = some 1 := by kernel_rfl
theorem info62 : (Try.prog.info? 62).map (·.size) = some 5 := by kernel_rfl
/-- The two boxes of Pale, while they are made in any order. -/
structure PaW (wb : World) (gk : Nat) (th : Array Value) (d11 d12 d13 d14 : Bool) (ya yb : Value) (w' : World) : Prop where
  bel : Below wb.heap.size wb w'
  a : d11 = true → ∃ b, ya = .pointer (some ⟨b, 0, none⟩) ∧ w'.heap[b]? = some (.cells #[.pointer (if d13 then some ⟨gk, 0, none⟩ else none)] 106) ∧ wb.heap.size ≤ b
  b : d12 = true → ∃ b, yb = .pointer (some ⟨b, 0, none⟩) ∧ w'.heap[b]? = some (.cells (if d14 then th else (#[.string ⟨#[]⟩, .int .i64 0, .int .i64 0, .int .i64 0, .int .i64 0] : Array Value)) 62) ∧ wb.heap.size ≤ b
section
variable {wb w' w'' : World} {gk : Nat} {th : Array Value} {d11 d12 d13 d14 : Bool} {ya yb : Value}
theorem PaW.start : PaW wb gk th false false false false ya yb wb.drew := ⟨(Below.refl _ _).drew, fun h => (by cases h), fun h => (by cases h)⟩
theorem PaW.mk1 (h : PaW wb gk th false d12 false d14 ya yb w') : PaW wb gk th true d12 false d14 (.pointer (some ⟨w'.heap.size, 0, none⟩)) yb (w'.alloc (.cells #[.pointer none] 106)) :=
  ⟨h.bel.alloc h.bel.size _, fun _ => ⟨_, rfl, heap_alloc_new _ _, h.bel.size⟩, fun hd => by
    obtain ⟨b, e1, e2, e3⟩ := h.b hd
    exact ⟨b, e1, block_keep e2 ((Below.refl _ _).alloc (Nat.le_refl _) _), e3⟩⟩
theorem PaW.mk2 (h : PaW wb gk th d11 false d13 false ya yb w') : PaW wb gk th d11 true d13 false ya (.pointer (some ⟨w'.heap.size, 0, none⟩)) (w'.alloc (.cells (#[.string ⟨#[]⟩, .int .i64 0, .int .i64 0, .int .i64 0, .int .i64 0] : Array Value) 62)) :=
  ⟨h.bel.alloc h.bel.size _, fun hd => by
    obtain ⟨b, e1, e2, e3⟩ := h.a hd
    exact ⟨b, e1, block_keep e2 ((Below.refl _ _).alloc (Nat.le_refl _) _), e3⟩, fun _ => ⟨_, rfl, heap_alloc_new _ _, h.bel.size⟩⟩
theorem PaW.st1 {b : Nat} (h : PaW wb gk th d11 d12 false d14 (.pointer (some ⟨b, 0, none⟩)) yb w') (hb : wb.heap.size ≤ b) (ho : w'.heap[b]? = some (.cells #[.pointer none] 106)) (hg : w''.heap[b]? = some (.cells #[.pointer (some ⟨gk, 0, none⟩)] 106)) (hbut : But b w' w'') :
    PaW wb gk th d11 d12 true d14 (.pointer (some ⟨b, 0, none⟩)) yb w'' :=
  ⟨h.bel.trans (hbut.below hb h.bel.size), fun _ => ⟨b, rfl, hg, hb⟩, fun hd => by
    obtain ⟨b', e1, e2, e3⟩ := h.b hd
    refine ⟨b', e1, (hbut.block b' (block_lt e2) ?_).trans e2, e3⟩
    rintro rfl
    rw [ho] at e2
    injection e2 with e4
    injection e4 with _ e5
    exact absurd e5 (by decide)⟩
theorem PaW.st2 {b : Nat} (h : PaW wb gk th d11 d12 d13 false ya (.pointer (some ⟨b, 0, none⟩)) w') (hb : wb.heap.size ≤ b) (ho : w'.heap[b]? = some (.cells (#[.string ⟨#[]⟩, .int .i64 0, .int .i64 0, .int .i64 0, .int .i64 0] : Array Value) 62)) (hg : w''.heap[b]? = some (.cells th 62)) (hbut : But b w' w'') :
    PaW wb gk th d11 d12 d13 true ya (.pointer (some ⟨b, 0, none⟩)) w'' :=
  ⟨h.bel.trans (hbut.below hb h.bel.size), fun hd => by
    obtain ⟨b', e1, e2, e3⟩ := h.a hd
    refine ⟨b', e1, (hbut.block b' (block_lt e2) ?_).trans e2, e3⟩
    rintro rfl
    rw [ho] at e2
    injection e2 with e4
    injection e4 with _ e5
    exact absurd e5 (by decide), fun _ => ⟨b, rfl, hg, hb⟩⟩
end
set_option maxRecDepth 100000 in
set_option maxHeartbeats 16000000 in
theorem pale_any (s : Shop) (l : List Bat) (dye shows : Int) (vt vl v : Value) (w : World) (hv : ShopAt w.heap.size w vt vl s) (hl' : BatsIn w.heap.size w v l) :
    Calls Try.prog 34 #[.agg #[vt, vl], v, .int .i64 dye, .int .i64 shows] w (Ret3 (paleVV s l dye shows) w) := by
  unfold Ret3
  have HV := Lib.hid hv
  have HL := Lib.hid hl'
  obtain ⟨ta, tc, rfl, -, htl⟩ := sl_shape hv.1
  obtain ⟨la, lc, rfl, -, hll⟩ := sl_shape hv.2
  obtain ⟨va, vc, rfl, -, hvl⟩ := sl_shape hl'
  clear hv hl'
  have C0 := Lib.hid (((Bs.nil w).push _ rfl (.cells #[.slice ta s.things.length tc, .slice la s.lots.length lc] 25)).push (w.heap.size + 1) (by simp) (.cells #[.int .i64 shows] 3))
  have HMELT := Lib.hid (melt_any s l _ _ _ _ (HV.out.next C0.out.bel) (HL.out.next C0.out.bel))
  unfold MeltPost at HMELT
  have HCV : Hid (paleVV s l dye shows = if paleE s l dye shows ≠ 0 then (0, 0, paleE s l dye shows)
    else (paleV (s.things.getD dye.toNat default).fade (micV s l (l.length - 1) dye.toNat).1 (weightV (l.getD (l.length - 1) default)) shows,
    paleV (s.things.getD dye.toNat default).fade (micV s l (l.length - 1) dye.toNat).2 (weightV (l.getD (l.length - 1) default)) shows, 0)) := rfl
  have HPE : Hid (paleE s l dye shows = if batchesE s l ≠ 0 then batchesE s l else if outOne 0 (s.things.length - 1) dye then 4 else if (s.things.getD dye.toNat default).kind ≠ 1 then 2 else if outOne 0 1000000 shows then 7 else 0) := rfl
  have HOKB := Lib.hid (all_ok (s := s) (l := l))
  generalize paleVV s l dye shows = PV at *
  generalize paleE s l dye shows = PE at *
  obtain ⟨E, hE⟩ : ∃ x, batchesE s l = x := ⟨_, rfl⟩
  rw [hE] at HMELT HPE
  simp only [hE] at HOKB
  clear hE
  obtain ⟨r1, hr1⟩ : ∃ r, outOne 0 ((s.things.length : Int) - 1) dye = r := ⟨_, rfl⟩
  obtain ⟨r2, hr2⟩ : ∃ r, outOne 0 1000000 shows = r := ⟨_, rfl⟩
  rw [hr1, hr2] at HPE
  have HR1 := Lib.hid hr1
  have HR2 := Lib.hid hr2
  clear hr1 hr2
  go_enter Try.func34, Try.ntmps34
  go_wp2_with fail
  refine HMELT.out.mono ?_
  rintro e w1 ⟨hbad, hgood⟩
  by_cases hz : E = 0
  case neg =>
    have hz2 : (E != 0) = true := by simpa using hz
    have HZ := Lib.hid hz
    obtain ⟨rfl, hb1⟩ := hbad hz
    clear hz hbad hgood
    have C1 := Lib.hid (C0.out.call hb1)
    clear hb1 C0
    rw [if_pos HZ.out] at HPE
    go_wp2_with fail
    go_ret3
    rw [HCV.out, HPE.out, if_pos HZ.out]
    exact ⟨rfl, C1.out.bel⟩
  subst hz
  obtain ⟨g, bo, vr, rfl, hA⟩ := hgood rfl
  have HA := Lib.hid hA
  have HOK := Lib.hid (HOKB.out rfl)
  have C1 := Lib.hid (C0.out.call hA.bel)
  clear hbad hgood hA HOKB HMELT
  obtain ⟨ra, rc, hvr⟩ := HA.out.shape
  subst hvr
  have hn6 := HOK.out.l6
  have hn1 := HOK.out.l1
  have hnt5 := HOK.out.sh.nt5
  rw [if_neg (fun h => h rfl)] at HPE
  have C1A := Lib.hid (C1.out.push _ rfl (.cells #[.int .i64 dye] 3))
  have hc1 := C1.out.cell 0 rfl 0
  go_wp2_with fail
  refine (out_one r1 0 _ _ HR1.out _ _ (C1A.out.get 2 rfl)).mono ?_
  rintro e w2 ⟨rfl, hb1⟩
  have C2 := Lib.hid ((C1A.out.call hb1).sub [(w.heap.size, .cells #[.slice ta s.things.length tc, .slice la s.lots.length lc] 25), (w.heap.size + 1, .cells #[.int .i64 shows] 3)] (by simp))
  have HA2 := Lib.hid ((HA.out.alloc (.cells #[.int .i64 dye] 3)).call hb1)
  clear hb1 C1 C1A hc1 HA C0
  cases r1
  case true =>
    simp only [if_true] at HPE
    go_wp2_with fail
    go_ret3
    rw [HCV.out, HPE.out]
    exact ⟨rfl, C2.out.bel⟩
  simp only [Bool.false_eq_true, if_false] at HPE
  obtain ⟨dt, rfl⟩ : ∃ n : Nat, dye = n := ⟨dye.toNat, by have := (outOne_false.1 HR1.out).1; omega⟩
  have hdt : dt < s.things.length := by have := (outOne_false.1 HR1.out).2; omega
  simp only [Int.toNat_natCast] at HCV HPE
  obtain ⟨tb, tof, hta, htb, x1, x2, x3, x4, x5, -⟩ := HV.out.1.at' hdt
  subst hta
  simp only [rdThing] at x1 x2 x3 x4 x5
  have HX := Lib.hid (show _ ∧ _ ∧ _ ∧ _ ∧ _ from ⟨x1, x2, x3, x4, x5⟩)
  have hfade := HOK.out.sh.fade dt hdt
  clear x1 x2 x3 x4 x5
  obtain ⟨x, hx⟩ : ∃ x, s.things.getD dt default = x := ⟨_, rfl⟩
  simp only [hx] at HX HCV HPE hfade
  clear hx
  obtain ⟨nm, kd, lm, wk, fade⟩ := x
  simp only at HX HCV HPE hfade
  have hdt2 : (dt : Int) < (s.things.length : Int) := by omega
  have x2 := (C2.out.bel.cell (p := ⟨tb, _, none⟩) htb).trans HX.out.2.1
  have hc0 := C2.out.cell 0 rfl 0
  by_cases hk : kd = 1
  case neg =>
    have hq : (kd != 1) = true := by simpa using hk
    rw [if_pos hk] at HPE
    clear hk
    go_wp2_with fail
    go_ret3
    rw [HCV.out, HPE.out]
    exact ⟨rfl, C2.out.bel⟩
  subst hk
  have C2A := Lib.hid (C2.out.push _ rfl (.cells #[.int .i64 shows] 3))
  have hc1 := C2.out.cell 1 rfl 0
  simp only [ne_eq, not_true_eq_false, if_false] at HPE
  go_wp2_with fail
  refine (out_one r2 0 _ _ HR2.out _ _ (C2A.out.get 2 rfl)).mono ?_
  rintro e w3 ⟨rfl, hb1⟩
  have C3 := Lib.hid ((C2A.out.call hb1).sub [(w.heap.size, .cells #[.slice (some ⟨tb, tof, none⟩) s.things.length tc, .slice la s.lots.length lc] 25), (w.heap.size + 1, .cells #[.int .i64 shows] 3)] (by simp))
  have HA3 := Lib.hid ((HA2.out.alloc (.cells #[.int .i64 shows] 3)).call hb1)
  clear hb1 C2 C2A hc1 hc0 x2 HA2
  cases r2
  case true =>
    simp only [if_true] at HPE
    go_wp2_with fail
    go_ret3
    rw [HCV.out, HPE.out]
    exact ⟨rfl, C3.out.bel⟩
  simp only [Bool.false_eq_true, if_false] at HPE
  rw [HPE.out, if_neg (fun h => h rfl)] at HCV
  obtain ⟨kl, HKL⟩ : ∃ k, Hid (l.length - 1 = k) := ⟨_, rfl⟩
  have hkl : kl < l.length := by have := HKL.out; omega
  have hkl2 : (l.length : Int) - 1 = kl := by have := HKL.out; omega
  rw [HKL.out] at HCV
  obtain ⟨pb, pc, he, hpc, hpb, hcell⟩ := HA3.out.ptr hkl
  cases he
  have HGK : Hid (g kl < w3.heap.size) := block_lt (HA3.out.obj kl hkl)
  have HQ : Hid (w3.cell? ⟨g kl, 3, none⟩ = some (.int .i64 (weightV (l.getD kl default))) ∧ w3.cell? ⟨g kl, 5 + dt * 2, none⟩ = some (.int .i64 (micV s l kl dt).1) ∧ w3.cell? ⟨g kl, 5 + dt * 2 + 1, none⟩ = some (.int .i64 (micV s l kl dt).2)) :=
    ⟨HA3.out.wt hkl, HA3.out.lo hkl (show dt < 5 by omega), HA3.out.hi hkl (show dt < 5 by omega)⟩
  have hpos := HOK.out.pre.pos HOK.out.sh hn6 (Nat.le_refl _) hkl
  have hmi := mic_ok HOK.out.sh hn6 (fun j hj => HOK.out.pre j (by omega)) hkl dt
  have hsh := outOne_false.1 HR2.out
  generalize weightV (l.getD kl default) = wt at *
  generalize micV s l kl dt = mm at *
  obtain ⟨mlo, mhi⟩ := mm
  simp only at HQ HCV hmi
  have HP1 : Hid (PaleOk fade mlo wt shows) := ⟨hfade.1, hfade.2, by omega, by omega, by omega, by omega, hsh.1, hsh.2⟩
  have HP2 : Hid (PaleOk fade mhi wt shows) := ⟨hfade.1, hfade.2, by omega, by omega, by omega, by omega, hsh.1, hsh.2⟩
  have y1 := (C3.out.bel.cell (p := ⟨tb, _, none⟩) htb).trans HX.out.1
  have y2 := (C3.out.bel.cell (p := ⟨tb, _, none⟩) htb).trans HX.out.2.1
  have y3 := (C3.out.bel.cell (p := ⟨tb, _, none⟩) htb).trans HX.out.2.2.1
  have y4 := (C3.out.bel.cell (p := ⟨tb, _, none⟩) htb).trans HX.out.2.2.2.1
  have y5 := (C3.out.bel.cell (p := ⟨tb, _, none⟩) htb).trans HX.out.2.2.2.2
  have htb3 : tb < w3.heap.size := Nat.lt_of_lt_of_le htb C3.out.bel.size
  have hc0 := C3.out.cell 0 rfl 0
  have hgs3 := C3.out.lt 0 rfl
  go_wp2_with fail
  refine wp_region_inv1 (by kernel_rfl) (by kernel_rfl) [12, 13] (fun D y w' => PaW w3 (g kl) #[.string nm, .int .i64 1, .int .i64 lm, .int .i64 wk, .int .i64 fade] (D 11) (D 12) (D 13) (D 14) (y 12) (y 13) w') PaW.start ?FP ?hFP ?_
  case hFP =>
    intro y
    simp only [fill, List.foldl, Act.put, List.setIfInBounds_toArray, List.set]
    exact rfl
  iterate 11
    (apply obl_det
     case hrun =>
       intro D y wz hW hD R hR
       have HRR := Lib.hid hR
       clear hR
       have HW := Lib.hid hW
       have hc2 := (cellB hW.bel).1
       clear hW hD
       go_wp2
       exact HRR.out _ HW.out
     case hnp => rfl
     case hv => first | exact ⟨_, fun _ => rfl⟩ | exact ⟨undef, fun _ => rfl⟩)
  apply obl_priv 12
  case hd => rfl
  case hp => rfl
  case hrun =>
    intro D y wz hW hD R hR
    have HRR := Lib.hid hR
    clear hR
    have h11 : D 11 = false := hD.not
    have h13 : D 13 = false := hD.post _ 13 rfl (by kernel_rfl)
    have H13 := Lib.hid h13
    rw [h11, h13] at hW
    have HW := Lib.hid hW.mk1
    clear hW hD h11 h13
    go_wp2
    refine HRR.out _ _ ?_
    show PaW w3 (g kl) #[.string nm, .int .i64 1, .int .i64 lm, .int .i64 wk, .int .i64 fade] true (D 12) (D 13) (D 14) (.pointer (some ⟨wz.heap.size, 0, none⟩)) (y 13) _
    rw [H13.out]
    exact HW.out
  apply obl_priv 13
  case hd => rfl
  case hp => rfl
  case hrun =>
    intro D y wz hW hD R hR
    have HRR := Lib.hid hR
    clear hR
    have h12 : D 12 = false := hD.not
    have h14 : D 14 = false := hD.post _ 14 rfl (by kernel_rfl)
    have H14 := Lib.hid h14
    rw [h12, h14] at hW
    have HW := Lib.hid hW.mk2
    clear hW hD h12 h14
    go_wp2
    refine HRR.out _ _ ?_
    show PaW w3 (g kl) #[.string nm, .int .i64 1, .int .i64 lm, .int .i64 wk, .int .i64 fade] (D 11) true (D 13) (D 14) (y 12) (.pointer (some ⟨wz.heap.size, 0, none⟩)) _
    rw [H14.out]
    exact HW.out
  apply obl_det
  case hrun =>
    intro D y wz hW hD R hR
    have HRR := Lib.hid hR
    clear hR
    have h11 : D 11 = true := hD.pre _ 11 rfl (by kernel_rfl)
    have h13 : D 13 = false := hD.not
    obtain ⟨b, eb, hb, hge⟩ := hW.a h11
    rw [h13] at hW hb
    have hW2 := hW
    rw [eb] at hW2
    have HW := Lib.hid hW2
    have HGE := Lib.hid hge
    have HB := Lib.hid hb
    have EB := Lib.hid eb
    clear hW hW2 hD h11 h13 hge hb
    refine wpList_cell_but rfl 106 _ _ rfl b 0 #[.pointer none] 106 HB.out eb (.pointer (some ⟨g kl, 0, none⟩)) rfl (by simp) rfl info106 ?_
    intro w5 hg5 hb5
    have HN := HW.out.st1 HGE.out HB.out hg5 hb5
    rw [← eb] at HN
    have HN2 := Lib.hid HN
    clear HN hg5 hb5 eb
    go_wp2
    exact HRR.out _ HN2.out
  case hnp => rfl
  case hv => first | exact ⟨_, fun _ => rfl⟩ | exact ⟨undef, fun _ => rfl⟩
  apply obl_det
  case hrun =>
    intro D y wz hW hD R hR
    have HRR := Lib.hid hR
    clear hR
    have h12 : D 12 = true := hD.pre _ 12 rfl (by kernel_rfl)
    have h14 : D 14 = false := hD.not
    obtain ⟨b, eb, hb, hge⟩ := hW.b h12
    rw [h14] at hW hb
    have hW2 := hW
    rw [eb] at hW2
    have HW := Lib.hid hW2
    have HGE := Lib.hid hge
    have HB := Lib.hid hb
    clear hW hW2 hD h12 h14 hge hb
    refine wpList_mid_but rfl 62 _ _ rfl b 0 #[.string nm, .int .i64 1, .int .i64 lm, .int .i64 wk, .int .i64 fade] [] [.string ⟨#[]⟩, .int .i64 0, .int .i64 0, .int .i64 0, .int .i64 0] 62 HB.out rfl eb rfl info62 (by simp) (by simp [Value.oneCell']) ?_
    intro w5 hg5 hb5
    have HN := HW.out.st2 HGE.out HB.out hg5 hb5
    rw [← eb] at HN
    have HN2 := Lib.hid HN
    clear HN hg5 hb5 eb
    go_wp2
    exact HRR.out _ HN2.out
  case hnp => rfl
  case hv => first | exact ⟨_, fun _ => rfl⟩ | exact ⟨undef, fun _ => rfl⟩
  apply obl_nil
  intro D y w4 hall hW
  obtain ⟨b3, eb3, hb3, -⟩ := hW.a (hall 11 (by decide))
  obtain ⟨b2, eb2, hb2, -⟩ := hW.b (hall 12 (by decide))
  rw [hall 13 (by decide)] at hb3
  rw [hall 14 (by decide)] at hb2
  simp only [if_true] at hb2 hb3
  have C4 := Lib.hid (C3.out.call hW.bel)
  have HB4 := Lib.hid hW.bel
  have HC2 := Lib.hid hb2
  have HC3 := Lib.hid hb3
  clear hW hall hb2 hb3 y1 y2 y3 y4 y5 hc0 hcell
  rw [eb2, eb3]
  clear eb2 eb3
  have HC4 := Lib.hid (C4.out.get 1 rfl)
  have q3 := (HB4.out.cell (p := ⟨g kl, _, none⟩) HGK.out).trans HQ.out.1
  have q4 := (HB4.out.cell (p := ⟨g kl, _, none⟩) HGK.out).trans HQ.out.2.1
  have q5 := (HB4.out.cell (p := ⟨g kl, _, none⟩) HGK.out).trans HQ.out.2.2
  have g4 : g kl < w4.heap.size := Nat.lt_of_lt_of_le HGK.out HB4.out.size
  have p3 := cell_of_row _ _ 0 _ _ _ HC3.out
  have hb3l := block_lt HC3.out
  have HQ3 := Lib.hid q3
  have hdt5 : (dt : Int) < 5 := by omega
  go_wp2_with fail
  refine wp_region_inv0 (by kernel_rfl) (by kernel_rfl) (fun D w' => Bs w4 [] w') ((Bs.nil w4).drew) ?_
  iterate 8
    (apply obl_det
     case hrun =>
       intro D y wz hW hD R hR
       have HRR := Lib.hid hR
       clear hR
       have HW := Lib.hid hW
       have hc2 := (cellB HW.out.bel).1
       clear hW hD
       go_wp2
       exact HRR.out _ HW.out
     case hnp => rfl
     case hv => first | exact ⟨_, fun _ => rfl⟩ | exact ⟨undef, fun _ => rfl⟩)
  apply obl_det
  case hrun =>
    intro D y wz hW hD R hR
    have HRR := Lib.hid hR
    clear hR
    have HW := Lib.hid hW
    have hc2 := (cellB HW.out.bel).1
    clear hW hD
    go_wp2_with fail
    refine (after_any b2 b3 (w.heap.size + 1) (g kl) nm 1 lm wk fade mlo wt shows HP1.out wz (block_keep HC2.out HW.out.bel) (block_keep HC3.out HW.out.bel) (block_keep HC4.out HW.out.bel) ((HW.out.bel.cell (p := ⟨g kl, _, none⟩) g4).trans HQ3.out) (Nat.lt_of_lt_of_le g4 HW.out.bel.size)).mono ?_
    rintro e w' ⟨rfl, hb⟩
    have HW2 := Lib.hid (HW.out.call hb)
    clear hb
    go_wp2_with fail
    exact HRR.out _ HW2.out
  case hnp => rfl
  case hv => first | exact ⟨_, fun _ => rfl⟩ | exact ⟨undef, fun _ => rfl⟩
  iterate 8
    (apply obl_det
     case hrun =>
       intro D y wz hW hD R hR
       have HRR := Lib.hid hR
       clear hR
       have HW := Lib.hid hW
       have hc2 := (cellB HW.out.bel).1
       clear hW hD
       go_wp2
       exact HRR.out _ HW.out
     case hnp => rfl
     case hv => first | exact ⟨_, fun _ => rfl⟩ | exact ⟨undef, fun _ => rfl⟩)
  apply obl_det
  case hrun =>
    intro D y wz hW hD R hR
    have HRR := Lib.hid hR
    clear hR
    have HW := Lib.hid hW
    have hc2 := (cellB HW.out.bel).1
    clear hW hD
    go_wp2_with fail
    refine (after_any b2 b3 (w.heap.size + 1) (g kl) nm 1 lm wk fade mhi wt shows HP2.out wz (block_keep HC2.out HW.out.bel) (block_keep HC3.out HW.out.bel) (block_keep HC4.out HW.out.bel) ((HW.out.bel.cell (p := ⟨g kl, _, none⟩) g4).trans HQ3.out) (Nat.lt_of_lt_of_le g4 HW.out.bel.size)).mono ?_
    rintro e w' ⟨rfl, hb⟩
    have HW2 := Lib.hid (HW.out.call hb)
    clear hb
    go_wp2_with fail
    exact HRR.out _ HW2.out
  case hnp => rfl
  case hv => first | exact ⟨_, fun _ => rfl⟩ | exact ⟨undef, fun _ => rfl⟩
  iterate 3
    (apply obl_det
     case hrun =>
       intro D y wz hW hD R hR
       have HRR := Lib.hid hR
       clear hR
       have HW := Lib.hid hW
       have hc2 := (cellB HW.out.bel).1
       clear hW hD
       go_wp2
       exact HRR.out _ HW.out
     case hnp => rfl
     case hv => first | exact ⟨_, fun _ => rfl⟩ | exact ⟨undef, fun _ => rfl⟩)
  apply obl_nil
  intro D y w8 hall hW
  clear hall
  have HBF := Lib.hid hW.bel
  clear hW
  go_wp2_with fail
  go_ret3
  rw [HCV.out]
  exact ⟨rfl, C4.out.bel.trans (HBF.out.mono C4.out.bel.size)⟩
end Go.Proofs.Ytaigbhhmmdfdcaa
/- Made's closures. -/
namespace Go.Proofs.Ytaigbhhmmdfdcaa
open Go.RowKit
theorem short69 (y : List Int) (u : Value) (b nt : Nat) (w : World) (hu : IntsIn .i64 w.heap.size w u y) (hc : w.heap[b]? = some (.cells #[.int .i64 nt] 3)) :
    Calls Try.prog 69 #[u, .pointer (some ⟨b, 0, none⟩)] w fun e w' => e = .returned (.bool (decide (y.length ≠ nt))) ∧ Below w.heap.size w w' := by
  obtain ⟨a, c, rfl, -⟩ := ints_shape hu
  have c0 := cell_of_row _ _ 0 _ _ _ hc
  clear hu hc
  have HB : Hid (((y.length : Int) != (nt : Int)) = decide (y.length ≠ nt)) := by
    unfold Hid
    by_cases h : y.length = nt
    · simp [h]
    · have : ¬ (y.length : Int) = nt := by omega
      simp [h, this]
  generalize y.length = n at *
  go_enter Try.func69, Try.ntmps69
  go_wp2_with fail
  go_ret
  exact ⟨ret_bool HB.out, Below.refl _ _⟩
/-- What Made's inner function works on: a row of ints, and a bool. -/
structure PS (B : Nat) (wX : World) (mb gw : Nat) (m : List Int) (b : Bool) (w : World) : Prop where
  bel : Below B wX w
  le : B ≤ w.heap.size
  c1 : w.heap[mb]? = some (.cells (ints m) 3)
  c2 : w.heap[gw]? = some (.cells #[.bool b] 4)
  ne : mb ≠ gw
  g1 : B ≤ mb
  g2 : B ≤ gw
section
variable {B : Nat} {wX w w' : World} {mb gw : Nat} {m m' : List Int} {b b' : Bool}
theorem PS.call (h : PS B wX mb gw m b w) (hb : Below w.heap.size w w') : PS B wX mb gw m b w' :=
  ⟨h.bel.trans (hb.mono h.le), Nat.le_trans h.le hb.size, block_keep h.c1 hb, block_keep h.c2 hb, h.ne, h.g1, h.g2⟩
theorem PS.drew (h : PS B wX mb gw m b w) (n : Nat) : PS B wX mb gw m b (w.drewN n) := h.call (below_drewN (Below.refl _ _) n)
theorem PS.setM (h : PS B wX mb gw m b w) (hb : But mb w w') (hm : w'.heap[mb]? = some (.cells (ints m') 3)) : PS B wX mb gw m' b w' :=
  ⟨h.bel.trans (hb.below h.g1 h.le), Nat.le_trans h.le hb.size, hm, (hb.block _ (block_lt h.c2) (Ne.symm h.ne)).trans h.c2, h.ne, h.g1, h.g2⟩
theorem PS.setB (h : PS B wX mb gw m b w) (hb : But gw w w') (hm : w'.heap[gw]? = some (.cells #[.bool b'] 4)) : PS B wX mb gw m b' w' :=
  ⟨h.bel.trans (hb.below h.g2 h.le), Nat.le_trans h.le hb.size, (hb.block _ (block_lt h.c1) h.ne).trans h.c1, hm, h.ne, h.g1, h.g2⟩
end
/-- The numbers after k of a list. -/
def addTo (times : Int) (ns m : List Int) : Nat → List Int
  | 0 => m
  | k + 1 => (addTo times ns m k).set k (wrap64 ((addTo times ns m k).getD k 0 + wrap64 (times * ns.getD k 0)))
theorem addTo_length (times : Int) (ns m : List Int) : ∀ k, (addTo times ns m k).length = m.length
  | 0 => rfl
  | k + 1 => by simp [addTo, addTo_length times ns m k]
def badTo (fs : Nat → Int × Int) (ns : List Int) (k : Nat) : Bool := (List.range k).any fun i => outOne (fs i).1 (fs i).2 (ns.getD i 0)
theorem badTo_succ (fs : Nat → Int × Int) (ns : List Int) (k : Nat) : badTo fs ns (k + 1) = (badTo fs ns k || outOne (fs k).1 (fs k).2 (ns.getD k 0)) := by
  unfold badTo
  rw [List.range_succ, List.any_append]
  simp
theorem info4 : (Try.prog.info? 4).map (·.size) = some 1 := by kernel_rfl
/-- The bool of one number, while it is looked at. -/
structure OnW (B : Nat) (wX : World) (mb gw : Nat) (m : List Int) (b b' : Bool) (n : Int) (d13 d14 d16 : Bool) (yb : Value) (w : World) : Prop where
  ps : PS B wX mb gw m (if d16 then b' else b) w
  new : d13 = true → d14 = false → ∃ g, yb = .slice (some ⟨g, 0, none⟩) 1 1 ∧ w.heap[g]? = some (.cells #[.int .i64 n] 3)
set_option maxRecDepth 100000 in
set_option maxHeartbeats 16000000 in
theorem pour71 (B : Nat) (wX : World) (mb gw gm : Nat) (m : List Int) (b : Bool) (times : Int) (ns : List Int) (fs : Nat → Int × Int) (vn : Value) (fb fo fc nt : Nat) (w : World) (hps : PS B wX mb gw m b w) (hm : m.length = nt) (hn : ns.length = nt) (hnt : nt ≤ 5) (hfc : nt ≤ fc)
    (hgm : gm < B) (hgc : wX.cell? ⟨gm, 0, none⟩ = some (.slice (some ⟨mb, 0, none⟩) nt nt)) (hvn : IntsIn .i64 B wX vn ns) (hfb : fb < B) (hf : ∀ i, i < nt → wX.cell? ⟨fb, fo + i * 2, none⟩ = some (.int .i64 (fs i).1) ∧ wX.cell? ⟨fb, fo + i * 2 + 1, none⟩ = some (.int .i64 (fs i).2)) :
    Calls Try.prog 71 #[.int .i64 times, vn, .slice (some ⟨fb, fo, none⟩) nt fc, .pointer (some ⟨gm, 0, none⟩), .pointer (some ⟨gw, 0, none⟩)] w
      fun e w' => (∃ v, e = .returned v) ∧ PS B wX mb gw (addTo times ns m nt) (b || badTo fs ns nt) w' := by
  have HPS := Lib.hid hps
  have HVN := Lib.hid hvn
  have HF := Lib.hid hf
  have HGC := Lib.hid hgc
  obtain ⟨na, nc, rfl, -⟩ := ints_shape hvn
  have HN := Lib.hid hn
  have HLEN := fun k => Lib.hid ((addTo_length times ns m k).trans hm)
  rw [hn] at HVN ⊢
  clear hps hvn hf hgc hn hm
  go_enter Try.func71, Try.ntmps71
  go_wp2_with fail
  go_loopw [12] (fun iv wr => ∃ k : Nat, iv = .int .i64 k ∧ k ≤ nt ∧ PS B wX mb gw (addTo times ns m k) (b || badTo fs ns k) wr) (fun iv _ => nt - (intOf iv).toNat)
  case atStart => exact ⟨0, rfl, by omega, by simpa [addTo, badTo] using HPS.out⟩
  case round =>
    obtain ⟨k, rfl, hk, hP⟩ := hrel
    have HP := Lib.hid hP
    clear hP
    by_cases hlt : k < nt
    · obtain ⟨b1, o1, rfl, hb1, x1⟩ := ints_at HVN.out (show k < ns.length by rw [HN.out]; exact hlt)
      have x1 := (HP.out.bel.cell (p := ⟨b1, _, none⟩) hb1).trans x1
      have x2 := (HP.out.bel.cell (p := ⟨gm, 0, none⟩) hgm).trans HGC.out
      have HNX : Hid (addTo times ns m (k + 1) = (addTo times ns m k).set k (wrap64 ((addTo times ns m k).getD k 0 + wrap64 (times * ns.getD k 0)))) := rfl
      have HBX : Hid ((b || badTo fs ns (k + 1)) = ((b || badTo fs ns k) || outOne (fs k).1 (fs k).2 (ns.getD k 0))) := by unfold Hid; rw [badTo_succ, Bool.or_assoc]
      have hl := HLEN k
      have x3 : wr.cell? ⟨mb, k, none⟩ = some (.int .i64 ((addTo times ns m k).getD k 0)) := (cell_of_row _ _ _ _ _ _ HP.out.c1).trans (ints_get _ _ (by rw [(HLEN k).out]; exact hlt))
      have hset := Lib.hid (ints_set (addTo times ns m k) k)
      have HSZ : Hid (k < (ints (addTo times ns m k)).size) := by unfold Hid; rw [ints_size, (HLEN k).out]; exact hlt
      generalize addTo times ns m k = M at *
      generalize ns.getD k 0 = n at *
      generalize M.getD k 0 = z at *
      clear hl
      go_wp2_with (refine wpList_cell_but rfl 3 _ _ rfl mb k _ 3 HP.out.c1 rfl (.int .i64 (wrap64 (z + wrap64 (times * n)))) rfl HSZ.out rfl info3 ?_; intro w5 hg5 hb5)
      rw [hset.out, ← HNX.out] at hg5
      have HP5 := Lib.hid (HP.out.setM hb5 hg5)
      clear hg5 hb5 x1 x2 x3
      simp only [Act.put]
      have f1 := (HP5.out.bel.cell (p := ⟨fb, _, none⟩) hfb).trans (HF.out k hlt).1
      have f2 := (HP5.out.bel.cell (p := ⟨fb, _, none⟩) hfb).trans (HF.out k hlt).2
      have hfb5 : fb < w5.heap.size := Nat.lt_of_lt_of_le hfb HP5.out.le
      generalize hpk : fs k = p at *
      obtain ⟨lo, hi⟩ := p
      simp only at f1 f2 HBX
      have hbw := cell_of_row _ _ 0 _ _ _ HP5.out.c2
      have hlt2 : (k : Int) < (nt : Int) := by omega
      generalize (b || badTo fs ns k) = bb at *
      have HFK := Lib.hid (HF.out k hlt)
      clear f1 f2 hfb5
      rw [hpk] at HFK
      cases bb
      case true =>
        refine wp_region_inv0 (by kernel_rfl) (by kernel_rfl) (fun _ w' => PS B wX mb gw (addTo times ns m (k + 1)) true w') (HP5.out.call (Below.refl _ _).drew) ?_
        apply obl_det
        case hrun =>
          intro D y wz hW hD R hR
          have HRR := Lib.hid hR
          clear hR
          have c0 := cell_of_row _ _ 0 _ _ _ hW.c2
          have HW := Lib.hid hW
          clear hW hD
          go_wp2
          exact HRR.out _ HW.out
        case hnp => rfl
        case hv => first | exact ⟨_, fun _ => rfl⟩ | exact ⟨undef, fun _ => rfl⟩
        iterate 15
          (apply obl_det
           case hrun =>
             intro D y wz hW hD R hR
             have HRR := Lib.hid hR
             clear hR
             have HW := Lib.hid hW
             clear hW hD
             go_wp2
             exact HRR.out _ HW.out
           case hnp => rfl
           case hv => first | exact ⟨_, fun _ => rfl⟩ | exact ⟨undef, fun _ => rfl⟩)
        apply obl_det
        case hrun =>
          intro D y wz hW hD R hR
          have HRR := Lib.hid hR
          clear hR
          have HW := Lib.hid hW
          clear hW hD
          refine wpList_cell_but rfl 4 _ _ rfl gw 0 _ 4 HW.out.c2 rfl (.bool true) rfl (by simp) rfl info4 ?_
          intro w6 hg6 hb6
          have HN := Lib.hid (HW.out.setB hb6 hg6)
          clear hg6 hb6
          go_wp2
          exact HRR.out _ HN.out
        case hnp => rfl
        case hv => first | exact ⟨_, fun _ => rfl⟩ | exact ⟨undef, fun _ => rfl⟩
        apply obl_nil
        intro D y w8 hall hW
        have HP7 := Lib.hid hW
        clear hW hall
        clear hbw
        go_wp2_with fail
        refine ⟨⟨k + 1, by push_cast; rfl, by omega, by rw [HBX.out]; simpa using HP7.out⟩, ?_⟩
        simp [intOf]
        omega
      case false =>
        clear hbw
        obtain ⟨r, hr⟩ : ∃ r, outOne lo hi n = r := ⟨_, rfl⟩
        have HR := Lib.hid hr
        clear hr
        refine wp_region_inv1 (by kernel_rfl) (by kernel_rfl) [39] (fun D y w' => OnW B wX mb gw (addTo times ns m (k + 1)) false r n (D 13) (D 14) (D 16) (y 39) w') ⟨HP5.out.call (Below.refl _ _).drew, fun h => (by cases h)⟩ ?FO ?hFO ?_
        case hFO =>
          intro y
          simp only [fill, List.foldl, Act.put, List.setIfInBounds_toArray, List.set]
          exact rfl
        apply obl_det
        case hrun =>
          intro D y wz hW hD R hR
          have HRR := Lib.hid hR
          clear hR
          have h16 : D 16 = false := hD.post _ 16 rfl (by kernel_rfl)
          have c0 := cell_of_row _ _ 0 _ _ _ hW.ps.c2
          rw [h16] at c0
          simp only [Bool.false_eq_true, if_false] at c0
          have HW := Lib.hid hW
          clear hW hD h16
          go_wp2
          exact HRR.out _ HW.out
        case hnp => rfl
        case hv => first | exact ⟨_, fun _ => rfl⟩ | exact ⟨undef, fun _ => rfl⟩
        iterate 12
          (apply obl_det
           case hrun =>
             intro D y wz hW hD R hR
             have HRR := Lib.hid hR
             clear hR
             have HW := Lib.hid hW
             have f1 := (hW.ps.bel.cell (p := ⟨fb, _, none⟩) hfb).trans HFK.out.1
             have f2 := (hW.ps.bel.cell (p := ⟨fb, _, none⟩) hfb).trans HFK.out.2
             have hfb6 : fb < wz.heap.size := Nat.lt_of_lt_of_le hfb hW.ps.le
             clear hW hD
             go_wp2
             exact HRR.out _ HW.out
           case hnp => rfl
           case hv => first | exact ⟨_, fun _ => rfl⟩ | exact ⟨undef, fun _ => rfl⟩)
        apply obl_priv 39
        case hd => rfl
        case hp => rfl
        case hrun =>
          intro D y wz hW hD R hR
          have HRR := Lib.hid hR
          clear hR
          have HW := Lib.hid hW.ps
          clear hW hD
          go_wp2
          refine HRR.out _ _ ?_
          show OnW B wX mb gw (addTo times ns m (k + 1)) false r n true (D 14) (D 16) (.slice (some ⟨wz.heap.size, 0, none⟩) 1 1) _
          exact ⟨HW.out.call ((Below.refl _ _).alloc (Nat.le_refl _) _), fun _ _ => ⟨_, rfl, heap_alloc_new _ _⟩⟩
        apply obl_det
        case hrun =>
          intro D y wz hW hD R hR
          have HRR := Lib.hid hR
          clear hR
          have h13 : D 13 = true := hD.pre _ 13 rfl (by kernel_rfl)
          have h14 : D 14 = false := hD.not
          obtain ⟨g5, e5, hg5⟩ := hW.new h13 h14
          have hc := out_one r lo hi n HR.out g5 wz hg5
          rw [← e5] at hc
          have HC := Lib.hid hc
          clear hc hg5 e5
          have HW := Lib.hid hW
          clear hW hD h13 h14
          go_wp2_with fail
          refine HC.out.mono ?_
          rintro e w' ⟨rfl, hb⟩
          have HW2 := Lib.hid (HW.out.ps.call hb)
          clear hb
          go_wp2_with fail
          exact HRR.out _ ⟨HW2.out, fun _ h => (by cases h)⟩
        case hnp => rfl
        case hv => first | exact ⟨_, fun _ => rfl⟩ | exact ⟨undef, fun _ => rfl⟩
        apply obl_det
        case hrun =>
          intro D y wz hW hD R hR
          have HRR := Lib.hid hR
          clear hR
          have HW := Lib.hid hW
          clear hW hD
          go_wp2
          exact HRR.out _ HW.out
        case hnp => rfl
        case hv => first | exact ⟨_, fun _ => rfl⟩ | exact ⟨undef, fun _ => rfl⟩
        apply obl_det
        case hrun =>
          intro D y wz hW hD R hR
          have HRR := Lib.hid hR
          clear hR
          have h14 : D 14 = true := hD.pre _ 14 rfl (by kernel_rfl)
          have H14 := Lib.hid h14
          have HW := Lib.hid hW
          clear hW hD h14
          refine wpList_cell_but rfl 4 _ _ rfl gw 0 _ 4 HW.out.ps.c2 rfl (.bool r) rfl (by simp) rfl info4 ?_
          intro w6 hg6 hb6
          have HN := Lib.hid (HW.out.ps.setB hb6 hg6)
          clear hg6 hb6
          go_wp2
          exact HRR.out _ ⟨HN.out, fun _ h => (by rw [H14.out] at h; cases h)⟩
        case hnp => rfl
        case hv => first | exact ⟨_, fun _ => rfl⟩ | exact ⟨undef, fun _ => rfl⟩
        apply obl_nil
        intro D y w8 hall hW
        have h16 := hall 16 (by decide)
        have hp := hW.ps
        rw [h16] at hp
        simp only [if_true] at hp
        have HP7 := Lib.hid hp
        clear hp hW hall h16
        go_wp2_with fail
        refine ⟨⟨k + 1, by push_cast; rfl, by omega, by rw [HBX.out, HR.out]; simpa using HP7.out⟩, ?_⟩
        simp [intOf]
        omega
    · obtain rfl : k = nt := by omega
      go_wp2_with fail
      exact bodyPost_end (results_none rfl _ _ _) rfl ⟨⟨_, rfl⟩, HP.out⟩
end Go.Proofs.Ytaigbhhmmdfdcaa
/- Made, plainly. -/
namespace Go.Proofs.Ytaigbhhmmdfdcaa
open Go.RowKit
/-- The micrograms while Made adds: what is added, the lots, what comes back; and whether a number is wrong. -/
def mL (s : Shop) (b : Bat) (x : Tru) : Nat → List Int
  | 0 => addTo 1000 x.added (List.replicate s.things.length 0) s.things.length
  | i + 1 => addTo (b.grams.getD i 0) (x.lots.getD i []) (mL s b x i) s.things.length
def bL (s : Shop) (b : Bat) (x : Tru) : Nat → Bool
  | 0 => false || badTo (fun t => b.added.getD t (0, 0)) x.added s.things.length
  | i + 1 => bL s b x i || badTo (fun t => (s.lots.getD i default).parts.getD t (0, 0)) (x.lots.getD i []) s.things.length
def mB (s : Shop) (b : Bat) (x : Tru) : Nat → List Int
  | 0 => mL s b x s.lots.length
  | i + 1 => addTo (b.back.getD i 0) (x.back.getD i []) (mB s b x i) s.things.length
def bB (s : Shop) (l : List Bat) (b : Bat) (x : Tru) : Nat → Bool
  | 0 => bL s b x s.lots.length
  | i + 1 => bB s l b x i || badTo (parV s l i) (x.back.getD i []) s.things.length
theorem mL_length (s : Shop) (b : Bat) (x : Tru) : ∀ i, (mL s b x i).length = s.things.length
  | 0 => by simp [mL, addTo_length]
  | i + 1 => by simp [mL, addTo_length, mL_length s b x i]
theorem mB_length (s : Shop) (b : Bat) (x : Tru) : ∀ i, (mB s b x i).length = s.things.length
  | 0 => mL_length s b x _
  | i + 1 => by simp [mB, addTo_length, mB_length s b x i]
theorem w64 (n : Int) (h : -9223372036854775808 ≤ n ∧ n ≤ 9223372036854775807) : wrap64 n = n := by unfold wrap64; omega
theorem addTo_get {times : Int} {ns m : List Int} : ∀ {k : Nat}, (∀ i, i < k → 0 ≤ times * ns.getD i 0 ∧ times * ns.getD i 0 ≤ 100000000000000 ∧ 0 ≤ m.getD i 0 ∧ m.getD i 0 ≤ 100000000000000) → k ≤ m.length →
    ∀ t, t < m.length → (addTo times ns m k).getD t 0 = if t < k then m.getD t 0 + times * ns.getD t 0 else m.getD t 0
  | 0, _, _, t, _ => by simp [addTo]
  | k + 1, h, hk, t, ht => by
    have ih := addTo_get (k := k) (fun i hi => h i (by omega)) (by omega)
    have hl := addTo_length times ns m k
    have hb := h k (by omega)
    have e0 := ih k (by omega)
    rw [if_neg (by omega)] at e0
    unfold addTo
    rw [List.getD_eq_getElem?_getD, List.getElem?_set]
    by_cases htk : k = t
    · subst htk
      rw [if_pos rfl, if_pos (by omega), if_pos (by omega), e0, w64 (times * ns.getD k 0) (by omega), w64 _ (by omega)]
      rfl
    · rw [if_neg htk, ← List.getD_eq_getElem?_getD, ih t ht]
      by_cases h2 : t < k
      · rw [if_pos h2, if_pos (by omega)]
      · rw [if_neg h2, if_neg (by omega)]
theorem bL_eq (s : Shop) (b : Bat) (x : Tru) : ∀ i, bL s b x i = (badTo (fun t => b.added.getD t (0, 0)) x.added s.things.length || (List.range i).any fun j => badTo (fun t => (s.lots.getD j default).parts.getD t (0, 0)) (x.lots.getD j []) s.things.length)
  | 0 => by simp [bL]
  | i + 1 => by rw [List.range_succ, List.any_append]; simp [bL, bL_eq s b x i, Bool.or_assoc]
theorem bB_eq (s : Shop) (l : List Bat) (b : Bat) (x : Tru) : ∀ i, bB s l b x i = (bL s b x s.lots.length || (List.range i).any fun j => badTo (parV s l j) (x.back.getD j []) s.things.length)
  | 0 => by simp [bB]
  | i + 1 => by rw [List.range_succ, List.any_append]; simp [bB, bB_eq s l b x i, Bool.or_assoc]
theorem badTo_true {fs : Nat → Int × Int} {ns : List Int} {k : Nat} : badTo fs ns k = true ↔ ∃ t, t < k ∧ outOne (fs t).1 (fs t).2 (ns.getD t 0) = true := by
  unfold badTo
  rw [List.any_eq_true]
  constructor
  · rintro ⟨t, h1, h2⟩
    exact ⟨t, List.mem_range.1 h1, h2⟩
  · rintro ⟨t, h1, h2⟩
    exact ⟨t, List.mem_range.2 h1, h2⟩
theorem badTo_false {fs : Nat → Int × Int} {ns : List Int} {k : Nat} (h : badTo fs ns k = false) {t : Nat} (ht : t < k) : (fs t).1 ≤ ns.getD t 0 ∧ ns.getD t 0 ≤ (fs t).2 := by
  refine outOne_false.1 ?_
  cases hq : outOne (fs t).1 (fs t).2 (ns.getD t 0) with
  | false => rfl
  | true =>
    have := badTo_true.2 ⟨t, ht, hq⟩
    rw [h] at this
    cases this
theorem truthIn_true {s : Shop} {l : List Bat} {b : Bat} {x : Tru} {t : Nat} : truthIn s l (rangesV s l) b x t = true ↔ outOne (b.added.getD t (0, 0)).1 (b.added.getD t (0, 0)).2 (x.added.getD t 0) = false ∧
    (∀ i, i < s.lots.length → outOne ((s.lots.getD i default).parts.getD t (0, 0)).1 ((s.lots.getD i default).parts.getD t (0, 0)).2 ((x.lots.getD i []).getD t 0) = false) ∧
    (∀ i, i < b.back.length → outOne (parV s l i t).1 (parV s l i t).2 ((x.back.getD i []).getD t 0) = false) := by
  unfold truthIn
  rw [Bool.and_eq_true, Bool.and_eq_true, List.all_eq_true, List.all_eq_true]
  simp only [List.mem_range, Bool.not_eq_true', and_assoc]
  exact Iff.rfl
theorem bB_true {s : Shop} {l : List Bat} {b : Bat} {x : Tru} : bB s l b x b.back.length = true ↔ ¬ ∀ t, t < s.things.length → truthIn s l (rangesV s l) b x t = true := by
  rw [bB_eq, bL_eq, Bool.or_eq_true, Bool.or_eq_true, List.any_eq_true, List.any_eq_true]
  simp only [badTo_true, List.mem_range]
  constructor
  · rintro ((⟨t, h1, h2⟩ | ⟨j, hj, t, h1, h2⟩) | ⟨j, hj, t, h1, h2⟩) hall
    · rw [(truthIn_true.1 (hall t h1)).1] at h2; cases h2
    · rw [(truthIn_true.1 (hall t h1)).2.1 j hj] at h2; cases h2
    · rw [(truthIn_true.1 (hall t h1)).2.2 j hj] at h2; cases h2
  · intro h
    refine Classical.byContradiction fun hn => h fun t ht => truthIn_true.2 ⟨?_, fun i hi => ?_, fun i hi => ?_⟩
    · cases hq : outOne (b.added.getD t (0, 0)).1 (b.added.getD t (0, 0)).2 (x.added.getD t 0) with
      | false => rfl
      | true => exact absurd (.inl (.inl ⟨t, ht, hq⟩)) hn
    · cases hq : outOne ((s.lots.getD i default).parts.getD t (0, 0)).1 ((s.lots.getD i default).parts.getD t (0, 0)).2 ((x.lots.getD i []).getD t 0) with
      | false => rfl
      | true => exact absurd (.inl (.inr ⟨i, hi, t, ht, hq⟩)) hn
    · cases hq : outOne (parV s l i t).1 (parV s l i t).2 ((x.back.getD i []).getD t 0) with
      | false => rfl
      | true => exact absurd (.inr ⟨i, hi, t, ht, hq⟩) hn
theorem made_bad {s : Shop} {l : List Bat} {k : Nat} (x : Tru) : bB s l (l.getD k default) x (l.getD k default).back.length = !((List.range s.things.length).all (truthIn s l (rangesV s l) (l.getD k default) x)) := by
  rw [Bool.eq_iff_iff, bB_true, Bool.not_eq_true', Bool.eq_false_iff, ne_eq, List.all_eq_true]
  simp only [List.mem_range]
theorem made_good {s : Shop} {l : List Bat} (hs : AllOk s l) {k : Nat} (hk : k < l.length) (x : Tru) (h : bB s l (l.getD k default) x (l.getD k default).back.length = false) :
    mB s (l.getD k default) x (l.getD k default).back.length = (List.range s.things.length).map (madeT s (l.getD k default) x) := by
  have hb := bat_ok0 (batchE_zero (hs.pre k hk)).1
  have hall : ∀ t, t < s.things.length → truthIn s l (rangesV s l) (l.getD k default) x t = true := by
    refine Classical.byContradiction fun hn => ?_
    have := bB_true.2 hn
    rw [h] at this
    cases this
  have hA : ∀ t, t < s.things.length → 0 ≤ 1000 * x.added.getD t 0 ∧ 1000 * x.added.getD t 0 ≤ 10000000000 := fun t ht => by
    have h1 := outOne_false.1 (truthIn_true.1 (hall t ht)).1
    have h2 := hb.add t
    omega
  have hL : ∀ t, t < s.things.length → ∀ i, i < s.lots.length → 0 ≤ (l.getD k default).grams.getD i 0 * (x.lots.getD i []).getD t 0 ∧ (l.getD k default).grams.getD i 0 * (x.lots.getD i []).getD t 0 ≤ 100000000000 := fun t ht i hi => by
    have h1 := outOne_false.1 ((truthIn_true.1 (hall t ht)).2.1 i hi)
    have h2 := hs.sh.part i hi t
    have := mul_bound (hb.gram i) (show 0 ≤ (x.lots.getD i []).getD t 0 ∧ (x.lots.getD i []).getD t 0 ≤ 1000000 by omega)
    omega
  have hB : ∀ t, t < s.things.length → ∀ i, i < (l.getD k default).back.length → 0 ≤ (l.getD k default).back.getD i 0 * (x.back.getD i []).getD t 0 ∧ (l.getD k default).back.getD i 0 * (x.back.getD i []).getD t 0 ≤ 100000000000 := fun t ht i hi => by
    have h1 := outOne_false.1 ((truthIn_true.1 (hall t ht)).2.2 i hi)
    have h3 := hb.blen
    have h2 := par_ok hs.sh hs.l6 (fun j hj => hs.pre j (by omega)) (Nat.le_of_lt hk) (show i < k by omega) t
    have := mul_bound (hb.back i) (show 0 ≤ (x.back.getD i []).getD t 0 ∧ (x.back.getD i []).getD t 0 ≤ 1000000 by omega)
    omega
  have h6 := hs.sh.nl6
  have hk6 := hs.l6
  have hbl := hb.blen
  have ML : ∀ i, i ≤ s.lots.length → ∀ t, t < s.things.length → (mL s (l.getD k default) x i).getD t 0 = 1000 * x.added.getD t 0 + dot (fun j => (l.getD k default).grams.getD j 0 * (x.lots.getD j []).getD t 0) i := by
    intro i
    induction i with
    | zero =>
      intro _ t ht
      unfold mL
      have hz : ∀ q, q < s.things.length → (List.replicate s.things.length (0 : Int)).getD q 0 = 0 := fun q hq => by simp [List.getD_eq_getElem?_getD, hq]
      rw [addTo_get (fun q hq => ⟨(hA q hq).1, by have := (hA q hq).2; omega, by rw [hz q hq]; omega, by rw [hz q hq]; omega⟩) (by simp) t (by simpa using ht), if_pos ht, hz t ht]
      simp [dot]
    | succ i ih =>
      intro hi t ht
      have ih := ih (by omega)
      unfold mL
      rw [addTo_get (fun q hq => ?_) (by rw [mL_length]; exact Nat.le_refl _) t (by rw [mL_length]; exact ht), if_pos ht, ih t ht]
      · simp only [dot]; omega
      · have h1 := hL q hq i (by omega)
        have h2 := dot_bound (fun j => (l.getD k default).grams.getD j 0 * (x.lots.getD j []).getD q 0) 100000000000 i (fun j hj => hL q hq j (by omega))
        have h3 := hA q hq
        rw [ih q hq]
        omega
  have MB : ∀ i, i ≤ (l.getD k default).back.length → ∀ t, t < s.things.length → (mB s (l.getD k default) x i).getD t 0 = 1000 * x.added.getD t 0 + dot (fun j => (l.getD k default).grams.getD j 0 * (x.lots.getD j []).getD t 0) s.lots.length + dot (fun j => (l.getD k default).back.getD j 0 * (x.back.getD j []).getD t 0) i := by
    intro i
    induction i with
    | zero =>
      intro _ t ht
      unfold mB
      rw [ML _ (Nat.le_refl _) t ht]
      simp [dot]
    | succ i ih =>
      intro hi t ht
      have ih := ih (by omega)
      unfold mB
      rw [addTo_get (fun q hq => ?_) (by rw [mB_length]; exact Nat.le_refl _) t (by rw [mB_length]; exact ht), if_pos ht, ih t ht]
      · simp only [dot]; omega
      · have h1 := hB q hq i (by omega)
        have h2 := dot_bound (fun j => (l.getD k default).grams.getD j 0 * (x.lots.getD j []).getD q 0) 100000000000 s.lots.length (fun j hj => hL q hq j hj)
        have h4 := dot_bound (fun j => (l.getD k default).back.getD j 0 * (x.back.getD j []).getD q 0) 100000000000 i (fun j hj => hB q hq j (by omega))
        have h3 := hA q hq
        rw [ih q hq]
        omega
  apply List.ext_getElem
  · rw [mB_length, List.length_map, List.length_range]
  · intro t h1 h2
    have ht : t < s.things.length := by rw [mB_length] at h1; exact h1
    have := MB _ (Nat.le_refl _) t ht
    rw [List.getD_eq_getElem?_getD, List.getElem?_eq_getElem h1] at this
    simp only [List.getElem_map, List.getElem_range]
    exact this
end Go.Proofs.Ytaigbhhmmdfdcaa
