/- scent.Keeps. -/
import Derived.Test.YtaigbhhmmdfdcaaW16
import Derived.Test.YtaigbhhmmdfdcaaP4
import Derived.WalkMore
namespace Go.Proofs.Ytaigbhhmmdfdcaa
open Go.RowKit
theorem stood51 : Try.prog.stoodInHeld 51 = false := by kernel_rfl
theorem fields51 : Try.prog.underlying 51 = some (.struct (Try.prog.fieldsOf 51)) := by kernel_rfl
set_option maxRecDepth 100000 in
theorem run_equalIn_span (d : Nat) (a b c e : Int) (w : World) : (Op.equalIn (d + 2) 51 (.agg #[.int .i64 a, .int .i64 b]) (.agg #[.int .i64 c, .int .i64 e])).run Try.prog w = .ok (a == c && b == e) w := by
  rw [run_equalIn_agg w (d + 1) 51 _ _ fields51 stood51]
  go_simp
  by_cases h1 : a = c <;> by_cases h2 : b = e <;> simp [h1, h2]
theorem sizeOf51 (w : World) : (Go.sizeOf 51).run Try.prog w = .ok 2 w := by
  cases hq : Try.prog.info? 51 with
  | none => have := info51; simp [hq] at this
  | some i => have := info51; simp [hq] at this; simp [Go.sizeOf, typeInfo, hq, this]
theorem part_sp (m : Nat → Int × Int) (t : Nat) (ht : t < 5) (w : World) : (part 51 (spC m).toArray (t * 2)).run Try.prog w = .ok (.agg #[.int .i64 (m t).1, .int .i64 (m t).2]) w := by
  have hagg : (isAgg 51).run Try.prog w = .ok true w := by
    unfold isAgg; rw [Sem.run_bind, run_underlying Try.underlying51 w]; simp
  unfold part
  simp only [Sem.run_bind, hagg, Result.andThen_ok, if_true, sizeOf51]
  rcases lt5 ht with rfl | rfl | rfl | rfl | rfl <;> simp [spC]
theorem run_eqloop_sp (d : Nat) (l m : Nat → Int × Int) (w : World) :
    ∀ (c s : Nat), s + c = 5 →
    (forIn (List.range' s c) ((none : Option Bool), ()) fun i __s => do
                let __do_lift ← part 51 (spC l).toArray (i * 2)
                let __do_lift_1 ← part 51 (spC m).toArray (i * 2)
                let __do_lift ← Op.equalIn (d + 2) 51 __do_lift __do_lift_1
                if (!__do_lift) = true then pure (ForInStep.done (some false, ()))
                  else pure (ForInStep.yield (none, ()))).run Try.prog w = .ok (if (List.range' s c).all (fun i => l i == m i) then (none, ()) else (some false, ())) w
  | 0, s, h => by simp
  | c + 1, s, h => by
    have ih := run_eqloop_sp d l m w c (s + 1) (by omega)
    rw [List.range'_succ, List.forIn_cons]
    simp only [Sem.run_bind, part_sp l s (by omega) w, part_sp m s (by omega) w, Result.andThen_ok, run_equalIn_span]
    have e : ((l s).1 == (m s).1 && (l s).2 == (m s).2) = (l s == m s) := rfl
    rw [e, List.all_cons]
    cases hh : (l s == m s)
    · simp
    · simp only [Bool.not_true, Bool.false_eq_true, if_false, Sem.run_pure, Result.andThen_ok, Bool.true_and]
      exact ih
theorem run_equalIn_sp (l m : Nat → Int × Int) (w : World) :
    (Op.equalIn 10000 109 (.agg (spC l).toArray) (.agg (spC m).toArray)).run Try.prog w = .ok ((List.range' 0 5).all (fun i => l i == m i)) w := by
  have key := run_eqloop_sp 9997 l m w 5 0 rfl
  rw [show (10000 : Nat) = 9999 + 1 from rfl, Op.equalIn]
  simp only [Sem.run_bind, run_underlying Try.underlying109, Result.andThen_ok, sizeOf51]
  rw [Std.Legacy.Range.forIn_eq_forIn_range']
  simp only [Std.Legacy.Range.size, Nat.sub_zero, Nat.add_one_sub_one, Nat.div_one]
  rw [key]
  cases (List.range' 0 5).all (fun i => l i == m i) <;> simp
theorem firstOf_next {f : Nat → Bool} {t : Nat} (h0 : firstOf f t = none) (h1 : f t = false) : firstOf f (t + 1) = none := by
  simp [firstOf, h0, h1]
/-- Three ints are handed back. -/
def Ret3 (t : Int × Int × Int) (w : World) : Ending → World → Prop := fun e w' => e = .returned (.tuple #[.int .i64 t.1, .int .i64 t.2.1, .int .i64 t.2.2]) ∧ Below w.heap.size w w'
set_option maxRecDepth 100000 in
set_option maxHeartbeats 8000000 in
theorem keeps_any (s : Shop) (l : List Bat) (vt vl v : Value) (w : World) (hv : ShopAt w.heap.size w vt vl s) (hl' : BatsIn w.heap.size w v l) :
    Calls Try.prog 25 #[.agg #[vt, vl], v] w (Ret3 (keepsV s l) w) := by
  unfold Ret3
  have HV := Lib.hid hv
  have HL := Lib.hid hl'
  obtain ⟨ta, tc, rfl, -, htl⟩ := sl_shape hv.1
  obtain ⟨la, lc, rfl, -, hll⟩ := sl_shape hv.2
  obtain ⟨va, vc, rfl, -, hvl⟩ := sl_shape hl'
  clear hv hl'
  have hb0 := (Below.refl w.heap.size w).alloc (Nat.le_refl _) (.cells #[.slice ta s.things.length tc, .slice la s.lots.length lc] 25)
  have HB0 := Lib.hid hb0
  have HMELT := Lib.hid (melt_any s l _ _ _ _ (HV.out.next hb0) (HL.out.next hb0))
  clear hb0
  unfold MeltPost at HMELT
  have HCV : Hid (keepsV s l = if batchesE s l ≠ 0 then (0, 0, batchesE s l) else ((keepsTo s l l.length).1, (keepsTo s l l.length).2, 0)) := rfl
  have HOKB := Lib.hid (all_ok (s := s) (l := l))
  obtain ⟨E, hE⟩ : ∃ x, batchesE s l = x := ⟨_, rfl⟩
  rw [hE] at HMELT HCV
  try rw [hE]
  simp only [hE] at HOKB
  clear hE
  go_enter Try.func25, Try.ntmps25
  go_wp2_with fail
  go_step3
  go_wp2_with fail
  refine HMELT.out.mono ?_
  rintro e w1 ⟨hbad, hgood⟩
  by_cases hz : E = 0
  case neg =>
    have hz2 : (E != 0) = true := by simpa using hz
    have HZ := Lib.hid hz
    obtain ⟨rfl, hb1⟩ := hbad hz
    clear hz hbad hgood
    have HB1 := Lib.hid (HB0.out.trans (hb1.mono (by simp)))
    clear hb1
    go_wp2_with fail
    try rw [Exit.noGoto_ret]
    go_ret3
    rw [HCV.out, if_pos HZ.out]
    exact ⟨rfl, HB1.out⟩
  subst hz
  obtain ⟨g, bo, vr, rfl, hA⟩ := hgood rfl
  have HA := Lib.hid hA
  have HOK := Lib.hid (HOKB.out rfl)
  clear hbad hgood hA HOKB HMELT
  obtain ⟨ra, rc, hvr⟩ := HA.out.shape
  subst hvr
  have hn6 := HOK.out.l6
  have hnt5 := HOK.out.sh.nt5
  have HB1 := Lib.hid (HB0.out.trans (HA.out.bel.mono (by simp)))
  have HGS : Hid (w1.cell? ⟨w.heap.size, 0, none⟩ = some (.slice ta s.things.length tc) ∧ w1.cell? ⟨w.heap.size, 1, none⟩ = some (.slice la s.lots.length lc)) :=
    ⟨(Below.cell (p := ⟨w.heap.size, 0, none⟩) HA.out.bel (by simp)).trans (cell_of_row _ _ 0 _ _ _ (heap_alloc_new w (.cells #[.slice ta s.things.length tc, .slice la s.lots.length lc] 25))), (Below.cell (p := ⟨w.heap.size, 1, none⟩) HA.out.bel (by simp)).trans (cell_of_row _ _ 1 _ _ _ (heap_alloc_new w (.cells #[.slice ta s.things.length tc, .slice la s.lots.length lc] 25)))⟩
  have hgsl : w.heap.size < w1.heap.size := by have := HA.out.le; simp at this; omega
  obtain ⟨W1, HWW⟩ : ∃ x, Hid (w1.heap.size = x) := ⟨_, rfl⟩
  have HB2 := Lib.hid (Below.refl w1.heap.size w1)
  rw [if_neg (fun h => h rfl)] at HCV
  go_wp2_with fail
  go_step3
  go_wp2_with fail
  rw [HWW.out] at HB2 hgsl
  go_loopw [4, 5, 23] (fun t4 t5 iv wr => ∃ (k : Nat), t4 = .int .i64 (-1) ∧ t5 = .int .i64 (-1) ∧ iv = .int .i64 k ∧ k ≤ l.length ∧ Below W1 w1 wr ∧ W1 ≤ wr.heap.size ∧ keepsTo s l k = (-1, -1)) (fun _ _ iv _ => l.length - (intOf iv).toNat)
  case atStart => exact ⟨0, rfl, rfl, rfl, by omega, HB2.out, by rw [HWW.out]; exact Nat.le_refl _, rfl⟩
  case round =>
    obtain ⟨k, rfl, rfl, rfl, hk, hBk, hW1, hT⟩ := hrel
    have HBk := Lib.hid hBk
    have HT := Lib.hid hT
    have HW1 := Lib.hid hW1
    clear hBk hT hW1
    by_cases hkl : k < l.length
    · obtain ⟨pb, pc, he, hpc, hpb, hcell⟩ := HA.out.ptr hkl
      cases he
      rw [HWW.out] at hpb
      have hgk : g k < W1 := by rw [← HWW.out]; exact block_lt (HA.out.obj k hkl)
      have hcell := (HBk.out.cell (p := ⟨pb, k, none⟩) hpb).trans hcell
      have hki : (k : Int) < (l.length : Int) := by omega
      have hpos := HOK.out.pre.pos HOK.out.sh hn6 (Nat.le_refl _) hkl
      have HOBJ : Hid (wr.heap[g k]? = some (.cells (bo k).c 111)) := by
        rw [← HA.out.obj k hkl]
        exact HBk.out.block _ hgk
      have HCEL := Lib.hid (BO.mid _ HOBJ.out)
      rw [(HA.out.ok k hkl).2.2.1] at HCEL
      go_wp2_with (refine wpList_load_mid rfl 109 _ rfl (g k) 5 rfl (spC (micV s l k)) _ HCEL.out Try.underlying109 rfl info109 ?_)
      have hni := HOK.out.sh.limit
      have hmi := mic_ok HOK.out.sh hn6 (fun j hj => HOK.out.pre j (by omega)) hkl
      have HNI := Lib.hid hni
      have HMI := Lib.hid hmi
      clear hni hmi HCEL
      obtain ⟨r, hr⟩ : ∃ r, (List.range' 0 5).all (fun i => micV s l k i == (fun _ => (0, 0)) i) = r := ⟨_, rfl⟩
      have HR := Lib.hid hr
      have heq := fun w => run_equalIn_sp (micV s l k) (fun _ => (0, 0)) w
      rw [hr] at heq
      have hz0 : (spC (fun _ => (0, 0))).toArray = #[.int .i64 0, .int .i64 0, .int .i64 0, .int .i64 0, .int .i64 0, .int .i64 0, .int .i64 0, .int .i64 0, .int .i64 0, .int .i64 0] := rfl
      rw [hz0] at heq
      clear hr hz0
      cases r
      case true =>
        have HNX : Hid (keepsTo s l (k + 1) = (-1, -1)) := by
          refine keepsTo_next HT.out (keepsT_zero HOK.out.sh (by omega) (fun t ht => ?_))
          have := List.all_eq_true.1 HR.out t (by simp; omega)
          have h2 : micV s l k t = (0, 0) := by simpa using this
          rw [h2]
        go_wp2_with fail
        refine ⟨⟨k + 1, rfl, rfl, by push_cast; rfl, by omega, HBk.out, HW1.out, HNX.out⟩, ?_⟩
        simp [intOf]
        omega
      case false =>
        have hgs0 := (HBk.out.cell (p := ⟨w.heap.size, 0, none⟩) hgsl).trans HGS.out.1
        have hgs2 : w.heap.size < wr.heap.size := Nat.lt_of_lt_of_le hgsl HW1.out
        go_wp2_with fail
        clear heq
        have HBk0 := Lib.hid HBk.out
        have HW10 := Lib.hid HW1.out
        go_loopw [4, 5, 37] (fun t4 t5 jv wr => ∃ (t : Nat), t4 = .int .i64 (-1) ∧ t5 = .int .i64 (-1) ∧ jv = .int .i64 t ∧ t ≤ s.things.length ∧ Below W1 w1 wr ∧ W1 ≤ wr.heap.size ∧ firstOf (aboveB s (l.getD k default) ((rangesV s l).getD k [])) t = none) (fun _ _ jv _ => s.things.length - (intOf jv).toNat)
        case atStart => exact ⟨0, rfl, rfl, rfl, by omega, HBk0.out, HW10.out, rfl⟩
        case round =>
          obtain ⟨t, rfl, rfl, rfl, ht, hBt, hWt, hFt⟩ := hrel
          have HBt := Lib.hid hBt
          have HWt := Lib.hid hWt
          have HFt := Lib.hid hFt
          clear hBt hWt hFt hcell hgs0 hgs2
          by_cases htn : t < s.things.length
          · obtain ⟨tb, tof, hta, htb, x1, x2, x3, x4, x5, -⟩ := HV.out.1.at' htn
            subst hta
            have hlim := HNI.out t htn
            have hmi := HMI.out t
            have hb2 := HB1.out
            have htb2 : tb < W1 := by rw [← HWW.out]; exact Nat.lt_of_lt_of_le htb HB1.out.size
            have x1 := (HBt.out.cell (p := ⟨tb, _, none⟩) htb2).trans ((HB1.out.cell (p := ⟨tb, _, none⟩) htb).trans x1)
            have x2 := (HBt.out.cell (p := ⟨tb, _, none⟩) htb2).trans ((HB1.out.cell (p := ⟨tb, _, none⟩) htb).trans x2)
            have x3 := (HBt.out.cell (p := ⟨tb, _, none⟩) htb2).trans ((HB1.out.cell (p := ⟨tb, _, none⟩) htb).trans x3)
            have x4 := (HBt.out.cell (p := ⟨tb, _, none⟩) htb2).trans ((HB1.out.cell (p := ⟨tb, _, none⟩) htb).trans x4)
            have x5 := (HBt.out.cell (p := ⟨tb, _, none⟩) htb2).trans ((HB1.out.cell (p := ⟨tb, _, none⟩) htb).trans x5)
            simp only [rdThing] at x1 x2 x3 x4 x5
            clear hb2
            have HAB : Hid (aboveB s (l.getD k default) ((rangesV s l).getD k []) t = decide ((s.things.getD t default).limit * weightV (l.getD k default) < (micV s l k t).2)) := rfl
            have q0 := HA.out.hi hkl (show t < 5 by omega)
            have q1 := HA.out.wt hkl
            have hmul := mul_bound (show 0 ≤ (s.things.getD t default).limit ∧ (s.things.getD t default).limit ≤ 1000000 from hlim) (show 0 ≤ weightV (l.getD k default) ∧ weightV (l.getD k default) ≤ 1200000 by omega)
            generalize s.things.getD t default = x at *
            generalize weightV (l.getD k default) = wt at *
            generalize (micV s l k t).2 = hi at *
            obtain ⟨nm, kd, lm, wk, fd⟩ := x
            simp only at x1 x2 x3 x4 x5 hmul hlim HAB
            have htn2 : (t : Int) < (s.things.length : Int) := by omega
            have ht5 : (t : Int) < 5 := by omega
            go_wp2_with fail
            obtain ⟨wv, hwv⟩ : ∃ x, wr.alloc (.cells #[.string nm, .int .i64 kd, .int .i64 lm, .int .i64 wk, .int .i64 fd] 62) = x := ⟨_, rfl⟩
            rw [hwv]
            have hBv : Below W1 w1 wv := by rw [← hwv]; exact HBt.out.alloc HWt.out _
            have hnew : wv.heap[wr.heap.size]? = some (.cells #[.string nm, .int .i64 kd, .int .i64 lm, .int .i64 wk, .int .i64 fd] 62) := by rw [← hwv]; exact heap_alloc_new _ _
            have hsv : W1 ≤ wv.heap.size := by rw [← hwv]; simp; have := HWt.out; omega
            have e2 : wv.cell? ⟨wr.heap.size, 2, none⟩ = some (.int .i64 lm) := cell_of_row _ _ _ _ _ _ hnew
            have q0 := (hBv.cell (p := ⟨g k, _, none⟩) hgk).trans q0
            have q1 := (hBv.cell (p := ⟨g k, _, none⟩) hgk).trans q1
            have HBv := Lib.hid hBv
            have HSv := Lib.hid hsv
            clear hBv hsv hnew hwv x1 x2 x3 x4 x5
            generalize wr.heap.size = gx at *
            have hm1 : -9223372036854775808 ≤ lm * wt := by omega
            have hm2 : lm * wt ≤ 9223372036854775807 := by omega
            by_cases hab : lm * wt < hi
            · have hd : decide (lm * wt < hi) = true := decide_eq_true hab
              have HK : Hid (keepsTo s l l.length = ((k : Int), (t : Int))) := keepsTo_found HT.out (firstOf_some HFt.out (by rw [HAB.out]; exact hd) htn) hkl
              clear hab
              go_quiet (fail)
              revert nq
              intro nq1
              simp only [Exit.then]
              go_wp2_with fail
              try rw [Exit.noGoto_ret]
              go_ret3
              rw [HCV.out, HK.out]
              exact ⟨rfl, HB1.out.trans (Below.mono (HBv.out.trans (below_drewN (Below.refl _ _) nq1)) (by rw [← HWW.out]; exact HB1.out.size))⟩
            · have hd : decide (lm * wt < hi) = false := decide_eq_false hab
              have HNF : Hid (firstOf (aboveB s (l.getD k default) ((rangesV s l).getD k [])) (t + 1) = none) := by
                exact firstOf_next HFt.out (by rw [HAB.out]; exact hd)
              clear hab
              go_quiet (fail)
              revert nq
              intro nq1
              simp only [Exit.then]
              go_wp2_with fail
              refine ⟨⟨t + 1, rfl, rfl, by push_cast; rfl, by omega, HBv.out.trans (below_drewN (Below.refl _ _) nq1), HSv.out, HNF.out⟩, ?_⟩
              simp [intOf]
              omega
          · obtain rfl : t = s.things.length := by omega
            have HNX : Hid (keepsTo s l (k + 1) = (-1, -1)) := keepsTo_next HT.out HFt.out
            go_wp2_with fail
            refine ⟨⟨k + 1, rfl, rfl, by push_cast; rfl, by omega, HBt.out, HWt.out, HNX.out⟩, ?_⟩
            simp [intOf]
            omega
    · obtain rfl : k = l.length := by omega
      go_wp2_with fail
      try rw [Exit.noGoto_ret]
      go_ret3
      rw [HCV.out, HT.out]
      exact ⟨rfl, HB1.out.trans (HBk.out.mono (by rw [← HWW.out]; exact HB1.out.size))⟩
end Go.Proofs.Ytaigbhhmmdfdcaa
