/- The examples of layer 4: Awake. -/
import Derived.Deep.Cut
import Derived.Deep.CutBlock
import Derived.Test.YtpkggjobdmchlaaGreatDoorE33
import Derived.Test.YtpkggjobdmchlaaGreatDoorE25
namespace Go.Proofs.YtpkggjobdmchlaaGreatDoor
open Go.RowKit
structure AwD (w0 : World) (d40 d45 d50 d66 d67 d75 d76 : Bool) (y114 y119 y124 y140 y141 y149 y150 : Value) (w : World) : Prop where
  bel : Below w0.heap.size w0 w
  p40 : d40 = true → RngsIn w.heap.size w y114 [⟨(2660, 2860), (2740, 2940), (80, 80)⟩, ⟨(3400, 3800), (3400, 3800), (0, 0)⟩]
  p45 : d45 = true → IntsIn .i64 w.heap.size w y119 [630]
  p50 : d50 = true → IntsIn .i64 w.heap.size w y124 [0, 0]
  p66 : d66 = true → ∃ g, y140 = .slice (some ⟨g, 0, none⟩) 4 4 ∧ w.heap[g]? = some (.cells exDC 54)
  p67 : d67 = true → ∃ g, y141 = .pointer (some ⟨g, 0, none⟩) ∧ w.heap[g]? = some (.cells exDC 54)
  p75 : d75 = true → ∃ g, y149 = .slice (some ⟨g, 0, none⟩) 4 4 ∧ w.heap[g]? = some (.cells exDC 54)
  p76 : d76 = true → ∃ g, y150 = .pointer (some ⟨g, 12, none⟩) ∧ w.heap[g]? = some (.cells exDC 54)
theorem AwD.next {w0 w w' : World} {d40 d45 d50 d66 d67 d75 d76 : Bool} {y114 y119 y124 y140 y141 y149 y150 : Value} (h : AwD w0 d40 d45 d50 d66 d67 d75 d76 y114 y119 y124 y140 y141 y149 y150 w) (hb : Below w.heap.size w w') : AwD w0 d40 d45 d50 d66 d67 d75 d76 y114 y119 y124 y140 y141 y149 y150 w' :=
  ⟨h.bel.trans (hb.mono h.bel.size), fun e => ((h.p40 e).below hb).mono hb.size, fun e => ((h.p45 e).below hb).mono hb.size, fun e => ((h.p50 e).below hb).mono hb.size,
    fun e => by obtain ⟨v, e1, e2⟩ := h.p66 e; exact ⟨v, e1, block_keep e2 hb⟩, fun e => by obtain ⟨v, e1, e2⟩ := h.p67 e; exact ⟨v, e1, block_keep e2 hb⟩,
    fun e => by obtain ⟨v, e1, e2⟩ := h.p75 e; exact ⟨v, e1, block_keep e2 hb⟩, fun e => by obtain ⟨v, e1, e2⟩ := h.p76 e; exact ⟨v, e1, block_keep e2 hb⟩⟩
theorem rngs_row2 {w : World} {g : Nat} (h : w.heap[g]? = some (.cells #[.int .i64 2660, .int .i64 2860, .int .i64 2740, .int .i64 2940, .int .i64 80, .int .i64 80, .int .i64 3400, .int .i64 3800, .int .i64 3400, .int .i64 3800, .int .i64 0, .int .i64 0] 95)) : RngsIn w.heap.size w (.slice (some ⟨g, 0, none⟩) 2 2) [⟨(2660, 2860), (2740, 2940), (80, 80)⟩, ⟨(3400, 3800), (3400, 3800), (0, 0)⟩] := by
  refine ⟨_, 2, rfl, by decide, by decide, .inr ⟨g, 0, rfl, block_lt h, fun i hi => ?_⟩⟩
  rcases (by simp at hi; omega : i = 0 ∨ i = 1) with rfl | rfl <;> exact ⟨cell_of_row _ _ _ _ _ _ h, cell_of_row _ _ _ _ _ _ h, cell_of_row _ _ _ _ _ _ h, cell_of_row _ _ _ _ _ _ h, cell_of_row _ _ _ _ _ _ h, cell_of_row _ _ _ _ _ _ h⟩
structure RW (w0 : World) (d0 d1 d2 d4 d5 d7 : Bool) (y0 y1 y2 y4 y5 y7 : Value) (w : World) : Prop where
  bel : Below w0.heap.size w0 w
  a0 : d0 = true → ∃ v, y0 = .agg (dshopC exS v) ∧ DBathsIn w.heap.size w v exS.baths
  a1 : d1 = true → ∃ g, y1 = .slice (some ⟨g, 0, none⟩) 4 4 ∧ w.heap[g]? = some (.cells exDC 54)
  a2 : d2 = true → ∃ g, y2 = .pointer (some ⟨g, 0, none⟩) ∧ w.heap[g]? = some (.cells exDC 54)
  a4 : d4 = true → ∃ g, y4 = .slice (some ⟨g, 0, none⟩) 4 4 ∧ w.heap[g]? = some (.cells exDC 54)
  a5 : d5 = true → ∃ g, y5 = .pointer (some ⟨g, 12, none⟩) ∧ w.heap[g]? = some (.cells exDC 54)
  a7 : d7 = true → ∃ g, y7 = .slice (some ⟨g, 0, none⟩) 2 2 ∧ w.heap[g]? = some (.cells #[.int .i64 0, .int .i64 3, .int .i64 40, .bool false, .int .i64 0, .int .i64 3, .int .i64 30, .bool true] 54)
theorem RW.next {w0 w w' : World} {d0 d1 d2 d4 d5 d7 : Bool} {y0 y1 y2 y4 y5 y7 : Value} (h : RW w0 d0 d1 d2 d4 d5 d7 y0 y1 y2 y4 y5 y7 w) (hb : Below w.heap.size w w') : RW w0 d0 d1 d2 d4 d5 d7 y0 y1 y2 y4 y5 y7 w' :=
  ⟨h.bel.trans (hb.mono h.bel.size), fun e => by obtain ⟨v, e1, e2⟩ := h.a0 e; exact ⟨v, e1, (e2.below hb).mono hb.size⟩,
    fun e => by obtain ⟨v, e1, e2⟩ := h.a1 e; exact ⟨v, e1, block_keep e2 hb⟩, fun e => by obtain ⟨v, e1, e2⟩ := h.a2 e; exact ⟨v, e1, block_keep e2 hb⟩,
    fun e => by obtain ⟨v, e1, e2⟩ := h.a4 e; exact ⟨v, e1, block_keep e2 hb⟩, fun e => by obtain ⟨v, e1, e2⟩ := h.a5 e; exact ⟨v, e1, block_keep e2 hb⟩,
    fun e => by obtain ⟨v, e1, e2⟩ := h.a7 e; exact ⟨v, e1, block_keep e2 hb⟩⟩
theorem dips_row2 {w : World} {g : Nat} (h : w.heap[g]? = some (.cells #[.int .i64 0, .int .i64 3, .int .i64 40, .bool false, .int .i64 0, .int .i64 3, .int .i64 30, .bool true] 54)) : DipsIn w.heap.size w (.slice (some ⟨g, 0, none⟩) 2 2) exP := by
  refine ⟨_, 2, rfl, by decide, by decide, .inr ⟨g, 0, rfl, block_lt h, fun i hi => ?_⟩⟩
  rcases (by simp [exP] at hi; omega : i = 0 ∨ i = 1) with rfl | rfl <;> exact ⟨cell_of_row _ _ _ _ _ _ h, cell_of_row _ _ _ _ _ _ h, cell_of_row _ _ _ _ _ _ h, cell_of_row _ _ _ _ _ _ h⟩
theorem dips_row1 {w : World} {g : Nat} (h : w.heap[g]? = some (.cells #[.int .i64 1, .int .i64 7, .int .i64 40, .bool false] 54)) : DipsIn w.heap.size w (.slice (some ⟨g, 0, none⟩) 1 1) exD4 := by
  refine ⟨_, 1, rfl, by decide, by decide, .inr ⟨g, 0, rfl, block_lt h, fun i hi => ?_⟩⟩
  obtain rfl : i = 0 := by simp [exD4] at hi; omega
  exact ⟨cell_of_row _ _ _ _ _ _ h, cell_of_row _ _ _ _ _ _ h, cell_of_row _ _ _ _ _ _ h, cell_of_row _ _ _ _ _ _ h⟩
theorem ints_row {w : World} {g : Nat} (l : List Int) (hl : l.length ≤ 1000) (h : w.heap[g]? = some (.cells (ints l) 3)) : IntsIn .i64 w.heap.size w (.slice (some ⟨g, 0, none⟩) l.length l.length) l :=
  ⟨_, _, rfl, by omega, .inr ⟨g, 0, rfl, block_lt h, fun i hi => by rw [cell_of_row w g _ _ _ _ h, Nat.zero_add, ints_get _ _ hi]⟩⟩
set_option maxRecDepth 100000 in
set_option maxHeartbeats 16000000 in
theorem awake4_any (w : World) (hm : ∃ m, w.cell? ⟨0, 0, none⟩ = some (.int .i64 m)) : Calls Tryz.prog 8 #[] w fun e w' => e = .returned (.bool true) ∧ Below w.heap.size w w' := by
  obtain ⟨m, hm⟩ := hm
  have HM := Lib.hid hm
  have HM0 : Hid (0 < w.heap.size) := lt_of_cell0 hm
  clear hm
  have HB : Hid (Below w.heap.size w w) := Below.refl _ _
  go_enter Tryz.func8, Tryz.ntmps8
  go_wp2_with fail
  refine (shop31 _).mono ?_
  rintro e wa1 ⟨v1, rfl, hv, hb⟩
  have HV1_ := Lib.hid hv
  replace HB := Lib.hid (HB.out.trans (hb.mono HB.out.size))
  clear hb
  have HV1 := HV1_
  clear HV1_ hv
  go_wp2_with fail
  refine (taper32 _).mono ?_
  rintro e wb1 ⟨rfl, hb⟩
  replace HB := Lib.hid (HB.out.trans (hb.mono HB.out.size))
  replace HV1 := Lib.hid ((HV1.out.below hb).mono hb.size)
  clear hb
  go_wp2_with fail
  refine (dips33 _).mono ?_
  rintro e wc1' ⟨rfl, rfl⟩
  have hb : Below wb1.heap.size wb1 (wb1.alloc (.cells exDC 54)) := (Below.refl _ _).alloc (Nat.le_refl _) _
  replace HB := Lib.hid (HB.out.trans (hb.mono HB.out.size))
  replace HV1 := Lib.hid ((HV1.out.below hb).mono hb.size)
  clear hb
  have HD1 := Lib.hid (heap_alloc_new wb1 (.cells exDC 54))
  have hls := dips_at HD1.out (block_lt HD1.out) 1 1 [exD1] rfl (by decide) 3 (by decide) 4 rfl
  have HL1 := Lib.hid hls
  clear hls HD1
  generalize hwd : wb1.alloc (.cells exDC 54) = wd1 at *
  clear hwd
  go_wp2_with fail
  have hb : Below wd1.heap.size wd1 (wd1.alloc (.cells (ints [620]) 3)) := (Below.refl _ _).alloc (Nat.le_refl _) _
  replace HB := Lib.hid (HB.out.trans (hb.mono HB.out.size))
  replace HV1 := Lib.hid ((HV1.out.below hb).mono hb.size)
  replace HL1 := Lib.hid ((HL1.out.below hb).mono hb.size)
  clear hb
  have HI1 := Lib.hid (heap_alloc_new wd1 (.cells (ints [620]) 3))
  refine (follow_ex v1 _ _ _ HV1.out HL1.out (ints_row [620] (by decide) HI1.out)).mono ?_
  rintro e we1 ⟨rfl, hb⟩
  clear HV1 HL1 HI1
  replace HB := Lib.hid (HB.out.trans (hb.mono HB.out.size))
  clear hb
  have hb : Below we1.heap.size we1 (we1.alloc (.cells #[.int .i64 2000, .int .i64 2760, .int .i64 2680] 34)) := (Below.refl _ _).alloc (Nat.le_refl _) _
  replace HB := Lib.hid (HB.out.trans (hb.mono HB.out.size))
  clear hb
  have HA := Lib.hid (heap_alloc_new we1 (.cells #[.int .i64 2000, .int .i64 2760, .int .i64 2680] 34))
  go_upto_region 2 with fail
  generalize hwd : we1.alloc (.cells #[.int .i64 2000, .int .i64 2760, .int .i64 2680] 34) = wf1 at *
  clear hwd
  go_wp2_with fail
  refine (shop31 _).mono ?_
  rintro e wa2 ⟨v2, rfl, hv, hb⟩
  have HV2_ := Lib.hid hv
  replace HB := Lib.hid (HB.out.trans (hb.mono HB.out.size))
  replace HA := Lib.hid (block_keep HA.out hb)
  clear hb
  have HV2 := HV2_
  clear HV2_ hv
  go_wp2_with fail
  refine (taper32 _).mono ?_
  rintro e wb2 ⟨rfl, hb⟩
  replace HB := Lib.hid (HB.out.trans (hb.mono HB.out.size))
  replace HA := Lib.hid (block_keep HA.out hb)
  replace HV2 := Lib.hid ((HV2.out.below hb).mono hb.size)
  clear hb
  go_wp2_with fail
  refine (dips33 _).mono ?_
  rintro e wc2' ⟨rfl, rfl⟩
  have hb : Below wb2.heap.size wb2 (wb2.alloc (.cells exDC 54)) := (Below.refl _ _).alloc (Nat.le_refl _) _
  replace HB := Lib.hid (HB.out.trans (hb.mono HB.out.size))
  replace HA := Lib.hid (block_keep HA.out hb)
  replace HV2 := Lib.hid ((HV2.out.below hb).mono hb.size)
  clear hb
  have HD2 := Lib.hid (heap_alloc_new wb2 (.cells exDC 54))
  have hls := dips_at HD2.out (block_lt HD2.out) 2 2 exD2 rfl (by decide) 2 (by decide) 8 rfl
  have HL2 := Lib.hid hls
  clear hls HD2
  generalize hwd : wb2.alloc (.cells exDC 54) = wd2 at *
  clear hwd
  go_wp2_with fail
  refine (after_ex v2 _ _ HV2.out HL2.out).mono ?_
  rintro e we2 ⟨u2, rfl, hu, hb⟩
  clear HV2 HL2
  have HU2 := Lib.hid hu
  replace HB := Lib.hid (HB.out.trans (hb.mono HB.out.size))
  replace HA := Lib.hid (block_keep HA.out hb)
  clear hb
  clear hu
  go_upto_region 3 with fail
  go_wp2_with fail
  refine (shop31 _).mono ?_
  rintro e wa3 ⟨v3, rfl, hv, hb⟩
  have HV3_ := Lib.hid hv
  replace HB := Lib.hid (HB.out.trans (hb.mono HB.out.size))
  replace HA := Lib.hid (block_keep HA.out hb)
  replace HU2 := Lib.hid ((HU2.out.below hb).mono hb.size)
  clear hb
  have HV3 := HV3_
  clear HV3_ hv
  go_wp2_with fail
  refine (taper32 _).mono ?_
  rintro e wb3 ⟨rfl, hb⟩
  replace HB := Lib.hid (HB.out.trans (hb.mono HB.out.size))
  replace HA := Lib.hid (block_keep HA.out hb)
  replace HU2 := Lib.hid ((HU2.out.below hb).mono hb.size)
  replace HV3 := Lib.hid ((HV3.out.below hb).mono hb.size)
  clear hb
  go_wp2_with fail
  refine (dips33 _).mono ?_
  rintro e wc3' ⟨rfl, rfl⟩
  have hb : Below wb3.heap.size wb3 (wb3.alloc (.cells exDC 54)) := (Below.refl _ _).alloc (Nat.le_refl _) _
  replace HB := Lib.hid (HB.out.trans (hb.mono HB.out.size))
  replace HA := Lib.hid (block_keep HA.out hb)
  replace HU2 := Lib.hid ((HU2.out.below hb).mono hb.size)
  replace HV3 := Lib.hid ((HV3.out.below hb).mono hb.size)
  clear hb
  have HD3 := Lib.hid (heap_alloc_new wb3 (.cells exDC 54))
  have hls := dips_at HD3.out (block_lt HD3.out) 1 1 [exD1] rfl (by decide) 3 (by decide) 4 rfl
  have HL3 := Lib.hid hls
  clear hls HD3
  generalize hwd : wb3.alloc (.cells exDC 54) = wd3 at *
  clear hwd
  go_wp2_with fail
  refine (worst35 v3 _ _ HV3.out HL3.out).mono ?_
  rintro e we3 ⟨u3, rfl, hu, hb⟩
  clear HV3 HL3
  have HU3 := Lib.hid hu
  replace HB := Lib.hid (HB.out.trans (hb.mono HB.out.size))
  replace HA := Lib.hid (block_keep HA.out hb)
  replace HU2 := Lib.hid ((HU2.out.below hb).mono hb.size)
  clear hb
  clear hu
  go_upto_region 4 with fail
  go_wp2_with fail
  refine (shop31 _).mono ?_
  rintro e wa4 ⟨v4, rfl, hv, hb⟩
  have HV4_ := Lib.hid hv
  replace HB := Lib.hid (HB.out.trans (hb.mono HB.out.size))
  replace HA := Lib.hid (block_keep HA.out hb)
  replace HU2 := Lib.hid ((HU2.out.below hb).mono hb.size)
  replace HU3 := Lib.hid ((HU3.out.below hb).mono hb.size)
  clear hb
  have HV4 := HV4_
  clear HV4_ hv
  go_wp2_with fail
  refine (taper32 _).mono ?_
  rintro e wb4 ⟨rfl, hb⟩
  replace HB := Lib.hid (HB.out.trans (hb.mono HB.out.size))
  replace HA := Lib.hid (block_keep HA.out hb)
  replace HU2 := Lib.hid ((HU2.out.below hb).mono hb.size)
  replace HU3 := Lib.hid ((HU3.out.below hb).mono hb.size)
  replace HV4 := Lib.hid ((HV4.out.below hb).mono hb.size)
  clear hb
  go_wp2_with fail
  refine (dips33 _).mono ?_
  rintro e wc4' ⟨rfl, rfl⟩
  have hb : Below wb4.heap.size wb4 (wb4.alloc (.cells exDC 54)) := (Below.refl _ _).alloc (Nat.le_refl _) _
  replace HB := Lib.hid (HB.out.trans (hb.mono HB.out.size))
  replace HA := Lib.hid (block_keep HA.out hb)
  replace HU2 := Lib.hid ((HU2.out.below hb).mono hb.size)
  replace HU3 := Lib.hid ((HU3.out.below hb).mono hb.size)
  replace HV4 := Lib.hid ((HV4.out.below hb).mono hb.size)
  clear hb
  have HD4 := Lib.hid (heap_alloc_new wb4 (.cells exDC 54))
  have hls := dips_at HD4.out (block_lt HD4.out) 0 4 exD rfl (by decide) 4 (by decide) 0 rfl
  have HL4 := Lib.hid hls
  clear hls HD4
  generalize hwd : wb4.alloc (.cells exDC 54) = wd4 at *
  clear hwd
  go_wp2_with fail
  refine (span36w 3400 3800 _).mono ?_
  rintro e wg4 ⟨rfl, hb⟩
  replace HB := Lib.hid (HB.out.trans (hb.mono HB.out.size))
  replace HA := Lib.hid (block_keep HA.out hb)
  replace HU2 := Lib.hid ((HU2.out.below hb).mono hb.size)
  replace HU3 := Lib.hid ((HU3.out.below hb).mono hb.size)
  replace HV4 := Lib.hid ((HV4.out.below hb).mono hb.size)
  replace HL4 := Lib.hid ((HL4.out.below hb).mono hb.size)
  clear hb
  go_wp2_with fail
  refine (few_ex v4 _ _ HV4.out HL4.out).mono ?_
  rintro e w5 ⟨u4, rfl, hu, hb⟩
  clear HV4 HL4
  have HU4 := Lib.hid hu
  replace HB := Lib.hid (HB.out.trans (hb.mono HB.out.size))
  replace HA := Lib.hid (block_keep HA.out hb)
  replace HU2 := Lib.hid ((HU2.out.below hb).mono hb.size)
  replace HU3 := Lib.hid ((HU3.out.below hb).mono hb.size)
  clear hb
  clear hu
  go_upto_region 5 with fail
  refine wp_region_inv1 (by kernel_rfl) (by kernel_rfl) [49, 50, 51, 53, 54, 56] (fun D y w' => RW w5 (D 0) (D 1) (D 2) (D 4) (D 5) (D 7) (y 49) (y 50) (y 51) (y 53) (y 54) (y 56) w') ⟨(Below.refl _ _).drew, fun h => (by cases h), fun h => (by cases h), fun h => (by cases h), fun h => (by cases h), fun h => (by cases h), fun h => (by cases h)⟩ ?FP5 ?hFP5 ?_
  case hFP5 =>
    intro y
    simp only [fill, List.foldl, Act.put, List.setIfInBounds_toArray, List.set]
    exact rfl
  apply obl_priv 49
  case hd => rfl
  case hp => rfl
  case hrun =>
    intro D y wz hW hD R hR
    have HRR := Lib.hid hR
    clear hR
    have HW := Lib.hid hW
    clear hW hD
    go_wp2_with fail
    refine (shop31 _).mono ?_
    rintro e w' ⟨v, rfl, hv, hb⟩
    have HN := Lib.hid (HW.out.next hb)
    have HVV := Lib.hid hv
    clear hv hb
    go_wp2_with fail
    exact HRR.out _ _ ⟨HN.out.bel, (fun _ => ⟨_, rfl, HVV.out⟩), HN.out.a1, HN.out.a2, HN.out.a4, HN.out.a5, HN.out.a7⟩
  apply obl_priv 50
  case hd => rfl
  case hp => rfl
  case hrun =>
    intro D y wz hW hD R hR
    have HRR := Lib.hid hR
    clear hR
    have HW := Lib.hid hW
    clear hW hD
    go_wp2_with fail
    refine (dips33 _).mono ?_
    rintro e w' ⟨rfl, rfl⟩
    have HN := Lib.hid (HW.out.next ((Below.refl _ wz).alloc (Nat.le_refl _) (.cells exDC 54)))
    go_wp2_with fail
    exact HRR.out _ _ ⟨HN.out.bel, HN.out.a0, (fun _ => ⟨_, rfl, heap_alloc_new _ _⟩), HN.out.a2, HN.out.a4, HN.out.a5, HN.out.a7⟩
  apply obl_priv 51
  case hd => rfl
  case hp => rfl
  case hrun =>
    intro D y wz hW hD R hR
    have HRR := Lib.hid hR
    clear hR
    obtain ⟨g, e, hg⟩ := hW.a1 (hD.pre _ 1 rfl (by kernel_rfl))
    rw [e]
    have HG := Lib.hid hg
    have HE := Lib.hid e
    clear e hg
    have HW := Lib.hid hW
    clear hW hD
    have HN := HW
    go_wp2_with fail
    rw [← HE.out]
    exact HRR.out _ _ ⟨HN.out.bel, HN.out.a0, HN.out.a1, (fun _ => ⟨g, rfl, HG.out⟩), HN.out.a4, HN.out.a5, HN.out.a7⟩
  apply obl_det
  case hrun =>
    intro D y wz hW hD R hR
    have HRR := Lib.hid hR
    clear hR
    obtain ⟨g, e, hg⟩ := hW.a2 (hD.pre _ 2 rfl (by kernel_rfl))
    rw [e]
    have c_0 := cell_of_row _ _ 0 _ _ _ hg
    have c_1 := cell_of_row _ _ 1 _ _ _ hg
    have c_2 := cell_of_row _ _ 2 _ _ _ hg
    have c_3 := cell_of_row _ _ 3 _ _ _ hg
    have HE := Lib.hid e
    clear e hg
    have HW := Lib.hid hW
    clear hW hD
    go_wp2_with fail
    rw [← HE.out]
    exact HRR.out _ HW.out
  case hnp => rfl
  case hv => first | exact ⟨_, fun _ => rfl⟩ | exact ⟨undef, fun _ => rfl⟩
  apply obl_priv 53
  case hd => rfl
  case hp => rfl
  case hrun =>
    intro D y wz hW hD R hR
    have HRR := Lib.hid hR
    clear hR
    have HW := Lib.hid hW
    clear hW hD
    go_wp2_with fail
    refine (dips33 _).mono ?_
    rintro e w' ⟨rfl, rfl⟩
    have HN := Lib.hid (HW.out.next ((Below.refl _ wz).alloc (Nat.le_refl _) (.cells exDC 54)))
    go_wp2_with fail
    exact HRR.out _ _ ⟨HN.out.bel, HN.out.a0, HN.out.a1, HN.out.a2, (fun _ => ⟨_, rfl, heap_alloc_new _ _⟩), HN.out.a5, HN.out.a7⟩
  apply obl_priv 54
  case hd => rfl
  case hp => rfl
  case hrun =>
    intro D y wz hW hD R hR
    have HRR := Lib.hid hR
    clear hR
    obtain ⟨g, e, hg⟩ := hW.a4 (hD.pre _ 4 rfl (by kernel_rfl))
    rw [e]
    have HG := Lib.hid hg
    have HE := Lib.hid e
    clear e hg
    have HW := Lib.hid hW
    clear hW hD
    have HN := HW
    go_wp2_with fail
    rw [← HE.out]
    exact HRR.out _ _ ⟨HN.out.bel, HN.out.a0, HN.out.a1, HN.out.a2, HN.out.a4, (fun _ => ⟨g, rfl, HG.out⟩), HN.out.a7⟩
  apply obl_det
  case hrun =>
    intro D y wz hW hD R hR
    have HRR := Lib.hid hR
    clear hR
    obtain ⟨g, e, hg⟩ := hW.a5 (hD.pre _ 5 rfl (by kernel_rfl))
    rw [e]
    have c_0 := cell_of_row _ _ 12 _ _ _ hg
    have c_1 := cell_of_row _ _ 13 _ _ _ hg
    have c_2 := cell_of_row _ _ 14 _ _ _ hg
    have c_3 := cell_of_row _ _ 15 _ _ _ hg
    have HE := Lib.hid e
    clear e hg
    have HW := Lib.hid hW
    clear hW hD
    go_wp2_with fail
    rw [← HE.out]
    exact HRR.out _ HW.out
  case hnp => rfl
  case hv => first | exact ⟨_, fun _ => rfl⟩ | exact ⟨undef, fun _ => rfl⟩
  apply obl_priv 56
  case hd => rfl
  case hp => rfl
  case hrun =>
    intro D y wz hW hD R hR
    have HRR := Lib.hid hR
    clear hR
    have HW := Lib.hid hW
    clear hW hD
    have HN := Lib.hid (HW.out.next ((Below.refl _ wz).alloc (Nat.le_refl _) (.cells #[.int .i64 0, .int .i64 3, .int .i64 40, .bool false, .int .i64 0, .int .i64 3, .int .i64 30, .bool true] 54)))
    go_wp2_with fail
    exact HRR.out _ _ ⟨HN.out.bel, HN.out.a0, HN.out.a1, HN.out.a2, HN.out.a4, HN.out.a5, (fun _ => ⟨_, rfl, heap_alloc_new _ _⟩)⟩
  apply obl_det
  case hrun =>
    intro D y wz hW hD R hR
    have HRR := Lib.hid hR
    clear hR
    obtain ⟨v, e, hv⟩ := hW.a0 (hD.pre _ 0 rfl (by kernel_rfl))
    rw [e]
    have HE1 := Lib.hid e
    clear e
    obtain ⟨g, e, hg⟩ := hW.a7 (hD.pre _ 7 rfl (by kernel_rfl))
    rw [e]
    have HE2 := Lib.hid e
    clear e
    have HVV := Lib.hid hv
    have HG := Lib.hid hg
    clear hv hg
    have HW := Lib.hid hW
    clear hW hD
    go_wp2_with fail
    refine (write37 v _ _ HVV.out (dips_row2 HG.out)).mono ?_
    rintro e w' ⟨rfl, hb⟩
    have HN := Lib.hid (HW.out.next hb)
    clear hb
    go_wp2_with fail
    rw [← HE1.out, ← HE2.out]
    exact HRR.out _ HN.out
  case hnp => rfl
  case hv => first | exact ⟨_, fun _ => rfl⟩ | exact ⟨undef, fun _ => rfl⟩
  iterate 5
    (apply obl_det
     case hrun =>
       intro D y wz hW hD R hR
       have HRR := Lib.hid hR
       clear hR
       have HW := Lib.hid hW
       clear hW hD
       go_wp2_with fail
       exact HRR.out _ HW.out
     case hnp => rfl
     case hv => first | exact ⟨_, fun _ => rfl⟩ | exact ⟨undef, fun _ => rfl⟩)
  apply obl_nil
  intro D y w8 hall hW
  have hb := hW.bel
  clear hW hall
  replace HB := Lib.hid (HB.out.trans (hb.mono HB.out.size))
  replace HA := Lib.hid (block_keep HA.out hb)
  replace HU2 := Lib.hid ((HU2.out.below hb).mono hb.size)
  replace HU3 := Lib.hid ((HU3.out.below hb).mono hb.size)
  replace HU4 := Lib.hid ((HU4.out.below hb).mono hb.size)
  clear hb
  go_upto_region 6 with fail
  go_wp2_with fail
  refine (shop31 _).mono ?_
  rintro e wa6 ⟨v6, rfl, hv, hb⟩
  have HV6_ := Lib.hid hv
  replace HB := Lib.hid (HB.out.trans (hb.mono HB.out.size))
  replace HA := Lib.hid (block_keep HA.out hb)
  replace HU2 := Lib.hid ((HU2.out.below hb).mono hb.size)
  replace HU3 := Lib.hid ((HU3.out.below hb).mono hb.size)
  replace HU4 := Lib.hid ((HU4.out.below hb).mono hb.size)
  clear hb
  have HV6 := HV6_
  clear HV6_ hv
  go_wp2_with fail
  refine (read38 v6 m _ HV6.out ((HB.out.cell (p := ⟨0, 0, none⟩) HM0.out).trans HM.out)).mono ?_
  rintro e w9 ⟨u6, rfl, hu, hb⟩
  clear HV6
  have HU6 := Lib.hid hu
  replace HB := Lib.hid (HB.out.trans (hb.mono HB.out.size))
  replace HA := Lib.hid (block_keep HA.out hb)
  replace HU2 := Lib.hid ((HU2.out.below hb).mono hb.size)
  replace HU3 := Lib.hid ((HU3.out.below hb).mono hb.size)
  replace HU4 := Lib.hid ((HU4.out.below hb).mono hb.size)
  clear hb
  clear hu
  go_upto_region 7 with fail
  go_wp2_with fail
  refine (shop31 _).mono ?_
  rintro e wa7 ⟨v7, rfl, hv, hb⟩
  have HV7_ := Lib.hid hv
  replace HB := Lib.hid (HB.out.trans (hb.mono HB.out.size))
  replace HA := Lib.hid (block_keep HA.out hb)
  replace HU2 := Lib.hid ((HU2.out.below hb).mono hb.size)
  replace HU3 := Lib.hid ((HU3.out.below hb).mono hb.size)
  replace HU4 := Lib.hid ((HU4.out.below hb).mono hb.size)
  replace HU6 := Lib.hid ((HU6.out.below hb).mono hb.size)
  clear hb
  have HV7 := HV7_
  clear HV7_ hv
  go_wp2_with fail
  refine (taper32 _).mono ?_
  rintro e wb7 ⟨rfl, hb⟩
  replace HB := Lib.hid (HB.out.trans (hb.mono HB.out.size))
  replace HA := Lib.hid (block_keep HA.out hb)
  replace HU2 := Lib.hid ((HU2.out.below hb).mono hb.size)
  replace HU3 := Lib.hid ((HU3.out.below hb).mono hb.size)
  replace HU4 := Lib.hid ((HU4.out.below hb).mono hb.size)
  replace HU6 := Lib.hid ((HU6.out.below hb).mono hb.size)
  replace HV7 := Lib.hid ((HV7.out.below hb).mono hb.size)
  clear hb
  go_wp2_with fail
  have hb : Below wb7.heap.size wb7 (wb7.alloc (.cells #[.int .i64 1, .int .i64 7, .int .i64 40, .bool false] 54)) := (Below.refl _ _).alloc (Nat.le_refl _) _
  replace HB := Lib.hid (HB.out.trans (hb.mono HB.out.size))
  replace HA := Lib.hid (block_keep HA.out hb)
  replace HU2 := Lib.hid ((HU2.out.below hb).mono hb.size)
  replace HU3 := Lib.hid ((HU3.out.below hb).mono hb.size)
  replace HU4 := Lib.hid ((HU4.out.below hb).mono hb.size)
  replace HU6 := Lib.hid ((HU6.out.below hb).mono hb.size)
  replace HV7 := Lib.hid ((HV7.out.below hb).mono hb.size)
  clear hb
  have HD7 := Lib.hid (heap_alloc_new wb7 (.cells #[.int .i64 1, .int .i64 7, .int .i64 40, .bool false] 54))
  refine (after_down v7 _ _ HV7.out (dips_row1 HD7.out)).mono ?_
  rintro e w10 ⟨rfl, hb⟩
  clear HV7 HD7
  replace HB := Lib.hid (HB.out.trans (hb.mono HB.out.size))
  replace HA := Lib.hid (block_keep HA.out hb)
  replace HU2 := Lib.hid ((HU2.out.below hb).mono hb.size)
  replace HU3 := Lib.hid ((HU3.out.below hb).mono hb.size)
  replace HU4 := Lib.hid ((HU4.out.below hb).mono hb.size)
  replace HU6 := Lib.hid ((HU6.out.below hb).mono hb.size)
  clear hb
  go_upto_region 8 with fail
  obtain ⟨rb, ro, rc, rfl, hrc, hrb, hrr⟩ := HU6.out.row (by simp [exP])
  have hr0 := hrr 0 (by simp [exP])
  have hr1 := hrr 1 (by simp [exP])
  obtain ⟨a0, a1, a2, a3⟩ := hr0
  obtain ⟨b0, b1, b2, b3⟩ := hr1
  have HX00 : Hid (w10.cell? ⟨rb, ro, none⟩ = some (.int .i64 0)) := a0
  have HX01 : Hid (w10.cell? ⟨rb, ro + 1, none⟩ = some (.int .i64 3)) := a1
  have HX02 : Hid (w10.cell? ⟨rb, ro + 2, none⟩ = some (.int .i64 40)) := a2
  have HX03 : Hid (w10.cell? ⟨rb, ro + 3, none⟩ = some (.bool false)) := a3
  have HX10 : Hid (w10.cell? ⟨rb, ro + 4, none⟩ = some (.int .i64 0)) := b0
  have HX11 : Hid (w10.cell? ⟨rb, ro + 4 + 1, none⟩ = some (.int .i64 3)) := b1
  have HX12 : Hid (w10.cell? ⟨rb, ro + 4 + 2, none⟩ = some (.int .i64 30)) := b2
  have HX13 : Hid (w10.cell? ⟨rb, ro + 4 + 3, none⟩ = some (.bool true)) := b3
  have HRB : Hid (rb < w10.heap.size) := hrb
  have hlx : exP.length = 2 := rfl
  rw [hlx] at hrc ⊢
  clear hlx hrr hrb HU6 a0 a1 a2 a3 b0 b1 b2 b3
  refine wp_region_inv1 (by kernel_rfl) (by kernel_rfl) [114, 119, 124, 140, 141, 149, 150] (fun D y w' => AwD w10 (D 40) (D 45) (D 50) (D 66) (D 67) (D 75) (D 76) (y 114) (y 119) (y 124) (y 140) (y 141) (y 149) (y 150) w') ⟨(Below.refl _ _).drew, fun h => (by cases h), fun h => (by cases h), fun h => (by cases h), fun h => (by cases h), fun h => (by cases h), fun h => (by cases h), fun h => (by cases h)⟩ ?FP8 ?hFP8 ?_
  case hFP8 =>
    intro y
    simp only [fill, List.foldl, Act.put, List.setIfInBounds_toArray, List.set]
    exact rfl
  apply obl_det
  case hrun =>
    intro D y wz hW hD R hR
    have HRR := Lib.hid hR
    clear hR
    have HW := Lib.hid hW
    clear hW hD
    go_wp2_with fail
    exact HRR.out _ ⟨HW.out.bel, HW.out.p40, HW.out.p45, HW.out.p50, HW.out.p66, HW.out.p67, HW.out.p75, HW.out.p76⟩
  case hnp => rfl
  case hv => first | exact ⟨_, fun _ => rfl⟩ | exact ⟨undef, fun _ => rfl⟩
  apply obl_det
  case hrun =>
    intro D y wz hW hD R hR
    have HRR := Lib.hid hR
    clear hR
    have HW := Lib.hid hW
    clear hW hD
    go_wp2_with fail
    exact HRR.out _ ⟨HW.out.bel, HW.out.p40, HW.out.p45, HW.out.p50, HW.out.p66, HW.out.p67, HW.out.p75, HW.out.p76⟩
  case hnp => rfl
  case hv => first | exact ⟨_, fun _ => rfl⟩ | exact ⟨undef, fun _ => rfl⟩
  apply obl_det
  case hrun =>
    intro D y wz hW hD R hR
    have HRR := Lib.hid hR
    clear hR
    have HW := Lib.hid hW
    clear hW hD
    go_wp2_with fail
    exact HRR.out _ ⟨HW.out.bel, HW.out.p40, HW.out.p45, HW.out.p50, HW.out.p66, HW.out.p67, HW.out.p75, HW.out.p76⟩
  case hnp => rfl
  case hv => first | exact ⟨_, fun _ => rfl⟩ | exact ⟨undef, fun _ => rfl⟩
  apply obl_det
  case hrun =>
    intro D y wz hW hD R hR
    have HRR := Lib.hid hR
    clear hR
    have HW := Lib.hid hW
    clear hW hD
    go_wp2_with fail
    exact HRR.out _ ⟨HW.out.bel, HW.out.p40, HW.out.p45, HW.out.p50, HW.out.p66, HW.out.p67, HW.out.p75, HW.out.p76⟩
  case hnp => rfl
  case hv => first | exact ⟨_, fun _ => rfl⟩ | exact ⟨undef, fun _ => rfl⟩
  apply obl_det
  case hrun =>
    intro D y wz hW hD R hR
    have HRR := Lib.hid hR
    clear hR
    have HW := Lib.hid hW
    clear hW hD
    go_wp2_with fail
    exact HRR.out _ ⟨HW.out.bel, HW.out.p40, HW.out.p45, HW.out.p50, HW.out.p66, HW.out.p67, HW.out.p75, HW.out.p76⟩
  case hnp => rfl
  case hv => first | exact ⟨_, fun _ => rfl⟩ | exact ⟨undef, fun _ => rfl⟩
  apply obl_det
  case hrun =>
    intro D y wz hW hD R hR
    have HRR := Lib.hid hR
    clear hR
    have HW := Lib.hid hW
    clear hW hD
    go_wp2_with fail
    exact HRR.out _ ⟨HW.out.bel, HW.out.p40, HW.out.p45, HW.out.p50, HW.out.p66, HW.out.p67, HW.out.p75, HW.out.p76⟩
  case hnp => rfl
  case hv => first | exact ⟨_, fun _ => rfl⟩ | exact ⟨undef, fun _ => rfl⟩
  apply obl_det
  case hrun =>
    intro D y wz hW hD R hR
    have HRR := Lib.hid hR
    clear hR
    have HW := Lib.hid hW
    clear hW hD
    go_wp2_with fail
    exact HRR.out _ ⟨HW.out.bel, HW.out.p40, HW.out.p45, HW.out.p50, HW.out.p66, HW.out.p67, HW.out.p75, HW.out.p76⟩
  case hnp => rfl
  case hv => first | exact ⟨_, fun _ => rfl⟩ | exact ⟨undef, fun _ => rfl⟩
  apply obl_det
  case hrun =>
    intro D y wz hW hD R hR
    have HRR := Lib.hid hR
    clear hR
    have HW := Lib.hid hW
    clear hW hD
    go_wp2_with fail
    exact HRR.out _ ⟨HW.out.bel, HW.out.p40, HW.out.p45, HW.out.p50, HW.out.p66, HW.out.p67, HW.out.p75, HW.out.p76⟩
  case hnp => rfl
  case hv => first | exact ⟨_, fun _ => rfl⟩ | exact ⟨undef, fun _ => rfl⟩
  apply obl_det
  case hrun =>
    intro D y wz hW hD R hR
    have HRR := Lib.hid hR
    clear hR
    have HW := Lib.hid hW
    clear hW hD
    go_wp2_with fail
    exact HRR.out _ ⟨HW.out.bel, HW.out.p40, HW.out.p45, HW.out.p50, HW.out.p66, HW.out.p67, HW.out.p75, HW.out.p76⟩
  case hnp => rfl
  case hv => first | exact ⟨_, fun _ => rfl⟩ | exact ⟨undef, fun _ => rfl⟩
  apply obl_det
  case hrun =>
    intro D y wz hW hD R hR
    have HRR := Lib.hid hR
    clear hR
    have HW := Lib.hid hW
    clear hW hD
    go_wp2_with fail
    exact HRR.out _ ⟨HW.out.bel, HW.out.p40, HW.out.p45, HW.out.p50, HW.out.p66, HW.out.p67, HW.out.p75, HW.out.p76⟩
  case hnp => rfl
  case hv => first | exact ⟨_, fun _ => rfl⟩ | exact ⟨undef, fun _ => rfl⟩
  apply obl_det
  case hrun =>
    intro D y wz hW hD R hR
    have HRR := Lib.hid hR
    clear hR
    have HW := Lib.hid hW
    clear hW hD
    go_wp2_with fail
    exact HRR.out _ ⟨HW.out.bel, HW.out.p40, HW.out.p45, HW.out.p50, HW.out.p66, HW.out.p67, HW.out.p75, HW.out.p76⟩
  case hnp => rfl
  case hv => first | exact ⟨_, fun _ => rfl⟩ | exact ⟨undef, fun _ => rfl⟩
  apply obl_det
  case hrun =>
    intro D y wz hW hD R hR
    have HRR := Lib.hid hR
    clear hR
    have HW := Lib.hid hW
    clear hW hD
    go_wp2_with fail
    exact HRR.out _ ⟨HW.out.bel, HW.out.p40, HW.out.p45, HW.out.p50, HW.out.p66, HW.out.p67, HW.out.p75, HW.out.p76⟩
  case hnp => rfl
  case hv => first | exact ⟨_, fun _ => rfl⟩ | exact ⟨undef, fun _ => rfl⟩
  apply obl_det
  case hrun =>
    intro D y wz hW hD R hR
    have HRR := Lib.hid hR
    clear hR
    have HW := Lib.hid hW
    clear hW hD
    go_wp2_with fail
    exact HRR.out _ ⟨HW.out.bel, HW.out.p40, HW.out.p45, HW.out.p50, HW.out.p66, HW.out.p67, HW.out.p75, HW.out.p76⟩
  case hnp => rfl
  case hv => first | exact ⟨_, fun _ => rfl⟩ | exact ⟨undef, fun _ => rfl⟩
  apply obl_det
  case hrun =>
    intro D y wz hW hD R hR
    have HRR := Lib.hid hR
    clear hR
    have HW := Lib.hid hW
    clear hW hD
    go_wp2_with fail
    exact HRR.out _ ⟨HW.out.bel, HW.out.p40, HW.out.p45, HW.out.p50, HW.out.p66, HW.out.p67, HW.out.p75, HW.out.p76⟩
  case hnp => rfl
  case hv => first | exact ⟨_, fun _ => rfl⟩ | exact ⟨undef, fun _ => rfl⟩
  apply obl_det
  case hrun =>
    intro D y wz hW hD R hR
    have HRR := Lib.hid hR
    clear hR
    have HW := Lib.hid hW
    clear hW hD
    go_wp2_with fail
    exact HRR.out _ ⟨HW.out.bel, HW.out.p40, HW.out.p45, HW.out.p50, HW.out.p66, HW.out.p67, HW.out.p75, HW.out.p76⟩
  case hnp => rfl
  case hv => first | exact ⟨_, fun _ => rfl⟩ | exact ⟨undef, fun _ => rfl⟩
  apply obl_det
  case hrun =>
    intro D y wz hW hD R hR
    have HRR := Lib.hid hR
    clear hR
    have HW := Lib.hid hW
    clear hW hD
    go_wp2_with fail
    exact HRR.out _ ⟨HW.out.bel, HW.out.p40, HW.out.p45, HW.out.p50, HW.out.p66, HW.out.p67, HW.out.p75, HW.out.p76⟩
  case hnp => rfl
  case hv => first | exact ⟨_, fun _ => rfl⟩ | exact ⟨undef, fun _ => rfl⟩
  apply obl_det
  case hrun =>
    intro D y wz hW hD R hR
    have HRR := Lib.hid hR
    clear hR
    have HW := Lib.hid hW
    clear hW hD
    go_wp2_with fail
    exact HRR.out _ ⟨HW.out.bel, HW.out.p40, HW.out.p45, HW.out.p50, HW.out.p66, HW.out.p67, HW.out.p75, HW.out.p76⟩
  case hnp => rfl
  case hv => first | exact ⟨_, fun _ => rfl⟩ | exact ⟨undef, fun _ => rfl⟩
  apply obl_det
  case hrun =>
    intro D y wz hW hD R hR
    have HRR := Lib.hid hR
    clear hR
    have HW := Lib.hid hW
    clear hW hD
    go_wp2_with fail
    exact HRR.out _ ⟨HW.out.bel, HW.out.p40, HW.out.p45, HW.out.p50, HW.out.p66, HW.out.p67, HW.out.p75, HW.out.p76⟩
  case hnp => rfl
  case hv => first | exact ⟨_, fun _ => rfl⟩ | exact ⟨undef, fun _ => rfl⟩
  apply obl_det
  case hrun =>
    intro D y wz hW hD R hR
    have HRR := Lib.hid hR
    clear hR
    have HW := Lib.hid hW
    clear hW hD
    go_wp2_with fail
    exact HRR.out _ ⟨HW.out.bel, HW.out.p40, HW.out.p45, HW.out.p50, HW.out.p66, HW.out.p67, HW.out.p75, HW.out.p76⟩
  case hnp => rfl
  case hv => first | exact ⟨_, fun _ => rfl⟩ | exact ⟨undef, fun _ => rfl⟩
  apply obl_det
  case hrun =>
    intro D y wz hW hD R hR
    have HRR := Lib.hid hR
    clear hR
    have HW := Lib.hid hW
    clear hW hD
    go_wp2_with fail
    exact HRR.out _ ⟨HW.out.bel, HW.out.p40, HW.out.p45, HW.out.p50, HW.out.p66, HW.out.p67, HW.out.p75, HW.out.p76⟩
  case hnp => rfl
  case hv => first | exact ⟨_, fun _ => rfl⟩ | exact ⟨undef, fun _ => rfl⟩
  apply obl_det
  case hrun =>
    intro D y wz hW hD R hR
    have HRR := Lib.hid hR
    clear hR
    have HW := Lib.hid hW
    clear hW hD
    go_wp2_with fail
    exact HRR.out _ ⟨HW.out.bel, HW.out.p40, HW.out.p45, HW.out.p50, HW.out.p66, HW.out.p67, HW.out.p75, HW.out.p76⟩
  case hnp => rfl
  case hv => first | exact ⟨_, fun _ => rfl⟩ | exact ⟨undef, fun _ => rfl⟩
  apply obl_det
  case hrun =>
    intro D y wz hW hD R hR
    have HRR := Lib.hid hR
    clear hR
    have HW := Lib.hid hW
    clear hW hD
    go_wp2_with fail
    exact HRR.out _ ⟨HW.out.bel, HW.out.p40, HW.out.p45, HW.out.p50, HW.out.p66, HW.out.p67, HW.out.p75, HW.out.p76⟩
  case hnp => rfl
  case hv => first | exact ⟨_, fun _ => rfl⟩ | exact ⟨undef, fun _ => rfl⟩
  apply obl_det
  case hrun =>
    intro D y wz hW hD R hR
    have HRR := Lib.hid hR
    clear hR
    have HW := Lib.hid hW
    clear hW hD
    go_wp2_with fail
    exact HRR.out _ ⟨HW.out.bel, HW.out.p40, HW.out.p45, HW.out.p50, HW.out.p66, HW.out.p67, HW.out.p75, HW.out.p76⟩
  case hnp => rfl
  case hv => first | exact ⟨_, fun _ => rfl⟩ | exact ⟨undef, fun _ => rfl⟩
  apply obl_det
  case hrun =>
    intro D y wz hW hD R hR
    have HRR := Lib.hid hR
    clear hR
    have HW := Lib.hid hW
    clear hW hD
    go_wp2_with fail
    exact HRR.out _ ⟨HW.out.bel, HW.out.p40, HW.out.p45, HW.out.p50, HW.out.p66, HW.out.p67, HW.out.p75, HW.out.p76⟩
  case hnp => rfl
  case hv => first | exact ⟨_, fun _ => rfl⟩ | exact ⟨undef, fun _ => rfl⟩
  apply obl_det
  case hrun =>
    intro D y wz hW hD R hR
    have HRR := Lib.hid hR
    clear hR
    have HW := Lib.hid hW
    clear hW hD
    go_wp2_with fail
    exact HRR.out _ ⟨HW.out.bel, HW.out.p40, HW.out.p45, HW.out.p50, HW.out.p66, HW.out.p67, HW.out.p75, HW.out.p76⟩
  case hnp => rfl
  case hv => first | exact ⟨_, fun _ => rfl⟩ | exact ⟨undef, fun _ => rfl⟩
  apply obl_det
  case hrun =>
    intro D y wz hW hD R hR
    have HRR := Lib.hid hR
    clear hR
    have HW := Lib.hid hW
    clear hW hD
    go_wp2_with fail
    exact HRR.out _ ⟨HW.out.bel, HW.out.p40, HW.out.p45, HW.out.p50, HW.out.p66, HW.out.p67, HW.out.p75, HW.out.p76⟩
  case hnp => rfl
  case hv => first | exact ⟨_, fun _ => rfl⟩ | exact ⟨undef, fun _ => rfl⟩
  apply obl_det
  case hrun =>
    intro D y wz hW hD R hR
    have HRR := Lib.hid hR
    clear hR
    have HW := Lib.hid hW
    clear hW hD
    go_wp2_with fail
    exact HRR.out _ ⟨HW.out.bel, HW.out.p40, HW.out.p45, HW.out.p50, HW.out.p66, HW.out.p67, HW.out.p75, HW.out.p76⟩
  case hnp => rfl
  case hv => first | exact ⟨_, fun _ => rfl⟩ | exact ⟨undef, fun _ => rfl⟩
  apply obl_det
  case hrun =>
    intro D y wz hW hD R hR
    have HRR := Lib.hid hR
    clear hR
    have HW := Lib.hid hW
    have hA := (HW.out.bel.block _ (block_lt HA.out)).trans HA.out
    clear hW hD
    refine wpList_load_want rfl 34 _ rfl _ rfl _ _ _ _ hA Tryz.underlying34 rfl infoDT ?_
    go_simp
    exact HRR.out _ ⟨HW.out.bel, HW.out.p40, HW.out.p45, HW.out.p50, HW.out.p66, HW.out.p67, HW.out.p75, HW.out.p76⟩
  case hnp => rfl
  case hv => first | exact ⟨_, fun _ => rfl⟩ | exact ⟨undef, fun _ => rfl⟩
  apply obl_det
  case hrun =>
    intro D y wz hW hD R hR
    have HRR := Lib.hid hR
    clear hR
    have HW := Lib.hid hW
    clear hW hD
    go_wp2_with fail
    exact HRR.out _ ⟨HW.out.bel, HW.out.p40, HW.out.p45, HW.out.p50, HW.out.p66, HW.out.p67, HW.out.p75, HW.out.p76⟩
  case hnp => rfl
  case hv => first | exact ⟨_, fun _ => rfl⟩ | exact ⟨undef, fun _ => rfl⟩
  apply obl_det
  case hrun =>
    intro D y wz hW hD R hR
    have HRR := Lib.hid hR
    clear hR
    have HW := Lib.hid hW
    clear hW hD
    go_wp2_with fail
    exact HRR.out _ ⟨HW.out.bel, HW.out.p40, HW.out.p45, HW.out.p50, HW.out.p66, HW.out.p67, HW.out.p75, HW.out.p76⟩
  case hnp => rfl
  case hv => first | exact ⟨_, fun _ => rfl⟩ | exact ⟨undef, fun _ => rfl⟩
  apply obl_det
  case hrun =>
    intro D y wz hW hD R hR
    have HRR := Lib.hid hR
    clear hR
    have HW := Lib.hid hW
    clear hW hD
    go_wp2_with fail
    exact HRR.out _ ⟨HW.out.bel, HW.out.p40, HW.out.p45, HW.out.p50, HW.out.p66, HW.out.p67, HW.out.p75, HW.out.p76⟩
  case hnp => rfl
  case hv => first | exact ⟨_, fun _ => rfl⟩ | exact ⟨undef, fun _ => rfl⟩
  apply obl_det
  case hrun =>
    intro D y wz hW hD R hR
    have HRR := Lib.hid hR
    clear hR
    have HW := Lib.hid hW
    clear hW hD
    go_wp2_with fail
    exact HRR.out _ ⟨HW.out.bel, HW.out.p40, HW.out.p45, HW.out.p50, HW.out.p66, HW.out.p67, HW.out.p75, HW.out.p76⟩
  case hnp => rfl
  case hv => first | exact ⟨_, fun _ => rfl⟩ | exact ⟨undef, fun _ => rfl⟩
  apply obl_det
  case hrun =>
    intro D y wz hW hD R hR
    have HRR := Lib.hid hR
    clear hR
    have HW := Lib.hid hW
    clear hW hD
    go_wp2_with fail
    exact HRR.out _ ⟨HW.out.bel, HW.out.p40, HW.out.p45, HW.out.p50, HW.out.p66, HW.out.p67, HW.out.p75, HW.out.p76⟩
  case hnp => rfl
  case hv => first | exact ⟨_, fun _ => rfl⟩ | exact ⟨undef, fun _ => rfl⟩
  apply obl_det
  case hrun =>
    intro D y wz hW hD R hR
    have HRR := Lib.hid hR
    clear hR
    have HW := Lib.hid hW
    clear hW hD
    go_wp2_with fail
    refine (span36w 2660 2860 _).mono ?_
    rintro e w' ⟨rfl, hb⟩
    have HN := Lib.hid (HW.out.next hb)
    clear hb
    go_wp2_with fail
    exact HRR.out _ ⟨HN.out.bel, HN.out.p40, HN.out.p45, HN.out.p50, HN.out.p66, HN.out.p67, HN.out.p75, HN.out.p76⟩
  case hnp => rfl
  case hv => first | exact ⟨_, fun _ => rfl⟩ | exact ⟨undef, fun _ => rfl⟩
  apply obl_det
  case hrun =>
    intro D y wz hW hD R hR
    have HRR := Lib.hid hR
    clear hR
    have HW := Lib.hid hW
    clear hW hD
    go_wp2_with fail
    refine (span36w 2740 2940 _).mono ?_
    rintro e w' ⟨rfl, hb⟩
    have HN := Lib.hid (HW.out.next hb)
    clear hb
    go_wp2_with fail
    exact HRR.out _ ⟨HN.out.bel, HN.out.p40, HN.out.p45, HN.out.p50, HN.out.p66, HN.out.p67, HN.out.p75, HN.out.p76⟩
  case hnp => rfl
  case hv => first | exact ⟨_, fun _ => rfl⟩ | exact ⟨undef, fun _ => rfl⟩
  apply obl_det
  case hrun =>
    intro D y wz hW hD R hR
    have HRR := Lib.hid hR
    clear hR
    have HW := Lib.hid hW
    clear hW hD
    go_wp2_with fail
    refine (span36w 80 80 _).mono ?_
    rintro e w' ⟨rfl, hb⟩
    have HN := Lib.hid (HW.out.next hb)
    clear hb
    go_wp2_with fail
    exact HRR.out _ ⟨HN.out.bel, HN.out.p40, HN.out.p45, HN.out.p50, HN.out.p66, HN.out.p67, HN.out.p75, HN.out.p76⟩
  case hnp => rfl
  case hv => first | exact ⟨_, fun _ => rfl⟩ | exact ⟨undef, fun _ => rfl⟩
  apply obl_det
  case hrun =>
    intro D y wz hW hD R hR
    have HRR := Lib.hid hR
    clear hR
    have HW := Lib.hid hW
    clear hW hD
    go_wp2_with fail
    exact HRR.out _ ⟨HW.out.bel, HW.out.p40, HW.out.p45, HW.out.p50, HW.out.p66, HW.out.p67, HW.out.p75, HW.out.p76⟩
  case hnp => rfl
  case hv => first | exact ⟨_, fun _ => rfl⟩ | exact ⟨undef, fun _ => rfl⟩
  apply obl_det
  case hrun =>
    intro D y wz hW hD R hR
    have HRR := Lib.hid hR
    clear hR
    have HW := Lib.hid hW
    clear hW hD
    go_wp2_with fail
    refine (span36w 3400 3800 _).mono ?_
    rintro e w' ⟨rfl, hb⟩
    have HN := Lib.hid (HW.out.next hb)
    clear hb
    go_wp2_with fail
    exact HRR.out _ ⟨HN.out.bel, HN.out.p40, HN.out.p45, HN.out.p50, HN.out.p66, HN.out.p67, HN.out.p75, HN.out.p76⟩
  case hnp => rfl
  case hv => first | exact ⟨_, fun _ => rfl⟩ | exact ⟨undef, fun _ => rfl⟩
  apply obl_det
  case hrun =>
    intro D y wz hW hD R hR
    have HRR := Lib.hid hR
    clear hR
    have HW := Lib.hid hW
    clear hW hD
    go_wp2_with fail
    refine (span36w 3400 3800 _).mono ?_
    rintro e w' ⟨rfl, hb⟩
    have HN := Lib.hid (HW.out.next hb)
    clear hb
    go_wp2_with fail
    exact HRR.out _ ⟨HN.out.bel, HN.out.p40, HN.out.p45, HN.out.p50, HN.out.p66, HN.out.p67, HN.out.p75, HN.out.p76⟩
  case hnp => rfl
  case hv => first | exact ⟨_, fun _ => rfl⟩ | exact ⟨undef, fun _ => rfl⟩
  apply obl_det
  case hrun =>
    intro D y wz hW hD R hR
    have HRR := Lib.hid hR
    clear hR
    have HW := Lib.hid hW
    clear hW hD
    go_wp2_with fail
    exact HRR.out _ ⟨HW.out.bel, HW.out.p40, HW.out.p45, HW.out.p50, HW.out.p66, HW.out.p67, HW.out.p75, HW.out.p76⟩
  case hnp => rfl
  case hv => first | exact ⟨_, fun _ => rfl⟩ | exact ⟨undef, fun _ => rfl⟩
  apply obl_priv 114
  case hd => rfl
  case hp => rfl
  case hrun =>
    intro D y wz hW hD R hR
    have HRR := Lib.hid hR
    clear hR
    have HW := Lib.hid hW
    clear hW hD
    have HN := Lib.hid (HW.out.next ((Below.refl _ wz).alloc (Nat.le_refl _) (.cells #[.int .i64 2660, .int .i64 2860, .int .i64 2740, .int .i64 2940, .int .i64 80, .int .i64 80, .int .i64 3400, .int .i64 3800, .int .i64 3400, .int .i64 3800, .int .i64 0, .int .i64 0] 95)))
    go_wp2_with fail
    exact HRR.out _ _ ⟨HN.out.bel, (fun _ => rngs_row2 (heap_alloc_new _ _)), HN.out.p45, HN.out.p50, HN.out.p66, HN.out.p67, HN.out.p75, HN.out.p76⟩
  apply obl_det
  case hrun =>
    intro D y wz hW hD R hR
    have HRR := Lib.hid hR
    clear hR
    have HD : Hid (D 40 = true) := hD.pre _ 40 rfl (by kernel_rfl)
    have HW := Lib.hid hW
    clear hW hD
    go_wp2_with fail
    refine (ranges4_same _ u2 (y 114) wz ((HU2.out.below HW.out.bel).mono HW.out.bel.size) (HW.out.p40 HD.out)).mono ?_
    rintro e w' ⟨rfl, hb⟩
    have HN := Lib.hid (HW.out.next hb)
    clear hb
    go_wp2_with fail
    exact HRR.out _ ⟨HN.out.bel, HN.out.p40, HN.out.p45, HN.out.p50, HN.out.p66, HN.out.p67, HN.out.p75, HN.out.p76⟩
  case hnp => rfl
  case hv => first | exact ⟨_, fun _ => rfl⟩ | exact ⟨undef, fun _ => rfl⟩
  apply obl_det
  case hrun =>
    intro D y wz hW hD R hR
    have HRR := Lib.hid hR
    clear hR
    have HW := Lib.hid hW
    clear hW hD
    go_wp2_with fail
    exact HRR.out _ ⟨HW.out.bel, HW.out.p40, HW.out.p45, HW.out.p50, HW.out.p66, HW.out.p67, HW.out.p75, HW.out.p76⟩
  case hnp => rfl
  case hv => first | exact ⟨_, fun _ => rfl⟩ | exact ⟨undef, fun _ => rfl⟩
  apply obl_det
  case hrun =>
    intro D y wz hW hD R hR
    have HRR := Lib.hid hR
    clear hR
    have HW := Lib.hid hW
    clear hW hD
    go_wp2_with fail
    exact HRR.out _ ⟨HW.out.bel, HW.out.p40, HW.out.p45, HW.out.p50, HW.out.p66, HW.out.p67, HW.out.p75, HW.out.p76⟩
  case hnp => rfl
  case hv => first | exact ⟨_, fun _ => rfl⟩ | exact ⟨undef, fun _ => rfl⟩
  apply obl_det
  case hrun =>
    intro D y wz hW hD R hR
    have HRR := Lib.hid hR
    clear hR
    have HW := Lib.hid hW
    clear hW hD
    go_wp2_with fail
    exact HRR.out _ ⟨HW.out.bel, HW.out.p40, HW.out.p45, HW.out.p50, HW.out.p66, HW.out.p67, HW.out.p75, HW.out.p76⟩
  case hnp => rfl
  case hv => first | exact ⟨_, fun _ => rfl⟩ | exact ⟨undef, fun _ => rfl⟩
  apply obl_priv 119
  case hd => rfl
  case hp => rfl
  case hrun =>
    intro D y wz hW hD R hR
    have HRR := Lib.hid hR
    clear hR
    have HW := Lib.hid hW
    clear hW hD
    have HN := Lib.hid (HW.out.next ((Below.refl _ wz).alloc (Nat.le_refl _) (.cells (ints [630]) 3)))
    go_wp2_with fail
    exact HRR.out _ _ ⟨HN.out.bel, HN.out.p40, (fun _ => ints_row [630] (by decide) (heap_alloc_new _ _)), HN.out.p50, HN.out.p66, HN.out.p67, HN.out.p75, HN.out.p76⟩
  apply obl_det
  case hrun =>
    intro D y wz hW hD R hR
    have HRR := Lib.hid hR
    clear hR
    have HD : Hid (D 45 = true) := hD.pre _ 45 rfl (by kernel_rfl)
    have HW := Lib.hid hW
    clear hW hD
    go_wp2_with fail
    refine (ints4_same _ u3 (y 119) wz ((HU3.out.below HW.out.bel).mono HW.out.bel.size) (HW.out.p45 HD.out)).mono ?_
    rintro e w' ⟨rfl, hb⟩
    have HN := Lib.hid (HW.out.next hb)
    clear hb
    go_wp2_with fail
    exact HRR.out _ ⟨HN.out.bel, HN.out.p40, HN.out.p45, HN.out.p50, HN.out.p66, HN.out.p67, HN.out.p75, HN.out.p76⟩
  case hnp => rfl
  case hv => first | exact ⟨_, fun _ => rfl⟩ | exact ⟨undef, fun _ => rfl⟩
  apply obl_det
  case hrun =>
    intro D y wz hW hD R hR
    have HRR := Lib.hid hR
    clear hR
    have HW := Lib.hid hW
    clear hW hD
    go_wp2_with fail
    exact HRR.out _ ⟨HW.out.bel, HW.out.p40, HW.out.p45, HW.out.p50, HW.out.p66, HW.out.p67, HW.out.p75, HW.out.p76⟩
  case hnp => rfl
  case hv => first | exact ⟨_, fun _ => rfl⟩ | exact ⟨undef, fun _ => rfl⟩
  apply obl_det
  case hrun =>
    intro D y wz hW hD R hR
    have HRR := Lib.hid hR
    clear hR
    have HW := Lib.hid hW
    clear hW hD
    go_wp2_with fail
    exact HRR.out _ ⟨HW.out.bel, HW.out.p40, HW.out.p45, HW.out.p50, HW.out.p66, HW.out.p67, HW.out.p75, HW.out.p76⟩
  case hnp => rfl
  case hv => first | exact ⟨_, fun _ => rfl⟩ | exact ⟨undef, fun _ => rfl⟩
  apply obl_det
  case hrun =>
    intro D y wz hW hD R hR
    have HRR := Lib.hid hR
    clear hR
    have HW := Lib.hid hW
    clear hW hD
    go_wp2_with fail
    exact HRR.out _ ⟨HW.out.bel, HW.out.p40, HW.out.p45, HW.out.p50, HW.out.p66, HW.out.p67, HW.out.p75, HW.out.p76⟩
  case hnp => rfl
  case hv => first | exact ⟨_, fun _ => rfl⟩ | exact ⟨undef, fun _ => rfl⟩
  apply obl_priv 124
  case hd => rfl
  case hp => rfl
  case hrun =>
    intro D y wz hW hD R hR
    have HRR := Lib.hid hR
    clear hR
    have HW := Lib.hid hW
    clear hW hD
    have HN := Lib.hid (HW.out.next ((Below.refl _ wz).alloc (Nat.le_refl _) (.cells (ints [0, 0]) 3)))
    go_wp2_with fail
    exact HRR.out _ _ ⟨HN.out.bel, HN.out.p40, HN.out.p45, (fun _ => ints_row [0, 0] (by decide) (heap_alloc_new _ _)), HN.out.p66, HN.out.p67, HN.out.p75, HN.out.p76⟩
  apply obl_det
  case hrun =>
    intro D y wz hW hD R hR
    have HRR := Lib.hid hR
    clear hR
    have HD : Hid (D 50 = true) := hD.pre _ 50 rfl (by kernel_rfl)
    have HW := Lib.hid hW
    clear hW hD
    go_wp2_with fail
    refine (ints4_same _ u4 (y 124) wz ((HU4.out.below HW.out.bel).mono HW.out.bel.size) (HW.out.p50 HD.out)).mono ?_
    rintro e w' ⟨rfl, hb⟩
    have HN := Lib.hid (HW.out.next hb)
    clear hb
    go_wp2_with fail
    exact HRR.out _ ⟨HN.out.bel, HN.out.p40, HN.out.p45, HN.out.p50, HN.out.p66, HN.out.p67, HN.out.p75, HN.out.p76⟩
  case hnp => rfl
  case hv => first | exact ⟨_, fun _ => rfl⟩ | exact ⟨undef, fun _ => rfl⟩
  apply obl_det
  case hrun =>
    intro D y wz hW hD R hR
    have HRR := Lib.hid hR
    clear hR
    have HW := Lib.hid hW
    clear hW hD
    go_wp2_with fail
    exact HRR.out _ ⟨HW.out.bel, HW.out.p40, HW.out.p45, HW.out.p50, HW.out.p66, HW.out.p67, HW.out.p75, HW.out.p76⟩
  case hnp => rfl
  case hv => first | exact ⟨_, fun _ => rfl⟩ | exact ⟨undef, fun _ => rfl⟩
  apply obl_det
  case hrun =>
    intro D y wz hW hD R hR
    have HRR := Lib.hid hR
    clear hR
    have HW := Lib.hid hW
    clear hW hD
    go_wp2_with fail
    exact HRR.out _ ⟨HW.out.bel, HW.out.p40, HW.out.p45, HW.out.p50, HW.out.p66, HW.out.p67, HW.out.p75, HW.out.p76⟩
  case hnp => rfl
  case hv => first | exact ⟨_, fun _ => rfl⟩ | exact ⟨undef, fun _ => rfl⟩
  apply obl_det
  case hrun =>
    intro D y wz hW hD R hR
    have HRR := Lib.hid hR
    clear hR
    have HW := Lib.hid hW
    clear hW hD
    go_wp2_with fail
    exact HRR.out _ ⟨HW.out.bel, HW.out.p40, HW.out.p45, HW.out.p50, HW.out.p66, HW.out.p67, HW.out.p75, HW.out.p76⟩
  case hnp => rfl
  case hv => first | exact ⟨_, fun _ => rfl⟩ | exact ⟨undef, fun _ => rfl⟩
  apply obl_det
  case hrun =>
    intro D y wz hW hD R hR
    have HRR := Lib.hid hR
    clear hR
    have HW := Lib.hid hW
    clear hW hD
    go_wp2_with fail
    exact HRR.out _ ⟨HW.out.bel, HW.out.p40, HW.out.p45, HW.out.p50, HW.out.p66, HW.out.p67, HW.out.p75, HW.out.p76⟩
  case hnp => rfl
  case hv => first | exact ⟨_, fun _ => rfl⟩ | exact ⟨undef, fun _ => rfl⟩
  apply obl_det
  case hrun =>
    intro D y wz hW hD R hR
    have HRR := Lib.hid hR
    clear hR
    have HW := Lib.hid hW
    clear hW hD
    go_wp2_with fail
    exact HRR.out _ ⟨HW.out.bel, HW.out.p40, HW.out.p45, HW.out.p50, HW.out.p66, HW.out.p67, HW.out.p75, HW.out.p76⟩
  case hnp => rfl
  case hv => first | exact ⟨_, fun _ => rfl⟩ | exact ⟨undef, fun _ => rfl⟩
  apply obl_det
  case hrun =>
    intro D y wz hW hD R hR
    have HRR := Lib.hid hR
    clear hR
    have HW := Lib.hid hW
    clear hW hD
    go_wp2_with fail
    exact HRR.out _ ⟨HW.out.bel, HW.out.p40, HW.out.p45, HW.out.p50, HW.out.p66, HW.out.p67, HW.out.p75, HW.out.p76⟩
  case hnp => rfl
  case hv => first | exact ⟨_, fun _ => rfl⟩ | exact ⟨undef, fun _ => rfl⟩
  apply obl_det
  case hrun =>
    intro D y wz hW hD R hR
    have HRR := Lib.hid hR
    clear hR
    have HW := Lib.hid hW
    clear hW hD
    go_wp2_with fail
    exact HRR.out _ ⟨HW.out.bel, HW.out.p40, HW.out.p45, HW.out.p50, HW.out.p66, HW.out.p67, HW.out.p75, HW.out.p76⟩
  case hnp => rfl
  case hv => first | exact ⟨_, fun _ => rfl⟩ | exact ⟨undef, fun _ => rfl⟩
  apply obl_det
  case hrun =>
    intro D y wz hW hD R hR
    have HRR := Lib.hid hR
    clear hR
    have HW := Lib.hid hW
    clear hW hD
    go_wp2_with fail
    exact HRR.out _ ⟨HW.out.bel, HW.out.p40, HW.out.p45, HW.out.p50, HW.out.p66, HW.out.p67, HW.out.p75, HW.out.p76⟩
  case hnp => rfl
  case hv => first | exact ⟨_, fun _ => rfl⟩ | exact ⟨undef, fun _ => rfl⟩
  apply obl_det
  case hrun =>
    intro D y wz hW hD R hR
    have HRR := Lib.hid hR
    clear hR
    have HW := Lib.hid hW
    clear hW hD
    go_wp2_with fail
    exact HRR.out _ ⟨HW.out.bel, HW.out.p40, HW.out.p45, HW.out.p50, HW.out.p66, HW.out.p67, HW.out.p75, HW.out.p76⟩
  case hnp => rfl
  case hv => first | exact ⟨_, fun _ => rfl⟩ | exact ⟨undef, fun _ => rfl⟩
  apply obl_det
  case hrun =>
    intro D y wz hW hD R hR
    have HRR := Lib.hid hR
    clear hR
    have HW := Lib.hid hW
    clear hW hD
    go_wp2_with fail
    exact HRR.out _ ⟨HW.out.bel, HW.out.p40, HW.out.p45, HW.out.p50, HW.out.p66, HW.out.p67, HW.out.p75, HW.out.p76⟩
  case hnp => rfl
  case hv => first | exact ⟨_, fun _ => rfl⟩ | exact ⟨undef, fun _ => rfl⟩
  apply obl_det
  case hrun =>
    intro D y wz hW hD R hR
    have HRR := Lib.hid hR
    clear hR
    have HW := Lib.hid hW
    clear hW hD
    go_wp2_with fail
    exact HRR.out _ ⟨HW.out.bel, HW.out.p40, HW.out.p45, HW.out.p50, HW.out.p66, HW.out.p67, HW.out.p75, HW.out.p76⟩
  case hnp => rfl
  case hv => first | exact ⟨_, fun _ => rfl⟩ | exact ⟨undef, fun _ => rfl⟩
  apply obl_det
  case hrun =>
    intro D y wz hW hD R hR
    have HRR := Lib.hid hR
    clear hR
    have HW := Lib.hid hW
    clear hW hD
    go_wp2_with fail
    exact HRR.out _ ⟨HW.out.bel, HW.out.p40, HW.out.p45, HW.out.p50, HW.out.p66, HW.out.p67, HW.out.p75, HW.out.p76⟩
  case hnp => rfl
  case hv => first | exact ⟨_, fun _ => rfl⟩ | exact ⟨undef, fun _ => rfl⟩
  apply obl_det
  case hrun =>
    intro D y wz hW hD R hR
    have HRR := Lib.hid hR
    clear hR
    have HW := Lib.hid hW
    clear hW hD
    go_wp2_with fail
    exact HRR.out _ ⟨HW.out.bel, HW.out.p40, HW.out.p45, HW.out.p50, HW.out.p66, HW.out.p67, HW.out.p75, HW.out.p76⟩
  case hnp => rfl
  case hv => first | exact ⟨_, fun _ => rfl⟩ | exact ⟨undef, fun _ => rfl⟩
  apply obl_det
  case hrun =>
    intro D y wz hW hD R hR
    have HRR := Lib.hid hR
    clear hR
    have HW := Lib.hid hW
    have c_0 := (HW.out.bel.cell (p := ⟨rb, ro, none⟩) HRB.out).trans HX00.out
    have c_1 := (HW.out.bel.cell (p := ⟨rb, ro + 1, none⟩) HRB.out).trans HX01.out
    have c_2 := (HW.out.bel.cell (p := ⟨rb, ro + 2, none⟩) HRB.out).trans HX02.out
    have c_3 := (HW.out.bel.cell (p := ⟨rb, ro + 3, none⟩) HRB.out).trans HX03.out
    clear hW hD
    go_wp2_with fail
    exact HRR.out _ ⟨HW.out.bel, HW.out.p40, HW.out.p45, HW.out.p50, HW.out.p66, HW.out.p67, HW.out.p75, HW.out.p76⟩
  case hnp => rfl
  case hv => first | exact ⟨_, fun _ => rfl⟩ | exact ⟨undef, fun _ => rfl⟩
  apply obl_priv 140
  case hd => rfl
  case hp => rfl
  case hrun =>
    intro D y wz hW hD R hR
    have HRR := Lib.hid hR
    clear hR
    have HW := Lib.hid hW
    clear hW hD
    go_wp2_with fail
    refine (dips33 _).mono ?_
    rintro e w' ⟨rfl, rfl⟩
    have HN := Lib.hid (HW.out.next ((Below.refl _ wz).alloc (Nat.le_refl _) (.cells exDC 54)))
    go_wp2_with fail
    exact HRR.out _ _ ⟨HN.out.bel, HN.out.p40, HN.out.p45, HN.out.p50, (fun _ => ⟨_, rfl, heap_alloc_new _ _⟩), HN.out.p67, HN.out.p75, HN.out.p76⟩
  apply obl_priv 141
  case hd => rfl
  case hp => rfl
  case hrun =>
    intro D y wz hW hD R hR
    have HRR := Lib.hid hR
    clear hR
    obtain ⟨g, e, hg⟩ := hW.p66 (hD.pre _ 66 rfl (by kernel_rfl))
    rw [e]
    have HG := Lib.hid hg
    have HE := Lib.hid e
    clear e hg
    have HW := Lib.hid hW
    clear hW hD
    have HN := HW
    go_wp2_with fail
    rw [← HE.out]
    exact HRR.out _ _ ⟨HN.out.bel, HN.out.p40, HN.out.p45, HN.out.p50, HN.out.p66, (fun _ => ⟨g, rfl, HG.out⟩), HN.out.p75, HN.out.p76⟩
  apply obl_det
  case hrun =>
    intro D y wz hW hD R hR
    have HRR := Lib.hid hR
    clear hR
    obtain ⟨g, e, hg⟩ := hW.p67 (hD.pre _ 67 rfl (by kernel_rfl))
    rw [e]
    have c_0 := cell_of_row _ _ 0 _ _ _ hg
    have c_1 := cell_of_row _ _ 1 _ _ _ hg
    have c_2 := cell_of_row _ _ 2 _ _ _ hg
    have c_3 := cell_of_row _ _ 3 _ _ _ hg
    have HE := Lib.hid e
    clear e hg
    have HW := Lib.hid hW
    clear hW hD
    go_wp2_with fail
    rw [← HE.out]
    exact HRR.out _ ⟨HW.out.bel, HW.out.p40, HW.out.p45, HW.out.p50, HW.out.p66, HW.out.p67, HW.out.p75, HW.out.p76⟩
  case hnp => rfl
  case hv => first | exact ⟨_, fun _ => rfl⟩ | exact ⟨undef, fun _ => rfl⟩
  apply obl_det
  case hrun =>
    intro D y wz hW hD R hR
    have HRR := Lib.hid hR
    clear hR
    have HW := Lib.hid hW
    clear hW hD
    go_wp2_with fail
    exact HRR.out _ ⟨HW.out.bel, HW.out.p40, HW.out.p45, HW.out.p50, HW.out.p66, HW.out.p67, HW.out.p75, HW.out.p76⟩
  case hnp => rfl
  case hv => first | exact ⟨_, fun _ => rfl⟩ | exact ⟨undef, fun _ => rfl⟩
  apply obl_det
  case hrun =>
    intro D y wz hW hD R hR
    have HRR := Lib.hid hR
    clear hR
    have HW := Lib.hid hW
    clear hW hD
    go_wp2_with fail
    exact HRR.out _ ⟨HW.out.bel, HW.out.p40, HW.out.p45, HW.out.p50, HW.out.p66, HW.out.p67, HW.out.p75, HW.out.p76⟩
  case hnp => rfl
  case hv => first | exact ⟨_, fun _ => rfl⟩ | exact ⟨undef, fun _ => rfl⟩
  apply obl_det
  case hrun =>
    intro D y wz hW hD R hR
    have HRR := Lib.hid hR
    clear hR
    have HW := Lib.hid hW
    clear hW hD
    go_wp2_with fail
    exact HRR.out _ ⟨HW.out.bel, HW.out.p40, HW.out.p45, HW.out.p50, HW.out.p66, HW.out.p67, HW.out.p75, HW.out.p76⟩
  case hnp => rfl
  case hv => first | exact ⟨_, fun _ => rfl⟩ | exact ⟨undef, fun _ => rfl⟩
  apply obl_det
  case hrun =>
    intro D y wz hW hD R hR
    have HRR := Lib.hid hR
    clear hR
    have HW := Lib.hid hW
    clear hW hD
    go_wp2_with fail
    exact HRR.out _ ⟨HW.out.bel, HW.out.p40, HW.out.p45, HW.out.p50, HW.out.p66, HW.out.p67, HW.out.p75, HW.out.p76⟩
  case hnp => rfl
  case hv => first | exact ⟨_, fun _ => rfl⟩ | exact ⟨undef, fun _ => rfl⟩
  apply obl_det
  case hrun =>
    intro D y wz hW hD R hR
    have HRR := Lib.hid hR
    clear hR
    have HW := Lib.hid hW
    clear hW hD
    go_wp2_with fail
    exact HRR.out _ ⟨HW.out.bel, HW.out.p40, HW.out.p45, HW.out.p50, HW.out.p66, HW.out.p67, HW.out.p75, HW.out.p76⟩
  case hnp => rfl
  case hv => first | exact ⟨_, fun _ => rfl⟩ | exact ⟨undef, fun _ => rfl⟩
  apply obl_det
  case hrun =>
    intro D y wz hW hD R hR
    have HRR := Lib.hid hR
    clear hR
    have HW := Lib.hid hW
    have c_0 := (HW.out.bel.cell (p := ⟨rb, ro + 4, none⟩) HRB.out).trans HX10.out
    have c_1 := (HW.out.bel.cell (p := ⟨rb, ro + 4 + 1, none⟩) HRB.out).trans HX11.out
    have c_2 := (HW.out.bel.cell (p := ⟨rb, ro + 4 + 2, none⟩) HRB.out).trans HX12.out
    have c_3 := (HW.out.bel.cell (p := ⟨rb, ro + 4 + 3, none⟩) HRB.out).trans HX13.out
    clear hW hD
    go_wp2_with fail
    exact HRR.out _ ⟨HW.out.bel, HW.out.p40, HW.out.p45, HW.out.p50, HW.out.p66, HW.out.p67, HW.out.p75, HW.out.p76⟩
  case hnp => rfl
  case hv => first | exact ⟨_, fun _ => rfl⟩ | exact ⟨undef, fun _ => rfl⟩
  apply obl_priv 149
  case hd => rfl
  case hp => rfl
  case hrun =>
    intro D y wz hW hD R hR
    have HRR := Lib.hid hR
    clear hR
    have HW := Lib.hid hW
    clear hW hD
    go_wp2_with fail
    refine (dips33 _).mono ?_
    rintro e w' ⟨rfl, rfl⟩
    have HN := Lib.hid (HW.out.next ((Below.refl _ wz).alloc (Nat.le_refl _) (.cells exDC 54)))
    go_wp2_with fail
    exact HRR.out _ _ ⟨HN.out.bel, HN.out.p40, HN.out.p45, HN.out.p50, HN.out.p66, HN.out.p67, (fun _ => ⟨_, rfl, heap_alloc_new _ _⟩), HN.out.p76⟩
  apply obl_priv 150
  case hd => rfl
  case hp => rfl
  case hrun =>
    intro D y wz hW hD R hR
    have HRR := Lib.hid hR
    clear hR
    obtain ⟨g, e, hg⟩ := hW.p75 (hD.pre _ 75 rfl (by kernel_rfl))
    rw [e]
    have HG := Lib.hid hg
    have HE := Lib.hid e
    clear e hg
    have HW := Lib.hid hW
    clear hW hD
    have HN := HW
    go_wp2_with fail
    rw [← HE.out]
    exact HRR.out _ _ ⟨HN.out.bel, HN.out.p40, HN.out.p45, HN.out.p50, HN.out.p66, HN.out.p67, HN.out.p75, (fun _ => ⟨g, rfl, HG.out⟩)⟩
  apply obl_det
  case hrun =>
    intro D y wz hW hD R hR
    have HRR := Lib.hid hR
    clear hR
    obtain ⟨g, e, hg⟩ := hW.p76 (hD.pre _ 76 rfl (by kernel_rfl))
    rw [e]
    have c_0 := cell_of_row _ _ 12 _ _ _ hg
    have c_1 := cell_of_row _ _ 13 _ _ _ hg
    have c_2 := cell_of_row _ _ 14 _ _ _ hg
    have c_3 := cell_of_row _ _ 15 _ _ _ hg
    have HE := Lib.hid e
    clear e hg
    have HW := Lib.hid hW
    clear hW hD
    go_wp2_with fail
    rw [← HE.out]
    exact HRR.out _ ⟨HW.out.bel, HW.out.p40, HW.out.p45, HW.out.p50, HW.out.p66, HW.out.p67, HW.out.p75, HW.out.p76⟩
  case hnp => rfl
  case hv => first | exact ⟨_, fun _ => rfl⟩ | exact ⟨undef, fun _ => rfl⟩
  apply obl_det
  case hrun =>
    intro D y wz hW hD R hR
    have HRR := Lib.hid hR
    clear hR
    have HW := Lib.hid hW
    clear hW hD
    go_wp2_with fail
    exact HRR.out _ ⟨HW.out.bel, HW.out.p40, HW.out.p45, HW.out.p50, HW.out.p66, HW.out.p67, HW.out.p75, HW.out.p76⟩
  case hnp => rfl
  case hv => first | exact ⟨_, fun _ => rfl⟩ | exact ⟨undef, fun _ => rfl⟩
  apply obl_det
  case hrun =>
    intro D y wz hW hD R hR
    have HRR := Lib.hid hR
    clear hR
    have HW := Lib.hid hW
    clear hW hD
    go_wp2_with fail
    exact HRR.out _ ⟨HW.out.bel, HW.out.p40, HW.out.p45, HW.out.p50, HW.out.p66, HW.out.p67, HW.out.p75, HW.out.p76⟩
  case hnp => rfl
  case hv => first | exact ⟨_, fun _ => rfl⟩ | exact ⟨undef, fun _ => rfl⟩
  apply obl_det
  case hrun =>
    intro D y wz hW hD R hR
    have HRR := Lib.hid hR
    clear hR
    have HW := Lib.hid hW
    clear hW hD
    go_wp2_with fail
    exact HRR.out _ ⟨HW.out.bel, HW.out.p40, HW.out.p45, HW.out.p50, HW.out.p66, HW.out.p67, HW.out.p75, HW.out.p76⟩
  case hnp => rfl
  case hv => first | exact ⟨_, fun _ => rfl⟩ | exact ⟨undef, fun _ => rfl⟩
  apply obl_nil
  intro D y w8 hall hW
  have HE : Hid (Below w.heap.size w w8) := HB.out.trans (hW.bel.mono HB.out.size)
  clear hW hall
  go_wp2_with fail
  go_ret
  exact ⟨rfl, HE.out⟩
end Go.Proofs.YtpkggjobdmchlaaGreatDoor
