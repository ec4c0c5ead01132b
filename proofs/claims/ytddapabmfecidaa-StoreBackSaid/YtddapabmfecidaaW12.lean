/- season.open: the error of a season and a way, the first of those that Check names and those of the way. -/
import Derived.Test.YtddapabmfecidaaW11
import Derived.Test.YtddapabmfecidaaRegIn
namespace Go.Proofs.Ytddapabmfecidaa
open Go.RowKit

/-- The error of a season and a way. -/
def openE (s : Sea) (way : List Int) : Int := if (checkV s).2.2 = 0 then wayE s way else (checkV s).2.2
/-- A season that is in order has stores. -/
theorem ok_stores {s : Sea} (h : (checkV s).2.2 = 0) : 0 < s.stores.length ∧ s.stores.length ≤ 3 := by
  unfold checkV at h
  split at h
  · simp at h
  · split at h
    · simp at h
    · rename_i h1
      unfold outB outOne at h1
      simp at h1
      omega

structure OW (w wr : World) (S T : Array Value) : Prop where
  b0 : wr.heap[w.heap.size]? = some (.cells S 31)
  b1 : wr.heap[w.heap.size + 1]? = some (.cells T 75)
  bel : Below w.heap.size w wr
theorem OW.mk2 (w : World) (S C : Array Value) : OW w ((w.alloc (.cells S 31)).alloc (.cells C 75)) S C :=
  ⟨heap_alloc2_old _ _ _, heap_alloc2_new _ _ _, ((Below.refl _ _).alloc (Nat.le_refl _) _).alloc (by simp) _⟩
theorem OW.alloc {w wr : World} {S C : Array Value} (h : OW w wr S C) (o : Obj) : OW w (wr.alloc o) S C :=
  ⟨(heap_alloc_old wr o (block_lt h.b0)).trans h.b0, (heap_alloc_old wr o (block_lt h.b1)).trans h.b1, h.bel.alloc h.bel.size o⟩
theorem OW.call {w wr w' : World} {S C : Array Value} (h : OW w wr S C) (hb : Below wr.heap.size wr w') : OW w w' S C :=
  ⟨block_keep h.b0 hb, block_keep h.b1 hb, h.bel.trans (hb.mono h.bel.size)⟩
theorem OW.setRow {w wr : World} {S C : Array Value} (h : OW w wr S C) (C' : Array Value) : OW w (wr.setRow (w.heap.size + 1) C') S C' :=
  ⟨(setRow_other wr _ _ _ (by omega)).trans h.b0, setRow_heap _ _ _ _ _ _ h.b1, below_setRow h.bel (by omega) _⟩
theorem info75 : (Try.prog.info? 75).map (·.size) = some 6 := by kernel_rfl

set_option maxRecDepth 100000 in
set_option maxHeartbeats 4000000 in
theorem open_any (s : Sea) (vs wv : Value) (way : List Int) (w : World) (hv : StosIn w.heap.size w vs s.stores) (hw : IntsIn .i64 w.heap.size w wv way) :
    Calls Try.prog 33 #[.agg #[.int .i64 s.bend, .int .i64 s.days, .int .i64 s.jump, .int .i64 s.times, .int .i64 s.move, vs], wv] w
      fun e w' => e = .returned (.tuple #[.agg #[.int .i64 s.bend, .int .i64 s.days, .int .i64 s.jump, .int .i64 s.times, .int .i64 s.move, vs], .int .i64 (openE s way)]) ∧ Below w.heap.size w w' := by
  have HV := Lib.hid hv
  have HWV := Lib.hid hw
  obtain ⟨a, c, rfl, hll, -⟩ := hv
  obtain ⟨aw, cw, rfl, hwl, -⟩ := hw
  obtain ⟨e, he⟩ : ∃ e, (checkV s).2.2 = e := ⟨_, rfl⟩
  have HE : Hid (openE s way = if e = 0 then wayE s way else e) := by unfold Hid openE; rw [he]
  have HC := Lib.hid he
  have C0 : Hid (OW w ((w.alloc (.cells #[.int .i64 s.bend, .int .i64 s.days, .int .i64 s.jump, .int .i64 s.times, .int .i64 s.move, .slice a s.stores.length c] 31)).alloc (.cells #[.int .i64 s.bend, .int .i64 s.days, .int .i64 s.jump, .int .i64 s.times, .int .i64 s.move, .slice a s.stores.length c] 75)) _ _) := OW.mk2 w _ _
  clear he
  by_cases hz : e = 0
  · subst hz
    have HE0 : Hid (openE s way = wayE s way) := by unfold Hid; rw [HE.out, if_pos rfl]
    clear HE
    have hst := ok_stores HC.out
    have HL1 := Lib.hid hst.1
    clear hst
    obtain ⟨r1, hr1⟩ : ∃ r, outB 1 s.len [(way.length : Int)] = r := ⟨_, rfl⟩
    have HR1 := Lib.hid hr1
    have hi1 : inB way.length 1 s.len = !r1 := by rw [inB_out, hr1]
    have HI1 := Lib.hid hi1
    clear hr1 hi1
    cases r1
    · have HE1 : Hid (openE s way = if outB 0 ((s.stores.length : Int) - 1) way then 4 else 0) := by unfold Hid; rw [HE0.out]; unfold wayE; rw [HI1.out]; rfl
      obtain ⟨r2, hr2⟩ : ∃ r, outB 0 ((s.stores.length : Int) - 1) way = r := ⟨_, rfl⟩
      have HR2 := Lib.hid hr2
      clear hr2
      cases r2
      · have HZ : Hid (openE s way = 0) := by unfold Hid; rw [HE1.out, HR2.out]; rfl
        go_enter Try.func33, Try.ntmps33
        go_wp2_with fail
        refine (checkS_any s _ _ ((HV.out.below C0.out.bel).mono C0.out.bel.size)).mono ?_
        rintro e w1 ⟨rfl, hbw⟩
        have hC1 : Hid (OW w w1 _ _) := C0.out.call hbw
        clear hbw
        rw [HC.out]
        have r1 := hC1.out.b1
        have c1 := fun i => cell_of_row w1 _ i _ _ _ r1
        go_wp2_with fail
        refine (seaDays_any s _ _ ((HV.out.below hC1.out.bel).mono hC1.out.bel.size) HL1.out).mono ?_
        rintro e w2 ⟨rfl, hbw⟩
        have hC2 : Hid (OW w w2 _ _) := hC1.out.call hbw
        clear hbw c1 r1
        have r2 := hC2.out.b1
        have c2 := fun i => cell_of_row w2 _ i _ _ _ r2
        go_wp2_with fail
        refine (out_r _ 1 s.len _ HR1.out _ _ _ (intsIn_new' w2 _ rfl [(way.length : Int)] (by simp) 1 rfl) (Nat.le_refl _)).mono ?_
        rintro e w3 ⟨rfl, hbw⟩
        have hC3 : Hid (OW w w3 _ _) := (hC2.out.alloc _).call hbw
        clear hbw c2 r2
        have r3 := hC3.out.b1
        have c3 := fun i => cell_of_row w3 _ i _ _ _ r3
        go_wp2_with fail
        refine (out_r _ 0 ((s.stores.length : Int) - 1) _ HR2.out _ _ _ ((HWV.out.below hC3.out.bel).mono hC3.out.bel.size) (Nat.le_refl _)).mono ?_
        rintro e w4 ⟨rfl, hbw⟩
        have hC4 : Hid (OW w w4 _ _) := hC3.out.call hbw
        clear hbw c3 r3
        go_wp2_with (refine wpList_load_row rfl 75 _ rfl _ rfl _ _ _ _ hC4.out.b1 Try.underlying75 rfl info75 ?_; refine wpList_store_row rfl 75 _ _ rfl _ #[.int .i64 s.bend, .int .i64 s.days, .int .i64 s.jump, .int .i64 s.times, .int .i64 s.move, .slice a s.stores.length c] rfl rfl _ _ hC4.out.b1 info75 rfl (by simp [Value.oneCell']) ?_)
        have hF := hC4.out.setRow #[.int .i64 s.bend, .int .i64 s.days, .int .i64 s.jump, .int .i64 s.times, .int .i64 s.move, .slice a s.stores.length c]
        refine bodyPost_ret (v := .tuple #[.agg #[.int .i64 s.bend, .int .i64 s.days, .int .i64 s.jump, .int .i64 s.times, .int .i64 s.move, .slice a s.stores.length c], .int .i64 (openE s way)]) ?_ rfl ⟨rfl, hF.bel⟩
        rw [results_cell_tmp (fn := Try.f33) rfl, HZ.out]
        have hl := run_loadVar_row (P := Try.prog) _ _ _ 75 _ _ _ hF.b1 Try.underlying75 rfl info75
        simp only [asAddr]
        simp [hl]
      · have HZ : Hid (openE s way = 4) := by unfold Hid; rw [HE1.out, HR2.out]; rfl
        go_enter Try.func33, Try.ntmps33
        go_wp2_with fail
        refine (checkS_any s _ _ ((HV.out.below C0.out.bel).mono C0.out.bel.size)).mono ?_
        rintro e w1 ⟨rfl, hbw⟩
        have hC1 : Hid (OW w w1 _ _) := C0.out.call hbw
        clear hbw
        rw [HC.out]
        have r1 := hC1.out.b1
        have c1 := fun i => cell_of_row w1 _ i _ _ _ r1
        go_wp2_with fail
        refine (seaDays_any s _ _ ((HV.out.below hC1.out.bel).mono hC1.out.bel.size) HL1.out).mono ?_
        rintro e w2 ⟨rfl, hbw⟩
        have hC2 : Hid (OW w w2 _ _) := hC1.out.call hbw
        clear hbw c1 r1
        have r2 := hC2.out.b1
        have c2 := fun i => cell_of_row w2 _ i _ _ _ r2
        go_wp2_with fail
        refine (out_r _ 1 s.len _ HR1.out _ _ _ (intsIn_new' w2 _ rfl [(way.length : Int)] (by simp) 1 rfl) (Nat.le_refl _)).mono ?_
        rintro e w3 ⟨rfl, hbw⟩
        have hC3 : Hid (OW w w3 _ _) := (hC2.out.alloc _).call hbw
        clear hbw c2 r2
        have r3 := hC3.out.b1
        have c3 := fun i => cell_of_row w3 _ i _ _ _ r3
        go_wp2_with fail
        refine (out_r _ 0 ((s.stores.length : Int) - 1) _ HR2.out _ _ _ ((HWV.out.below hC3.out.bel).mono hC3.out.bel.size) (Nat.le_refl _)).mono ?_
        rintro e w4 ⟨rfl, hbw⟩
        have hC4 : Hid (OW w w4 _ _) := hC3.out.call hbw
        clear hbw c3 r3
        go_wp2_with (refine wpList_load_row rfl 75 _ rfl _ rfl _ _ _ _ hC4.out.b1 Try.underlying75 rfl info75 ?_; refine wpList_store_row rfl 75 _ _ rfl _ #[.int .i64 s.bend, .int .i64 s.days, .int .i64 s.jump, .int .i64 s.times, .int .i64 s.move, .slice a s.stores.length c] rfl rfl _ _ hC4.out.b1 info75 rfl (by simp [Value.oneCell']) ?_)
        have hF := hC4.out.setRow #[.int .i64 s.bend, .int .i64 s.days, .int .i64 s.jump, .int .i64 s.times, .int .i64 s.move, .slice a s.stores.length c]
        refine bodyPost_ret (v := .tuple #[.agg #[.int .i64 s.bend, .int .i64 s.days, .int .i64 s.jump, .int .i64 s.times, .int .i64 s.move, .slice a s.stores.length c], .int .i64 (openE s way)]) ?_ rfl ⟨rfl, hF.bel⟩
        rw [results_cell_tmp (fn := Try.f33) rfl, HZ.out]
        have hl := run_loadVar_row (P := Try.prog) _ _ _ 75 _ _ _ hF.b1 Try.underlying75 rfl info75
        simp only [asAddr]
        simp [hl]
    · have HZ : Hid (openE s way = 3) := by unfold Hid; rw [HE0.out]; unfold wayE; rw [HI1.out]; rfl
      go_enter Try.func33, Try.ntmps33
      go_wp2_with fail
      refine (checkS_any s _ _ ((HV.out.below C0.out.bel).mono C0.out.bel.size)).mono ?_
      rintro e w1 ⟨rfl, hbw⟩
      have hC1 : Hid (OW w w1 _ _) := C0.out.call hbw
      clear hbw
      rw [HC.out]
      have r1 := hC1.out.b1
      have c1 := fun i => cell_of_row w1 _ i _ _ _ r1
      go_wp2_with fail
      refine (seaDays_any s _ _ ((HV.out.below hC1.out.bel).mono hC1.out.bel.size) HL1.out).mono ?_
      rintro e w2 ⟨rfl, hbw⟩
      have hC2 : Hid (OW w w2 _ _) := hC1.out.call hbw
      clear hbw c1 r1
      have r2 := hC2.out.b1
      have c2 := fun i => cell_of_row w2 _ i _ _ _ r2
      go_wp2_with fail
      refine (out_r _ 1 s.len _ HR1.out _ _ _ (intsIn_new' w2 _ rfl [(way.length : Int)] (by simp) 1 rfl) (Nat.le_refl _)).mono ?_
      rintro e w3 ⟨rfl, hbw⟩
      have hC3 : Hid (OW w w3 _ _) := (hC2.out.alloc _).call hbw
      clear hbw c2 r2
      go_wp2_with (refine wpList_load_row rfl 75 _ rfl _ rfl _ _ _ _ hC3.out.b1 Try.underlying75 rfl info75 ?_; refine wpList_store_row rfl 75 _ _ rfl _ #[.int .i64 s.bend, .int .i64 s.days, .int .i64 s.jump, .int .i64 s.times, .int .i64 s.move, .slice a s.stores.length c] rfl rfl _ _ hC3.out.b1 info75 rfl (by simp [Value.oneCell']) ?_)
      have hF := hC3.out.setRow #[.int .i64 s.bend, .int .i64 s.days, .int .i64 s.jump, .int .i64 s.times, .int .i64 s.move, .slice a s.stores.length c]
      refine bodyPost_ret (v := .tuple #[.agg #[.int .i64 s.bend, .int .i64 s.days, .int .i64 s.jump, .int .i64 s.times, .int .i64 s.move, .slice a s.stores.length c], .int .i64 (openE s way)]) ?_ rfl ⟨rfl, hF.bel⟩
      rw [results_cell_tmp (fn := Try.f33) rfl, HZ.out]
      have hl := run_loadVar_row (P := Try.prog) _ _ _ 75 _ _ _ hF.b1 Try.underlying75 rfl info75
      simp only [asAddr]
      simp [hl]
  · have HZ : Hid (openE s way = e) := by unfold Hid; rw [HE.out, if_neg hz]
    go_enter Try.func33, Try.ntmps33
    go_wp2_with fail
    refine (checkS_any s _ _ ((HV.out.below C0.out.bel).mono C0.out.bel.size)).mono ?_
    rintro e w1 ⟨rfl, hbw⟩
    have hC1 : Hid (OW w w1 _ _) := C0.out.call hbw
    clear hbw
    rw [HC.out]
    have hzz : (e != 0) = true := by simpa using hz
    clear hz
    go_wp2_with (first | refine wpList_load_row rfl 75 _ rfl _ rfl _ _ _ _ hC1.out.b1 Try.underlying75 rfl info75 ?_ | refine wpList_store_row rfl 75 _ _ rfl _ #[.int .i64 s.bend, .int .i64 s.days, .int .i64 s.jump, .int .i64 s.times, .int .i64 s.move, .slice a s.stores.length c] rfl rfl _ _ hC1.out.b1 info75 rfl (by simp [Value.oneCell']) ?_)
    have hF := hC1.out.setRow #[.int .i64 s.bend, .int .i64 s.days, .int .i64 s.jump, .int .i64 s.times, .int .i64 s.move, .slice a s.stores.length c]
    refine bodyPost_ret (v := .tuple #[.agg #[.int .i64 s.bend, .int .i64 s.days, .int .i64 s.jump, .int .i64 s.times, .int .i64 s.move, .slice a s.stores.length c], .int .i64 (openE s way)]) ?_ rfl ⟨rfl, hF.bel⟩
    rw [results_cell_tmp (fn := Try.f33) rfl, HZ.out]
    have hl := run_loadVar_row (P := Try.prog) _ _ _ 75 _ _ _ hF.b1 Try.underlying75 rfl info75
    simp only [asAddr]
    simp [hl]
end Go.Proofs.Ytddapabmfecidaa
