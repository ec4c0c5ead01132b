/- stearinref07: Content, Left, Keeps. -/
import Derived.Test.YtaigbhhmmdfdcaaY7
import Derived.Test.YtaigbhhmmdfdcaaP7
namespace Go.Proofs.Ytaigbhhmmdfdcaa
open Go.RowKit
set_option maxHeartbeats 4000000 in
/-- Content -/
theorem content_ref (s : Shop) (l : List Bat) (vt vl v : Value) (w : World) (hv : ShopAt w.heap.size w vt vl s) (hl' : BatsIn w.heap.size w v l) :
    Calls Try.prog 20 #[.agg #[vt, vl], v] w (RetTable (contentV s l) (batchesE s l) w) := by
  unfold RetTable
  have HS := Lib.hid hv
  have HL := Lib.hid hl'
  obtain ⟨ta, tc, rfl, -, -⟩ := sl_shape hv.1
  obtain ⟨la, lc, rfl, -, -⟩ := sl_shape hv.2
  obtain ⟨a, c, rfl, hlc, hlen⟩ := sl_shape hl'
  clear hv hl'
  have C0 : Hid (Bs w [(w.heap.size, .cells #[.slice ta s.things.length tc, .slice la s.lots.length lc] 25)] _) := (Bs.nil w).push _ rfl (.cells #[.slice ta s.things.length tc, .slice la s.lots.length lc] 25)
  have hc0 := C0.out.cell 0 rfl 0
  have hc1 := C0.out.cell 0 rfl 1
  have HG : Hid (batchesE s l = 0 → AllGood s l) := all_good
  have HC : Hid (contentV s l = if batchesE s l ≠ 0 then [] else rangesV s l) := rfl
  have H2 := fun w h1 h2 => Lib.hid (batches_ref s l (.slice ta s.things.length tc) (.slice la s.lots.length lc) (.slice a l.length c) w h1 h2)
  have H3 := fun w h1 h2 h3 => Lib.hid (ranges_ref s l (.slice ta s.things.length tc) (.slice la s.lots.length lc) (.slice a l.length c) w h1 h2 h3)
  generalize contentV s l = CV at *
  generalize batchesE s l = E at *
  go_enter Try.func20, Try.ntmps20
  go_wp2_with fail
  refine (H2 _ ((HS.out.below C0.out.bel).mono C0.out.bel.size) ((HL.out.below C0.out.bel).mono C0.out.bel.size)).out.mono ?_
  rintro e w1 ⟨rfl, hb⟩
  have C1 := Lib.hid (C0.out.call hb)
  clear hb C0 hc0 hc1 H2
  by_cases hE : E = 0
  case neg =>
    have hq : (E != 0) = true := by simpa using hE
    have HZ : Hid (CV = []) := by unfold Hid; rw [HC.out, if_pos hE]
    clear hE HG HC H3
    go_wp2_with fail
    go_ret2
    exact ⟨_, rfl, by rw [HZ.out]; exact SlIn.nil _ _, C1.out.bel⟩
  subst hE
  have HGD := Lib.hid (HG.out rfl)
  have HZ : Hid (CV = rangesV s l) := by unfold Hid; rw [HC.out, if_neg (fun h => h rfl)]
  clear HG HC
  have hc0 := C1.out.cell 0 rfl 0
  have hc1 := C1.out.cell 0 rfl 1
  go_wp2_with fail
  refine (H3 _ ((HS.out.below C1.out.bel).mono C1.out.bel.size) ((HL.out.below C1.out.bel).mono C1.out.bel.size) HGD.out).out.mono ?_
  rintro e w2 ⟨tv, rfl, hi, hb⟩
  have C2 := Lib.hid (C1.out.call hb)
  have HI := Lib.hid hi
  clear hb hi C1 hc0 hc1 H3
  go_wp2_with fail
  go_ret2
  exact ⟨_, rfl, by rw [HZ.out]; exact HI.out, C2.out.bel⟩
set_option maxRecDepth 100000 in
set_option maxHeartbeats 8000000 in
/-- Left -/
theorem left_ref (s : Shop) (l : List Bat) (vt vl v : Value) (w : World) (hv : ShopAt w.heap.size w vt vl s) (hl' : BatsIn w.heap.size w v l) :
    Calls Try.prog 23 #[.agg #[vt, vl], v] w (RetInts (leftV s l) (batchesE s l) w) := by
  unfold RetInts
  have HS := Lib.hid hv
  have HL := Lib.hid hl'
  obtain ⟨ta, tc, rfl, -, -⟩ := sl_shape hv.1
  obtain ⟨la, lc, rfl, -, -⟩ := sl_shape hv.2
  obtain ⟨a, c, rfl, hlc, hlen⟩ := sl_shape hl'
  clear hv hl'
  have C0 : Hid (Bs w [(w.heap.size, .cells #[.slice ta s.things.length tc, .slice la s.lots.length lc] 25)] _) := (Bs.nil w).push _ rfl (.cells #[.slice ta s.things.length tc, .slice la s.lots.length lc] 25)
  have hc0 := C0.out.cell 0 rfl 0
  have hc1 := C0.out.cell 0 rfl 1
  have HG : Hid (batchesE s l = 0 → AllGood s l) := all_good
  have HC : Hid (leftV s l = if batchesE s l ≠ 0 then [] else (List.range l.length).map (leftK l)) := rfl
  have H2 := fun w h1 h2 => Lib.hid (batches_ref s l (.slice ta s.things.length tc) (.slice la s.lots.length lc) (.slice a l.length c) w h1 h2)
  generalize leftV s l = CV at *
  generalize batchesE s l = E at *
  go_enter Try.func23, Try.ntmps23
  go_wp2_with fail
  refine (H2 _ ((HS.out.below C0.out.bel).mono C0.out.bel.size) ((HL.out.below C0.out.bel).mono C0.out.bel.size)).out.mono ?_
  rintro e w1 ⟨rfl, hb⟩
  have C1 := Lib.hid (C0.out.call hb)
  clear hb C0 hc0 hc1 H2
  by_cases hE : E = 0
  case neg =>
    have hq : (E != 0) = true := by simpa using hE
    have HZ : Hid (CV = []) := by unfold Hid; rw [HC.out, if_pos hE]
    clear hE HG HC
    go_wp2_with fail
    go_ret2
    exact ⟨_, rfl, by rw [HZ.out]; exact IntsIn.nil _ _, C1.out.bel⟩
  subst hE
  have HGD := Lib.hid (HG.out rfl)
  have HZ : Hid (CV = (List.range l.length).map (leftK l)) := by unfold Hid; rw [HC.out, if_neg (fun h => h rfl)]
  have hn6 := HGD.out.n6
  clear HG HC
  obtain ⟨B, hB⟩ : ∃ B, w1.heap.size = B := ⟨_, rfl⟩
  have HB0 : Hid (Below B w1 w1) := Below.refl _ _
  have HBW : Hid (w1.heap.size = B) := hB
  clear hB
  go_wp2_with fail
  go_loopw [7, 8] (fun tx kv wr => ∃ (k : Nat) (tv : Value), tv = tx ∧ kv = .int .i64 k ∧ k ≤ l.length ∧ Below B w1 wr ∧ B ≤ wr.heap.size ∧ wr.ownsRow B 3 1 tv k (((List.range k).map (leftK l)).map (Value.int .i64))) (fun _ kv _ => l.length - (intOf kv).toNat)
  case atStart => exact ⟨0, _, rfl, rfl, by omega, HB0.out, Nat.le_of_eq HBW.out.symm, World.ownsRow_nil _ _ 3 1⟩
  case round =>
    clear HB0
    obtain ⟨k, tv, rfl, rfl, hk, hb, hle, hT⟩ := hrel
    have HB := Lib.hid hb
    have HT := Lib.hid hT
    have HLE := Lib.hid hle
    clear hb hT hle
    have HB1 : Hid (Below w1.heap.size w1 wr) := HB.out.mono (Nat.le_of_eq HBW.out)
    have HBA : Hid (Below w.heap.size w wr) := C1.out.bel.trans (HB1.out.mono C1.out.bel.size)
    by_cases hkl : k < l.length
    · have HGO := Lib.hid ((bat_ok0 (batchE_zero (HGD.out.pre k hkl)).1).gramsOk HGD.out.sh.nl6 (show k ≤ 6 by omega))
      have HKB := Lib.hid (leftK_bounds HGD.out hkl)
      have HLK : Hid (weightV (l.getD k default) - takenV l k l.length = leftK l k) := rfl
      have HBK : Hid (∀ j, j < l.length → ∀ t, 0 ≤ (l.getD j default).back.getD t 0 ∧ (l.getD j default).back.getD t 0 ≤ 100000) := fun j hj t => (bat_ok0 (batchE_zero (HGD.out.pre j hj)).1).back t
      have hkb := HKB.out
      obtain ⟨b, o, he, hbb, vg, vb, va, hd1, hd2, hd3, hat⟩ := HL.out.at' hkl
      cases he
      have hd1 := (HBA.out.cell (p := ⟨b, o + k * 3, none⟩) hbb).trans hd1
      have hd2 := (HBA.out.cell (p := ⟨b, o + k * 3 + 1, none⟩) hbb).trans hd2
      have hd3 := (HBA.out.cell (p := ⟨b, o + k * 3 + 2, none⟩) hbb).trans hd3
      have HAT := Lib.hid ((hat.below HBA.out).mono HBA.out.size)
      obtain ⟨e1, f1, rfl, -⟩ := hat.1
      obtain ⟨e2, f2, rfl, -⟩ := hat.2.1
      obtain ⟨e3, f3, rfl, -⟩ := sl_shape hat.2.2
      clear hat hbb
      have HW := Lib.hid (weight_ref (l.getD k default) _ _ _ wr HAT.out HGO.out.1 HGO.out.2)
      have HTK := fun w h => Lib.hid (taken_ref l k l.length (.slice (some ⟨b, o, none⟩) l.length c) w h (Nat.le_refl _) hn6 HBK.out)
      have HSN : Hid (((List.range k).map (leftK l)).map (Value.int .i64) ++ [.int .i64 (leftK l k)] = ((List.range (k + 1)).map (leftK l)).map (Value.int .i64)) := by unfold Hid; rw [List.range_succ, List.map_append, List.map_append]; rfl
      generalize weightV (l.getD k default) = WT at *
      generalize takenV l k l.length = TK at *
      generalize (l.getD k default).grams.length = m1 at *
      generalize (l.getD k default).back.length = m2 at *
      generalize (l.getD k default).added.length = m3 at *
      generalize leftK l k = LK at *
      have hlk := HLK.out
      have hki : (k : Int) < (l.length : Int) := by omega
      go_wp2_with fail
      refine HW.out.mono ?_
      rintro e w2 ⟨rfl, hb⟩
      have HB2 := Lib.hid (HB.out.trans (hb.mono HLE.out))
      have HBA2 := Lib.hid (HBA.out.trans (hb.mono HBA.out.size))
      have HT2 := Lib.hid (ownsRow.below HT.out hb)
      have HLE2 : Hid (B ≤ w2.heap.size) := Nat.le_trans HLE.out hb.size
      clear hb hd1 hd2 hd3 HW HAT
      go_wp2_with fail
      refine (HTK _ ((HL.out.below HBA2.out).mono HBA2.out.size)).out.mono ?_
      rintro e w' ⟨rfl, rfl⟩
      obtain ⟨i0, hi0, hz0, hz1, hz2⟩ := info3'
      have HI0 := Lib.hid hi0
      have HZ0 := Lib.hid hz0
      have HZ1 := Lib.hid hz1
      have HZ2 := Lib.hid hz2
      clear hi0 hz0 hz1 hz2
      have HT1 := Lib.hid (HT2.out.alloc (.cells #[.int .i64 LK] 3))
      have HNW2 := Lib.hid (heap_alloc_new w2 (.cells #[.int .i64 LK] 3))
      have HLE1 : Hid (B ≤ (w2.alloc (.cells #[.int .i64 LK] 3)).heap.size) := Nat.le_trans HLE2.out (ba_allocB w2 _).size
      have HBn : Hid (Below B w1 (w2.alloc (.cells #[.int .i64 LK] 3))) := HB2.out.trans ((ba_allocB w2 _).mono HLE2.out)
      go_wp2_with (at_builtin; refine wpList_append_own _ rfl _ _ 36 rfl B 3 i0 (.int .i64 0) 1 8 Try.underlying36 HI0.out HZ0.out HZ1.out HZ2.out rfl (by decide) _ _ _ rfl HT1.out ⟨w2.heap.size, 0, none⟩ 1 1 [.int .i64 LK] rfl rfl (cell_news _ _ _ _ HNW2.out) (one_int _) (by unfold maxLen; omega) (by omega) HLE1.out ?_; intro v' w12 hown12 hgrow12 _; have HBZ := Lib.hid (HBn.out.trans (grown_below HT1.out hgrow12 (Nat.le_refl _) HLE1.out)); have HLE3 : Hid (B ≤ w12.heap.size) := Nat.le_trans HLE1.out (grown_below HT1.out hgrow12 (Nat.le_refl _) HLE1.out).size; have HTN := Lib.hid hown12; rw [HSN.out] at HTN; clear hown12 hgrow12 HT1 HNW2)
      refine ⟨⟨k + 1, _, rfl, by push_cast; rfl, by omega, HBZ.out, HLE3.out, HTN.out⟩, ?_⟩
      simp [intOf]; omega
    · obtain rfl : k = l.length := by omega
      have HTF : Hid (IntsIn .i64 wr.heap.size wr tv ((List.range l.length).map (leftK l))) := OwnInts.ints (base := B) (by unfold OwnInts; simpa using HT.out) (by simp; omega)
      go_wp2_with fail
      go_ret2
      exact ⟨_, rfl, by rw [HZ.out]; exact HTF.out, HBA.out⟩
end Go.Proofs.Ytaigbhhmmdfdcaa
