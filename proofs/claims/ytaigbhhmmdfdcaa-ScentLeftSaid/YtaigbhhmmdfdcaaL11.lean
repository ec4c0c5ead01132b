/- ScentLeft: the walk. -/
import Derived.Test.YtaigbhhmmdfdcaaCw
import Derived.Test.YtaigbhhmmdfdcaaY5
import Derived.Test.YtaigbhhmmdfdcaaP7
namespace Go.Proofs.Ytaigbhhmmdfdcaa
open Go.RowKit
theorem leftSum_bound {s : Shop} {l : List Bat} (h : AllGood s l) : ∀ k, k ≤ l.length → -(k * 1200000 : Int) ≤ leftSum l k ∧ leftSum l k ≤ k * 600000
  | 0, _ => by simp [leftSum, dot]
  | k + 1, hk => by
    have ih := leftSum_bound h k (by omega)
    have h1 := leftK_bounds h (show k < l.length by omega)
    have hn := h.n6
    have hg := (((bat_ok0 (batchE_zero (h.pre k (by omega))).1).gramsOk h.sh.nl6 (show k ≤ 6 by omega)).1).sum
    have e : leftSum l (k + 1) = leftSum l k + (sumL (l.getD k default).grams - leftK l k) := rfl
    rw [e]
    push_cast
    omega
set_option maxRecDepth 100000 in
set_option maxHeartbeats 8000000 in
theorem left_law (s : Shop) (l : List Bat) (vt vl v : Value) (w : World) (hs : ShopAt w.heap.size w vt vl s) (hl : BatsIn w.heap.size w v l) :
    Calls Try.prog 11 #[.agg #[vt, vl], v] w (fun e w' => e = .returned (.bool true) ∧ Below w.heap.size w w') := by
  have HS := Lib.hid hs
  have HL := Lib.hid hl
  obtain ⟨ta, tc, rfl, -, -⟩ := sl_shape hs.1
  obtain ⟨la, lc, rfl, -, -⟩ := sl_shape hs.2
  obtain ⟨a, c, rfl, hlc, hlen⟩ := sl_shape hl
  clear hs hl
  have C0 : Hid (Bs w [(w.heap.size, .cells #[.slice ta s.things.length tc, .slice la s.lots.length lc] 25)] _) := (Bs.nil w).push _ rfl (.cells #[.slice ta s.things.length tc, .slice la s.lots.length lc] 25)
  have hc0 := C0.out.cell 0 rfl 0
  have hc1 := C0.out.cell 0 rfl 1
  have HG : Hid (batchesE s l = 0 → AllGood s l) := all_good
  have HCB : Hid (batchesE s l ≠ 0 → (leftV s l).length = 0) := fun h => by rw [left_bad h]; rfl
  have HCL : Hid (batchesE s l = 0 → (leftV s l).length = l.length) := left_len
  have HCG : Hid (batchesE s l = 0 → ∀ k, k < l.length → (leftV s l).getD k 0 = leftK l k) := fun h k hk => left_get h hk
  have H1 := fun w h1 h2 => Lib.hid (left_any s l (.slice ta s.things.length tc) (.slice la s.lots.length lc) (.slice a l.length c) w h1 h2)
  have H2 := fun w h1 h2 => Lib.hid (batches_ref s l (.slice ta s.things.length tc) (.slice la s.lots.length lc) (.slice a l.length c) w h1 h2)
  unfold RetInts at H1
  generalize batchesE s l = E at *
  generalize leftV s l = LV at *
  go_enter Try.func11, Try.ntmps11
  go_wp2_with fail
  refine (H1 _ ((HS.out.below C0.out.bel).mono C0.out.bel.size) ((HL.out.below C0.out.bel).mono C0.out.bel.size)).out.mono ?_
  rintro e w1 ⟨tv, rfl, hi, hb⟩
  have C1 := Lib.hid (C0.out.call hb)
  have HT := Lib.hid hi
  clear hb hi C0 hc0 hc1 H1
  obtain ⟨xa, xc, rfl, -⟩ := HT.out
  have hc0 := C1.out.cell 0 rfl 0
  have hc1 := C1.out.cell 0 rfl 1
  go_wp2_with fail
  refine (H2 _ ((HS.out.below C1.out.bel).mono C1.out.bel.size) ((HL.out.below C1.out.bel).mono C1.out.bel.size)).out.mono ?_
  rintro e w2 ⟨rfl, hb⟩
  have C2 := Lib.hid (C1.out.call hb)
  have HT := Lib.hid (IntsIn.next HT.out hb)
  clear hb C1 hc0 hc1 H2
  by_cases hE : E = 0
  case neg =>
    have hq : (E != 0) = true := by simpa using hE
    have hq2 : (E == E) = true := by simp
    have hz := HCB.out hE
    rw [hz]
    clear hE HG HCB HCL HCG hz HT
    go_wp2_with fail
    refine (awake_any _).mono ?_
    rintro e w3 ⟨rfl, hb⟩
    have C3 := Lib.hid (C2.out.call hb)
    clear hb C2
    go_wp2_with fail
    go_ret
    exact ⟨rfl, C3.out.bel⟩
  subst hE
  have hlen2 := HCL.out rfl
  have HGD := Lib.hid (HG.out rfl)
  have HGET := Lib.hid (HCG.out rfl)
  obtain ⟨-, hn1, hn6, -⟩ := HG.out rfl
  have HLL := Lib.hid hlen2
  rw [hlen2] at HT ⊢
  clear HCB HCL HG HCG hlen2
  have hq : ((l.length : Int) != (l.length : Int)) = false := by simp
  go_wp2_with fail
  clear hq
  go_loopw [8, 9] (fun nv kv wr => ∃ k : Nat, nv = .int .i64 (leftSum l k) ∧ kv = .int .i64 k ∧ k ≤ l.length ∧ Below w2.heap.size w2 wr) (fun _ kv _ => l.length - (intOf kv).toNat)
  case atStart => exact ⟨0, rfl, rfl, by omega, Below.refl _ _⟩
  case round =>
    obtain ⟨k, rfl, rfl, hk, hb⟩ := hrel
    have HB := Lib.hid hb
    clear hb
    by_cases hkl : k < l.length
    · have HBO := Lib.hid (bat_ok0 (batchE_zero (HGD.out.pre k hkl)).1)
      have HGO := Lib.hid (HBO.out.gramsOk HGD.out.sh.nl6 (show k ≤ 6 by omega))
      have HKB := Lib.hid (leftK_bounds HGD.out hkl)
      have HSB := Lib.hid (leftSum_bound HGD.out k hk)
      have HSS : Hid (leftSum l k + sumL (l.getD k default).grams - leftK l k = leftSum l (k + 1)) := by
        unfold Hid
        show _ = leftSum l k + (sumL (l.getD k default).grams - leftK l k)
        omega
      obtain ⟨b, o, he, hbb, vg, vb, va, hd1, hd2, hd3, hat⟩ := HL.out.at' hkl
      cases he
      have HBA : Hid (Below w.heap.size w wr) := C2.out.bel.trans (HB.out.mono C2.out.bel.size)
      have HBA2 : Hid (w.heap.size ≤ w2.heap.size) := C2.out.bel.size
      have HD1 : Hid (w.cell? ⟨b, o + k * 3, none⟩ = some vg) := hd1
      have HD2 : Hid (w.cell? ⟨b, o + k * 3 + 1, none⟩ = some vb) := hd2
      have HD3 : Hid (w.cell? ⟨b, o + k * 3 + 2, none⟩ = some va) := hd3
      have HBB := Lib.hid hbb
      have HAT := Lib.hid hat
      obtain ⟨xb, xo, rfl, hxb, hxc⟩ : ∃ xb xo, xa = some ⟨xb, xo, none⟩ ∧ xb < w2.heap.size ∧ w2.cell? ⟨xb, xo + k, none⟩ = some (.int .i64 (LV.getD k 0)) := by
        obtain ⟨a', c', e, -, h⟩ := HT.out
        have hll := HLL.out
        simp only [Value.slice.injEq] at e
        obtain ⟨rfl, -, -⟩ := e
        rcases h with h | ⟨xb, xo, rfl, h1, h2⟩
        · have : LV.length = 0 := by rw [h]; rfl
          omega
        · exact ⟨xb, xo, rfl, h1, h2 k (by omega)⟩
      rw [HGET.out k hkl] at hxc
      have HXB := Lib.hid hxb
      have HXC := Lib.hid hxc
      clear hd1 hd2 hd3 hxb hxc
      obtain ⟨e1, f1, rfl, -, hgc⟩ := hat.1
      obtain ⟨e2, f2, rfl, -⟩ := hat.2.1
      obtain ⟨e3, f3, rfl, -⟩ := sl_shape hat.2.2
      clear hat
      have HWT := fun w => Lib.hid (weight_ref (l.getD k default) (.slice e1 (l.getD k default).grams.length f1) (.slice e2 (l.getD k default).back.length f2) (.slice e3 (l.getD k default).added.length f3) w)
      have HGC := Lib.hid hgc
      have HSU : Hid (sumL (l.getD k default).grams = sumTo (l.getD k default).grams (l.getD k default).grams.length) := rfl
      have HSGB := Lib.hid HGO.out.1.sum
      have hgl6 := HGO.out.1.len
      have HNG : Hid ((l.getD k default).grams.length ≤ 6) := hgl6
      generalize weightV (l.getD k default) = WT at *
      generalize leftK l k = LK at *
      generalize sumL (l.getD k default).grams = SG at *
      generalize leftSum l k = LS at *
      generalize hng : (l.getD k default).grams.length = ng at *
      have HNGE := Lib.hid hng
      generalize (l.getD k default).back.length = nb at *
      generalize (l.getD k default).added.length = na at *
      clear hgc hng
      have hki : (k : Int) < (l.length : Int) := by omega
      go_wp2_with fail
      go_loopw [8, 10] (fun nv iv wr' => ∃ i : Nat, nv = .int .i64 (LS + sumTo (l.getD k default).grams i) ∧ iv = .int .i64 i ∧ i ≤ ng ∧ wr' = wr) (fun _ iv _ => ng - (intOf iv).toNat)
      case atStart => exact ⟨0, by simp [sumTo, dot], rfl, by omega, rfl⟩
      case round =>
        obtain ⟨i, rfl, rfl, hi, rfl⟩ := hrel
        have hd1 := (HBA.out.cell (p := ⟨b, o + k * 3, none⟩) HBB.out).trans HD1.out
        by_cases hin : i < ng
        · obtain ⟨gb, go, rfl, hgb, hgcell⟩ := HGC.out.resolve_left (by intro h; have := HNGE.out; rw [h] at this; simp at this; omega)
          have hx := (HBA.out.cell (p := ⟨gb, go + i, none⟩) hgb).trans (hgcell i (by omega))
          have hxb := HGO.out.1.at' i
          have hsb := HGO.out.1.to i (by omega)
          have hls := HSB.out
          have HST : Hid (LS + sumTo (l.getD k default).grams i + (l.getD k default).grams.getD i 0 = LS + sumTo (l.getD k default).grams (i + 1)) := by
            unfold Hid
            show _ = LS + (sumTo (l.getD k default).grams i + (l.getD k default).grams.getD i 0)
            omega
          clear hgcell
          generalize (l.getD k default).grams.getD i 0 = x at *
          generalize sumTo (l.getD k default).grams i = si at *
          go_wp2_with fail
          refine ⟨⟨i + 1, by rw [HST.out], by push_cast; rfl, by omega, trivial⟩, ?_⟩
          simp [intOf]; omega
        · obtain rfl : i = ng := by omega
          have HSE : Hid (sumTo (l.getD k default).grams i = SG) := by unfold Hid; rw [HSU.out]
          rw [HSE.out]
          have hx := (HB.out.cell (p := ⟨xb, xo + k, none⟩) HXB.out).trans HXC.out
          have hkb := HKB.out
          have hls := HSB.out
          have hsg := HSGB.out
          have HX := Lib.hid hx
          have HXB2 : Hid (xb < wr.heap.size) := Nat.lt_of_lt_of_le HXB.out HB.out.size
          have HD1' : Hid (wr.cell? ⟨b, o + k * 3, none⟩ = _) := hd1
          have HD2' : Hid (wr.cell? ⟨b, o + k * 3 + 1, none⟩ = _) := (HBA.out.cell (p := ⟨b, o + k * 3 + 1, none⟩) HBB.out).trans HD2.out
          have HD3' : Hid (wr.cell? ⟨b, o + k * 3 + 2, none⟩ = _) := (HBA.out.cell (p := ⟨b, o + k * 3 + 2, none⟩) HBB.out).trans HD3.out
          have HBB2 : Hid (b < wr.heap.size) := Nat.lt_of_lt_of_le HBB.out HBA.out.size
          go_wp2_with fail
          clear hx hd1
          refine wp_region_inv0 (by kernel_rfl) (by kernel_rfl) (fun D w' => Below wr.heap.size wr w') (Below.refl _ _).drew ?_
          iterate 14
            (apply obl_det
             case hrun =>
               intro D y wz hW hD R hR
               have HRR := Lib.hid hR
               clear hR
               have HW := Lib.hid hW
               have hd1 := (HW.out.cell (p := ⟨b, o + k * 3, none⟩) HBB2.out).trans HD1'.out
               have hd2 := (HW.out.cell (p := ⟨b, o + k * 3 + 1, none⟩) HBB2.out).trans HD2'.out
               have hd3 := (HW.out.cell (p := ⟨b, o + k * 3 + 2, none⟩) HBB2.out).trans HD3'.out
               have hx := (HW.out.cell (p := ⟨xb, xo + k, none⟩) HXB2.out).trans HX.out
               clear hW hD
               go_wp2_with fail
               exact HRR.out _ HW.out
             case hnp => rfl
             case hv => first | exact ⟨_, fun _ => rfl⟩ | exact ⟨undef, fun _ => rfl⟩)
          apply obl_det
          case hrun =>
            intro D y wz hW hD R hR
            have HRR := Lib.hid hR
            clear hR
            have HW := Lib.hid hW
            have hd1 := (HW.out.cell (p := ⟨b, o + k * 3, none⟩) HBB2.out).trans HD1'.out
            have hd2 := (HW.out.cell (p := ⟨b, o + k * 3 + 1, none⟩) HBB2.out).trans HD2'.out
            have hd3 := (HW.out.cell (p := ⟨b, o + k * 3 + 2, none⟩) HBB2.out).trans HD3'.out
            have hx := (HW.out.cell (p := ⟨xb, xo + k, none⟩) HXB2.out).trans HX.out
            clear hW hD
            go_wp2_with fail
            refine ((HWT _).out ((HAT.out.below (HBA.out.trans (HW.out.mono HBA.out.size))).mono (Nat.le_trans HBA.out.size HW.out.size)) HGO.out.1 HGO.out.2).mono ?_
            rintro e w' ⟨rfl, hb⟩
            have HW2 := Lib.hid (HW.out.trans (hb.mono HW.out.size))
            clear hb
            go_wp2_with fail
            exact HRR.out _ HW2.out
          case hnp => rfl
          case hv => first | exact ⟨_, fun _ => rfl⟩ | exact ⟨undef, fun _ => rfl⟩
          iterate 2
            (apply obl_det
             case hrun =>
               intro D y wz hW hD R hR
               have HRR := Lib.hid hR
               clear hR
               have HW := Lib.hid hW
               have hd1 := (HW.out.cell (p := ⟨b, o + k * 3, none⟩) HBB2.out).trans HD1'.out
               have hd2 := (HW.out.cell (p := ⟨b, o + k * 3 + 1, none⟩) HBB2.out).trans HD2'.out
               have hd3 := (HW.out.cell (p := ⟨b, o + k * 3 + 2, none⟩) HBB2.out).trans HD3'.out
               have hx := (HW.out.cell (p := ⟨xb, xo + k, none⟩) HXB2.out).trans HX.out
               clear hW hD
               go_wp2_with fail
               exact HRR.out _ HW.out
             case hnp => rfl
             case hv => first | exact ⟨_, fun _ => rfl⟩ | exact ⟨undef, fun _ => rfl⟩)
          apply obl_nil
          intro D y w8 hall hW
          have HB2 := Lib.hid (HB.out.trans (hW.mono HB.out.size))
          clear hall hW
          go_wp2_with fail
          refine ⟨⟨k + 1, by rw [HSS.out], by push_cast; rfl, by omega, HB2.out⟩, ?_⟩
          simp [intOf]; omega
    · obtain rfl : k = l.length := by omega
      have HZ := Lib.hid (left_all HGD.out)
      rw [HZ.out]
      have C3 := Lib.hid (C2.out.call HB.out)
      go_wp2_with fail
      refine (awake_any _).mono ?_
      rintro e w3 ⟨rfl, hb⟩
      have C4 := Lib.hid (C3.out.call hb)
      clear hb
      go_wp2_with fail
      go_ret
      exact ⟨rfl, C4.out.bel⟩
end Go.Proofs.Ytaigbhhmmdfdcaa
