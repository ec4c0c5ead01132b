/- stearinref07.Check. -/
import Derived.Test.YtaigbhhmmdfdcaaK8
namespace Go.Proofs.Ytaigbhhmmdfdcaa
open Go.RowKit
/-- A row of strings reads as a list. -/
theorem ownsRow_strs {w : World} {base : Nat} {v : Value} {l : List ByteArray} (h : w.ownsRow base 9 1 v l.length (l.map Value.string)) (hl : l.length ≤ 1000) : SlIn rdStr w.heap.size w v l := by
  obtain ⟨_, h⟩ := h
  rcases h with ⟨rfl, h0⟩ | ⟨g, cap, cur, rfl, hb, hg, hn, hm, hc, ht⟩
  · have : l = [] := List.eq_nil_of_length_eq_zero h0
    subst this
    exact ⟨none, 0, rfl, by simp, by simp, .inl rfl⟩
  · refine ⟨_, cap, rfl, by omega, hn, .inr ⟨g, 0, rfl, block_lt hg, fun i hi => ?_⟩⟩
    show w.cell? _ = _
    rw [cell_of_row w g _ _ _ _ hg, Nat.zero_add, rdStr, Nat.mul_one]
    have e : (cur.toList.take (l.length * 1))[i]? = (l.map Value.string)[i]? := by rw [ht]
    rw [List.getElem?_take, if_pos (by omega), List.getElem?_map, List.getElem?_eq_getElem hi] at e
    rw [← Array.getElem?_toList, e, List.getD_eq_getElem?_getD, List.getElem?_eq_getElem hi]; rfl
theorem info9' : ∃ i, Try.prog.info? 9 = some i ∧ i.zero = some (.string ByteArray.empty) ∧ i.size = 1 ∧ i.bytes = 16 := by
  obtain ⟨i, h1, h2⟩ := Option.map_eq_some_iff.1 (show (Try.prog.info? 9).map (fun i => (i.zero, i.size, i.bytes)) = some (some (.string ByteArray.empty), 1, 16) by kernel_rfl)
  simp only [Prod.mk.injEq] at h2
  exact ⟨i, h1, h2⟩
theorem one_str (x : ByteArray) : ∀ u ∈ [Value.string x], u.oneCell' = true := fun u hu => by simp at hu; subst hu; rfl
def namesT (s : Shop) (k : Nat) : List ByteArray := (s.things.take k).map (·.name)
def namesL (s : Shop) (k : Nat) : List ByteArray := (s.lots.take k).map (·.name)
theorem namesT_snoc (s : Shop) {k : Nat} (hk : k < s.things.length) : namesT s (k + 1) = namesT s k ++ [(s.things.getD k default).name] := by
  unfold namesT; rw [take_snoc _ k hk default, List.map_append]; rfl
theorem namesL_snoc (s : Shop) {k : Nat} (hk : k < s.lots.length) : namesL s (k + 1) = namesL s k ++ [(s.lots.getD k default).name] := by
  unfold namesL; rw [take_snoc _ k hk default, List.map_append]; rfl
theorem namesT_len (s : Shop) {k : Nat} (hk : k ≤ s.things.length) : (namesT s k).length = k := by unfold namesT; simp; omega
theorem namesL_len (s : Shop) {k : Nat} (hk : k ≤ s.lots.length) : (namesL s k).length = k := by unfold namesL; simp; omega
theorem thingEs_drop (s : Shop) {k : Nat} (hk : k < s.things.length) (i : Int) : findE ((thingEs s).drop k) i = if thingE (s.things.take k) (s.things.getD k default) = 0 then findE ((thingEs s).drop (k + 1)) (i + 1) else (i, thingE (s.things.take k) (s.things.getD k default)) := by
  rw [findE_drop _ k (by simpa [thingEs] using hk)]
  have e : (thingEs s).getD k 0 = thingE (s.things.take k) (s.things.getD k default) := by simp [thingEs, List.getD, hk]
  rw [e]
theorem lotEs_drop (s : Shop) {k : Nat} (hk : k < s.lots.length) (i : Int) : findE ((lotEs s).drop k) i = if lotE s.things.length (s.lots.take k) (s.lots.getD k default) = 0 then findE ((lotEs s).drop (k + 1)) (i + 1) else (i, lotE s.things.length (s.lots.take k) (s.lots.getD k default)) := by
  rw [findE_drop _ k (by simpa [lotEs] using hk)]
  have e : (lotEs s).getD k 0 = lotE s.things.length (s.lots.take k) (s.lots.getD k default) := by simp [lotEs, List.getD, hk]
  rw [e]
theorem lotE_two (many : Nat) (bef : List Lot) (x : Lot) : lotE many bef x = if namedE (bef.map (·.name)) x.name = 0 then (if x.parts.length ≠ many then 3 else spansE 1000000 x.parts) else namedE (bef.map (·.name)) x.name := by
  unfold lotE namedE
  rw [List.any_map]
  cases h1 : nameB x.name
  · simp
  · cases h2 : (bef.any fun y => sameN x.name y.name)
    · simp [Function.comp_def, h2]
    · simp [Function.comp_def, h2]
theorem shop_nt {s : Shop} (h : inB s.things.length 1 5 = true) : 1 ≤ s.things.length ∧ s.things.length ≤ 5 := by
  unfold inB at h; simp at h; omega
theorem shop_nl {s : Shop} (h : inB s.lots.length 1 6 = true) : 1 ≤ s.lots.length ∧ s.lots.length ≤ 6 := by
  unfold inB at h; simp at h; omega
set_option maxRecDepth 100000 in
set_option maxHeartbeats 16000000 in
/-- Check -/
theorem check_ref (s : Shop) (vt vl : Value) (w : World) (hv : ShopAt w.heap.size w vt vl s) : Calls Try.prog 17 #[.agg #[vt, vl]] w (Ret3 (checkV s) w) := by
  unfold Ret3
  have HV := Lib.hid hv
  obtain ⟨ta, tc, rfl, -, htl⟩ := sl_shape hv.1
  obtain ⟨la, lc, rfl, -, hll⟩ := sl_shape hv.2
  clear hv
  have HE : Hid (checkV s = if inB s.things.length 1 5 = false ∨ inB s.lots.length 1 6 = false then (1, 0, 3)
    else if (findE (thingEs s) 0).2 ≠ 0 then (2, (findE (thingEs s) 0).1, (findE (thingEs s) 0).2)
    else if (findE (lotEs s) 0).2 ≠ 0 then (3, (findE (lotEs s) 0).1, (findE (lotEs s) 0).2) else (0, 0, 0)) := by
    unfold Hid checkV
    rw [inB_out, inB_out]
    cases h1 : outOne 1 5 (s.things.length : Int) <;> cases h2 : outOne 1 6 (s.lots.length : Int) <;> simp
  generalize checkV s = E at *
  obtain ⟨r1, hr1⟩ : ∃ r, inB (s.things.length : Int) 1 5 = r := ⟨_, rfl⟩
  obtain ⟨r2, hr2⟩ : ∃ r, inB (s.lots.length : Int) 1 6 = r := ⟨_, rfl⟩
  rw [hr1, hr2] at HE
  have HR1 := Lib.hid hr1
  have HR2 := Lib.hid hr2
  clear hr1 hr2
  have C0 := Lib.hid ((Bs.nil w).push _ rfl (.cells #[.slice ta s.things.length tc, .slice la s.lots.length lc] 25))
  go_enter Try.func17, Try.ntmps17
  go_wp2_with fail
  refine (in_r r1 _ _ _ _ HR1.out).mono ?_
  rintro e w' ⟨rfl, rfl⟩
  cases r1
  · go_wp2_with fail
    go_ret3
    rw [HE.out]
    exact ⟨rfl, C0.out.bel⟩
  go_wp2_with fail
  refine (in_r r2 _ _ _ _ HR2.out).mono ?_
  rintro e w' ⟨rfl, rfl⟩
  cases r2
  · go_wp2_with fail
    go_ret3
    rw [HE.out]
    exact ⟨rfl, C0.out.bel⟩
  simp only [Bool.true_eq_false, or_self, if_false] at HE
  have hnt5 := (shop_nt HR1.out).2
  have hnl6 := (shop_nl HR2.out).2
  clear HR1 HR2 htl hll
  go_wp2_with fail
  obtain ⟨W0, hW0⟩ : ∃ W0, w.alloc (.cells #[.slice ta s.things.length tc, .slice la s.lots.length lc] 25) = W0 := ⟨_, rfl⟩
  have HC0 : Hid (Bs w [(w.heap.size, .cells #[.slice ta s.things.length tc, .slice la s.lots.length lc] 25)] W0) := by rw [← hW0]; exact C0.out
  rw [hW0]
  clear C0 hW0
  obtain ⟨B, hB⟩ : ∃ B, W0.heap.size = B := ⟨_, rfl⟩
  have HLT : Hid (w.heap.size < B) := by rw [← hB]; exact HC0.out.lt 0 rfl
  have HB := Lib.hid hB
  have HB0 : Hid (Below B W0 W0) := Below.refl _ _
  have HBL : Hid (B ≤ W0.heap.size) := Nat.le_of_eq hB.symm
  clear hB
  go_loopw [5, 6] (fun tx iv wr => ∃ (k : Nat) (tv : Value), tv = tx ∧ iv = .int .i64 k ∧ k ≤ s.things.length ∧ Below B W0 wr ∧ B ≤ wr.heap.size ∧ wr.ownsRow B 9 1 tv k ((namesT s k).map Value.string) ∧ findE (thingEs s) 0 = findE ((thingEs s).drop k) k) (fun _ iv _ => s.things.length - (intOf iv).toNat)
  case atStart => exact ⟨0, _, rfl, rfl, by omega, HB0.out, HBL.out, World.ownsRow_nil _ _ 9 1, rfl⟩
  case round =>
    obtain ⟨k, tv, rfl, rfl, hk, hBk, hle, hT, hf⟩ := hrel
    have HBk := Lib.hid hBk
    have HT := Lib.hid hT
    have HLE := Lib.hid hle
    have HF := Lib.hid hf
    clear hBk hT hle hf
    have hcb0 := (HBk.out.cell (p := ⟨w.heap.size, 0, none⟩) HLT.out).trans (HC0.out.cell 0 rfl 0)
    by_cases hkl : k < s.things.length
    · obtain ⟨b, o, he, hbb, hc1, hc2, hc3, hc4, hc5, hn⟩ := HV.out.1.at' hkl
      cases he
      have HBA : Hid (Below w.heap.size w wr) := HC0.out.bel.trans (HBk.out.mono (Nat.le_of_lt HLT.out))
      have h1 := (HBA.out.cell (p := ⟨b, o + k * 5, none⟩) hbb).trans hc1
      have HNM : Hid (SlIn rdStr wr.heap.size wr tv (namesT s k)) := ownsRow_strs (by rw [namesT_len s hk]; exact HT.out) (by rw [namesT_len s hk]; omega)
      have HC1 := Lib.hid hc1
      have HC2 := Lib.hid hc2
      have HC3 := Lib.hid hc3
      have HC4 := Lib.hid hc4
      have HC5 := Lib.hid hc5
      have HBB := Lib.hid hbb
      clear hc1 hc2 hc3 hc4 hc5
      have HCALL := Lib.hid (named_any (namesT s k) tv (s.things.getD k default).name wr hn HNM.out)
      have HEE : Hid (thingE (s.things.take k) (s.things.getD k default) = if namedE (namesT s k) (s.things.getD k default).name = 0 then thingE2 (s.things.getD k default) else namedE (namesT s k) (s.things.getD k default).name) := thingE_two _ _
      have HD := Lib.hid (thingEs_drop s hkl k)
      have HSN := Lib.hid (namesT_snoc s hkl)
      have HX := fun w => Lib.hid (thing_ref (s.things.getD k default) w)
      generalize thingE (s.things.take k) (s.things.getD k default) = TE at *
      generalize namedE (namesT s k) (s.things.getD k default).name = E1 at *
      generalize thingE2 (s.things.getD k default) = E2 at *
      generalize s.things.getD k default = x at *
      obtain ⟨nm, kd, li, we, fa⟩ := x
      simp only at HC1 HC2 HC3 HC4 HC5 HX HCALL HSN h1
      have HSN2 : Hid ((namesT s (k + 1)).map Value.string = (namesT s k).map Value.string ++ [.string nm]) := by unfold Hid; rw [HSN.out, List.map_append]; rfl
      have hki : (k : Int) < (s.things.length : Int) := by omega
      clear HNM hn
      obtain ⟨i0, hi0, hz0, hz1, hz2⟩ := info9'
      have HI0 := Lib.hid hi0
      have HZ0 := Lib.hid hz0
      have HZ1 := Lib.hid hz1
      have HZ2 := Lib.hid hz2
      clear hi0 hz0 hz1 hz2
      have HT1 := Lib.hid (HT.out.alloc (.cells #[.string nm] 9))
      have HNW := Lib.hid (heap_alloc_new wr (.cells #[.string nm] 9))
      have HLE1 : Hid (B ≤ (wr.alloc (.cells #[.string nm] 9)).heap.size) := Nat.le_trans HLE.out (ba_allocB wr _).size
      have HB1 := Lib.hid (HBk.out.trans ((ba_allocB wr (.cells #[.string nm] 9)).mono HLE.out))
      by_cases hE : E1 = 0
      · subst hE
        simp only [if_true] at HEE
        go_wp2_with fail
        refine HCALL.out.mono ?_
        rintro e w' ⟨rfl, rfl⟩
        clear HCALL
        go_wp2_with (at_builtin; refine wpList_append_own _ rfl _ _ 99 rfl B 9 i0 (.string ByteArray.empty) 1 16 Try.underlying99 HI0.out HZ0.out HZ1.out HZ2.out rfl (by decide) _ _ _ rfl HT1.out ⟨wr.heap.size, 0, none⟩ 1 1 [.string nm] rfl rfl (cell_news _ _ _ _ HNW.out) (one_str _) (by unfold maxLen; omega) (by omega) HLE1.out ?_; intro v' w12 hown12 hgrow12 _; have HBN := Lib.hid (HB1.out.trans (grown_below HT1.out hgrow12 (Nat.le_refl _) HLE1.out)); have HLE2 : Hid (B ≤ w12.heap.size) := Nat.le_trans HLE1.out (grown_below HT1.out hgrow12 (Nat.le_refl _) HLE1.out).size; have HTN := Lib.hid hown12; rw [← HSN2.out] at HTN; clear hown12 hgrow12 h1 hcb0 HT1 HNW; have hcb0 := (HBN.out.cell (p := ⟨w.heap.size, 0, none⟩) HLT.out).trans (HC0.out.cell 0 rfl 0); have HBA2 : Hid (Below w.heap.size w w12) := HC0.out.bel.trans (HBN.out.mono (Nat.le_of_lt HLT.out)); have h1 := (HBA2.out.cell (p := ⟨b, o + k * 5, none⟩) HBB.out).trans HC1.out; have h2 := (HBA2.out.cell (p := ⟨b, o + k * 5 + 1, none⟩) HBB.out).trans HC2.out; have h3 := (HBA2.out.cell (p := ⟨b, o + k * 5 + 2, none⟩) HBB.out).trans HC3.out; have h4 := (HBA2.out.cell (p := ⟨b, o + k * 5 + 3, none⟩) HBB.out).trans HC4.out; have h5 := (HBA2.out.cell (p := ⟨b, o + k * 5 + 4, none⟩) HBB.out).trans HC5.out)
        refine (HX _).out.mono ?_
        rintro e w13 ⟨rfl, hb⟩
        have HBN2 := Lib.hid (HBN.out.trans (hb.mono HLE2.out))
        have HTN2 := Lib.hid (ownsRow.below HTN.out hb)
        have HLE3 : Hid (B ≤ w13.heap.size) := Nat.le_trans HLE2.out hb.size
        clear hb h1 h2 h3 h4 h5 hcb0
        by_cases hE : E2 = 0
        · subst hE
          go_wp2_with fail
          refine ⟨⟨k + 1, _, rfl, by push_cast; rfl, by omega, HBN2.out, HLE3.out, HTN2.out, ?_⟩, ?_⟩
          · rw [HF.out, HD.out, HEE.out, if_pos rfl]; push_cast; rfl
          · simp [intOf]; omega
        · have hE2 : (E2 != 0) = true := by simpa using hE
          have HNE := Lib.hid hE
          clear hE
          go_wp2_with fail
          go_ret3
          rw [HE.out, HF.out, HD.out, HEE.out, if_neg HNE.out, if_pos (by exact HNE.out)]
          exact ⟨rfl, HC0.out.bel.trans (HBN2.out.mono (Nat.le_of_lt HLT.out))⟩
      · have hE1 : (E1 == 0) = false := by simpa using hE
        have hE2 : (E1 != 0) = true := by simpa using hE
        have HNE := Lib.hid hE
        clear hE
        go_wp2_with fail
        refine HCALL.out.mono ?_
        rintro e w' ⟨rfl, rfl⟩
        clear HCALL
        go_wp2_with (at_builtin; refine wpList_append_own _ rfl _ _ 99 rfl B 9 i0 (.string ByteArray.empty) 1 16 Try.underlying99 HI0.out HZ0.out HZ1.out HZ2.out rfl (by decide) _ _ _ rfl HT1.out ⟨wr.heap.size, 0, none⟩ 1 1 [.string nm] rfl rfl (cell_news _ _ _ _ HNW.out) (one_str _) (by unfold maxLen; omega) (by omega) HLE1.out ?_; intro v' w12 hown12 hgrow12 _; have HBN := Lib.hid (HB1.out.trans (grown_below HT1.out hgrow12 (Nat.le_refl _) HLE1.out)); have HLE2 : Hid (B ≤ w12.heap.size) := Nat.le_trans HLE1.out (grown_below HT1.out hgrow12 (Nat.le_refl _) HLE1.out).size; have HTN := Lib.hid hown12; rw [← HSN2.out] at HTN; clear hown12 hgrow12 h1 hcb0 HT1 HNW; have hcb0 := (HBN.out.cell (p := ⟨w.heap.size, 0, none⟩) HLT.out).trans (HC0.out.cell 0 rfl 0))
        go_ret3
        rw [HE.out, HF.out, HD.out, HEE.out, if_neg HNE.out, if_neg HNE.out, if_pos (by exact HNE.out)]
        exact ⟨rfl, HC0.out.bel.trans (HBN.out.mono (Nat.le_of_lt HLT.out))⟩
    · obtain rfl : k = s.things.length := by omega
      have HE : Hid (E = if (findE (lotEs s) 0).2 ≠ 0 then (3, (findE (lotEs s) 0).1, (findE (lotEs s) 0).2) else (0, 0, 0)) := by
        unfold Hid
        rw [HE.out, HF.out, List.drop_of_length_le (by simp [thingEs])]
        simp [findE]
      have HLE1 := Lib.hid HLE.out
      clear HF HT HB0 HBL HLE
      go_wp2_with fail
      obtain ⟨W1, hW1⟩ : ∃ W1, W1 = wr := ⟨_, rfl⟩
      subst hW1
      have HB1 := Lib.hid HBk.out
      clear HBk hcb0
      have HLE : Hid (B ≤ W1.heap.size) := HLE1.out
      clear HLE1
      go_loopw [5, 8] (fun tx iv wr => ∃ (k : Nat) (tv : Value), tv = tx ∧ iv = .int .i64 k ∧ k ≤ s.lots.length ∧ Below B W0 wr ∧ B ≤ wr.heap.size ∧ wr.ownsRow B 9 1 tv k ((namesL s k).map Value.string) ∧ findE (lotEs s) 0 = findE ((lotEs s).drop k) k) (fun _ iv _ => s.lots.length - (intOf iv).toNat)
      case atStart => exact ⟨0, _, rfl, rfl, by omega, HB1.out, HLE.out, World.ownsRow_nil _ _ 9 1, rfl⟩
      case round =>
        clear HB1 HLE
        obtain ⟨k, tv, rfl, rfl, hk, hBk, hle, hT, hf⟩ := hrel
        have HBk := Lib.hid hBk
        have HT := Lib.hid hT
        have HLE := Lib.hid hle
        have HF := Lib.hid hf
        clear hBk hT hle hf
        have hcb1 := (HBk.out.cell (p := ⟨w.heap.size, 1, none⟩) HLT.out).trans (HC0.out.cell 0 rfl 1)
        by_cases hkl : k < s.lots.length
        · obtain ⟨b, o, he, hbb, hc1, hn, pv, hc2, hsp⟩ := HV.out.2.at' hkl
          cases he
          have HBA : Hid (Below w.heap.size w wr) := HC0.out.bel.trans (HBk.out.mono (Nat.le_of_lt HLT.out))
          have h1 := (HBA.out.cell (p := ⟨b, o + k * 2, none⟩) hbb).trans hc1
          have HNM : Hid (SlIn rdStr wr.heap.size wr tv (namesL s k)) := ownsRow_strs (by rw [namesL_len s hk]; exact HT.out) (by rw [namesL_len s hk]; omega)
          have HC1 := Lib.hid hc1
          have HC2 := Lib.hid hc2
          have HBB := Lib.hid hbb
          have HSP := Lib.hid hsp
          obtain ⟨pa, pc, rfl, -, hpl⟩ := sl_shape hsp
          clear hc1 hc2 hsp
          have HCALL := Lib.hid (named_any (namesL s k) tv (s.lots.getD k default).name wr hn HNM.out)
          have HEE : Hid (lotE s.things.length (s.lots.take k) (s.lots.getD k default) = if namedE (namesL s k) (s.lots.getD k default).name = 0 then (if (s.lots.getD k default).parts.length ≠ s.things.length then 3 else spansE 1000000 (s.lots.getD k default).parts) else namedE (namesL s k) (s.lots.getD k default).name) := lotE_two _ _ _
          have HD := Lib.hid (lotEs_drop s hkl k)
          have HSN := Lib.hid (namesL_snoc s hkl)
          have HX := fun w h => Lib.hid (spans_ref (s.lots.getD k default).parts 1000000 (.slice pa (s.lots.getD k default).parts.length pc) w h)
          generalize lotE s.things.length (s.lots.take k) (s.lots.getD k default) = TE at *
          generalize namedE (namesL s k) (s.lots.getD k default).name = E1 at *
          generalize spansE 1000000 (s.lots.getD k default).parts = E2 at *
          generalize s.lots.getD k default = x at *
          obtain ⟨nm, pts⟩ := x
          simp only at HC1 HC2 HX HCALL HSN h1 HEE HSP hpl
          generalize hnp : pts.length = np at *
          clear hnp
          have HSN2 : Hid ((namesL s (k + 1)).map Value.string = (namesL s k).map Value.string ++ [.string nm]) := by unfold Hid; rw [HSN.out, List.map_append]; rfl
          have hki : (k : Int) < (s.lots.length : Int) := by omega
          clear HNM hn
          obtain ⟨i0, hi0, hz0, hz1, hz2⟩ := info9'
          have HI0 := Lib.hid hi0
          have HZ0 := Lib.hid hz0
          have HZ1 := Lib.hid hz1
          have HZ2 := Lib.hid hz2
          clear hi0 hz0 hz1 hz2
          have HT1 := Lib.hid (HT.out.alloc (.cells #[.string nm] 9))
          have HNW := Lib.hid (heap_alloc_new wr (.cells #[.string nm] 9))
          have HLE1 : Hid (B ≤ (wr.alloc (.cells #[.string nm] 9)).heap.size) := Nat.le_trans HLE.out (ba_allocB wr _).size
          have HB1 := Lib.hid (HBk.out.trans ((ba_allocB wr (.cells #[.string nm] 9)).mono HLE.out))
          by_cases hE : E1 = 0
          · subst hE
            simp only [if_true] at HEE
            by_cases hq : np = s.things.length
            · subst hq
              have hq1 : ((s.things.length : Int) != (s.things.length : Int)) = false := by simp
              rw [if_neg (fun h => h rfl)] at HEE
              go_wp2_with fail
              refine HCALL.out.mono ?_
              rintro e w' ⟨rfl, rfl⟩
              clear HCALL
              go_wp2_with (at_builtin; refine wpList_append_own _ rfl _ _ 99 rfl B 9 i0 (.string ByteArray.empty) 1 16 Try.underlying99 HI0.out HZ0.out HZ1.out HZ2.out rfl (by decide) _ _ _ rfl HT1.out ⟨wr.heap.size, 0, none⟩ 1 1 [.string nm] rfl rfl (cell_news _ _ _ _ HNW.out) (one_str _) (by unfold maxLen; omega) (by omega) HLE1.out ?_; intro v' w12 hown12 hgrow12 _; have HBN := Lib.hid (HB1.out.trans (grown_below HT1.out hgrow12 (Nat.le_refl _) HLE1.out)); have HLE2 : Hid (B ≤ w12.heap.size) := Nat.le_trans HLE1.out (grown_below HT1.out hgrow12 (Nat.le_refl _) HLE1.out).size; have HTN := Lib.hid hown12; rw [← HSN2.out] at HTN; clear hown12 hgrow12 h1 hcb1 HT1 HNW; have hcb0 := (HBN.out.cell (p := ⟨w.heap.size, 0, none⟩) HLT.out).trans (HC0.out.cell 0 rfl 0); have hcb1 := (HBN.out.cell (p := ⟨w.heap.size, 1, none⟩) HLT.out).trans (HC0.out.cell 0 rfl 1); have HBA2 : Hid (Below w.heap.size w w12) := HC0.out.bel.trans (HBN.out.mono (Nat.le_of_lt HLT.out)); have h2 := (HBA2.out.cell (p := ⟨b, o + k * 2 + 1, none⟩) HBB.out).trans HC2.out; have HCB0 := Lib.hid hcb0; have HCB1 := Lib.hid hcb1; have HH2 := Lib.hid h2; have HBS0 : Hid (w.heap.size < w12.heap.size) := Nat.lt_of_lt_of_le HLT.out HLE2.out; have HBS1 : Hid (b < w12.heap.size) := Nat.lt_of_lt_of_le HBB.out HBA2.out.size)
              refine wp_region_inv0 (by kernel_rfl) (by kernel_rfl) (fun D w' => Below w12.heap.size w12 w') (Below.refl _ _).drew ?_
              iterate 15
                (apply obl_det
                 case hrun =>
                   intro D y wz hW hD R hR
                   have HRR := Lib.hid hR
                   clear hR
                   have HW := Lib.hid hW
                   have hcb0 := (HW.out.cell (p := ⟨w.heap.size, 0, none⟩) HBS0.out).trans HCB0.out
                   have hcb1 := (HW.out.cell (p := ⟨w.heap.size, 1, none⟩) HBS0.out).trans HCB1.out
                   have h2 := (HW.out.cell (p := ⟨b, o + k * 2 + 1, none⟩) HBS1.out).trans HH2.out
                   clear hW hD
                   go_wp2_with fail
                   exact HRR.out _ HW.out
                 case hnp => rfl
                 case hv => first | exact ⟨_, fun _ => rfl⟩ | exact ⟨undef, fun _ => rfl⟩)
              apply obl_nil
              intro D y w8 hall hW
              have HR8 := Lib.hid hW
              clear hall hW hcb0 hcb1 h2
              have HBN := Lib.hid (HBN.out.trans (HR8.out.mono HLE2.out))
              have HTN := Lib.hid (ownsRow.below HTN.out HR8.out)
              have HLE2 : Hid (B ≤ w8.heap.size) := Nat.le_trans HLE2.out HR8.out.size
              have hcb1 := (HBN.out.cell (p := ⟨w.heap.size, 1, none⟩) HLT.out).trans (HC0.out.cell 0 rfl 1)
              have HBA2 : Hid (Below w.heap.size w w8) := HC0.out.bel.trans (HBN.out.mono (Nat.le_of_lt HLT.out))
              have h2 := (HBA2.out.cell (p := ⟨b, o + k * 2 + 1, none⟩) HBB.out).trans HC2.out
              clear HR8 HCB0 HCB1 HH2 HBS0 HBS1
              go_wp2_with fail
              refine (HX _ ((HSP.out.below HBA2.out).mono HBA2.out.size)).out.mono ?_
              rintro e w13 ⟨rfl, hb⟩
              have HBN2 := Lib.hid (HBN.out.trans (hb.mono HLE2.out))
              have HTN2 := Lib.hid (ownsRow.below HTN.out hb)
              have HLE3 : Hid (B ≤ w13.heap.size) := Nat.le_trans HLE2.out hb.size
              clear hb h2 hcb1
              by_cases hE : E2 = 0
              · subst hE
                go_wp2_with fail
                refine ⟨⟨k + 1, _, rfl, by push_cast; rfl, by omega, HBN2.out, HLE3.out, HTN2.out, ?_⟩, ?_⟩
                · rw [HF.out, HD.out, HEE.out, if_pos rfl]; push_cast; rfl
                · simp [intOf]; omega
              · have hE2 : (E2 != 0) = true := by simpa using hE
                have HNE := Lib.hid hE
                clear hE
                go_wp2_with fail
                go_ret3
                rw [HE.out, HF.out, HD.out, HEE.out, if_neg HNE.out, if_pos (by exact HNE.out)]
                exact ⟨rfl, HC0.out.bel.trans (HBN2.out.mono (Nat.le_of_lt HLT.out))⟩
            · have hq1 : ((np : Int) != (s.things.length : Int)) = true := by simp; omega
              rw [if_pos hq] at HEE
              clear hq
              go_wp2_with fail
              refine HCALL.out.mono ?_
              rintro e w' ⟨rfl, rfl⟩
              clear HCALL
              go_wp2_with (at_builtin; refine wpList_append_own _ rfl _ _ 99 rfl B 9 i0 (.string ByteArray.empty) 1 16 Try.underlying99 HI0.out HZ0.out HZ1.out HZ2.out rfl (by decide) _ _ _ rfl HT1.out ⟨wr.heap.size, 0, none⟩ 1 1 [.string nm] rfl rfl (cell_news _ _ _ _ HNW.out) (one_str _) (by unfold maxLen; omega) (by omega) HLE1.out ?_; intro v' w12 hown12 hgrow12 _; have HBN := Lib.hid (HB1.out.trans (grown_below HT1.out hgrow12 (Nat.le_refl _) HLE1.out)); have HLE2 : Hid (B ≤ w12.heap.size) := Nat.le_trans HLE1.out (grown_below HT1.out hgrow12 (Nat.le_refl _) HLE1.out).size; have HTN := Lib.hid hown12; rw [← HSN2.out] at HTN; clear hown12 hgrow12 h1 hcb1 HT1 HNW; have hcb0 := (HBN.out.cell (p := ⟨w.heap.size, 0, none⟩) HLT.out).trans (HC0.out.cell 0 rfl 0); have hcb1 := (HBN.out.cell (p := ⟨w.heap.size, 1, none⟩) HLT.out).trans (HC0.out.cell 0 rfl 1); have HBA2 : Hid (Below w.heap.size w w12) := HC0.out.bel.trans (HBN.out.mono (Nat.le_of_lt HLT.out)); have h2 := (HBA2.out.cell (p := ⟨b, o + k * 2 + 1, none⟩) HBB.out).trans HC2.out; have HCB0 := Lib.hid hcb0; have HCB1 := Lib.hid hcb1; have HH2 := Lib.hid h2; have HBS0 : Hid (w.heap.size < w12.heap.size) := Nat.lt_of_lt_of_le HLT.out HLE2.out; have HBS1 : Hid (b < w12.heap.size) := Nat.lt_of_lt_of_le HBB.out HBA2.out.size)
              refine wp_region_inv0 (by kernel_rfl) (by kernel_rfl) (fun D w' => Below w12.heap.size w12 w') (Below.refl _ _).drew ?_
              iterate 15
                (apply obl_det
                 case hrun =>
                   intro D y wz hW hD R hR
                   have HRR := Lib.hid hR
                   clear hR
                   have HW := Lib.hid hW
                   have hcb0 := (HW.out.cell (p := ⟨w.heap.size, 0, none⟩) HBS0.out).trans HCB0.out
                   have hcb1 := (HW.out.cell (p := ⟨w.heap.size, 1, none⟩) HBS0.out).trans HCB1.out
                   have h2 := (HW.out.cell (p := ⟨b, o + k * 2 + 1, none⟩) HBS1.out).trans HH2.out
                   clear hW hD
                   go_wp2_with fail
                   exact HRR.out _ HW.out
                 case hnp => rfl
                 case hv => first | exact ⟨_, fun _ => rfl⟩ | exact ⟨undef, fun _ => rfl⟩)
              apply obl_nil
              intro D y w8 hall hW
              have HR8 := Lib.hid hW
              clear hall hW hcb0 hcb1 h2
              have HBN := Lib.hid (HBN.out.trans (HR8.out.mono HLE2.out))
              clear HR8 HCB0 HCB1 HH2 HBS0 HBS1
              go_wp2_with fail
              go_ret3
              rw [HE.out, HF.out, HD.out, HEE.out, if_neg (show ¬ (3 : Int) = 0 by decide), if_pos (show (3 : Int) ≠ 0 by decide)]
              exact ⟨rfl, HC0.out.bel.trans (HBN.out.mono (Nat.le_of_lt HLT.out))⟩
          · have hE1 : (E1 == 0) = false := by simpa using hE
            have hE2 : (E1 != 0) = true := by simpa using hE
            have HNE := Lib.hid hE
            clear hE
            go_wp2_with fail
            refine HCALL.out.mono ?_
            rintro e w' ⟨rfl, rfl⟩
            clear HCALL
            go_wp2_with (at_builtin; refine wpList_append_own _ rfl _ _ 99 rfl B 9 i0 (.string ByteArray.empty) 1 16 Try.underlying99 HI0.out HZ0.out HZ1.out HZ2.out rfl (by decide) _ _ _ rfl HT1.out ⟨wr.heap.size, 0, none⟩ 1 1 [.string nm] rfl rfl (cell_news _ _ _ _ HNW.out) (one_str _) (by unfold maxLen; omega) (by omega) HLE1.out ?_; intro v' w12 hown12 hgrow12 _; have HBN := Lib.hid (HB1.out.trans (grown_below HT1.out hgrow12 (Nat.le_refl _) HLE1.out)); have HLE2 : Hid (B ≤ w12.heap.size) := Nat.le_trans HLE1.out (grown_below HT1.out hgrow12 (Nat.le_refl _) HLE1.out).size; have HTN := Lib.hid hown12; rw [← HSN2.out] at HTN; clear hown12 hgrow12 h1 hcb1 HT1 HNW; have hcb0 := (HBN.out.cell (p := ⟨w.heap.size, 0, none⟩) HLT.out).trans (HC0.out.cell 0 rfl 0); have hcb1 := (HBN.out.cell (p := ⟨w.heap.size, 1, none⟩) HLT.out).trans (HC0.out.cell 0 rfl 1); have HBA2 : Hid (Below w.heap.size w w12) := HC0.out.bel.trans (HBN.out.mono (Nat.le_of_lt HLT.out)); have h2 := (HBA2.out.cell (p := ⟨b, o + k * 2 + 1, none⟩) HBB.out).trans HC2.out; have HCB0 := Lib.hid hcb0; have HCB1 := Lib.hid hcb1; have HH2 := Lib.hid h2; have HBS0 : Hid (w.heap.size < w12.heap.size) := Nat.lt_of_lt_of_le HLT.out HLE2.out; have HBS1 : Hid (b < w12.heap.size) := Nat.lt_of_lt_of_le HBB.out HBA2.out.size)
            refine wp_region_inv0 (by kernel_rfl) (by kernel_rfl) (fun D w' => Below w12.heap.size w12 w') (Below.refl _ _).drew ?_
            iterate 15
              (apply obl_det
               case hrun =>
                 intro D y wz hW hD R hR
                 have HRR := Lib.hid hR
                 clear hR
                 have HW := Lib.hid hW
                 have hcb0 := (HW.out.cell (p := ⟨w.heap.size, 0, none⟩) HBS0.out).trans HCB0.out
                 have hcb1 := (HW.out.cell (p := ⟨w.heap.size, 1, none⟩) HBS0.out).trans HCB1.out
                 have h2 := (HW.out.cell (p := ⟨b, o + k * 2 + 1, none⟩) HBS1.out).trans HH2.out
                 clear hW hD
                 go_wp2_with fail
                 exact HRR.out _ HW.out
               case hnp => rfl
               case hv => first | exact ⟨_, fun _ => rfl⟩ | exact ⟨undef, fun _ => rfl⟩)
            apply obl_nil
            intro D y w8 hall hW
            have HR8 := Lib.hid hW
            clear hall hW hcb0 hcb1 h2
            have HBN := Lib.hid (HBN.out.trans (HR8.out.mono HLE2.out))
            clear HR8 HCB0 HCB1 HH2 HBS0 HBS1
            go_wp2_with fail
            go_ret3
            rw [HE.out, HF.out, HD.out, HEE.out, if_neg HNE.out, if_neg HNE.out, if_pos (by exact HNE.out)]
            exact ⟨rfl, HC0.out.bel.trans (HBN.out.mono (Nat.le_of_lt HLT.out))⟩
        · obtain rfl : k = s.lots.length := by omega
          go_wp2_with fail
          go_ret3
          rw [HE.out, HF.out, List.drop_of_length_le (by simp [lotEs])]
          exact ⟨rfl, HC0.out.bel.trans (HBk.out.mono (Nat.le_of_lt HLT.out))⟩
end Go.Proofs.Ytaigbhhmmdfdcaa
