/- Check and the error of batches, by the reference. -/
import Derived.Test.YteebihcdgpfldaaGreatK1
import Derived.Test.YteebihcdgpfldaaGreatK3
import Derived.Test.YteebihcdgpfldaaGreatK8
namespace Go.Proofs.YteebihcdgpfldaaGreat
open Go.RowKit
/-- What stays true in worlds that only grow. -/
def Stab (P : World → Value → Prop) : Prop := ∀ w w' v, P w v → Below w.heap.size w w' → P w' v
def IsInts (t : List Int) (w : World) (v : Value) : Prop := IntsIn .i64 w.heap.size w v t
def IsTru (x : Tru) (w : World) (v : Value) : Prop := ∃ tl tb ta, v = .agg #[tl, tb, ta] ∧ TruAt w.heap.size w tl tb ta x
/-- What holds amid the statement: dA the first call is done, dB the second, dM moved, dX taken apart, dS assigned. -/
structure CalW (wb : World) (PA PB : World → Value → Prop) (E : Value) (dA dB dM dX dS : Bool) (yA yB yM yX yS : Value) (w : World) : Prop where
 bel : Below wb.heap.size wb w
 a : dA = true → PA w yA
 b : dB = true → ∃ tv, yB = .tuple #[tv, E] ∧ PB w tv
 m : dM = true → ∃ tv, yM = .tuple #[tv, E] ∧ PB w tv
 x : dX = true → PB w yX
 s : dS = true → PB w yS
section
variable {wb w w' : World} {PA PB : World → Value → Prop} {E : Value} {dA dB dM dX dS : Bool} {yA yB yM yX yS v : Value}
theorem CalW.start (wb : World) : CalW wb PA PB E false false false false false yA yB yM yX yS wb.drew := ⟨(Below.refl _ _).drew, fun h => (by cases h), fun h => (by cases h), fun h => (by cases h), fun h => (by cases h), fun h => (by cases h)⟩
theorem CalW.next (hPA : Stab PA) (hPB : Stab PB) (h : CalW wb PA PB E dA dB dM dX dS yA yB yM yX yS w) (hb : Below w.heap.size w w') : CalW wb PA PB E dA dB dM dX dS yA yB yM yX yS w' :=
 ⟨h.bel.trans (hb.mono h.bel.size), fun e => hPA _ _ _ (h.a e) hb, fun e => (by obtain ⟨t, h1, h2⟩ := h.b e; exact ⟨t, h1, hPB _ _ _ h2 hb⟩), fun e => (by obtain ⟨t, h1, h2⟩ := h.m e; exact ⟨t, h1, hPB _ _ _ h2 hb⟩), fun e => hPB _ _ _ (h.x e) hb, fun e => hPB _ _ _ (h.s e) hb⟩
end
end Go.Proofs.YteebihcdgpfldaaGreat
namespace Go.Proofs.YteebihcdgpfldaaGreat
open Go.RowKit
/-- A row of strings reads as a list. -/
theorem ownsRow_strs {w : World} {base : Nat} {v : Value} {l : List ByteArray} (h : w.ownsRow base 9 1 v l.length (l.map Value.string)) (hl : l.length ≤ 1000) : SlIn rdStr w.heap.size w v l := by
 obtain ⟨_, h⟩ := h
 rcases h with ⟨rfl, h0⟩ | ⟨g, cap, cur, rfl, hb, hg, hn, hm, hc, ht⟩
 ·have : l = [] := List.eq_nil_of_length_eq_zero h0
  subst this
  exact ⟨none, 0, rfl, by simp, by simp, .inl rfl⟩
 ·refine ⟨_, cap, rfl, by omega, hn, .inr ⟨g, 0, rfl, block_lt hg, fun i hi => ?_⟩⟩
  show w.cell? _ = _
  rw [cell_of_row w g _ _ _ _ hg, Nat.zero_add, rdStr, Nat.mul_one]
  have e : (cur.toList.take (l.length * 1))[i]? = (l.map Value.string)[i]? := by rw [ht]
  rw [List.getElem?_take, if_pos (by omega), List.getElem?_map, List.getElem?_eq_getElem hi] at e
  rw [← Array.getElem?_toList, e, List.getD_eq_getElem?_getD, List.getElem?_eq_getElem hi]; rfl
theorem info9' : ∃ i, Tryz.prog.info? 9 = some i ∧ i.zero = some (.string ByteArray.empty) ∧ i.size = 1 ∧ i.bytes = 16 := by
 obtain ⟨i, h1, h2⟩ := Option.map_eq_some_iff.1 (show (Tryz.prog.info? 9).map (fun i => (i.zero, i.size, i.bytes)) = some (some (.string ByteArray.empty), 1, 16) by kernel_rfl)
 simp only [Prod.mk.injEq] at h2
 exact ⟨i, h1, h2⟩
theorem one_str (x : ByteArray) : ∀ u ∈ [Value.string x], u.oneCell' = true := fun u hu => by simp at hu; subst hu; rfl
def namesT (s : Shop) (k : Nat) : List ByteArray := (s.things.take k).map (·.name)
def namesL (s : Shop) (k : Nat) : List ByteArray := (s.lots.take k).map (·.name)
theorem namesT_snoc (s : Shop) {k : Nat} (hk : k < s.things.length) : namesT s (k + 1) = namesT s k ++ [(s.things.getD k default).name] := by
 unfold namesT; rw [take_snoc _ k hk default, List.map_append]; rfl
theorem namesL_snoc (s : Shop) {k : Nat} (hk : k < s.lots.length) : namesL s (k + 1) = namesL s k ++ [(s.lots.getD k default).name] := by
 unfold namesL; rw [take_snoc _ k hk default, List.map_append]; rfl
theorem namesT_len (s : Shop) {k : Nat} (hk : k ≤ s.things.length) : (namesT s k).length = k := by unfold namesT; simp; omega
theorem namesL_len (s : Shop) {k : Nat} (hk : k ≤ s.lots.length) : (namesL s k).length = k := by unfold namesL; simp; omega
theorem thingEs_drop (s : Shop) {k : Nat} (hk : k < s.things.length) (i : Int) : findE ((thingEs s).drop k) i = if thingE (s.things.take k) (s.things.getD k default) = 0 then findE ((thingEs s).drop (k + 1)) (i + 1) else (i, thingE (s.things.take k) (s.things.getD k default)) := by
 rw [findE_drop _ k (by simpa [thingEs] using hk)]
 have e : (thingEs s).getD k 0 = thingE (s.things.take k) (s.things.getD k default) := by simp [thingEs, List.getD, hk]
 rw [e]
theorem lotEs_drop (s : Shop) {k : Nat} (hk : k < s.lots.length) (i : Int) : findE ((lotEs s).drop k) i = if lotE s.things.length (s.lots.take k) (s.lots.getD k default) = 0 then findE ((lotEs s).drop (k + 1)) (i + 1) else (i, lotE s.things.length (s.lots.take k) (s.lots.getD k default)) := by
 rw [findE_drop _ k (by simpa [lotEs] using hk)]
 have e : (lotEs s).getD k 0 = lotE s.things.length (s.lots.take k) (s.lots.getD k default) := by simp [lotEs, List.getD, hk]
 rw [e]
theorem lotE_two (many : Nat) (bef : List Lot) (x : Lot) : lotE many bef x = if namedE (bef.map (·.name)) x.name = 0 then (if x.parts.length ≠ many then 3 else spansE 1000000 x.parts) else namedE (bef.map (·.name)) x.name := by
 unfold lotE namedE
 rw [List.any_map]
 cases h1 : nameB x.name
 ·simp
 ·cases h2 : (bef.any fun y => sameN x.name y.name)
  ·simp [Function.comp_def, h2]
  ·simp [Function.comp_def, h2]
theorem shop_nt {s : Shop} (h : inB s.things.length 1 5 = true) : 1 ≤ s.things.length ∧ s.things.length ≤ 5 := by
 unfold inB at h; simp at h; omega
theorem shop_nl {s : Shop} (h : inB s.lots.length 1 6 = true) : 1 ≤ s.lots.length ∧ s.lots.length ≤ 6 := by
 unfold inB at h; simp at h; omega
set_option maxRecDepth 100000 in
set_option maxHeartbeats 16000000 in
/-- Check -/
theorem check_ref (s : Shop) (vt vl : Value) (w : World) (hv : ShopAt w.heap.size w vt vl s) : Calls Tryz.prog 17 #[.agg #[vt, vl]] w (Ret3 (checkV s) w) := by
 unfold Ret3
 have HV := Lib.hid hv
 obtain ⟨ta, tc, rfl, -, htl⟩ := sl_shape hv.1
 obtain ⟨la, lc, rfl, -, hll⟩ := sl_shape hv.2
 clear hv
 have HE : Hid (checkV s = if inB s.things.length 1 5 = false ∨ inB s.lots.length 1 6 = false then (1, 0, 3)
  else if (findE (thingEs s) 0).2 ≠ 0 then (2, (findE (thingEs s) 0).1, (findE (thingEs s) 0).2)
  else if (findE (lotEs s) 0).2 ≠ 0 then (3, (findE (lotEs s) 0).1, (findE (lotEs s) 0).2) else (0, 0, 0)) := by
  unfold Hid checkV
  rw [inB_out, inB_out]
  cases h1 : outOne 1 5 (s.things.length : Int) <;> cases h2 : outOne 1 6 (s.lots.length : Int) <;> simp
 generalize checkV s = E at *
 obtain ⟨r1, hr1⟩ : ∃ r, inB (s.things.length : Int) 1 5 = r := ⟨_, rfl⟩
 obtain ⟨r2, hr2⟩ : ∃ r, inB (s.lots.length : Int) 1 6 = r := ⟨_, rfl⟩
 rw [hr1, hr2] at HE
 have HR1 := Lib.hid hr1
 have HR2 := Lib.hid hr2
 clear hr1 hr2
 have C0 := Lib.hid ((Bs.nil w).push _ rfl (.cells #[.slice ta s.things.length tc, .slice la s.lots.length lc] 25))
 go_enter Tryz.func17, Tryz.ntmps17
 go_wp2_with fail
 refine (in_r r1 _ _ _ _ HR1.out).mono ?_
 rintro e w' ⟨rfl, rfl⟩
 cases r1
 ·go_wp2_with fail
  go_ret3
  rw [HE.out]
  exact ⟨rfl, C0.out.bel⟩
 go_wp2_with fail
 refine (in_r r2 _ _ _ _ HR2.out).mono ?_
 rintro e w' ⟨rfl, rfl⟩
 cases r2
 ·go_wp2_with fail
  go_ret3
  rw [HE.out]
  exact ⟨rfl, C0.out.bel⟩
 simp only [Bool.true_eq_false, or_self, if_false] at HE
 have hnt5 := (shop_nt HR1.out).2
 have hnl6 := (shop_nl HR2.out).2
 clear HR1 HR2 htl hll
 go_wp2_with fail
 obtain ⟨W0, hW0⟩ : ∃ W0, w.alloc (.cells #[.slice ta s.things.length tc, .slice la s.lots.length lc] 25) = W0 := ⟨_, rfl⟩
 have HC0 : Hid (Bs w [(w.heap.size, .cells #[.slice ta s.things.length tc, .slice la s.lots.length lc] 25)] W0) := by rw [← hW0]; exact C0.out
 rw [hW0]
 clear C0 hW0
 obtain ⟨B, hB⟩ : ∃ B, W0.heap.size = B := ⟨_, rfl⟩
 have HLT : Hid (w.heap.size < B) := by rw [← hB]; exact HC0.out.lt 0 rfl
 have HB := Lib.hid hB
 have HB0 : Hid (Below B W0 W0) := Below.refl _ _
 have HBL : Hid (B ≤ W0.heap.size) := Nat.le_of_eq hB.symm
 clear hB
 go_loopw [5, 6] (fun tx iv wr => ∃ (k : Nat) (tv : Value), tv = tx ∧ iv = .int .i64 k ∧ k ≤ s.things.length ∧ Below B W0 wr ∧ B ≤ wr.heap.size ∧ wr.ownsRow B 9 1 tv k ((namesT s k).map Value.string) ∧ findE (thingEs s) 0 = findE ((thingEs s).drop k) k) (fun _ iv _ => s.things.length - (intOf iv).toNat)
 case atStart => exact ⟨0, _, rfl, rfl, by omega, HB0.out, HBL.out, World.ownsRow_nil _ _ 9 1, rfl⟩
 case round =>
  obtain ⟨k, tv, rfl, rfl, hk, hBk, hle, hT, hf⟩ := hrel
  have HBk := Lib.hid hBk
  have HT := Lib.hid hT
  have HLE := Lib.hid hle
  have HF := Lib.hid hf
  clear hBk hT hle hf
  have hcb0 := (HBk.out.cell (p := ⟨w.heap.size, 0, none⟩) HLT.out).trans (HC0.out.cell 0 rfl 0)
  by_cases hkl : k < s.things.length
  ·obtain ⟨b, o, he, hbb, hc1, hc2, hc3, hc4, hc5, hn⟩ := HV.out.1.at' hkl
   cases he
   have HBA : Hid (Below w.heap.size w wr) := HC0.out.bel.trans (HBk.out.mono (Nat.le_of_lt HLT.out))
   have h1 := (HBA.out.cell (p := ⟨b, o + k * 5, none⟩) hbb).trans hc1
   have HNM : Hid (SlIn rdStr wr.heap.size wr tv (namesT s k)) := ownsRow_strs (by rw [namesT_len s hk]; exact HT.out) (by rw [namesT_len s hk]; omega)
   have HC1 := Lib.hid hc1
   have HC2 := Lib.hid hc2
   have HC3 := Lib.hid hc3
   have HC4 := Lib.hid hc4
   have HC5 := Lib.hid hc5
   have HBB := Lib.hid hbb
   clear hc1 hc2 hc3 hc4 hc5
   have HCALL := Lib.hid (named_any (namesT s k) tv (s.things.getD k default).name wr hn HNM.out)
   have HEE : Hid (thingE (s.things.take k) (s.things.getD k default) = if namedE (namesT s k) (s.things.getD k default).name = 0 then thingE2 (s.things.getD k default) else namedE (namesT s k) (s.things.getD k default).name) := thingE_two _ _
   have HD := Lib.hid (thingEs_drop s hkl k)
   have HSN := Lib.hid (namesT_snoc s hkl)
   have HX := fun w => Lib.hid (thing_ref (s.things.getD k default) w)
   generalize thingE (s.things.take k) (s.things.getD k default) = TE at *
   generalize namedE (namesT s k) (s.things.getD k default).name = E1 at *
   generalize thingE2 (s.things.getD k default) = E2 at *
   generalize s.things.getD k default = x at *
   obtain ⟨nm, kd, li, we, fa⟩ := x
   simp only at HC1 HC2 HC3 HC4 HC5 HX HCALL HSN h1
   have HSN2 : Hid ((namesT s (k + 1)).map Value.string = (namesT s k).map Value.string ++ [.string nm]) := by unfold Hid; rw [HSN.out, List.map_append]; rfl
   have hki : (k : Int) < (s.things.length : Int) := by omega
   clear HNM hn
   obtain ⟨i0, hi0, hz0, hz1, hz2⟩ := info9'
   have HI0 := Lib.hid hi0
   have HZ0 := Lib.hid hz0
   have HZ1 := Lib.hid hz1
   have HZ2 := Lib.hid hz2
   clear hi0 hz0 hz1 hz2
   have HT1 := Lib.hid (HT.out.alloc (.cells #[.string nm] 9))
   have HNW := Lib.hid (heap_alloc_new wr (.cells #[.string nm] 9))
   have HLE1 : Hid (B ≤ (wr.alloc (.cells #[.string nm] 9)).heap.size) := Nat.le_trans HLE.out (ba_allocB wr _).size
   have HB1 := Lib.hid (HBk.out.trans ((ba_allocB wr (.cells #[.string nm] 9)).mono HLE.out))
   by_cases hE : E1 = 0
   ·subst hE
    simp only [if_true] at HEE
    go_wp2_with fail
    refine HCALL.out.mono ?_
    rintro e w' ⟨rfl, rfl⟩
    clear HCALL
    go_wp2_with (at_builtin; refine wpList_append_own _ rfl _ _ 139 rfl B 9 i0 (.string ByteArray.empty) 1 16 Tryz.underlying139 HI0.out HZ0.out HZ1.out HZ2.out rfl (by decide) _ _ _ rfl HT1.out ⟨wr.heap.size, 0, none⟩ 1 1 [.string nm] rfl rfl (cell_news _ _ _ _ HNW.out) (one_str _) (by unfold maxLen; omega) (by omega) HLE1.out ?_; intro v' w12 hown12 hgrow12 _; have HBN := Lib.hid (HB1.out.trans (grown_below HT1.out hgrow12 (Nat.le_refl _) HLE1.out)); have HLE2 : Hid (B ≤ w12.heap.size) := Nat.le_trans HLE1.out (grown_below HT1.out hgrow12 (Nat.le_refl _) HLE1.out).size; have HTN := Lib.hid hown12; rw [← HSN2.out] at HTN; clear hown12 hgrow12 h1 hcb0 HT1 HNW; have hcb0 := (HBN.out.cell (p := ⟨w.heap.size, 0, none⟩) HLT.out).trans (HC0.out.cell 0 rfl 0); have HBA2 : Hid (Below w.heap.size w w12) := HC0.out.bel.trans (HBN.out.mono (Nat.le_of_lt HLT.out)); have h1 := (HBA2.out.cell (p := ⟨b, o + k * 5, none⟩) HBB.out).trans HC1.out; have h2 := (HBA2.out.cell (p := ⟨b, o + k * 5 + 1, none⟩) HBB.out).trans HC2.out; have h3 := (HBA2.out.cell (p := ⟨b, o + k * 5 + 2, none⟩) HBB.out).trans HC3.out; have h4 := (HBA2.out.cell (p := ⟨b, o + k * 5 + 3, none⟩) HBB.out).trans HC4.out; have h5 := (HBA2.out.cell (p := ⟨b, o + k * 5 + 4, none⟩) HBB.out).trans HC5.out)
    refine (HX _).out.mono ?_
    rintro e w13 ⟨rfl, hb⟩
    have HBN2 := Lib.hid (HBN.out.trans (hb.mono HLE2.out))
    have HTN2 := Lib.hid (ownsRow.below HTN.out hb)
    have HLE3 : Hid (B ≤ w13.heap.size) := Nat.le_trans HLE2.out hb.size
    clear hb h1 h2 h3 h4 h5 hcb0
    by_cases hE : E2 = 0
    ·subst hE
     go_wp2_with fail
     refine ⟨⟨k + 1, _, rfl, by push_cast; rfl, by omega, HBN2.out, HLE3.out, HTN2.out, ?_⟩, ?_⟩
     ·rw [HF.out, HD.out, HEE.out, if_pos rfl]; push_cast; rfl
     ·simp [intOf]; omega
    ·have hE2 : (E2 != 0) = true := by simpa using hE
     have HNE := Lib.hid hE
     clear hE
     go_wp2_with fail
     go_ret3
     rw [HE.out, HF.out, HD.out, HEE.out, if_neg HNE.out, if_pos (by exact HNE.out)]
     exact ⟨rfl, HC0.out.bel.trans (HBN2.out.mono (Nat.le_of_lt HLT.out))⟩
   ·have hE1 : (E1 == 0) = false := by simpa using hE
    have hE2 : (E1 != 0) = true := by simpa using hE
    have HNE := Lib.hid hE
    clear hE
    go_wp2_with fail
    refine HCALL.out.mono ?_
    rintro e w' ⟨rfl, rfl⟩
    clear HCALL
    go_wp2_with (at_builtin; refine wpList_append_own _ rfl _ _ 139 rfl B 9 i0 (.string ByteArray.empty) 1 16 Tryz.underlying139 HI0.out HZ0.out HZ1.out HZ2.out rfl (by decide) _ _ _ rfl HT1.out ⟨wr.heap.size, 0, none⟩ 1 1 [.string nm] rfl rfl (cell_news _ _ _ _ HNW.out) (one_str _) (by unfold maxLen; omega) (by omega) HLE1.out ?_; intro v' w12 hown12 hgrow12 _; have HBN := Lib.hid (HB1.out.trans (grown_below HT1.out hgrow12 (Nat.le_refl _) HLE1.out)); have HLE2 : Hid (B ≤ w12.heap.size) := Nat.le_trans HLE1.out (grown_below HT1.out hgrow12 (Nat.le_refl _) HLE1.out).size; have HTN := Lib.hid hown12; rw [← HSN2.out] at HTN; clear hown12 hgrow12 h1 hcb0 HT1 HNW; have hcb0 := (HBN.out.cell (p := ⟨w.heap.size, 0, none⟩) HLT.out).trans (HC0.out.cell 0 rfl 0))
    go_ret3
    rw [HE.out, HF.out, HD.out, HEE.out, if_neg HNE.out, if_neg HNE.out, if_pos (by exact HNE.out)]
    exact ⟨rfl, HC0.out.bel.trans (HBN.out.mono (Nat.le_of_lt HLT.out))⟩
  ·obtain rfl : k = s.things.length := by omega
   have HE : Hid (E = if (findE (lotEs s) 0).2 ≠ 0 then (3, (findE (lotEs s) 0).1, (findE (lotEs s) 0).2) else (0, 0, 0)) := by
    unfold Hid
    rw [HE.out, HF.out, List.drop_of_length_le (by simp [thingEs])]
    simp [findE]
   have HLE1 := Lib.hid HLE.out
   clear HF HT HB0 HBL HLE
   go_wp2_with fail
   obtain ⟨W1, hW1⟩ : ∃ W1, W1 = wr := ⟨_, rfl⟩
   subst hW1
   have HB1 := Lib.hid HBk.out
   clear HBk hcb0
   have HLE : Hid (B ≤ W1.heap.size) := HLE1.out
   clear HLE1
   go_loopw [5, 8] (fun tx iv wr => ∃ (k : Nat) (tv : Value), tv = tx ∧ iv = .int .i64 k ∧ k ≤ s.lots.length ∧ Below B W0 wr ∧ B ≤ wr.heap.size ∧ wr.ownsRow B 9 1 tv k ((namesL s k).map Value.string) ∧ findE (lotEs s) 0 = findE ((lotEs s).drop k) k) (fun _ iv _ => s.lots.length - (intOf iv).toNat)
   case atStart => exact ⟨0, _, rfl, rfl, by omega, HB1.out, HLE.out, World.ownsRow_nil _ _ 9 1, rfl⟩
   case round =>
    clear HB1 HLE
    obtain ⟨k, tv, rfl, rfl, hk, hBk, hle, hT, hf⟩ := hrel
    have HBk := Lib.hid hBk
    have HT := Lib.hid hT
    have HLE := Lib.hid hle
    have HF := Lib.hid hf
    clear hBk hT hle hf
    have hcb1 := (HBk.out.cell (p := ⟨w.heap.size, 1, none⟩) HLT.out).trans (HC0.out.cell 0 rfl 1)
    by_cases hkl : k < s.lots.length
    ·obtain ⟨b, o, he, hbb, hc1, hn, pv, hc2, hsp⟩ := HV.out.2.at' hkl
     cases he
     have HBA : Hid (Below w.heap.size w wr) := HC0.out.bel.trans (HBk.out.mono (Nat.le_of_lt HLT.out))
     have h1 := (HBA.out.cell (p := ⟨b, o + k * 2, none⟩) hbb).trans hc1
     have HNM : Hid (SlIn rdStr wr.heap.size wr tv (namesL s k)) := ownsRow_strs (by rw [namesL_len s hk]; exact HT.out) (by rw [namesL_len s hk]; omega)
     have HC1 := Lib.hid hc1
     have HC2 := Lib.hid hc2
     have HBB := Lib.hid hbb
     have HSP := Lib.hid hsp
     obtain ⟨pa, pc, rfl, -, hpl⟩ := sl_shape hsp
     clear hc1 hc2 hsp
     have HCALL := Lib.hid (named_any (namesL s k) tv (s.lots.getD k default).name wr hn HNM.out)
     have HEE : Hid (lotE s.things.length (s.lots.take k) (s.lots.getD k default) = if namedE (namesL s k) (s.lots.getD k default).name = 0 then (if (s.lots.getD k default).parts.length ≠ s.things.length then 3 else spansE 1000000 (s.lots.getD k default).parts) else namedE (namesL s k) (s.lots.getD k default).name) := lotE_two _ _ _
     have HD := Lib.hid (lotEs_drop s hkl k)
     have HSN := Lib.hid (namesL_snoc s hkl)
     have HX := fun w h => Lib.hid (spans_ref (s.lots.getD k default).parts 1000000 (.slice pa (s.lots.getD k default).parts.length pc) w h)
     generalize lotE s.things.length (s.lots.take k) (s.lots.getD k default) = TE at *
     generalize namedE (namesL s k) (s.lots.getD k default).name = E1 at *
     generalize spansE 1000000 (s.lots.getD k default).parts = E2 at *
     generalize s.lots.getD k default = x at *
     obtain ⟨nm, pts⟩ := x
     simp only at HC1 HC2 HX HCALL HSN h1 HEE HSP hpl
     generalize hnp : pts.length = np at *
     clear hnp
     have HSN2 : Hid ((namesL s (k + 1)).map Value.string = (namesL s k).map Value.string ++ [.string nm]) := by unfold Hid; rw [HSN.out, List.map_append]; rfl
     have hki : (k : Int) < (s.lots.length : Int) := by omega
     clear HNM hn
     obtain ⟨i0, hi0, hz0, hz1, hz2⟩ := info9'
     have HI0 := Lib.hid hi0
     have HZ0 := Lib.hid hz0
     have HZ1 := Lib.hid hz1
     have HZ2 := Lib.hid hz2
     clear hi0 hz0 hz1 hz2
     have HT1 := Lib.hid (HT.out.alloc (.cells #[.string nm] 9))
     have HNW := Lib.hid (heap_alloc_new wr (.cells #[.string nm] 9))
     have HLE1 : Hid (B ≤ (wr.alloc (.cells #[.string nm] 9)).heap.size) := Nat.le_trans HLE.out (ba_allocB wr _).size
     have HB1 := Lib.hid (HBk.out.trans ((ba_allocB wr (.cells #[.string nm] 9)).mono HLE.out))
     by_cases hE : E1 = 0
     ·subst hE
      simp only [if_true] at HEE
      by_cases hq : np = s.things.length
      ·subst hq
       have hq1 : ((s.things.length : Int) != (s.things.length : Int)) = false := by simp
       rw [if_neg (fun h => h rfl)] at HEE
       go_wp2_with fail
       refine HCALL.out.mono ?_
       rintro e w' ⟨rfl, rfl⟩
       clear HCALL
       go_wp2_with (at_builtin; refine wpList_append_own _ rfl _ _ 139 rfl B 9 i0 (.string ByteArray.empty) 1 16 Tryz.underlying139 HI0.out HZ0.out HZ1.out HZ2.out rfl (by decide) _ _ _ rfl HT1.out ⟨wr.heap.size, 0, none⟩ 1 1 [.string nm] rfl rfl (cell_news _ _ _ _ HNW.out) (one_str _) (by unfold maxLen; omega) (by omega) HLE1.out ?_; intro v' w12 hown12 hgrow12 _; have HBN := Lib.hid (HB1.out.trans (grown_below HT1.out hgrow12 (Nat.le_refl _) HLE1.out)); have HLE2 : Hid (B ≤ w12.heap.size) := Nat.le_trans HLE1.out (grown_below HT1.out hgrow12 (Nat.le_refl _) HLE1.out).size; have HTN := Lib.hid hown12; rw [← HSN2.out] at HTN; clear hown12 hgrow12 h1 hcb1 HT1 HNW; have hcb0 := (HBN.out.cell (p := ⟨w.heap.size, 0, none⟩) HLT.out).trans (HC0.out.cell 0 rfl 0); have hcb1 := (HBN.out.cell (p := ⟨w.heap.size, 1, none⟩) HLT.out).trans (HC0.out.cell 0 rfl 1); have HBA2 : Hid (Below w.heap.size w w12) := HC0.out.bel.trans (HBN.out.mono (Nat.le_of_lt HLT.out)); have h2 := (HBA2.out.cell (p := ⟨b, o + k * 2 + 1, none⟩) HBB.out).trans HC2.out; have HCB0 := Lib.hid hcb0; have HCB1 := Lib.hid hcb1; have HH2 := Lib.hid h2; have HBS0 : Hid (w.heap.size < w12.heap.size) := Nat.lt_of_lt_of_le HLT.out HLE2.out; have HBS1 : Hid (b < w12.heap.size) := Nat.lt_of_lt_of_le HBB.out HBA2.out.size)
       refine wp_region_inv0 (by kernel_rfl) (by kernel_rfl) (fun D w' => Below w12.heap.size w12 w') (Below.refl _ _).drew ?_
       iterate 15
        (apply obl_det
         case hrun =>
          intro D y wz hW hD R hR
          have HRR := Lib.hid hR
          clear hR
          have HW := Lib.hid hW
          have hcb0 := (HW.out.cell (p := ⟨w.heap.size, 0, none⟩) HBS0.out).trans HCB0.out
          have hcb1 := (HW.out.cell (p := ⟨w.heap.size, 1, none⟩) HBS0.out).trans HCB1.out
          have h2 := (HW.out.cell (p := ⟨b, o + k * 2 + 1, none⟩) HBS1.out).trans HH2.out
          clear hW hD
          go_wp2_with fail
          exact HRR.out _ HW.out
         case hnp => rfl
         case hv => first | exact ⟨_, fun _ => rfl⟩ | exact ⟨undef, fun _ => rfl⟩)
       apply obl_nil
       intro D y w8 hall hW
       have HR8 := Lib.hid hW
       clear hall hW hcb0 hcb1 h2
       have HBN := Lib.hid (HBN.out.trans (HR8.out.mono HLE2.out))
       have HTN := Lib.hid (ownsRow.below HTN.out HR8.out)
       have HLE2 : Hid (B ≤ w8.heap.size) := Nat.le_trans HLE2.out HR8.out.size
       have hcb1 := (HBN.out.cell (p := ⟨w.heap.size, 1, none⟩) HLT.out).trans (HC0.out.cell 0 rfl 1)
       have HBA2 : Hid (Below w.heap.size w w8) := HC0.out.bel.trans (HBN.out.mono (Nat.le_of_lt HLT.out))
       have h2 := (HBA2.out.cell (p := ⟨b, o + k * 2 + 1, none⟩) HBB.out).trans HC2.out
       clear HR8 HCB0 HCB1 HH2 HBS0 HBS1
       go_wp2_with fail
       refine (HX _ ((HSP.out.below HBA2.out).mono HBA2.out.size)).out.mono ?_
       rintro e w13 ⟨rfl, hb⟩
       have HBN2 := Lib.hid (HBN.out.trans (hb.mono HLE2.out))
       have HTN2 := Lib.hid (ownsRow.below HTN.out hb)
       have HLE3 : Hid (B ≤ w13.heap.size) := Nat.le_trans HLE2.out hb.size
       clear hb h2 hcb1
       by_cases hE : E2 = 0
       ·subst hE
        go_wp2_with fail
        refine ⟨⟨k + 1, _, rfl, by push_cast; rfl, by omega, HBN2.out, HLE3.out, HTN2.out, ?_⟩, ?_⟩
        ·rw [HF.out, HD.out, HEE.out, if_pos rfl]; push_cast; rfl
        ·simp [intOf]; omega
       ·have hE2 : (E2 != 0) = true := by simpa using hE
        have HNE := Lib.hid hE
        clear hE
        go_wp2_with fail
        go_ret3
        rw [HE.out, HF.out, HD.out, HEE.out, if_neg HNE.out, if_pos (by exact HNE.out)]
        exact ⟨rfl, HC0.out.bel.trans (HBN2.out.mono (Nat.le_of_lt HLT.out))⟩
      ·have hq1 : ((np : Int) != (s.things.length : Int)) = true := by simp; omega
       rw [if_pos hq] at HEE
       clear hq
       go_wp2_with fail
       refine HCALL.out.mono ?_
       rintro e w' ⟨rfl, rfl⟩
       clear HCALL
       go_wp2_with (at_builtin; refine wpList_append_own _ rfl _ _ 139 rfl B 9 i0 (.string ByteArray.empty) 1 16 Tryz.underlying139 HI0.out HZ0.out HZ1.out HZ2.out rfl (by decide) _ _ _ rfl HT1.out ⟨wr.heap.size, 0, none⟩ 1 1 [.string nm] rfl rfl (cell_news _ _ _ _ HNW.out) (one_str _) (by unfold maxLen; omega) (by omega) HLE1.out ?_; intro v' w12 hown12 hgrow12 _; have HBN := Lib.hid (HB1.out.trans (grown_below HT1.out hgrow12 (Nat.le_refl _) HLE1.out)); have HLE2 : Hid (B ≤ w12.heap.size) := Nat.le_trans HLE1.out (grown_below HT1.out hgrow12 (Nat.le_refl _) HLE1.out).size; have HTN := Lib.hid hown12; rw [← HSN2.out] at HTN; clear hown12 hgrow12 h1 hcb1 HT1 HNW; have hcb0 := (HBN.out.cell (p := ⟨w.heap.size, 0, none⟩) HLT.out).trans (HC0.out.cell 0 rfl 0); have hcb1 := (HBN.out.cell (p := ⟨w.heap.size, 1, none⟩) HLT.out).trans (HC0.out.cell 0 rfl 1); have HBA2 : Hid (Below w.heap.size w w12) := HC0.out.bel.trans (HBN.out.mono (Nat.le_of_lt HLT.out)); have h2 := (HBA2.out.cell (p := ⟨b, o + k * 2 + 1, none⟩) HBB.out).trans HC2.out; have HCB0 := Lib.hid hcb0; have HCB1 := Lib.hid hcb1; have HH2 := Lib.hid h2; have HBS0 : Hid (w.heap.size < w12.heap.size) := Nat.lt_of_lt_of_le HLT.out HLE2.out; have HBS1 : Hid (b < w12.heap.size) := Nat.lt_of_lt_of_le HBB.out HBA2.out.size)
       refine wp_region_inv0 (by kernel_rfl) (by kernel_rfl) (fun D w' => Below w12.heap.size w12 w') (Below.refl _ _).drew ?_
       iterate 15
        (apply obl_det
         case hrun =>
          intro D y wz hW hD R hR
          have HRR := Lib.hid hR
          clear hR
          have HW := Lib.hid hW
          have hcb0 := (HW.out.cell (p := ⟨w.heap.size, 0, none⟩) HBS0.out).trans HCB0.out
          have hcb1 := (HW.out.cell (p := ⟨w.heap.size, 1, none⟩) HBS0.out).trans HCB1.out
          have h2 := (HW.out.cell (p := ⟨b, o + k * 2 + 1, none⟩) HBS1.out).trans HH2.out
          clear hW hD
          go_wp2_with fail
          exact HRR.out _ HW.out
         case hnp => rfl
         case hv => first | exact ⟨_, fun _ => rfl⟩ | exact ⟨undef, fun _ => rfl⟩)
       apply obl_nil
       intro D y w8 hall hW
       have HR8 := Lib.hid hW
       clear hall hW hcb0 hcb1 h2
       have HBN := Lib.hid (HBN.out.trans (HR8.out.mono HLE2.out))
       clear HR8 HCB0 HCB1 HH2 HBS0 HBS1
       go_wp2_with fail
       go_ret3
       rw [HE.out, HF.out, HD.out, HEE.out, if_neg (show ¬ (3 : Int) = 0 by decide), if_pos (show (3 : Int) ≠ 0 by decide)]
       exact ⟨rfl, HC0.out.bel.trans (HBN.out.mono (Nat.le_of_lt HLT.out))⟩
     ·have hE1 : (E1 == 0) = false := by simpa using hE
      have hE2 : (E1 != 0) = true := by simpa using hE
      have HNE := Lib.hid hE
      clear hE
      go_wp2_with fail
      refine HCALL.out.mono ?_
      rintro e w' ⟨rfl, rfl⟩
      clear HCALL
      go_wp2_with (at_builtin; refine wpList_append_own _ rfl _ _ 139 rfl B 9 i0 (.string ByteArray.empty) 1 16 Tryz.underlying139 HI0.out HZ0.out HZ1.out HZ2.out rfl (by decide) _ _ _ rfl HT1.out ⟨wr.heap.size, 0, none⟩ 1 1 [.string nm] rfl rfl (cell_news _ _ _ _ HNW.out) (one_str _) (by unfold maxLen; omega) (by omega) HLE1.out ?_; intro v' w12 hown12 hgrow12 _; have HBN := Lib.hid (HB1.out.trans (grown_below HT1.out hgrow12 (Nat.le_refl _) HLE1.out)); have HLE2 : Hid (B ≤ w12.heap.size) := Nat.le_trans HLE1.out (grown_below HT1.out hgrow12 (Nat.le_refl _) HLE1.out).size; have HTN := Lib.hid hown12; rw [← HSN2.out] at HTN; clear hown12 hgrow12 h1 hcb1 HT1 HNW; have hcb0 := (HBN.out.cell (p := ⟨w.heap.size, 0, none⟩) HLT.out).trans (HC0.out.cell 0 rfl 0); have hcb1 := (HBN.out.cell (p := ⟨w.heap.size, 1, none⟩) HLT.out).trans (HC0.out.cell 0 rfl 1); have HBA2 : Hid (Below w.heap.size w w12) := HC0.out.bel.trans (HBN.out.mono (Nat.le_of_lt HLT.out)); have h2 := (HBA2.out.cell (p := ⟨b, o + k * 2 + 1, none⟩) HBB.out).trans HC2.out; have HCB0 := Lib.hid hcb0; have HCB1 := Lib.hid hcb1; have HH2 := Lib.hid h2; have HBS0 : Hid (w.heap.size < w12.heap.size) := Nat.lt_of_lt_of_le HLT.out HLE2.out; have HBS1 : Hid (b < w12.heap.size) := Nat.lt_of_lt_of_le HBB.out HBA2.out.size)
      refine wp_region_inv0 (by kernel_rfl) (by kernel_rfl) (fun D w' => Below w12.heap.size w12 w') (Below.refl _ _).drew ?_
      iterate 15
       (apply obl_det
        case hrun =>
         intro D y wz hW hD R hR
         have HRR := Lib.hid hR
         clear hR
         have HW := Lib.hid hW
         have hcb0 := (HW.out.cell (p := ⟨w.heap.size, 0, none⟩) HBS0.out).trans HCB0.out
         have hcb1 := (HW.out.cell (p := ⟨w.heap.size, 1, none⟩) HBS0.out).trans HCB1.out
         have h2 := (HW.out.cell (p := ⟨b, o + k * 2 + 1, none⟩) HBS1.out).trans HH2.out
         clear hW hD
         go_wp2_with fail
         exact HRR.out _ HW.out
        case hnp => rfl
        case hv => first | exact ⟨_, fun _ => rfl⟩ | exact ⟨undef, fun _ => rfl⟩)
      apply obl_nil
      intro D y w8 hall hW
      have HR8 := Lib.hid hW
      clear hall hW hcb0 hcb1 h2
      have HBN := Lib.hid (HBN.out.trans (HR8.out.mono HLE2.out))
      clear HR8 HCB0 HCB1 HH2 HBS0 HBS1
      go_wp2_with fail
      go_ret3
      rw [HE.out, HF.out, HD.out, HEE.out, if_neg HNE.out, if_neg HNE.out, if_pos (by exact HNE.out)]
      exact ⟨rfl, HC0.out.bel.trans (HBN.out.mono (Nat.le_of_lt HLT.out))⟩
    ·obtain rfl : k = s.lots.length := by omega
     go_wp2_with fail
     go_ret3
     rw [HE.out, HF.out, List.drop_of_length_le (by simp [lotEs])]
     exact ⟨rfl, HC0.out.bel.trans (HBk.out.mono (Nat.le_of_lt HLT.out))⟩
end Go.Proofs.YteebihcdgpfldaaGreat
namespace Go.Proofs.YteebihcdgpfldaaGreat
open Go.RowKit
theorem takenV_succ (l : List Bat) (i k : Nat) : takenV l i (k + 1) = takenV l i k + (l.getD k default).back.getD i 0 := rfl
set_option maxHeartbeats 4000000 in
/-- Taken -/
theorem taken_ref (l : List Bat) (i many : Nat) (v : Value) (w : World) (hv : BatsIn w.heap.size w v l) (hm : many ≤ l.length) (h6 : many ≤ 6) (hb : ∀ j, j < many → ∀ t, 0 ≤ (l.getD j default).back.getD t 0 ∧ (l.getD j default).back.getD t 0 ≤ 100000) :
 Calls Tryz.prog 64 #[v, .int .i64 i, .int .i64 many] w fun e w' => e = .returned (.int .i64 (takenV l i many)) ∧ w = w' := by
 have HV := Lib.hid hv
 have HB := Lib.hid hb
 obtain ⟨a, c, rfl, hc, -⟩ := sl_shape hv
 have HK : Hid (∀ k, k ≤ many → 0 ≤ takenV l i k ∧ takenV l i k ≤ 600000) := fun k hk => by
  have := dot_bound (fun k => (l.getD k default).back.getD i 0) 100000 k (fun j hj => hb j (by omega) i)
  unfold takenV
  omega
 clear hv hb
 go_enter Tryz.func64, Tryz.ntmps64
 go_wp2_with fail
 go_loopw [7, 8] (fun nv iv wr => ∃ k : Nat, nv = .int .i64 (takenV l i k) ∧ iv = .int .i64 k ∧ k ≤ many ∧ w = wr) (fun _ iv _ => many - (intOf iv).toNat)
 case atStart => exact ⟨0, rfl, rfl, by omega, rfl⟩
 case round =>
  obtain ⟨k, rfl, rfl, hk, rfl⟩ := hrel
  by_cases hlt : k < many
  ·obtain ⟨b, o, rfl, hbb, vg, vb, va, hc1, hc2, hc3, -, hbk, -⟩ := HV.out.at' (i := k) (by omega)
   obtain ⟨a2, c2, rfl, hl2, hbk⟩ := hbk
   have hs := HK.out k hk
   have hx := HB.out k hlt i
   have HS := Lib.hid (takenV_succ l i k)
   have hki : (k : Int) < (l.length : Int) := by omega
   have hc2 : w.cell? ⟨b, o + k * 3 + 1, none⟩ = _ := hc2
   clear hc1 hc3
   by_cases hin : i < (l.getD k default).back.length
   ·obtain ⟨b2, o2, rfl, -, hcc⟩ := hbk.resolve_left (by intro h; rw [h] at hin; simp at hin)
    have h2 := hcc i hin
    clear hcc
    generalize (l.getD k default).back.getD i 0 = x at *
    generalize (l.getD k default).back.length = n2 at *
    generalize takenV l i k = S at *
    go_wp2_with fail
    refine ⟨⟨k + 1, ?_, by push_cast; rfl, by omega, trivial⟩, ?_⟩
    ·rw [HS.out]
    ·simp [intOf]; omega
   ·have e : (l.getD k default).back.getD i 0 = 0 := by rw [List.getD_eq_getElem?_getD, List.getElem?_eq_none (by omega)]; rfl
    rw [e] at HS
    clear hbk hx
    generalize (l.getD k default).back.length = n2 at *
    generalize takenV l i k = S at *
    go_wp2_with fail
    refine ⟨⟨k + 1, ?_, by push_cast; rfl, by omega, trivial⟩, ?_⟩
    ·rw [HS.out]; simp
    ·simp [intOf]; omega
  ·obtain rfl : many = k := by omega
   go_wp2_with fail
   go_ret
   exact ⟨rfl, rfl⟩
theorem gramsOk_of {l : List Int} (h : outB 0 100000 l = false) (hl : l.length ≤ 6) : GramsOk l := ⟨hl, ints_all (by omega) h⟩
theorem BatOk0.gramsOk {s : Shop} (hs : s.lots.length ≤ 6) {l : List Bat} {k : Nat} (h : BatOk0 s l k) (hk : k ≤ 6) : GramsOk (l.getD k default).grams ∧ GramsOk (l.getD k default).back :=
 ⟨⟨by rw [h.glen]; exact hs, h.gram⟩, ⟨Nat.le_trans h.blen hk, h.back⟩⟩
theorem overB_succ (l : List Bat) (k i : Nat) : overB l k (i + 1) = (overB l k i || decide (weightV (l.getD i default) < takenV l i (k + 1))) := by
 unfold overB; rw [List.range_succ, List.any_append]; simp
theorem batchE_cases (s : Shop) (l : List Bat) (k : Nat) : batchE s l k = if (l.getD k default).grams.length ≠ s.lots.length ∨ k < (l.getD k default).back.length ∨ (l.getD k default).added.length ≠ s.things.length then 3
 else if outB 0 100000 (l.getD k default).grams = true ∨ outB 0 100000 (l.getD k default).back = true then 7
 else if spansE 10000000 (l.getD k default).added ≠ 0 then spansE 10000000 (l.getD k default).added else if weightV (l.getD k default) = 0 then 8 else if overB l k k then 9 else 0 := by
 unfold batchE batchE0
 simp only [Bool.or_eq_true]
 split
 ·simp
 ·split
  ·simp
  ·rfl
set_option maxRecDepth 100000 in
set_option maxHeartbeats 16000000 in
/-- one -/
theorem one_ref (s : Shop) (l : List Bat) (k : Nat) (vt vl v : Value) (w : World) (hv : ShopAt w.heap.size w vt vl s) (hl' : BatsIn w.heap.size w v l) (hk : k < l.length) (h6 : l.length ≤ 6) (hn6 : s.lots.length ≤ 6) (hp : Prefix s l k) :
 Calls Tryz.prog 19 #[.agg #[vt, vl], v, .int .i64 k] w fun e w' => e = .returned (.int .i64 (batchE s l k)) ∧ Below w.heap.size w w' := by
 have HV := Lib.hid hl'
 obtain ⟨ta, tc, rfl, -, htl⟩ := sl_shape hv.1
 obtain ⟨la, lc, rfl, -, hll⟩ := sl_shape hv.2
 obtain ⟨a, c, rfl, hc, -⟩ := sl_shape hl'
 have HP := Lib.hid hp
 have HGO2 : Hid (∀ i, i < k → GramsOk (l.getD i default).grams ∧ GramsOk (l.getD i default).back) := fun i hi => (bat_ok0 (batchE_zero (hp i hi)).1).gramsOk hn6 (by omega)
 have HE := Lib.hid (batchE_cases s l k)
 obtain ⟨b, o, he, hbb, vg, vb, va, hc1, hc2, hc3, hat⟩ := hl'.at' hk
 have hc1 : w.cell? ⟨b, o + k * 3, none⟩ = some vg := hc1
 have hc2 : w.cell? ⟨b, o + k * 3 + 1, none⟩ = some vb := hc2
 have hc3 : w.cell? ⟨b, o + k * 3 + 2, none⟩ = some va := hc3
 cases he
 clear hv hl' hp
 generalize hE : batchE s l k = E at *
 clear hE
 have HAT := Lib.hid hat
 have HW := fun w => Lib.hid (weight_ref (l.getD k default) vg vb va w)
 have HT := fun i w => Lib.hid (taken_ref l i (k + 1) (.slice (some ⟨b, o, none⟩) l.length c) w)
 have HWI := fun i vg vb va w => Lib.hid (weight_ref (l.getD i default) vg vb va w)
 have HG1 := fun r w => Lib.hid (grams_ref r (l.getD k default).grams vg w)
 have HG2 := fun r w => Lib.hid (grams_ref r (l.getD k default).back vb w)
 have HSP := fun w => Lib.hid (spans_ref (l.getD k default).added 10000000 va w)
 have HOS := fun i => Lib.hid (overB_succ l k i)
 have HGO : Hid (outB 0 100000 (l.getD k default).grams = false → outB 0 100000 (l.getD k default).back = false → (l.getD k default).grams.length = s.lots.length → (l.getD k default).back.length ≤ k → GramsOk (l.getD k default).grams ∧ GramsOk (l.getD k default).back) := fun h1 h2 h3 h4 => ⟨gramsOk_of h1 (by omega), gramsOk_of h2 (by omega)⟩
 obtain ⟨a1, c1, rfl, -⟩ := hat.1
 obtain ⟨a2, c2, rfl, -⟩ := hat.2.1
 obtain ⟨a3, c3, rfl, -⟩ := sl_shape hat.2.2
 clear hat
 generalize spansE 10000000 (l.getD k default).added = SE at *
 generalize weightV (l.getD k default) = WT at *
 generalize outB 0 100000 (l.getD k default).grams = r1 at *
 generalize outB 0 100000 (l.getD k default).back = r2 at *
 generalize (l.getD k default).grams.length = ng at *
 generalize (l.getD k default).back.length = nb at *
 generalize (l.getD k default).added.length = na at *
 have C0 : Hid (Bs w [(w.heap.size, .cells #[.slice ta s.things.length tc, .slice la s.lots.length lc] 25), (w.heap.size + 1, .cells #[.slice a1 ng c1, .slice a2 nb c2, .slice a3 na c3] 67)] _) := ((Bs.nil w).push _ rfl (.cells #[.slice ta s.things.length tc, .slice la s.lots.length lc] 25)).push (w.heap.size + 1) (by simp) (.cells #[.slice a1 ng c1, .slice a2 nb c2, .slice a3 na c3] 67)
 generalize s.things.length = nt at *
 generalize s.lots.length = nl at *
 have hki : (k : Int) < (l.length : Int) := by omega
 go_enter Tryz.func19, Tryz.ntmps19
 by_cases h1 : ng = nl
 case neg =>
  have q1 : ((ng : Int) != (nl : Int)) = true := by simp; omega
  have HN := Lib.hid h1
  clear h1
  go_wp2_with fail
  go_ret
  exact ⟨ret_int (by rw [HE.out, if_pos (.inl HN.out)]), C0.out.bel⟩
 subst h1
 have q1 : ((ng : Int) != (ng : Int)) = false := by simp
 by_cases h2 : k < nb
 ·have HN := Lib.hid h2
  have q2 : (k : Int) < (nb : Int) := by omega
  clear h2
  go_wp2_with fail
  go_ret
  exact ⟨ret_int (by rw [HE.out, if_pos (.inr (.inl HN.out))]), C0.out.bel⟩
 have q2 : (nb : Int) ≤ (k : Int) := by omega
 by_cases h3 : na = nt
 case neg =>
  have q3 : ((na : Int) != (nt : Int)) = true := by simp; omega
  have HN := Lib.hid h3
  clear h3
  go_wp2_with fail
  go_ret
  exact ⟨ret_int (by rw [HE.out, if_pos (.inr (.inr HN.out))]), C0.out.bel⟩
 subst h3
 have q3 : ((na : Int) != (na : Int)) = false := by simp
 rw [if_neg (by simp; omega)] at HE
 have hnb : nb ≤ k := by omega
 have HNB := Lib.hid hnb
 clear h2 hnb
 go_wp2_with fail
 clear q1 q2 q3
 refine ((HSP _).out ((HAT.out.2.2.below C0.out.bel).mono C0.out.bel.size)).mono ?_
 rintro e w1 ⟨rfl, hb⟩
 have C1 := Lib.hid (C0.out.call hb)
 clear hb C0 hc1 hc2 hc3
 have hc0 := C1.out.cell 1 rfl 0
 have hc1 := C1.out.cell 1 rfl 1
 have hc2 := C1.out.cell 1 rfl 2
 go_wp2_with fail
 refine ((HG1 r1 _).out ((HAT.out.1.below C1.out.bel).mono C1.out.bel.size) rfl).mono ?_
 rintro e w' ⟨rfl, rfl⟩
 cases r1
 case true =>
  clear hc2
  go_wp2_with fail
  go_loopw [8, 9] (fun ev iv wr => ev = .int .i64 (7) ∧ iv = .int .i64 0 ∧ w1 = wr) (fun _ _ _ => 0)
  case atStart => exact ⟨rfl, rfl, rfl⟩
  case round =>
   obtain ⟨rfl, rfl, rfl⟩ := hrel
   by_cases hk0 : 0 < k
   ·have hk0' : (0 : Int) < (k : Int) := by omega
    go_wp2_with fail
    go_ret
    exact ⟨ret_int (by rw [HE.out, if_pos (by simp)]), C1.out.bel⟩
   ·have hk0' : (k : Int) ≤ 0 := by omega
    go_wp2_with fail
    go_ret
    exact ⟨ret_int (by rw [HE.out, if_pos (by simp)]), C1.out.bel⟩
 go_wp2_with fail
 refine ((HG2 r2 _).out ((HAT.out.2.1.below C1.out.bel).mono C1.out.bel.size) rfl).mono ?_
 rintro e w' ⟨rfl, rfl⟩
 cases r2
 case true =>
  clear hc2
  go_wp2_with fail
  go_loopw [8, 9] (fun ev iv wr => ev = .int .i64 (7) ∧ iv = .int .i64 0 ∧ w1 = wr) (fun _ _ _ => 0)
  case atStart => exact ⟨rfl, rfl, rfl⟩
  case round =>
   obtain ⟨rfl, rfl, rfl⟩ := hrel
   by_cases hk0 : 0 < k
   ·have hk0' : (0 : Int) < (k : Int) := by omega
    go_wp2_with fail
    go_ret
    exact ⟨ret_int (by rw [HE.out, if_pos (by simp)]), C1.out.bel⟩
   ·have hk0' : (k : Int) ≤ 0 := by omega
    go_wp2_with fail
    go_ret
    exact ⟨ret_int (by rw [HE.out, if_pos (by simp)]), C1.out.bel⟩
 rw [if_neg (by simp)] at HE
 have HGK := Lib.hid (HGO.out (by simp) (by simp) (by simp) HNB.out)
 clear HGO HG1 HG2 HSP
 by_cases hse : SE = 0
 case neg =>
  have hq : (SE == 0) = false := by simpa using hse
  have HNE := Lib.hid hse
  clear hse
  go_wp2_with fail
  go_loopw [8, 9] (fun ev iv wr => ev = .int .i64 (SE) ∧ iv = .int .i64 0 ∧ w1 = wr) (fun _ _ _ => 0)
  case atStart => exact ⟨rfl, rfl, rfl⟩
  case round =>
   obtain ⟨rfl, rfl, rfl⟩ := hrel
   by_cases hk0 : 0 < k
   ·have hk0' : (0 : Int) < (k : Int) := by omega
    go_wp2_with fail
    go_ret
    exact ⟨ret_int (by rw [HE.out, if_pos HNE.out]), C1.out.bel⟩
   ·have hk0' : (k : Int) ≤ 0 := by omega
    go_wp2_with fail
    go_ret
    exact ⟨ret_int (by rw [HE.out, if_pos HNE.out]), C1.out.bel⟩
 subst hse
 rw [if_neg (by simp)] at HE
 go_wp2_with fail
 refine ((HW _).out ((HAT.out.below C1.out.bel).mono C1.out.bel.size) HGK.out.1 HGK.out.2).mono ?_
 rintro e w2 ⟨rfl, hb⟩
 have C2 := Lib.hid (C1.out.call hb)
 clear hb C1 hc0 hc1 hc2
 by_cases hwt : WT = 0
 ·subst hwt
  go_wp2_with fail
  go_loopw [8, 9] (fun ev iv wr => ev = .int .i64 (8) ∧ iv = .int .i64 0 ∧ w2 = wr) (fun _ _ _ => 0)
  case atStart => exact ⟨rfl, rfl, rfl⟩
  case round =>
   obtain ⟨rfl, rfl, rfl⟩ := hrel
   by_cases hk0 : 0 < k
   ·have hk0' : (0 : Int) < (k : Int) := by omega
    go_wp2_with fail
    go_ret
    exact ⟨ret_int (by rw [HE.out, if_pos (by simp)]), C2.out.bel⟩
   ·have hk0' : (k : Int) ≤ 0 := by omega
    go_wp2_with fail
    go_ret
    exact ⟨ret_int (by rw [HE.out, if_pos (by simp)]), C2.out.bel⟩
 have hq : (WT == 0) = false := by simpa using hwt
 rw [if_neg hwt] at HE
 clear hwt
 go_wp2_with fail
 go_loopw [8, 9] (fun ev iv wr => ∃ (i : Nat) (r : Bool), ev = .int .i64 (if r then 9 else 0) ∧ iv = .int .i64 i ∧ i ≤ k ∧ overB l k i = r ∧ (r = true → overB l k k = true) ∧ Below w2.heap.size w2 wr) (fun ev iv _ => (k - (intOf iv).toNat) + (if intOf ev = 0 then 1 else 0))
 case atStart => exact ⟨0, false, rfl, rfl, by omega, rfl, fun h => (by cases h), Below.refl _ _⟩
 case round =>
  obtain ⟨i, r, rfl, rfl, hik, hr, hr2, hb⟩ := hrel
  have HB := Lib.hid hb
  have HR := Lib.hid hr
  have HR2 := Lib.hid hr2
  clear hb hr hr2
  cases r
  case true =>
   simp only [if_true]
   by_cases hk0 : i < k
   ·have hk0' : (i : Int) < (k : Int) := by omega
    go_wp2_with fail
    go_ret
    exact ⟨ret_int (by rw [HE.out, if_pos (HR2.out (by simp))]), C2.out.bel.trans (HB.out.mono C2.out.bel.size)⟩
   ·have hk0' : (k : Int) ≤ (i : Int) := by omega
    go_wp2_with fail
    go_ret
    exact ⟨ret_int (by rw [HE.out, if_pos (HR2.out (by simp))]), C2.out.bel.trans (HB.out.mono C2.out.bel.size)⟩
  simp only [Bool.false_eq_true, if_false]
  by_cases hk0 : i < k
  ·have hk0' : (i : Int) < (k : Int) := by omega
   have hil : i < l.length := by omega
   have hili : (i : Int) < (l.length : Int) := by omega
   obtain ⟨b', o', he, hbb', ug, ub, ua, hd1, hd2, hd3, hat⟩ := HV.out.at' hil
   cases he
   have HAI := Lib.hid hat
   have HGI := Lib.hid (HGO2.out i hk0)
   have HBA : Hid (Below w.heap.size w wr) := C2.out.bel.trans (HB.out.mono C2.out.bel.size)
   have HBK : Hid (∀ j, j < k + 1 → ∀ t, 0 ≤ (l.getD j default).back.getD t 0 ∧ (l.getD j default).back.getD t 0 ≤ 100000) := fun j hj t => by
    by_cases hjk : j < k
    ·exact (bat_ok0 (batchE_zero (HP.out j hjk)).1).back t
    ·obtain rfl : j = k := by omega
     exact HGK.out.2.at' t
   have hd1 := (HBA.out.cell (p := ⟨b, o + i * 3, none⟩) hbb').trans hd1
   have hd2 := (HBA.out.cell (p := ⟨b, o + i * 3 + 1, none⟩) hbb').trans hd2
   have hd3 := (HBA.out.cell (p := ⟨b, o + i * 3 + 2, none⟩) hbb').trans hd3
   have HD1 := Lib.hid hd1
   have HD2 := Lib.hid hd2
   have HD3 := Lib.hid hd3
   have HBB : Hid (b < wr.heap.size) := Nat.lt_of_lt_of_le hbb' HBA.out.size
   clear hd1 hd2 hd3
   obtain ⟨e1, f1, rfl, -⟩ := hat.1
   obtain ⟨e2, f2, rfl, -⟩ := hat.2.1
   obtain ⟨e3, f3, rfl, -⟩ := sl_shape hat.2.2
   clear hat
   have HOS := Lib.hid (HOS i).out
   rw [HR.out, Bool.false_or] at HOS
   have HWI := fun w => HWI i (.slice e1 (l.getD i default).grams.length f1) (.slice e2 (l.getD i default).back.length f2) (.slice e3 (l.getD i default).added.length f3) w
   have HT := fun w => HT i w
   generalize weightV (l.getD i default) = WI at *
   generalize takenV l i (k + 1) = TI at *
   generalize (l.getD i default).grams.length = m1 at *
   generalize (l.getD i default).back.length = m2 at *
   generalize (l.getD i default).added.length = m3 at *
   go_wp2_with fail
   by_cases hgt : WI < TI
   ·have HOT : Hid (overB l k (i + 1) = true) := by unfold Hid; rw [HOS.out]; simpa using hgt
    have HKK : Hid (overB l k k = true) := by
     have h := HOT.out
     unfold Hid
     unfold overB at h ⊢
     rw [List.any_eq_true] at h ⊢
     obtain ⟨x, hx, hy⟩ := h
     exact ⟨x, by rw [List.mem_range] at hx ⊢; omega, hy⟩
    refine wp_region_inv0 (by kernel_rfl) (by kernel_rfl) (fun D w' => Below wr.heap.size wr w') (Below.refl _ _).drew ?_
    iterate 4
     (apply obl_det
      case hrun =>
       intro D y wz hW hD R hR
       have HRR := Lib.hid hR
       clear hR
       have HW := Lib.hid hW
       have hd1 := (HW.out.cell (p := ⟨b, o + i * 3, none⟩) HBB.out).trans HD1.out
       have hd2 := (HW.out.cell (p := ⟨b, o + i * 3 + 1, none⟩) HBB.out).trans HD2.out
       have hd3 := (HW.out.cell (p := ⟨b, o + i * 3 + 2, none⟩) HBB.out).trans HD3.out
       clear hW hD
       go_wp2_with fail
       exact HRR.out _ HW.out
      case hnp => rfl
      case hv => first | exact ⟨_, fun _ => rfl⟩ | exact ⟨undef, fun _ => rfl⟩)
    apply obl_det
    case hrun =>
     intro D y wz hW hD R hR
     have HRR := Lib.hid hR
     clear hR
     have HW := Lib.hid hW
     have hd1 := (HW.out.cell (p := ⟨b, o + i * 3, none⟩) HBB.out).trans HD1.out
     have hd2 := (HW.out.cell (p := ⟨b, o + i * 3 + 1, none⟩) HBB.out).trans HD2.out
     have hd3 := (HW.out.cell (p := ⟨b, o + i * 3 + 2, none⟩) HBB.out).trans HD3.out
     clear hW hD
     go_wp2_with fail
     refine ((HT _).out ((HV.out.below (HBA.out.trans (HW.out.mono HBA.out.size))).mono (Nat.le_trans HBA.out.size HW.out.size)) (by omega) (by omega) HBK.out).mono ?_
     rintro e w' ⟨rfl, rfl⟩
     go_wp2_with fail
     exact HRR.out _ HW.out
    case hnp => rfl
    case hv => first | exact ⟨_, fun _ => rfl⟩ | exact ⟨undef, fun _ => rfl⟩
    iterate 4
     (apply obl_det
      case hrun =>
       intro D y wz hW hD R hR
       have HRR := Lib.hid hR
       clear hR
       have HW := Lib.hid hW
       have hd1 := (HW.out.cell (p := ⟨b, o + i * 3, none⟩) HBB.out).trans HD1.out
       have hd2 := (HW.out.cell (p := ⟨b, o + i * 3 + 1, none⟩) HBB.out).trans HD2.out
       have hd3 := (HW.out.cell (p := ⟨b, o + i * 3 + 2, none⟩) HBB.out).trans HD3.out
       clear hW hD
       go_wp2_with fail
       exact HRR.out _ HW.out
      case hnp => rfl
      case hv => first | exact ⟨_, fun _ => rfl⟩ | exact ⟨undef, fun _ => rfl⟩)
    apply obl_det
    case hrun =>
     intro D y wz hW hD R hR
     have HRR := Lib.hid hR
     clear hR
     have HW := Lib.hid hW
     have hd1 := (HW.out.cell (p := ⟨b, o + i * 3, none⟩) HBB.out).trans HD1.out
     have hd2 := (HW.out.cell (p := ⟨b, o + i * 3 + 1, none⟩) HBB.out).trans HD2.out
     have hd3 := (HW.out.cell (p := ⟨b, o + i * 3 + 2, none⟩) HBB.out).trans HD3.out
     clear hW hD
     go_wp2_with fail
     refine ((HWI _).out ((HAI.out.below (HBA.out.trans (HW.out.mono HBA.out.size))).mono (Nat.le_trans HBA.out.size HW.out.size)) HGI.out.1 HGI.out.2).mono ?_
     rintro e w' ⟨rfl, hb⟩
     have HW2 := Lib.hid (HW.out.trans (hb.mono HW.out.size))
     clear hb
     go_wp2_with fail
     exact HRR.out _ HW2.out
    case hnp => rfl
    case hv => first | exact ⟨_, fun _ => rfl⟩ | exact ⟨undef, fun _ => rfl⟩
    apply obl_det
    case hrun =>
     intro D y wz hW hD R hR
     have HRR := Lib.hid hR
     clear hR
     have HW := Lib.hid hW
     have hd1 := (HW.out.cell (p := ⟨b, o + i * 3, none⟩) HBB.out).trans HD1.out
     have hd2 := (HW.out.cell (p := ⟨b, o + i * 3 + 1, none⟩) HBB.out).trans HD2.out
     have hd3 := (HW.out.cell (p := ⟨b, o + i * 3 + 2, none⟩) HBB.out).trans HD3.out
     clear hW hD
     go_wp2_with fail
     exact HRR.out _ HW.out
    case hnp => rfl
    case hv => first | exact ⟨_, fun _ => rfl⟩ | exact ⟨undef, fun _ => rfl⟩
    apply obl_nil
    intro D y w8 hall hW
    have HB2 := Lib.hid (HB.out.trans (hW.mono HB.out.size))
    clear hall hW
    go_wp2_with fail
    refine ⟨⟨i + 1, true, rfl, by push_cast; rfl, by omega, HOT.out, fun _ => HKK.out, HB2.out⟩, ?_⟩
    simp [intOf]; omega
   ·have hle : TI ≤ WI := by omega
    have HOT : Hid (overB l k (i + 1) = false) := by unfold Hid; rw [HOS.out]; simp; omega
    clear hgt
    refine wp_region_inv0 (by kernel_rfl) (by kernel_rfl) (fun D w' => Below wr.heap.size wr w') (Below.refl _ _).drew ?_
    iterate 4
     (apply obl_det
      case hrun =>
       intro D y wz hW hD R hR
       have HRR := Lib.hid hR
       clear hR
       have HW := Lib.hid hW
       have hd1 := (HW.out.cell (p := ⟨b, o + i * 3, none⟩) HBB.out).trans HD1.out
       have hd2 := (HW.out.cell (p := ⟨b, o + i * 3 + 1, none⟩) HBB.out).trans HD2.out
       have hd3 := (HW.out.cell (p := ⟨b, o + i * 3 + 2, none⟩) HBB.out).trans HD3.out
       clear hW hD
       go_wp2_with fail
       exact HRR.out _ HW.out
      case hnp => rfl
      case hv => first | exact ⟨_, fun _ => rfl⟩ | exact ⟨undef, fun _ => rfl⟩)
    apply obl_det
    case hrun =>
     intro D y wz hW hD R hR
     have HRR := Lib.hid hR
     clear hR
     have HW := Lib.hid hW
     have hd1 := (HW.out.cell (p := ⟨b, o + i * 3, none⟩) HBB.out).trans HD1.out
     have hd2 := (HW.out.cell (p := ⟨b, o + i * 3 + 1, none⟩) HBB.out).trans HD2.out
     have hd3 := (HW.out.cell (p := ⟨b, o + i * 3 + 2, none⟩) HBB.out).trans HD3.out
     clear hW hD
     go_wp2_with fail
     refine ((HT _).out ((HV.out.below (HBA.out.trans (HW.out.mono HBA.out.size))).mono (Nat.le_trans HBA.out.size HW.out.size)) (by omega) (by omega) HBK.out).mono ?_
     rintro e w' ⟨rfl, rfl⟩
     go_wp2_with fail
     exact HRR.out _ HW.out
    case hnp => rfl
    case hv => first | exact ⟨_, fun _ => rfl⟩ | exact ⟨undef, fun _ => rfl⟩
    iterate 4
     (apply obl_det
      case hrun =>
       intro D y wz hW hD R hR
       have HRR := Lib.hid hR
       clear hR
       have HW := Lib.hid hW
       have hd1 := (HW.out.cell (p := ⟨b, o + i * 3, none⟩) HBB.out).trans HD1.out
       have hd2 := (HW.out.cell (p := ⟨b, o + i * 3 + 1, none⟩) HBB.out).trans HD2.out
       have hd3 := (HW.out.cell (p := ⟨b, o + i * 3 + 2, none⟩) HBB.out).trans HD3.out
       clear hW hD
       go_wp2_with fail
       exact HRR.out _ HW.out
      case hnp => rfl
      case hv => first | exact ⟨_, fun _ => rfl⟩ | exact ⟨undef, fun _ => rfl⟩)
    apply obl_det
    case hrun =>
     intro D y wz hW hD R hR
     have HRR := Lib.hid hR
     clear hR
     have HW := Lib.hid hW
     have hd1 := (HW.out.cell (p := ⟨b, o + i * 3, none⟩) HBB.out).trans HD1.out
     have hd2 := (HW.out.cell (p := ⟨b, o + i * 3 + 1, none⟩) HBB.out).trans HD2.out
     have hd3 := (HW.out.cell (p := ⟨b, o + i * 3 + 2, none⟩) HBB.out).trans HD3.out
     clear hW hD
     go_wp2_with fail
     refine ((HWI _).out ((HAI.out.below (HBA.out.trans (HW.out.mono HBA.out.size))).mono (Nat.le_trans HBA.out.size HW.out.size)) HGI.out.1 HGI.out.2).mono ?_
     rintro e w' ⟨rfl, hb⟩
     have HW2 := Lib.hid (HW.out.trans (hb.mono HW.out.size))
     clear hb
     go_wp2_with fail
     exact HRR.out _ HW2.out
    case hnp => rfl
    case hv => first | exact ⟨_, fun _ => rfl⟩ | exact ⟨undef, fun _ => rfl⟩
    apply obl_det
    case hrun =>
     intro D y wz hW hD R hR
     have HRR := Lib.hid hR
     clear hR
     have HW := Lib.hid hW
     have hd1 := (HW.out.cell (p := ⟨b, o + i * 3, none⟩) HBB.out).trans HD1.out
     have hd2 := (HW.out.cell (p := ⟨b, o + i * 3 + 1, none⟩) HBB.out).trans HD2.out
     have hd3 := (HW.out.cell (p := ⟨b, o + i * 3 + 2, none⟩) HBB.out).trans HD3.out
     clear hW hD
     go_wp2_with fail
     exact HRR.out _ HW.out
    case hnp => rfl
    case hv => first | exact ⟨_, fun _ => rfl⟩ | exact ⟨undef, fun _ => rfl⟩
    apply obl_nil
    intro D y w8 hall hW
    have HB2 := Lib.hid (HB.out.trans (hW.mono HB.out.size))
    clear hall hW
    go_wp2_with fail
    refine ⟨⟨i + 1, false, rfl, by push_cast; rfl, by omega, HOT.out, fun h => (by cases h), HB2.out⟩, ?_⟩
    simp [intOf]; omega
  ·obtain rfl : i = k := by omega
   go_wp2_with fail
   go_ret
   exact ⟨ret_int (by rw [HE.out, HR.out]; rfl), C2.out.bel.trans (HB.out.mono C2.out.bel.size)⟩
end Go.Proofs.YteebihcdgpfldaaGreat
namespace Go.Proofs.YteebihcdgpfldaaGreat
open Go.RowKit
theorem batchEs_at (s : Shop) (l : List Bat) {k : Nat} (hk : k < l.length) : (batchEs s l).getD k 0 = batchE s l k := by simp [batchEs, List.getD, hk]
theorem findE_prefix (es : List Int) : ∀ (k : Nat) (_ : k < es.length) (_ : ∀ j, j < k → es.getD j 0 = 0) (_ : es.getD k 0 ≠ 0) (i : Int), (findE es i).2 = es.getD k 0 := by
 intro k
 induction k generalizing es with
 | zero =>
  intro hk _ hne i
  cases es with
  | nil => simp at hk
  | cons e es =>
   have : e ≠ 0 := by simpa using hne
   simp [findE, this]
 | succ k ih =>
  intro hk h0 hne i
  cases es with
  | nil => simp at hk
  | cons e es =>
   have : e = 0 := by simpa using h0 0 (by omega)
   subst this
   simp only [findE, if_true]
   have := ih es (by simpa using hk) (fun j hj => by simpa using h0 (j + 1) (by omega)) (by simpa using hne) (i + 1)
   rw [this]; simp
theorem batches_first {s : Shop} {l : List Bat} {k : Nat} (hk : k < l.length) (hp : Prefix s l k) (h : batchE s l k ≠ 0) : (findE (batchEs s l) 0).2 = batchE s l k := by
 have := findE_prefix (batchEs s l) k (by simpa [batchEs] using hk) (fun j hj => by rw [batchEs_at s l (by omega)]; exact hp j hj) (by rw [batchEs_at s l hk]; exact h) 0
 rw [this, batchEs_at s l hk]
theorem batches_none {s : Shop} {l : List Bat} (hp : Prefix s l l.length) : (findE (batchEs s l) 0).2 = 0 := map_range_zero.2 hp
set_option maxRecDepth 100000 in
set_option maxHeartbeats 8000000 in
/-- Batches -/
theorem batches_ref (s : Shop) (l : List Bat) (vt vl v : Value) (w : World) (hv : ShopAt w.heap.size w vt vl s) (hl' : BatsIn w.heap.size w v l) :
 Calls Tryz.prog 4 #[.agg #[vt, vl], v] w fun e w' => e = .returned (.int .i64 (batchesE s l)) ∧ Below w.heap.size w w' := by
 have HS := Lib.hid hv
 have HL := Lib.hid hl'
 obtain ⟨ta, tc, rfl, -, htl⟩ := sl_shape hv.1
 obtain ⟨la, lc, rfl, -, hll⟩ := sl_shape hv.2
 obtain ⟨a, c, rfl, hc, hlen⟩ := sl_shape hl'
 clear hv hl'
 have C0 : Hid (Bs w [(w.heap.size, .cells #[.slice ta s.things.length tc, .slice la s.lots.length lc] 25)] _) := (Bs.nil w).push _ rfl (.cells #[.slice ta s.things.length tc, .slice la s.lots.length lc] 25)
 have HC := fun w h => Lib.hid (check_ref s (.slice ta s.things.length tc) (.slice la s.lots.length lc) w h)
 unfold Ret3 at HC
 have HNL : Hid (checkE s = 0 → s.lots.length ≤ 6) := fun h => (shop_ok h).nl6
 have HE : Hid (batchesE s l = if checkE s ≠ 0 then checkE s else if inB l.length 1 6 = false then 3 else (findE (batchEs s l) 0).2) := by
  unfold Hid batchesE
  rw [inB_out]
  cases outOne 1 6 (l.length : Int) <;> simp
 generalize batchesE s l = E at *
 unfold checkE at HE HNL
 generalize checkV s = Q at *
 obtain ⟨p1, p2, ce⟩ := Q
 simp only at HC HE HNL
 have HF1 : Hid (∀ k, k < l.length → Prefix s l k → batchE s l k ≠ 0 → (findE (batchEs s l) 0).2 = batchE s l k) := fun k hk hp h => batches_first hk hp h
 have HF2 : Hid (∀ k, k = l.length → Prefix s l k → (findE (batchEs s l) 0).2 = 0) := fun k hk hp => by subst hk; exact batches_none hp
 generalize (findE (batchEs s l) 0).2 = F at *
 generalize hn : l.length = n at *
 have HN := Lib.hid hn
 clear hn
 obtain ⟨r, hr⟩ : ∃ r, inB (n : Int) 1 6 = r := ⟨_, rfl⟩
 rw [hr] at HE
 have HR := Lib.hid hr
 have HN6 : Hid (r = true → n ≤ 6) := fun h => by rw [h] at hr; unfold inB at hr; simp at hr; omega
 clear hr
 have hc0 := C0.out.cell 0 rfl 0
 have hc1 := C0.out.cell 0 rfl 1
 go_enter Tryz.func4, Tryz.ntmps4
 go_wp2_with fail
 refine ((HC _ ((HS.out.below C0.out.bel).mono C0.out.bel.size)).out).mono ?_
 rintro e w1 ⟨rfl, hb⟩
 have C1 := Lib.hid (C0.out.call hb)
 clear hb C0 hc0 hc1
 by_cases hce : ce = 0
 case neg =>
  have hq : (ce == 0) = false := by simpa using hce
  have HNE := Lib.hid hce
  clear hce
  go_wp2_with fail
  go_loopw [7, 8] (fun ev iv wr => ev = .int .i64 (ce) ∧ iv = .int .i64 0 ∧ w1 = wr) (fun _ _ _ => 0)
  case atStart => exact ⟨rfl, rfl, rfl⟩
  case round =>
   obtain ⟨rfl, rfl, rfl⟩ := hrel
   by_cases hk0 : 0 < n
   ·have hk0' : (0 : Int) < (n : Int) := by omega
    go_wp2_with fail
    go_ret
    exact ⟨ret_int (by rw [HE.out, if_pos HNE.out]), C1.out.bel⟩
   ·have hk0' : (n : Int) ≤ 0 := by omega
    go_wp2_with fail
    go_ret
    exact ⟨ret_int (by rw [HE.out, if_pos HNE.out]), C1.out.bel⟩
 subst hce
 rw [if_neg (by simp)] at HE
 go_wp2_with fail
 refine (in_r r _ _ _ _ HR.out).mono ?_
 rintro e w' ⟨rfl, rfl⟩
 cases r
 ·go_wp2_with fail
  go_loopw [7, 8] (fun ev iv wr => ev = .int .i64 (3) ∧ iv = .int .i64 0 ∧ w1 = wr) (fun _ _ _ => 0)
  case atStart => exact ⟨rfl, rfl, rfl⟩
  case round =>
   obtain ⟨rfl, rfl, rfl⟩ := hrel
   by_cases hk0 : 0 < n
   ·have hk0' : (0 : Int) < (n : Int) := by omega
    go_wp2_with fail
    go_ret
    exact ⟨ret_int (by rw [HE.out, if_pos (by simp)]), C1.out.bel⟩
   ·have hk0' : (n : Int) ≤ 0 := by omega
    go_wp2_with fail
    go_ret
    exact ⟨ret_int (by rw [HE.out, if_pos (by simp)]), C1.out.bel⟩
 rw [if_neg (by simp)] at HE
 have hn6 := HN6.out rfl
 have hnl6 := HNL.out (by simp)
 have HNL6 := Lib.hid hnl6
 clear hnl6 HN6 HNL
 go_wp2_with fail
 go_loopw [7, 8] (fun ev iv wr => ∃ (k : Nat) (e : Int), ev = .int .i64 e ∧ iv = .int .i64 k ∧ k ≤ n ∧ ((e = 0 ∧ Prefix s l k) ∨ (e ≠ 0 ∧ F = e)) ∧ Below w1.heap.size w1 wr) (fun _ iv _ => n - (intOf iv).toNat)
 case atStart => exact ⟨0, 0, rfl, rfl, by omega, .inl ⟨rfl, fun j hj => by omega⟩, Below.refl _ _⟩
 case round =>
  obtain ⟨k, e, rfl, rfl, hk, hor, hb⟩ := hrel
  have HB := Lib.hid hb
  clear hb
  rcases hor with ⟨rfl, hp⟩ | ⟨hne, hF⟩
  ·have HP := Lib.hid hp
   clear hp
   by_cases hkn : k < n
   ·have C2 := Lib.hid (C1.out.call HB.out)
    have hc0 := C2.out.cell 0 rfl 0
    have hc1 := C2.out.cell 0 rfl 1
    have HX := Lib.hid (one_ref s l k (.slice ta s.things.length tc) (.slice la s.lots.length lc) (.slice a n c) wr ((HS.out.below C2.out.bel).mono C2.out.bel.size) ((HL.out.below C2.out.bel).mono C2.out.bel.size) (by rw [HN.out]; exact hkn) (by rw [HN.out]; exact hn6) HNL6.out HP.out)
    have HF1 := Lib.hid (HF1.out k hkn HP.out)
    have HPS : Hid (batchE s l k = 0 → Prefix s l (k + 1)) := fun h j hj => by
     by_cases hjk : j = k
     ·subst hjk; exact h
     ·exact HP.out j (by omega)
    generalize batchE s l k = BE at *
    go_wp2_with fail
    refine HX.out.mono ?_
    rintro e w2 ⟨rfl, hb⟩
    have HB2 := Lib.hid (HB.out.trans (hb.mono HB.out.size))
    clear hb hc0 hc1
    go_wp2_with fail
    refine ⟨⟨k + 1, BE, rfl, by push_cast; rfl, by omega, ?_, HB2.out⟩, ?_⟩
    ·by_cases h : BE = 0
     ·exact .inl ⟨h, HPS.out h⟩
     ·exact .inr ⟨h, HF1.out h⟩
    ·simp [intOf]; omega
   ·obtain rfl : k = n := by omega
    have HZ := Lib.hid (HF2.out k rfl HP.out)
    go_wp2_with fail
    go_ret
    exact ⟨ret_int (by rw [HE.out, HZ.out]), C1.out.bel.trans (HB.out.mono C1.out.bel.size)⟩
  ·have hq : (e == 0) = false := by simpa using hne
   have HEF := Lib.hid hF
   clear hF hne
   by_cases hkn : k < n
   ·go_wp2_with fail
    go_ret
    exact ⟨ret_int (by rw [HE.out, HEF.out]), C1.out.bel.trans (HB.out.mono C1.out.bel.size)⟩
   ·go_wp2_with fail
    go_ret
    exact ⟨ret_int (by rw [HE.out, HEF.out]), C1.out.bel.trans (HB.out.mono C1.out.bel.size)⟩
end Go.Proofs.YteebihcdgpfldaaGreat
namespace Go.Proofs.YteebihcdgpfldaaGreat
open Go.RowKit
set_option maxHeartbeats 4000000 in
/-- Parts -/
theorem parts_ref (lo hi wt : Int) (w : World) (hlo : 0 ≤ lo) (hhi : lo ≤ hi) (hh : hi ≤ 2000000000000) (hw : 0 < wt) (hw2 : wt ≤ 1200000) : Calls Tryz.prog 93 #[.agg #[.int .i64 lo, .int .i64 hi], .int .i64 wt] w
 fun e w' => e = .returned (.agg #[.int .i64 (partsV wt (lo, hi)).1, .int .i64 (partsV wt (lo, hi)).2]) ∧ Below w.heap.size w w' := by
 have C0 : Hid (Bs w [(w.heap.size, .cells #[.int .i64 lo, .int .i64 hi] 30), (w.heap.size + 1, .cells #[.int .i64 0, .int .i64 0] 30)] _) := ((Bs.nil w).push _ rfl (.cells #[.int .i64 lo, .int .i64 hi] 30)).push (w.heap.size + 1) (by simp) (.cells #[.int .i64 0, .int .i64 0] 30)
 have HP1 : Hid (min 1000000 (lo / wt) = (partsV wt (lo, hi)).1) := rfl
 have HP2 : Hid (min 1000000 ((hi + wt - 1) / wt) = (partsV wt (lo, hi)).2) := rfl
 generalize partsV wt (lo, hi) = p at *
 obtain ⟨p1, p2⟩ := p
 simp only at HP1 HP2 ⊢
 go_enter Tryz.func93, Tryz.ntmps93
 go_wp2_with fail
 refine wp_region_inv0 (by kernel_rfl) (by kernel_rfl) (fun D w' => Bs w [(w.heap.size, .cells #[.int .i64 lo, .int .i64 hi] 30), (w.heap.size + 1, .cells (if D 14 then #[.int .i64 p1, .int .i64 p2] else #[.int .i64 0, .int .i64 0]) 30)] w') C0.out.drew ?_
 iterate 4
  (apply obl_det
   case hrun =>
    intro D y wz hW hD R hR
    have HRR := Lib.hid hR
    clear hR
    have HW := Lib.hid hW
    have hc0 := HW.out.cell 0 rfl 0
    have hc1 := HW.out.cell 0 rfl 1
    clear hW hD
    go_wp2_with fail
    exact HRR.out _ HW.out
   case hnp => rfl
   case hv => first | exact ⟨_, fun _ => rfl⟩ | exact ⟨undef, fun _ => rfl⟩)
 apply obl_det
 case hrun =>
  intro D y wz hW hD R hR
  have HRR := Lib.hid hR
  clear hR
  have HW := Lib.hid hW
  clear hW hD
  go_wp2_with fail
  rw [HP1.out]
  exact HRR.out _ HW.out
 case hnp => rfl
 case hv => first | exact ⟨_, fun _ => rfl⟩ | exact ⟨undef, fun _ => rfl⟩
 iterate 7
  (apply obl_det
   case hrun =>
    intro D y wz hW hD R hR
    have HRR := Lib.hid hR
    clear hR
    have HW := Lib.hid hW
    have hc0 := HW.out.cell 0 rfl 0
    have hc1 := HW.out.cell 0 rfl 1
    clear hW hD
    go_wp2_with fail
    exact HRR.out _ HW.out
   case hnp => rfl
   case hv => first | exact ⟨_, fun _ => rfl⟩ | exact ⟨undef, fun _ => rfl⟩)
 apply obl_det
 case hrun =>
  intro D y wz hW hD R hR
  have HRR := Lib.hid hR
  clear hR
  have HW := Lib.hid hW
  clear hW hD
  go_wp2_with fail
  rw [HP2.out]
  exact HRR.out _ HW.out
 case hnp => rfl
 case hv => first | exact ⟨_, fun _ => rfl⟩ | exact ⟨undef, fun _ => rfl⟩
 apply obl_det
 case hrun =>
  intro D y wz hW hD R hR
  have HRR := Lib.hid hR
  clear hR
  have HW := Lib.hid hW
  have hc0 := HW.out.cell 0 rfl 0
  have hc1 := HW.out.cell 0 rfl 1
  clear hW hD
  go_wp2_with fail
  exact HRR.out _ HW.out
 case hnp => rfl
 case hv => first | exact ⟨_, fun _ => rfl⟩ | exact ⟨undef, fun _ => rfl⟩
 apply obl_det
 case hrun =>
  intro D y wz hW hD R hR
  have HRR := Lib.hid hR
  clear hR
  have h14 : D 14 = false := hD.not
  rw [h14] at hW
  have HW := Lib.hid hW
  clear hW hD h14
  refine wpList_store_bs rfl 30 _ _ rfl HW.out 1 _ #[.int .i64 p1, .int .i64 p2] _ _ rfl rfl rfl info51 rfl (by simp [Value.oneCell']) ?_
  intro w4 hC4
  simp only [Act.put]
  go_simp
  exact HRR.out _ hC4
 case hnp => rfl
 case hv => first | exact ⟨_, fun _ => rfl⟩ | exact ⟨undef, fun _ => rfl⟩
 apply obl_nil
 intro D y w8 hall hW
 have h14 := hall 14 (by decide)
 rw [h14] at hW
 have C1 := Lib.hid hW
 clear hall hW h14
 go_wp2_with fail
 exact bodyPost_ret (v := .agg #[.int .i64 p1, .int .i64 p2]) (results_cell_row (fn := Tryz.f93) rfl _ _ _ _ _ _ _ rfl (C1.out.get 1 rfl) Tryz.underlying30 rfl info51) rfl ⟨rfl, C1.out.bel⟩
end Go.Proofs.YteebihcdgpfldaaGreat
namespace Go.Proofs.YteebihcdgpfldaaGreat
structure AllGood (s : Shop) (l : List Bat) : Prop where
 sh : ShopOk s
 n1 : 1 ≤ l.length
 n6 : l.length ≤ 6
 pre : Prefix s l l.length
theorem batches_zero {s : Shop} {l : List Bat} : batchesE s l = 0 ↔ checkE s = 0 ∧ (1 ≤ l.length ∧ l.length ≤ 6) ∧ Prefix s l l.length := by
 unfold batchesE
 by_cases h : checkE s = 0
 ·rw [if_neg (by simp [h])]
  cases ho : outOne 1 6 (l.length : Int)
  ·have := outOne_false.1 ho
   simp only [Bool.false_eq_true, if_false, h, true_and]
   rw [show (findE (batchEs s l) 0).2 = 0 ↔ ∀ k, k < l.length → batchE s l k = 0 from map_range_zero]
   constructor
   ·intro hh; exact ⟨⟨by omega, by omega⟩, hh⟩
   ·intro hh; exact hh.2
  ·simp only [if_true, h, true_and]
   constructor
   ·intro hh; cases hh
   ·intro hh
    have : outOne 1 6 (l.length : Int) = false := outOne_false.2 (by omega)
    rw [ho] at this; cases this
 ·rw [if_pos h]
  constructor
  ·intro hh; exact absurd hh h
  ·intro hh; exact absurd hh.1 h
theorem all_good {s : Shop} {l : List Bat} (h : batchesE s l = 0) : AllGood s l := by
 obtain ⟨h1, h2, h3⟩ := batches_zero.1 h
 exact ⟨shop_ok h1, h2.1, h2.2, h3⟩
end Go.Proofs.YteebihcdgpfldaaGreat
namespace Go.Proofs.YteebihcdgpfldaaGreat
theorem truthIn_spec {s : Shop} {l : List Bat} {prev : List (List (Int × Int))} {b : Bat} {x : Tru} {t : Nat} (h : truthIn s l prev b x t = true) :
 ((b.added.getD t (0, 0)).1 ≤ x.added.getD t 0 ∧ x.added.getD t 0 ≤ (b.added.getD t (0, 0)).2) ∧
 (∀ i, i < s.lots.length → ((s.lots.getD i default).parts.getD t (0, 0)).1 ≤ (x.lots.getD i []).getD t 0 ∧ (x.lots.getD i []).getD t 0 ≤ ((s.lots.getD i default).parts.getD t (0, 0)).2) ∧
 (∀ i, i < b.back.length → (partsV (weightV (l.getD i default)) ((prev.getD i []).getD t (0, 0))).1 ≤ (x.back.getD i []).getD t 0 ∧ (x.back.getD i []).getD t 0 ≤ (partsV (weightV (l.getD i default)) ((prev.getD i []).getD t (0, 0))).2) := by
 unfold truthIn at h
 simp only [Bool.and_eq_true, Bool.not_eq_true', List.all_eq_true, List.mem_range] at h
 exact ⟨outOne_false.1 h.1.1, fun i hi => outOne_false.1 (h.1.2 i hi), fun i hi => outOne_false.1 (h.2 i hi)⟩
/-- What a truth makes is between the ends. -/
theorem madeT_in {s : Shop} {l : List Bat} {prev : List (List (Int × Int))} {b : Bat} {x : Tru} {t : Nat} (h : truthIn s l prev b x t = true) (hg : ∀ i, 0 ≤ b.grams.getD i 0) (hb : ∀ i, 0 ≤ b.back.getD i 0) :
 cellS s l prev b t false ≤ madeT s b x t ∧ madeT s b x t ≤ cellS s l prev b t true := by
 obtain ⟨h1, h2, h3⟩ := truthIn_spec h
 unfold cellS madeT
 have a1 : dot (lotT s b t false) s.lots.length ≤ dot (fun i => b.grams.getD i 0 * (x.lots.getD i []).getD t 0) s.lots.length := dot_le fun i hi => by
  simpa [lotT, sd] using Int.mul_le_mul_of_nonneg_left (h2 i hi).1 (hg i)
 have a2 : dot (fun i => b.grams.getD i 0 * (x.lots.getD i []).getD t 0) s.lots.length ≤ dot (lotT s b t true) s.lots.length := dot_le fun i hi => by
  simpa [lotT, sd] using Int.mul_le_mul_of_nonneg_left (h2 i hi).2 (hg i)
 have b1 : dot (backT l prev b t false) b.back.length ≤ dot (fun i => b.back.getD i 0 * (x.back.getD i []).getD t 0) b.back.length := dot_le fun i hi => by
  simpa [backT, sd] using Int.mul_le_mul_of_nonneg_left (h3 i hi).1 (hb i)
 have b2 : dot (fun i => b.back.getD i 0 * (x.back.getD i []).getD t 0) b.back.length ≤ dot (backT l prev b t true) b.back.length := dot_le fun i hi => by
  simpa [backT, sd] using Int.mul_le_mul_of_nonneg_left (h3 i hi).2 (hb i)
 simp only [sd, Bool.false_eq_true, if_false, if_true]
 omega
end Go.Proofs.YteebihcdgpfldaaGreat
