/- The closures of Check; scent.Check. -/
import Derived.Test.YtaigbhhmmdfdcaaW5
namespace Go.Proofs.Ytaigbhhmmdfdcaa
open Go.RowKit
theorem sl_shape {α : Type} [Inhabited α] {R : Rd α} {B : Nat} {w : World} {v : Value} {l : List α} (h : SlIn R B w v l) : ∃ a c, v = .slice a l.length c ∧ l.length ≤ c ∧ l.length ≤ 1000000000000000 := by
  obtain ⟨a, c, e, h1, h2, -⟩ := h
  exact ⟨a, c, e, h2, h1⟩
set_option maxHeartbeats 1000000 in
theorem check1_any (things : List Thing) (k : Nat) (hk : k < things.length) (y : Thing) (vt : Value) (g : Nat) (w : World) (hv : ThingsIn w.heap.size w vt things) (hg : g < w.heap.size) (hc : w.cell? ⟨g, 0, none⟩ = some vt) :
    Calls Try.prog 52 #[.int .i64 k, .agg #[.string y.name, .int .i64 y.kind, .int .i64 y.limit, .int .i64 y.weak, .int .i64 y.fade], .pointer (some ⟨g, 0, none⟩)] w
      fun e w' => e = .returned (.int .i64 (thingE (things.take k) (things.getD k default))) ∧ Below w.heap.size w w' := by
  have hb := (Below.refl w.heap.size w).alloc (Nat.le_refl _) (.cells #[.string y.name, .int .i64 y.kind, .int .i64 y.limit, .int .i64 y.weak, .int .i64 y.fade] 62)
  have HB := Lib.hid hb
  have HV := Lib.hid (hv.next hb)
  obtain ⟨a, c, rfl, -⟩ := hv
  clear hb
  have HX := Lib.hid (thing_any things k hk _ _ HV.out)
  generalize thingE (things.take k) (things.getD k default) = E at *
  go_enter Try.func52, Try.ntmps52
  go_wp2_with fail
  refine HX.out.mono ?_
  rintro e w1 ⟨rfl, hb1⟩
  have HB1 := Lib.hid (HB.out.trans (hb1.mono (by simp)))
  clear hb1
  go_wp2_with fail
  go_ret
  exact ⟨rfl, HB1.out⟩
set_option maxRecDepth 100000 in
set_option maxHeartbeats 4000000 in
theorem check2_any (s : Shop) (k : Nat) (hk : k < s.lots.length) (y : Lot) (u : Value) (vt vl : Value) (g : Nat) (w : World) (hv : ShopAt w.heap.size w vt vl s) (hg : g < w.heap.size)
    (h0 : w.cell? ⟨g, 0, none⟩ = some vt) (h1 : w.cell? ⟨g, 1, none⟩ = some vl) (hn : y.name.size ≤ 1000000000000000) (hu : SpansIn w.heap.size w u y.parts) :
    Calls Try.prog 55 #[.int .i64 k, .agg #[.string y.name, u], .pointer (some ⟨g, 0, none⟩)] w
      fun e w' => e = .returned (.int .i64 (lotE s.things.length (s.lots.take k) y)) ∧ Below w.heap.size w w' := by
  have HG0 := Lib.hid h0
  have HG1 := Lib.hid h1
  have HG := Lib.hid hg
  have HV := Lib.hid hv
  have HU := Lib.hid hu
  have HN := fun w => Lib.hid (name_any y.name w hn)
  obtain ⟨ta, tc, rfl, -, htl⟩ := sl_shape hv.1
  obtain ⟨la, lc, rfl, hlc, hll⟩ := sl_shape hv.2
  obtain ⟨ua, uc, rfl, -, hul⟩ := sl_shape hu
  have C0 := Lib.hid ((Bs.nil w).push _ rfl (.cells #[.string y.name, .slice ua y.parts.length uc] 83))
  have HT := Lib.hid (hv.2.take k (by omega))
  have HE : Hid (lotE s.things.length (s.lots.take k) y = if nameB y.name = false then 6 else if (s.lots.take k).any (fun x => sameN y.name x.name) then 5 else if y.parts.length ≠ s.things.length then 3 else spansE 1000000 y.parts) := rfl
  generalize lotE s.things.length (s.lots.take k) y = E at *
  clear hv hu h0 h1
  generalize s.lots.take k = t at *
  generalize s.lots.length = nl at *
  generalize s.things.length = nt at *
  obtain ⟨r1, hr1⟩ : ∃ r, nameB y.name = r := ⟨_, rfl⟩
  obtain ⟨r2, hr2⟩ : ∃ r, t.any (fun x => sameN y.name x.name) = r := ⟨_, rfl⟩
  obtain ⟨n, hnn⟩ : ∃ n, y.parts.length = n := ⟨_, rfl⟩
  rw [hr1, hr2, hnn] at HE
  simp only [hr1] at HN
  have HR2 := Lib.hid hr2
  have HNN := Lib.hid hnn
  rw [hnn] at HU hul C0 ⊢
  clear hr1 hr2 hnn hg
  have hcN := C0.out.cell 0 rfl 0
  go_enter Try.func55, Try.ntmps55
  go_wp2_with fail
  refine (HN _).out.mono ?_
  rintro e w1 ⟨rfl, hb1⟩
  have C1 := Lib.hid (C0.out.call hb1)
  clear hb1 hcN
  cases r1
  · go_wp2_with fail
    go_ret
    exact ⟨ret_int (by rw [HE.out]; rfl), C1.out.bel⟩
  have HS := Lib.hid (C1.out.lt 0 rfl)
  have hg0 := (C1.out.bel.cell (p := ⟨g, 0, none⟩) HG.out).trans HG0.out
  have hg1 := (C1.out.bel.cell (p := ⟨g, 1, none⟩) HG.out).trans HG1.out
  go_wp2_with fail
  clear hg0 hg1
  refine (hasLot_any (some ⟨w.heap.size, 0, none⟩) r2 t (fun x => sameN y.name x.name) _ w1 ((HT.out.below C1.out.bel).mono C1.out.bel.size) (fun k W _ hW u => same58 _ u _ y.name W ((hW.cell (p := ⟨w.heap.size, 0, none⟩) HS.out).trans (C1.out.cell 0 rfl 0)) (Nat.lt_of_lt_of_le HS.out hW.size) _ rfl) HR2.out).mono ?_
  rintro e w2 ⟨rfl, hb1⟩
  have C2 := Lib.hid (C1.out.call hb1)
  clear hb1 C1 HS
  cases r2
  case true =>
    go_wp2_with fail
    go_ret
    exact ⟨ret_int (by rw [HE.out]; rfl), C2.out.bel⟩
  have hg0 := (C2.out.bel.cell (p := ⟨g, 0, none⟩) HG.out).trans HG0.out
  have hcP := C2.out.cell 0 rfl 1
  by_cases hq : n = nt
  · subst hq
    have hq1 : ((n : Int) != (n : Int)) = false := by simp
    go_wp2_with fail
    have HX := Lib.hid (ranges_any y.parts 1000000 _ w2 ((HU.out.below C2.out.bel).mono C2.out.bel.size))
    refine HX.out.mono ?_
    rintro e w3 ⟨rfl, hb1⟩
    have C3 := Lib.hid (C2.out.call hb1)
    clear hb1 C2 hcP hg0
    go_wp2_with fail
    go_ret
    exact ⟨ret_int (by rw [HE.out]; simp), C3.out.bel⟩
  · have hq1 : ((n : Int) != (nt : Int)) = true := by simp; omega
    have HQ := Lib.hid hq
    clear hq
    go_wp2_with fail
    go_ret
    exact ⟨ret_int (by rw [HE.out]; simp [HQ.out]), C2.out.bel⟩
set_option maxRecDepth 100000 in
set_option maxHeartbeats 8000000 in
/-- scent.Check -/
theorem check_any (s : Shop) (vt vl : Value) (w : World) (hv : ShopAt w.heap.size w vt vl s) :
    Calls Try.prog 16 #[.agg #[vt, vl]] w fun e w' => e = .returned (.tuple #[.int .i64 (checkV s).1, .int .i64 (checkV s).2.1, .int .i64 (checkV s).2.2]) ∧ Below w.heap.size w w' := by
  have HV := Lib.hid hv
  obtain ⟨ta, tc, rfl, -, htl⟩ := sl_shape hv.1
  obtain ⟨la, lc, rfl, -, hll⟩ := sl_shape hv.2
  clear hv
  have C0 := Lib.hid ((Bs.nil w).push _ rfl (.cells #[.slice ta s.things.length tc, .slice la s.lots.length lc] 25))
  have HE : Hid (checkV s = if outOne 1 5 s.things.length || outOne 1 6 s.lots.length then (1, 0, 3)
    else if (findE (thingEs s) 0).2 ≠ 0 then (2, (findE (thingEs s) 0).1, (findE (thingEs s) 0).2)
    else if (findE (lotEs s) 0).2 ≠ 0 then (3, (findE (lotEs s) 0).1, (findE (lotEs s) 0).2) else (0, 0, 0)) := rfl
  have HF1 : Hid (thingEs s = (List.range s.things.length).map fun i => thingE (s.things.take i) (s.things.getD i default)) := rfl
  have HF2 : Hid (lotEs s = (List.range s.lots.length).map fun i => lotE s.things.length (s.lots.take i) (s.lots.getD i default)) := rfl
  generalize checkV s = E at *
  obtain ⟨q1, hq1⟩ : ∃ q, findE (thingEs s) 0 = q := ⟨_, rfl⟩
  obtain ⟨q2, hq2⟩ : ∃ q, findE (lotEs s) 0 = q := ⟨_, rfl⟩
  rw [hq1, hq2] at HE
  rw [HF1.out] at hq1
  rw [HF2.out] at hq2
  obtain ⟨at1, e1⟩ := q1
  obtain ⟨at2, e2⟩ := q2
  have HQ1 := Lib.hid hq1
  have HQ2 := Lib.hid hq2
  clear hq1 hq2 HF1 HF2
  have hc0 := C0.out.cell 0 rfl 0
  have hc1 := C0.out.cell 0 rfl 1
  obtain ⟨r1, hr1⟩ : ∃ r, outOne 1 5 (s.things.length : Int) = r := ⟨_, rfl⟩
  obtain ⟨r2, hr2⟩ : ∃ r, outOne 1 6 (s.lots.length : Int) = r := ⟨_, rfl⟩
  rw [hr1, hr2] at HE
  have HR1 := Lib.hid hr1
  have HR2 := Lib.hid hr2
  clear hr1 hr2
  have C0A := Lib.hid (C0.out.push (w.heap.size + 1) (by simp) (.cells #[.int .i64 (s.things.length : Nat)] 3))
  go_enter Try.func16, Try.ntmps16
  go_wp2_with fail
  refine (out_one r1 1 5 _ HR1.out _ _ (C0A.out.get 1 rfl)).mono ?_
  rintro e w1 ⟨rfl, hb1⟩
  have C1 := Lib.hid ((C0A.out.call hb1).sub [(w.heap.size, .cells #[.slice ta s.things.length tc, .slice la s.lots.length lc] 25)] (by simp))
  clear hb1 C0 C0A hc0 hc1
  cases r1
  case true =>
    go_wp2_with fail
    go_ret3
    rw [HE.out]
    exact ⟨rfl, C1.out.bel⟩
  have hc1 := C1.out.cell 0 rfl 1
  have C1A := Lib.hid (C1.out.push _ rfl (.cells #[.int .i64 (s.lots.length : Nat)] 3))
  go_wp2_with fail
  refine (out_one r2 1 6 _ HR2.out _ _ (C1A.out.get 1 rfl)).mono ?_
  rintro e w2 ⟨rfl, hb1⟩
  have C2 := Lib.hid ((C1A.out.call hb1).sub [(w.heap.size, .cells #[.slice ta s.things.length tc, .slice la s.lots.length lc] 25)] (by simp))
  clear hb1 C1 C1A hc1
  cases r2
  case true =>
    go_wp2_with fail
    go_ret3
    rw [HE.out]
    exact ⟨rfl, C2.out.bel⟩
  have hc0 := C2.out.cell 0 rfl 0
  have HS := Lib.hid (C2.out.lt 0 rfl)
  go_wp2_with fail
  refine (firstThing_any _ s.things (fun i => thingE (s.things.take i) (s.things.getD i default)) _ w2 ((HV.out.1.below C2.out.bel).mono C2.out.bel.size) (fun k W hk hW => check1_any s.things k hk _ _ _ W ((HV.out.1.below (C2.out.bel.trans (hW.mono C2.out.bel.size))).mono (Nat.le_trans C2.out.bel.size hW.size)) (Nat.lt_of_lt_of_le HS.out hW.size) ((hW.cell (p := ⟨w.heap.size, 0, none⟩) HS.out).trans (C2.out.cell 0 rfl 0)))).mono ?_
  rintro e w3 ⟨rfl, hb1⟩
  have C3 := Lib.hid (C2.out.call hb1)
  clear hb1 C2 hc0 HS
  rw [HQ1.out]
  by_cases hz : e1 = 0
  case neg =>
    have hz2 : (e1 != 0) = true := by simpa using hz
    have HZ := Lib.hid hz
    clear hz
    go_wp2_with fail
    go_ret3
    rw [HE.out]
    refine ⟨?_, C3.out.bel⟩
    simp [HZ.out]
  subst hz
  have hc1 := C3.out.cell 0 rfl 1
  have HS := Lib.hid (C3.out.lt 0 rfl)
  go_wp2_with fail
  refine (firstLot_any _ s.lots (fun i => lotE s.things.length (s.lots.take i) (s.lots.getD i default)) _ w3 ((HV.out.2.below C3.out.bel).mono C3.out.bel.size) (fun k W hk hW u hn hu => check2_any s k hk _ u _ _ _ W ((HV.out.below (C3.out.bel.trans (hW.mono C3.out.bel.size))).mono (Nat.le_trans C3.out.bel.size hW.size)) (Nat.lt_of_lt_of_le HS.out hW.size)
    ((hW.cell (p := ⟨w.heap.size, 0, none⟩) HS.out).trans (C3.out.cell 0 rfl 0)) ((hW.cell (p := ⟨w.heap.size, 1, none⟩) HS.out).trans (C3.out.cell 0 rfl 1)) hn hu)).mono ?_
  rintro e w4 ⟨rfl, hb1⟩
  have C4 := Lib.hid (C3.out.call hb1)
  clear hb1 C3 hc1 HS
  rw [HQ2.out]
  by_cases hz : e2 = 0
  case neg =>
    have hz2 : (e2 != 0) = true := by simpa using hz
    have HZ := Lib.hid hz
    clear hz
    go_wp2_with fail
    go_ret3
    rw [HE.out]
    refine ⟨?_, C4.out.bel⟩
    simp [HZ.out]
  subst hz
  go_wp2_with fail
  go_ret3
  rw [HE.out]
  exact ⟨rfl, C4.out.bel⟩
end Go.Proofs.Ytaigbhhmmdfdcaa
