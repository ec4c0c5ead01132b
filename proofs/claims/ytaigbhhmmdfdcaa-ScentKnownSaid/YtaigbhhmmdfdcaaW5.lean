/- scent.first at things and lots; the closures of Check; scent.Check. -/
import Derived.Test.YtaigbhhmmdfdcaaW4
namespace Go.Proofs.Ytaigbhhmmdfdcaa
open Go.RowKit
theorem errs_get (E : Nat → Int) (n k : Nat) (h : k < n) : ((List.range n).map E).getD k 0 = E k := by
  rw [List.getD_eq_getElem?_getD, List.getElem?_map, List.getElem?_range h]; rfl

set_option maxRecDepth 100000 in
set_option maxHeartbeats 4000000 in
theorem firstThing_any (p : Option Addr) (l : List Thing) (E : Nat → Int) (v : Value) (w : World) (hv : ThingsIn w.heap.size w v l)
    (hf : ∀ k W, k < l.length → Below w.heap.size w W → Calls Try.prog 52 #[.int .i64 k, .agg #[.string (l.getD k default).name, .int .i64 (l.getD k default).kind, .int .i64 (l.getD k default).limit, .int .i64 (l.getD k default).weak, .int .i64 (l.getD k default).fade], .pointer p] W fun e W' => e = .returned (.int .i64 (E k)) ∧ Below W.heap.size W W') :
    Calls Try.prog 51 #[v, .func (.func 52) #[] #[.pointer p]] w
      fun e w' => e = .returned (.tuple #[.int .i64 (findE ((List.range l.length).map E) 0).1, .int .i64 (findE ((List.range l.length).map E) 0).2]) ∧ Below w.heap.size w w' := by
  have HV := Lib.hid hv
  have HFN := Lib.hid hf
  obtain ⟨a, c, rfl, hl, hlc, -⟩ := hv
  clear hf
  go_enter Try.func51, Try.ntmps51
  go_wp2_with fail
  go_loopw [10] (fun i wr => ∃ k : Nat, k ≤ l.length ∧ i = .int .i64 k ∧ Below w.heap.size w wr ∧ findE ((List.range l.length).map E) 0 = findE (((List.range l.length).map E).drop k) k) (fun i _ => l.length - (intOf i).toNat)
  case atStart => exact ⟨0, by omega, rfl, Below.refl _ _, rfl⟩
  case round =>
    obtain ⟨k, hk, rfl, hb, hf⟩ := hrel
    have HF := Lib.hid hf
    clear hf
    by_cases hkl : k < l.length
    · obtain ⟨b', o, c', hvv, -, hbB, hc1, hc2, hc3, hc4, hc5, -⟩ := (HV.out.below hb).at hkl
      cases hvv
      have HD : Hid (findE (((List.range l.length).map E).drop k) k = if E k = 0 then findE (((List.range l.length).map E).drop (k + 1)) (k + 1) else (k, E k)) := by
        unfold Hid
        rw [findE_drop _ _ (by simpa using hkl), errs_get _ _ _ hkl]
      have HC := fun (W : World) (hW : Below w.heap.size w W) => Lib.hid (HFN.out k W hkl hW)
      generalize l.getD k default = y at *
      simp only [rdThing] at hc1 hc2 hc3 hc4 hc5
      have hsz := hb.size
      have HB := Lib.hid hb
      have HB1 := Lib.hid (hb.alloc hsz (.cells #[.string y.name, .int .i64 y.kind, .int .i64 y.limit, .int .i64 y.weak, .int .i64 y.fade] 62))
      clear hb
      go_wp2_with fail
      refine (HC _ HB1.out).out.mono ?_
      rintro e w' ⟨rfl, hbw⟩
      have HB2 := Lib.hid (HB1.out.trans (hbw.mono HB1.out.size))
      clear hbw
      obtain ⟨r, hr⟩ : ∃ r, E k = r := ⟨_, rfl⟩
      rw [hr] at HD
      rw [hr]
      clear hr
      by_cases hz : r = 0
      · subst hz
        go_wp2_with fail
        go_roundw
        case rel => exact ⟨k + 1, by omega, by go_num, HB2.out, by rw [HF.out, HD.out]; simp⟩
        case measure => simp [intOf]; omega
      · have hz2 : (r != 0) = true := by simpa using hz
        have HZ := Lib.hid hz
        clear hz
        go_wp2_with fail
        go_ret2
        rw [HF.out, HD.out, if_neg HZ.out]
        exact ⟨rfl, HB2.out⟩
    · have : k = l.length := by omega
      have HD : Hid (findE ((List.range l.length).map E) 0 = (0, 0)) := by
        unfold Hid
        rw [HF.out, this, List.drop_of_length_le (by simp)]
        rfl
      go_wp2_with fail
      go_ret2
      rw [HD.out]
      exact ⟨rfl, hb⟩

set_option maxRecDepth 100000 in
set_option maxHeartbeats 4000000 in
theorem firstLot_any (p : Option Addr) (l : List Lot) (E : Nat → Int) (v : Value) (w : World) (hv : LotsIn w.heap.size w v l)
    (hf : ∀ k W, k < l.length → Below w.heap.size w W → ∀ u, (l.getD k default).name.size ≤ 1000000000000000 → SpansIn W.heap.size W u (l.getD k default).parts → Calls Try.prog 55 #[.int .i64 k, .agg #[.string (l.getD k default).name, u], .pointer p] W fun e W' => e = .returned (.int .i64 (E k)) ∧ Below W.heap.size W W') :
    Calls Try.prog 54 #[v, .func (.func 55) #[] #[.pointer p]] w
      fun e w' => e = .returned (.tuple #[.int .i64 (findE ((List.range l.length).map E) 0).1, .int .i64 (findE ((List.range l.length).map E) 0).2]) ∧ Below w.heap.size w w' := by
  have HV := Lib.hid hv
  have HFN := Lib.hid hf
  obtain ⟨a, c, rfl, hl, hlc, -⟩ := hv
  clear hf
  go_enter Try.func54, Try.ntmps54
  go_wp2_with fail
  go_loopw [10] (fun i wr => ∃ k : Nat, k ≤ l.length ∧ i = .int .i64 k ∧ Below w.heap.size w wr ∧ findE ((List.range l.length).map E) 0 = findE (((List.range l.length).map E).drop k) k) (fun i _ => l.length - (intOf i).toNat)
  case atStart => exact ⟨0, by omega, rfl, Below.refl _ _, rfl⟩
  case round =>
    obtain ⟨k, hk, rfl, hb, hf⟩ := hrel
    have HF := Lib.hid hf
    clear hf
    by_cases hkl : k < l.length
    · obtain ⟨b', o, c', hvv, -, hbB, hc1, hn1, u, hc2, hs1⟩ := HV.out.at hkl
      have HS1 := Lib.hid hs1
      obtain ⟨ua, uc, hu, -⟩ := hs1
      subst hu
      have hc1 := (hb.cell (p := ⟨b', _, none⟩) hbB).trans hc1
      have hc2 := (hb.cell (p := ⟨b', _, none⟩) hbB).trans hc2
      cases hvv
      have HD : Hid (findE (((List.range l.length).map E).drop k) k = if E k = 0 then findE (((List.range l.length).map E).drop (k + 1)) (k + 1) else (k, E k)) := by
        unfold Hid
        rw [findE_drop _ _ (by simpa using hkl), errs_get _ _ _ hkl]
      have HC := fun (W : World) (hW : Below w.heap.size w W) => Lib.hid (HFN.out k W hkl hW (.slice ua (l.getD k default).parts.length uc) hn1 ((HS1.out.below hW).mono hW.size))
      generalize l.getD k default = y at *
      simp only [rdLot] at hc1 hc2
      have hsz := hb.size
      have HB := Lib.hid hb
      have HB1 := Lib.hid (hb.alloc hsz (.cells #[.string y.name, .slice ua y.parts.length uc] 83))
      clear hb
      go_wp2_with fail
      refine (HC _ HB1.out).out.mono ?_
      rintro e w' ⟨rfl, hbw⟩
      have HB2 := Lib.hid (HB1.out.trans (hbw.mono HB1.out.size))
      clear hbw
      obtain ⟨r, hr⟩ : ∃ r, E k = r := ⟨_, rfl⟩
      rw [hr] at HD
      rw [hr]
      clear hr
      by_cases hz : r = 0
      · subst hz
        go_wp2_with fail
        go_roundw
        case rel => exact ⟨k + 1, by omega, by go_num, HB2.out, by rw [HF.out, HD.out]; simp⟩
        case measure => simp [intOf]; omega
      · have hz2 : (r != 0) = true := by simpa using hz
        have HZ := Lib.hid hz
        clear hz
        go_wp2_with fail
        go_ret2
        rw [HF.out, HD.out, if_neg HZ.out]
        exact ⟨rfl, HB2.out⟩
    · have : k = l.length := by omega
      have HD : Hid (findE ((List.range l.length).map E) 0 = (0, 0)) := by
        unfold Hid
        rw [HF.out, this, List.drop_of_length_le (by simp)]
        rfl
      go_wp2_with fail
      go_ret2
      rw [HD.out]
      exact ⟨rfl, hb⟩
end Go.Proofs.Ytaigbhhmmdfdcaa
