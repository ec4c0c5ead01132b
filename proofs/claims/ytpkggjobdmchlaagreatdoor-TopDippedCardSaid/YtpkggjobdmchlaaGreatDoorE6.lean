/- dip: dip, find, plan. -/
import Derived.Deep.Cut
import Derived.Deep.CutBlock
import Derived.Test.YtpkggjobdmchlaaGreatDoorE5
namespace Go.Proofs.YtpkggjobdmchlaaGreatDoor
open Go.RowKit
/-- The error of a dip. -/
def dipE (s : DShop) (d : DDip) : Int := if outOne 0 ((s.baths.length : Int) - 1) d.bath = true then 4 else if (outOne 0 600 d.seconds || outOne 0 600 d.pause) = true then 7 else if d.seconds ≤ s.draw then 2 else 0
theorem outOneF {lo hi n : Int} : outOne lo hi n = false ↔ lo ≤ n ∧ n ≤ hi := by unfold outOne; simp
theorem dipE_zero {s : DShop} {d : DDip} : dipE s d = 0 ↔ DipOk s d := by
  constructor
  · intro h
    unfold dipE at h
    split at h
    · cases h
    · rename_i h1
      split at h
      · cases h
      · rename_i h2
        split at h
        · cases h
        · rename_i h3
          simp only [Bool.not_eq_true, Bool.or_eq_true, not_or, outOneF] at h1 h2
          exact ⟨by omega, by omega, by omega, by omega⟩
  · intro h
    have a := outOneF.2 (show 0 ≤ d.bath ∧ d.bath ≤ (s.baths.length : Int) - 1 by have := h.bath; omega)
    have b := outOneF.2 h.seconds
    have c := outOneF.2 h.pause
    unfold dipE
    rw [a, b, c, if_neg (by simp), if_neg (by simp), if_neg (by have := h.draw; omega)]
theorem outB_two (lo hi a b : Int) : outB lo hi [a, b] = (outOne lo hi a || outOne lo hi b) := by simp [outB]
set_option maxRecDepth 100000 in
set_option maxHeartbeats 8000000 in
theorem dip_ok (s : DShop) (hn : s.baths.length ≤ 1000) (d : DDip) (i : Int) (v : Value) (w : World) (hv : ∃ va vc, v = .slice va s.baths.length vc) :
    Calls Tryz.prog 78 #[.agg (dshopC s v), .int .i64 i, .agg (dipC d)] w fun e w' => e = .returned (.int .i64 (dipE s d)) ∧ Below w.heap.size w w' := by
  obtain ⟨va, vc, rfl⟩ := hv
  have HE : Hid (dipE s d = if outOne 0 ((s.baths.length : Int) - 1) d.bath = true then 4 else if (outOne 0 600 d.seconds || outOne 0 600 d.pause) = true then 7 else if d.seconds ≤ s.draw then 2 else 0) := rfl
  generalize dipE s d = R at *
  have HWN : Hid (wrap64 ((s.baths.length : Int) - 1) = (s.baths.length : Int) - 1) := wrapU (by omega)
  have C2 : Hid (Bs w [(w.heap.size, .cells (dshopC s (.slice va s.baths.length vc)) 106), (w.heap.size + 1, .cells (dipC d) 54)] _) := Lib.hid (((Bs.nil w).push _ rfl (.cells (dshopC s (.slice va s.baths.length vc)) 106)).push (w.heap.size + 1) (by simp) (.cells (dipC d) 54))
  have c8 := C2.out.cell 0 rfl 8
  have d0 := C2.out.cell 1 rfl 0
  clear hn
  obtain ⟨a1, ha1⟩ : ∃ b, outOne 0 ((s.baths.length : Int) - 1) d.bath = b := ⟨_, rfl⟩
  have HA1 := Lib.hid ha1
  obtain ⟨a2, ha2⟩ : ∃ b, (outOne 0 600 d.seconds || outOne 0 600 d.pause) = b := ⟨_, rfl⟩
  have HA2 := Lib.hid ha2
  clear ha1 ha2
  rw [HA1.out, HA2.out] at HE
  go_enter Tryz.func78, Tryz.ntmps78
  go_upto_region 1 with fail
  obtain ⟨w2, HW2⟩ : ∃ z, Hid (((w.alloc (.cells (dshopC s (.slice va s.baths.length vc)) 106)).alloc (.cells (dipC d) 54)) = z) := ⟨_, rfl⟩
  rw [HW2.out] at C2 c8 d0 ⊢
  go_wp2_with fail
  rw [HWN.out]
  refine (dout_row a1 0 ((s.baths.length : Int) - 1) [d.bath] 1 rfl (by simp) (by rw [outB_one]; exact HA1.out) _ _ rfl _ (heap_alloc_new _ _)).mono ?_
  rintro e w3 ⟨rfl, hb⟩
  have C3 := Lib.hid ((C2.out.alloc _).call hb)
  clear hb C2
  clear c8 d0
  cases a1 with
  | true =>
    go_wp2_with fail
    go_ret
    exact ⟨ret_int (by rw [HE.out]; rfl), C3.out.bel⟩
  | false =>
  have d1 := C3.out.cell 1 rfl 1
  have d2 := C3.out.cell 1 rfl 2
  go_wp2_with fail
  refine (dout_row a2 0 600 [d.seconds, d.pause] 2 rfl (by simp) (by rw [outB_two]; exact HA2.out) _ _ rfl _ (heap_alloc_new _ _)).mono ?_
  rintro e w4 ⟨rfl, hb⟩
  have C4 := Lib.hid ((C3.out.alloc _).call hb)
  clear hb C3
  clear d1 d2
  cases a2 with
  | true =>
    go_wp2_with fail
    go_ret
    exact ⟨ret_int (by rw [HE.out]; rfl), C4.out.bel⟩
  | false =>
  have d1 := C4.out.cell 1 rfl 1
  have c5 := C4.out.cell 0 rfl 5
  by_cases hl : d.seconds ≤ s.draw
  · go_wp2_with fail
    go_ret
    exact ⟨ret_int (by rw [HE.out]; simp [hl]), C4.out.bel⟩
  · go_wp2_with fail
    go_ret
    exact ⟨ret_int (by rw [HE.out]; simp [hl]), C4.out.bel⟩
set_option maxRecDepth 100000 in
set_option maxHeartbeats 16000000 in
theorem findP_ok (x : Array Value) (l : List DDip) (v : Value) (B : Nat) (w : World) (_hB : B ≤ w.heap.size) (hv : DipsIn B w v l) (J : Nat → World → Prop) (Jx : Int → World → Prop) (h0 : J 0 w) (hJ : ∀ i W W', J i W → Below W.heap.size W W' → J i W') (hJB : ∀ i W, J i W → Below B w W)
    (hf : ∀ i, i < l.length → ∀ W, J i W → Calls Tryz.prog 78 #[.agg x, .int .i64 i, .agg (dipC (l.getD i default))] W fun e W' => ∃ E : Int, e = .returned (.int .i64 E) ∧ ((E = 0 ∧ J (i + 1) W') ∨ (E ≠ 0 ∧ Jx E W'))) :
    Calls Tryz.prog 50 #[v, .func (.func 78) #[.agg x] #[]] w fun e W' => (e = .returned (.tuple #[.int .i64 0, .int .i64 0]) ∧ J l.length W') ∨ ∃ i E : Int, e = .returned (.tuple #[.int .i64 i, .int .i64 E]) ∧ E ≠ 0 ∧ Jx E W' := by
  obtain ⟨a, cap, rfl, hcap, hlm⟩ := sl_shape hv
  have HV := Lib.hid hv
  have HF := Lib.hid hf
  have HJ := Lib.hid hJ
  have HJB := Lib.hid hJB
  have HJ0 := Lib.hid h0
  clear hv hf h0 hJ hJB
  generalize hN : l.length = N at *
  have HNN := Lib.hid hN
  clear hN
  go_enter Tryz.func50, Tryz.ntmps50
  go_wp2_with fail
  go_loopw [5, 10] (fun ev iv wr => ∃ i : Nat, ev = .int .i64 0 ∧ iv = .int .i64 i ∧ i ≤ N ∧ J i wr) (fun _ iv _ => N - (intOf iv).toNat)
  case atStart => exact ⟨0, rfl, rfl, by omega, HJ0.out⟩
  case round =>
    clear HJ0
    obtain ⟨i, rfl, rfl, hi, hj⟩ := hrel
    have HJI := Lib.hid hj
    clear hj
    by_cases hil : i < N
    · have hii : (i : Int) < (N : Int) := by omega
      have HBB := Lib.hid (HJB.out _ _ HJI.out)
      obtain ⟨b, o, he, hbl, hx0, hx1, hx2, hx3⟩ := HV.out.at' (i := i) (by rw [HNN.out]; exact hil)
      subst he
      have HFI := Lib.hid (HF.out i hil)
      have hy0 := (HBB.out.cell (p := ⟨b, o + i * 4, none⟩) hbl).trans hx0
      have hy1 := (HBB.out.cell (p := ⟨b, o + i * 4 + 1, none⟩) hbl).trans hx1
      have hy2 := (HBB.out.cell (p := ⟨b, o + i * 4 + 2, none⟩) hbl).trans hx2
      have hy3 := (HBB.out.cell (p := ⟨b, o + i * 4 + 3, none⟩) hbl).trans hx3
      clear hx0 hx1 hx2 hx3 hbl HBB
      generalize l.getD i default = d at *
      have CP := Lib.hid ((Bs.nil wr).push _ rfl (.cells #[.int .i64 0, .int .i64 0, .int .i64 0, .bool false] 54))
      go_wp2_with (first | (refine wpList_store_bs rfl 54 _ _ rfl CP.out 0 _ _ _ _ rfl rfl rfl infoDD rfl (by simp [Value.oneCell']) ?_; intro w5 hC; have C5 : Hid (Bs wr [(wr.heap.size, .cells (dipC d) 54)] w5) := hC; clear hC CP hy0 hy1 hy2 hy3) | (refine wpList_load_row rfl 54 _ rfl _ rfl _ _ _ _ (C5.out.get 0 rfl) Tryz.underlying54 rfl infoDD ?_))
      refine (HFI.out _ (HJ.out _ _ _ HJI.out C5.out.bel)).mono ?_
      rintro e w6 ⟨E, rfl, (⟨rfl, hj6⟩ | ⟨hne, hx⟩)⟩
      · have HJ6 := Lib.hid hj6
        clear hj6 C5 HJI
        go_wp2_with fail
        refine ⟨⟨i + 1, rfl, by push_cast; rfl, by omega, HJ6.out⟩, ?_⟩
        simp [intOf]; omega
      · have HX := Lib.hid hx
        have HNE := Lib.hid hne
        have hq : (E != 0) = true := by simpa using hne
        clear hx hne C5 HJI
        go_wp2_with fail
        go_ret2
        exact .inr ⟨_, _, rfl, HNE.out, HX.out⟩
    · obtain rfl : i = N := by omega
      go_wp2_with fail
      go_ret2
      exact .inl ⟨rfl, HJI.out⟩
/-- The error of a plan: nothing just if it is in order. -/
def PlanOk (s : DShop) (l : List DDip) : Prop := l.length ≤ 30 ∧ ∀ i, i < l.length → DipOk s (l.getD i default)
/-- The first of some numbers that is not 0. -/
def firstNZ {α : Type} (g : α → Int) : List α → Int
  | [] => 0
  | x :: xs => if g x = 0 then firstNZ g xs else g x
theorem firstNZ_at {α : Type} [Inhabited α] (g : α → Int) : ∀ (l : List α) (i : Nat), i < l.length → (∀ j, j < i → g (l.getD j default) = 0) → g (l.getD i default) ≠ 0 → firstNZ g l = g (l.getD i default)
  | [], i, h, _, _ => by simp at h
  | x :: xs, 0, _, _, hn => by
    have hx : g x ≠ 0 := hn
    rw [firstNZ, if_neg hx]; rfl
  | x :: xs, i + 1, h, hz, hn => by
    have h0 : g x = 0 := hz 0 (by omega)
    rw [firstNZ, if_pos h0, firstNZ_at g xs i (by simpa using h) (fun j hj => hz (j + 1) (by omega)) hn]; rfl
theorem firstNZ_zero {α : Type} [Inhabited α] (g : α → Int) : ∀ (l : List α), firstNZ g l = 0 ↔ ∀ i, i < l.length → g (l.getD i default) = 0
  | [] => by simp [firstNZ]
  | x :: xs => by
    constructor
    · intro h i hi
      rw [firstNZ] at h
      split at h
      · rename_i h0
        cases i with
        | zero => exact h0
        | succ i => exact (firstNZ_zero g xs).1 h i (by simpa using hi)
      · rename_i h0; exact absurd h h0
    · intro h
      have h0 : g x = 0 := h 0 (by simp)
      rw [firstNZ, if_pos h0]
      exact (firstNZ_zero g xs).2 fun i hi => h (i + 1) (by simpa using hi)
/-- The error of a plan. -/
def planE (s : DShop) (l : List DDip) : Int := if 30 < l.length then 3 else firstNZ (dipE s) l
theorem planE_zero {s : DShop} {l : List DDip} : planE s l = 0 ↔ PlanOk s l := by
  unfold planE
  split
  · rename_i h; exact ⟨fun h' => (by cases h'), fun h' => absurd h'.1 (by omega)⟩
  · rename_i h
    rw [firstNZ_zero]
    exact ⟨fun h' => ⟨by omega, fun i hi => dipE_zero.1 (h' i hi)⟩, fun h' i hi => dipE_zero.2 (h'.2 i hi)⟩
set_option maxHeartbeats 8000000 in
theorem plan_ok (s : DShop) (hn : s.baths.length ≤ 1000) (l : List DDip) (v lv : Value) (w : World) (hv : ∃ va vc, v = .slice va s.baths.length vc) (hl : DipsIn w.heap.size w lv l) :
    Calls Tryz.prog 45 #[.agg (dshopC s v), lv] w fun e w' => e = .returned (.int .i64 (planE s l)) ∧ Below w.heap.size w w' := by
  have HPE : Hid (planE s l = if 30 < l.length then 3 else firstNZ (dipE s) l) := rfl
  generalize planE s l = P at *
  obtain ⟨va, vc, rfl⟩ := hv
  obtain ⟨a, cap, rfl, hcap, -⟩ := sl_shape hl
  have HL := Lib.hid hl
  have HN := Lib.hid hn
  clear hl hn
  have C1 : Hid (Bs w [(w.heap.size, .cells (dshopC s (.slice va s.baths.length vc)) 106)] _) := Lib.hid ((Bs.nil w).push _ rfl (.cells (dshopC s (.slice va s.baths.length vc)) 106))
  by_cases h30 : 30 < l.length
  · have hii : (30 : Int) < (l.length : Int) := by omega
    go_enter Tryz.func45, Tryz.ntmps45
    go_wp2_with fail
    go_ret
    exact ⟨ret_int (by rw [HPE.out, if_pos h30]), C1.out.bel⟩
  · have hii : ¬ (30 : Int) < (l.length : Int) := by omega
    go_enter Tryz.func45, Tryz.ntmps45
    go_wp2_with (refine wpList_load_row rfl 106 _ rfl _ rfl _ _ _ _ (C1.out.get 0 rfl) Tryz.underlying106 rfl infoDsh ?_)
    obtain ⟨w1, HW1⟩ : ∃ z, Hid (w.alloc (.cells (dshopC s (.slice va s.baths.length vc)) 106) = z) := ⟨_, rfl⟩
    rw [HW1.out] at C1 ⊢
    refine (findP_ok (dshopC s (.slice va s.baths.length vc)) l _ w.heap.size w1 C1.out.bel.size (HL.out.below C1.out.bel) (fun k W => Below w1.heap.size w1 W ∧ ∀ i, i < k → DipOk s (l.getD i default)) (fun E W => Below w1.heap.size w1 W ∧ firstNZ (dipE s) l = E) ⟨Below.refl _ _, fun i hi => absurd hi (Nat.not_lt_zero i)⟩ (fun i W W' h hb => ⟨h.1.trans (hb.mono h.1.size), h.2⟩) (fun i W h => h.1.mono C1.out.bel.size) (fun i hi W h => ?_)).mono ?_
    · refine (dip_ok s HN.out (l.getD i default) i (.slice va s.baths.length vc) W ⟨_, _, rfl⟩).mono ?_
      rintro e W' ⟨rfl, hb⟩
      refine ⟨_, rfl, ?_⟩
      have hb2 := h.1.trans (hb.mono h.1.size)
      by_cases hz : dipE s (l.getD i default) = 0
      · refine .inl ⟨hz, hb2, fun j hj => ?_⟩
        by_cases hji : j = i
        · subst hji; exact dipE_zero.1 hz
        · exact h.2 j (by omega)
      · exact .inr ⟨hz, hb2, firstNZ_at _ _ i hi (fun j hj => dipE_zero.2 (h.2 j hj)) hz⟩
    rintro e w2 (⟨rfl, hb, hall⟩ | ⟨i, E, rfl, hne, hb, hno⟩)
    · have HB := Lib.hid (C1.out.bel.trans (hb.mono C1.out.bel.size))
      have HA := Lib.hid hall
      clear hb hall C1
      go_wp2_with fail
      go_ret
      exact ⟨ret_int (by rw [HPE.out, if_neg h30]; exact ((firstNZ_zero _ _).2 fun i hi => dipE_zero.2 (HA.out i hi)).symm), HB.out⟩
    · have HB := Lib.hid (C1.out.bel.trans (hb.mono C1.out.bel.size))
      have HNO := Lib.hid hno
      have HNE := Lib.hid hne
      clear hb hno hne C1
      go_wp2_with fail
      go_ret
      exact ⟨ret_int (by rw [HPE.out, if_neg h30]; exact HNO.out.symm), HB.out⟩
end Go.Proofs.YtpkggjobdmchlaaGreatDoor
/- dip.Check at a shop in order. -/
namespace Go.Proofs.YtpkggjobdmchlaaGreatDoor
open Go.RowKit
theorem sameN_comm (a b : ByteArray) : sameN a b = sameN b a := by unfold sameN; exact BEq.comm

set_option maxHeartbeats 2000000 in
theorem idxDBath_any (p : Option Addr) (l : List DBath) (test : DBath → Bool) (v : Value) (w : World) (hv : DBathsIn w.heap.size w v l)
    (hf : ∀ k W, k < l.length → Below w.heap.size w W → Calls Tryz.prog 119 #[.agg #[.string (l.getD k default).name, .int .i64 (l.getD k default).warm.1, .int .i64 (l.getD k default).warm.2], .pointer p] W fun e W' => e = .returned (.bool (test (l.getD k default))) ∧ Below W.heap.size W W') :
    Calls Tryz.prog 75 #[v, .func (.func 119) #[] #[.pointer p]] w
      fun e w' => (∃ k : Int, e = .returned (.int .i64 k) ∧ decide (0 ≤ k) = l.any test) ∧ Below w.heap.size w w' := by
  have HV := Lib.hid hv
  have HFN := Lib.hid hf
  obtain ⟨a, c, rfl, hl, hlc, -⟩ := hv
  clear hf
  go_enter Tryz.func75, Tryz.ntmps75
  go_wp2_with fail
  go_loopw [8] (fun i wr => ∃ k : Nat, k ≤ l.length ∧ i = .int .i64 k ∧ Below w.heap.size w wr ∧ l.any test = (l.drop k).any test) (fun i _ => l.length - (intOf i).toNat)
  case atStart => exact ⟨0, by omega, rfl, Below.refl _ _, by simp⟩
  case round =>
    obtain ⟨k, hk, rfl, hb, hf⟩ := hrel
    have HF := Lib.hid hf
    clear hf
    by_cases hkl : k < l.length
    · obtain ⟨b', o, c', hvv, -, hbB, hc1, -, hc2, hc3⟩ := (HV.out.below hb).at hkl
      cases hvv
      have HD : Hid ((l.drop k).any test = (test (l.getD k default) || (l.drop (k + 1)).any test)) := by
        unfold Hid
        rw [List.drop_eq_getElem_cons hkl, List.any_cons]
        simp [List.getD, hkl]
      have HC := Lib.hid (HFN.out k wr hkl hb)
      generalize l.getD k default = y at *
      simp only [rdDBath] at hc1 hc2 hc3
      obtain ⟨r, hr⟩ : ∃ r, test y = r := ⟨_, rfl⟩
      rw [hr] at HC
      have HR := Lib.hid hr
      clear hr
      have hsz := hb.size
      have HB := Lib.hid hb
      clear hb
      cases r
      · go_wp2_with fail
        refine HC.out.mono ?_
        rintro e w' ⟨rfl, hbw⟩
        go_wp2_with fail
        go_roundw
        case rel => exact ⟨k + 1, by omega, by go_num, HB.out.trans (hbw.mono HB.out.size), by rw [HF.out, HD.out, HR.out]; simp⟩
        case measure => simp [intOf]; omega
      · go_wp2_with fail
        refine HC.out.mono ?_
        rintro e w' ⟨rfl, hbw⟩
        go_wp2_with fail
        go_ret
        exact ⟨⟨_, rfl, by rw [HF.out, HD.out, HR.out]; simp⟩, HB.out.trans (hbw.mono HB.out.size)⟩
    · have : k = l.length := by omega
      go_wp2_with fail
      go_ret
      exact ⟨⟨_, rfl, by rw [HF.out, this]; simp⟩, hb⟩
theorem hasDBath_any (p : Option Addr) (r : Bool) (l : List DBath) (test : DBath → Bool) (v : Value) (w : World) (hv : DBathsIn w.heap.size w v l)
    (hf : ∀ k W, k < l.length → Below w.heap.size w W → Calls Tryz.prog 119 #[.agg #[.string (l.getD k default).name, .int .i64 (l.getD k default).warm.1, .int .i64 (l.getD k default).warm.2], .pointer p] W fun e W' => e = .returned (.bool (test (l.getD k default))) ∧ Below W.heap.size W W') (hr : l.any test = r) :
    Calls Tryz.prog 118 #[v, .func (.func 119) #[] #[.pointer p]] w fun e w' => e = .returned (.bool r) ∧ Below w.heap.size w w' := by
  have HR := Lib.hid hr
  have HX := Lib.hid (idxDBath_any p l test v w hv hf)
  clear hr hf
  go_enter Tryz.func118, Tryz.ntmps118
  go_wp2_with fail
  refine HX.out.mono ?_
  rintro e w' ⟨⟨k, rfl, hk⟩, hbw⟩
  have HK := Lib.hid hk
  clear hk
  go_wp2_with fail
  go_ret
  exact ⟨ret_bool (HK.out.trans HR.out), hbw⟩
theorem sameDB_r (r : Bool) (y : DBath) (nm : ByteArray) (b6 : Nat) (w : World) (h6 : w.cell? ⟨b6, 0, none⟩ = some (.string nm)) (l6 : b6 < w.heap.size) (hr : sameN nm y.name = r) :
    Calls Tryz.prog 119 #[.agg #[.string y.name, .int .i64 y.warm.1, .int .i64 y.warm.2], .pointer (some ⟨b6, 0, none⟩)] w fun e w' => e = .returned (.bool r) ∧ Below w.heap.size w w' := by
  have HR : Hid ((y.name.toList == nm.toList) = r) := hr
  have C0 : Hid (Bs w [(w.heap.size, .cells (bathC y) 124)] _) := (Bs.nil w).push _ rfl (.cells (bathC y) 124)
  have h7 := (C0.out.bel.cell (p := ⟨b6, 0, none⟩) l6).trans h6
  clear hr h6
  go_enter Tryz.func119, Tryz.ntmps119
  go_wp2_with fail
  go_ret
  exact ⟨ret_bool HR.out, C0.out.bel⟩
set_option maxRecDepth 100000 in
set_option maxHeartbeats 16000000 in
theorem bath_ok {s : DShop} (hs : DOk s) (i : Nat) (hi : i < s.baths.length) (hz : (s.baths.getD i default).name.size ≤ 1000000000000000) (v : Value) (w : World) (hv : DBathsIn w.heap.size w v s.baths) :
    Calls Tryz.prog 101 #[.agg (dshopC s v), .int .i64 i, .agg (bathC (s.baths.getD i default))] w fun e w' => e = .returned (.int .i64 0) ∧ Below w.heap.size w w' := by
  obtain ⟨va, vc, rfl, hcap, -⟩ := sl_shape hv
  have HV := Lib.hid hv
  have HTK := Lib.hid (HV.out.take i (by omega))
  have HNM := Lib.hid (hs.name i hi)
  have HTW : Hid ((s.baths.take i).any (fun y => sameN (s.baths.getD i default).name y.name) = false) := by
    have h := hs.twice i hi
    rw [show (fun y : DBath => sameN (s.baths.getD i default).name y.name) = fun y => sameN y.name (s.baths.getD i default).name from funext fun y => sameN_comm _ _]
    exact h
  have HWM := Lib.hid (hs.warm i hi)
  have HML := Lib.hid hs.melt
  have hic : i ≤ vc := by omega
  have HLT : Hid ((s.baths.take i).length = i) := by unfold Hid; rw [List.length_take]; omega
  clear hv hs
  generalize s.baths.take i = tk at *
  generalize s.baths.getD i default = x at *
  have HSZ := Lib.hid hz
  clear hz
  have C2 : Hid (Bs w [(w.heap.size, .cells (dshopC s (.slice va s.baths.length vc)) 106), (w.heap.size + 1, .cells (bathC x) 124)] _) := Lib.hid (((Bs.nil w).push _ rfl (.cells (dshopC s (.slice va s.baths.length vc)) 106)).push (w.heap.size + 1) (by simp) (.cells (bathC x) 124))
  go_enter Tryz.func101, Tryz.ntmps101
  go_upto_region 1 with fail
  obtain ⟨w2, HW2⟩ : ∃ z, Hid (((w.alloc (.cells (dshopC s (.slice va s.baths.length vc)) 106)).alloc (.cells (bathC x) 124)) = z) := ⟨_, rfl⟩
  rw [HW2.out] at C2 ⊢
  have x0 := C2.out.cell 1 rfl 0
  go_wp2_with fail
  refine (name_r true x.name _ HSZ.out HNM.out).mono ?_
  rintro e w3 ⟨rfl, hb⟩
  have C3 := Lib.hid (C2.out.call hb)
  clear hb C2 x0
  have s8 := C3.out.cell 0 rfl 8
  go_wp2_with fail
  have hha := hasDBath_any (some ⟨w.heap.size + 1, 0, none⟩) false tk (fun y => sameN x.name y.name) (.slice va i vc) w3 ((HTK.out.below C3.out.bel).mono C3.out.bel.size) (fun k W _ hW => sameDB_r _ _ x.name _ W ((hW.cell (p := ⟨w.heap.size + 1, 0, none⟩) (C3.out.lt 1 rfl)).trans (C3.out.cell 1 rfl 0)) (Nat.lt_of_lt_of_le (C3.out.lt 1 rfl) hW.size) rfl) HTW.out
  refine hha.mono ?_
  rintro e w4 ⟨rfl, hb⟩
  have C4 := Lib.hid (C3.out.call hb)
  clear hb C3 s8 hha
  have x1 := C4.out.cell 1 rfl 1
  have x2 := C4.out.cell 1 rfl 2
  go_wp2_with fail
  refine (dout_row false 0 2000 [x.warm.1, x.warm.2] 2 rfl (by simp) (outB_in (by have := HWM.out; have := HML.out; simp; omega)) _ _ rfl _ (heap_alloc_new _ _)).mono ?_
  rintro e w5 ⟨rfl, hb⟩
  have C5 := Lib.hid ((C4.out.alloc _).call hb)
  clear hb C4 x1 x2
  have x1 := C5.out.cell 1 rfl 1
  have x2 := C5.out.cell 1 rfl 2
  have s0 := C5.out.cell 0 rfl 0
  have hl1 : ¬ x.warm.1 < s.melt := by have := HWM.out; omega
  have hl2 : ¬ x.warm.2 < x.warm.1 := by have := HWM.out; omega
  go_wp2_with fail
  go_ret
  exact ⟨rfl, C5.out.bel⟩
set_option maxRecDepth 100000 in
set_option maxHeartbeats 16000000 in
theorem findB_ok {s : DShop} (hs : DOk s) (v : Value) (w : World) (hv : DBathsIn w.heap.size w v s.baths) :
    Calls Tryz.prog 100 #[v, .func (.func 101) #[.agg (dshopC s v)] #[]] w fun e w' => e = .returned (.tuple #[.int .i64 0, .int .i64 0]) ∧ Below w.heap.size w w' := by
  obtain ⟨a, cap, rfl, hcap, -⟩ := sl_shape hv
  have HV := Lib.hid hv
  have HS := Lib.hid hs
  have hn6 := hs.n6
  have HB0 : Hid (Below w.heap.size w w) := Below.refl _ _
  clear hv hs
  generalize hN : s.baths.length = N at *
  have HNN := Lib.hid hN
  clear hN
  go_enter Tryz.func100, Tryz.ntmps100
  go_wp2_with fail
  go_loopw [5, 10] (fun ev iv wr => ∃ i : Nat, ev = .int .i64 0 ∧ iv = .int .i64 i ∧ i ≤ N ∧ Below w.heap.size w wr) (fun _ iv _ => N - (intOf iv).toNat)
  case atStart => exact ⟨0, rfl, rfl, by omega, HB0.out⟩
  case round =>
    clear HB0
    obtain ⟨i, rfl, rfl, hi, hb⟩ := hrel
    have HB := Lib.hid hb
    clear hb
    by_cases hil : i < N
    · have hii : (i : Int) < (N : Int) := by omega
      have hbt := fun w h => Lib.hid (bath_ok HS.out i (by rw [HNN.out]; exact hil) (by obtain ⟨b, o, -, -, -, hsz, -⟩ := HV.out.at' (i := i) (by rw [HNN.out]; exact hil); exact hsz) (.slice a N cap) w h)
      obtain ⟨b, o, he, hbl, hx0, hsz, hx1, hx2⟩ := HV.out.at' (i := i) (by rw [HNN.out]; exact hil)
      subst he
      have hy0 := (HB.out.cell (p := ⟨b, o + i * 3, none⟩) hbl).trans hx0
      have hy1 := (HB.out.cell (p := ⟨b, o + i * 3 + 1, none⟩) hbl).trans hx1
      have hy2 := (HB.out.cell (p := ⟨b, o + i * 3 + 2, none⟩) hbl).trans hx2
      clear hx0 hx1 hx2 hbl hsz
      generalize s.baths.getD i default = x at *
      have CP := Lib.hid ((Bs.nil wr).push _ rfl (.cells #[.string ByteArray.empty, .int .i64 0, .int .i64 0] 124))
      go_wp2_with (first | (refine wpList_store_bs rfl 124 _ _ rfl CP.out 0 _ _ _ _ rfl rfl rfl infoDB rfl (by simp [Value.oneCell']) ?_; intro w5 hC; have C5 : Hid (Bs wr [(wr.heap.size, .cells (bathC x) 124)] w5) := hC; clear hC CP hy0 hy1 hy2) | (refine wpList_load_row rfl 124 _ rfl _ rfl _ _ _ _ (C5.out.get 0 rfl) Tryz.underlying124 rfl infoDB ?_))
      have HB5 := Lib.hid (HB.out.trans (C5.out.bel.mono HB.out.size))
      refine (hbt _ ((HV.out.below HB5.out).mono HB5.out.size)).out.mono ?_
      rintro e w6 ⟨rfl, hb⟩
      have HB6 := Lib.hid (HB5.out.trans (hb.mono HB5.out.size))
      clear hb C5 HB5 HB hbt
      go_wp2_with fail
      refine ⟨⟨i + 1, rfl, by push_cast; rfl, by omega, HB6.out⟩, ?_⟩
      simp [intOf]; omega
    · obtain rfl : i = N := by omega
      go_wp2_with fail
      go_ret2
      exact ⟨rfl, HB.out⟩
end Go.Proofs.YtpkggjobdmchlaaGreatDoor
/- dip.Check and dip.open at what is in order. -/
namespace Go.Proofs.YtpkggjobdmchlaaGreatDoor
open Go.RowKit
set_option maxRecDepth 100000 in
set_option maxHeartbeats 16000000 in
theorem dcheck_ok {s : DShop} (hs : DOk s) (v : Value) (w : World) (hv : DBathsIn w.heap.size w v s.baths) :
    Calls Tryz.prog 70 #[.agg (dshopC s v)] w fun e w' => e = .returned (.tuple #[.int .i64 0, .int .i64 0, .int .i64 0]) ∧ Below w.heap.size w w' := by
  obtain ⟨va, vc, rfl, hcap, -⟩ := sl_shape hv
  have HV := Lib.hid hv
  have HS := Lib.hid hs
  have HFB := fun v w h => Lib.hid (findB_ok hs v w h)
  clear hv hs hcap
  go_enter Tryz.func70, Tryz.ntmps70
  have C1 : Hid (Bs w [(w.heap.size, .cells (dshopC s (.slice va s.baths.length vc)) 30), (w.heap.size + 1, .cells #[.int .i64 0, .int .i64 0, .int .i64 0, .int .i64 0, .int .i64 0, .int .i64 0, .int .i64 0, .int .i64 0, .slice none 0 0] 106)] _) := Lib.hid (((Bs.nil w).push _ rfl (.cells (dshopC s (.slice va s.baths.length vc)) 30)).push (w.heap.size + 1) (by simp) (.cells #[.int .i64 0, .int .i64 0, .int .i64 0, .int .i64 0, .int .i64 0, .int .i64 0, .int .i64 0, .int .i64 0, .slice none 0 0] 106))
  go_upto_region 2 with (first | (refine wpList_load_row rfl 30 _ rfl _ rfl _ _ _ _ (((Bs.nil w).push _ rfl (.cells (dshopC s (.slice va s.baths.length vc)) 30)).get 0 rfl) Tryz.underlying30 rfl infoDS ?_) | (refine wpList_store_bs rfl 106 _ _ rfl C1.out 1 _ _ _ _ rfl rfl rfl infoDsh rfl (by simp [Value.oneCell']) ?_; intro w2 hC; have C2 : Hid (Bs w [(w.heap.size, .cells (dshopC s (.slice va s.baths.length vc)) 30), (w.heap.size + 1, .cells (dshopC s (.slice va s.baths.length vc)) 106)] w2) := hC; clear hC C1))
  have s0 := C2.out.cell 1 rfl 0
  go_wp2_with fail
  refine (dout_row false 0 2000 [s.melt] 1 rfl (by simp) (outB_in (by have := HS.out.melt; simp; omega)) _ _ rfl _ (heap_alloc_new _ _)).mono ?_
  rintro e w3 ⟨rfl, hb⟩
  have C3 := Lib.hid ((C2.out.alloc _).call hb)
  clear hb C2 s0
  have s1 := C3.out.cell 1 rfl 1
  go_wp2_with fail
  refine (dout_row false 0 5000 [s.coat] 1 rfl (by simp) (outB_in (by have := HS.out.coat; simp; omega)) _ _ rfl _ (heap_alloc_new _ _)).mono ?_
  rintro e w4 ⟨rfl, hb⟩
  have C4 := Lib.hid ((C3.out.alloc _).call hb)
  clear hb C3 s1
  have s2 := C4.out.cell 1 rfl 2
  go_wp2_with fail
  refine (dout_row false 0 100 [s.thin] 1 rfl (by simp) (outB_in (by have := HS.out.thin; simp; omega)) _ _ rfl _ (heap_alloc_new _ _)).mono ?_
  rintro e w5 ⟨rfl, hb⟩
  have C5 := Lib.hid ((C4.out.alloc _).call hb)
  clear hb C4 s2
  have s4 := C5.out.cell 1 rfl 4
  go_wp2_with fail
  refine (dout_row false 0 10 [s.back] 1 rfl (by simp) (outB_in (by have := HS.out.back; simp; omega)) _ _ rfl _ (heap_alloc_new _ _)).mono ?_
  rintro e w6 ⟨rfl, hb⟩
  have C6 := Lib.hid ((C5.out.alloc _).call hb)
  clear hb C5 s4
  have s3 := C6.out.cell 1 rfl 3
  have s5 := C6.out.cell 1 rfl 5
  have s6 := C6.out.cell 1 rfl 6
  go_wp2_with fail
  refine (dout_row false 0 600 [s.hold, s.draw, s.set] 3 rfl (by simp) (outB_in (by have := HS.out.hold; have := HS.out.draw; have := HS.out.set; simp; omega)) _ _ rfl _ (heap_alloc_new _ _)).mono ?_
  rintro e w7 ⟨rfl, hb⟩
  have C7 := Lib.hid ((C6.out.alloc _).call hb)
  clear hb C6 s3 s5 s6
  have s7 := C7.out.cell 1 rfl 7
  go_wp2_with fail
  refine (dout_row false 0 50 [s.run] 1 rfl (by simp) (outB_in (by have := HS.out.run; simp; omega)) _ _ rfl _ (heap_alloc_new _ _)).mono ?_
  rintro e w8 ⟨rfl, hb⟩
  have C8 := Lib.hid ((C7.out.alloc _).call hb)
  clear hb C7 s7
  have s8 := C8.out.cell 1 rfl 8
  go_wp2_with fail
  refine (dout_row false 1 6 [(s.baths.length : Int)] 1 rfl (by simp) (outB_in (by have := HS.out.n1; have := HS.out.n6; simp; omega)) _ _ rfl _ (heap_alloc_new _ _)).mono ?_
  rintro e w9 ⟨rfl, hb⟩
  have C9 := Lib.hid ((C8.out.alloc _).call hb)
  clear hb C8 s8
  have s8 := C9.out.cell 1 rfl 8
  go_wp2_with (refine wpList_load_row rfl 106 _ rfl _ rfl _ _ _ _ (C9.out.get 1 rfl) Tryz.underlying106 rfl infoDsh ?_)
  refine (HFB _ _ ((HV.out.below C9.out.bel).mono C9.out.bel.size)).out.mono ?_
  rintro e w10 ⟨rfl, hb⟩
  have C10 := Lib.hid (C9.out.call hb)
  clear hb C9 s8
  go_wp2_with fail
  go_ret3
  exact ⟨rfl, C10.out.bel⟩
end Go.Proofs.YtpkggjobdmchlaaGreatDoor
/- dip.open at what is in order. -/
namespace Go.Proofs.YtpkggjobdmchlaaGreatDoor
open Go.RowKit
set_option maxRecDepth 100000 in
set_option maxHeartbeats 16000000 in
theorem dopen_ok {s : DShop} (hs : DOk s) {t : DTap} (ht : TapOk t) (l : List DDip) (v lv : Value) (w : World) (hv : DBathsIn w.heap.size w v s.baths) (hl : DipsIn w.heap.size w lv l) :
    Calls Tryz.prog 43 #[.agg (dshopC s v), .agg (tapC t), lv] w fun e w' => e = .returned (.tuple #[.agg (dshopC s v), .int .i64 (planE s l)]) ∧ Below w.heap.size w w' := by
  obtain ⟨va, vc, rfl, hcap, -⟩ := sl_shape hv
  obtain ⟨la, lc, rfl, -, -⟩ := sl_shape hl
  have HV := Lib.hid hv
  have HL := Lib.hid hl
  have HS := Lib.hid hs
  have HT := Lib.hid ht
  have HCK := fun v w h => Lib.hid (dcheck_ok hs v w h)
  have HPL : ∀ (lv : Value) w, DipsIn w.heap.size w lv l → Hid (Calls Tryz.prog 45 #[.agg (dshopC s (.slice va s.baths.length vc)), lv] w fun e w' => e = .returned (.int .i64 (planE s l)) ∧ Below w.heap.size w w') := fun lv w h => Lib.hid (plan_ok s (by have := hs.n6; omega) l (.slice va s.baths.length vc) lv w ⟨_, _, rfl⟩ h)
  generalize planE s l = P at *
  clear hv hl hs hcap ht
  have C2 : Hid (Bs w [(w.heap.size, .cells (dshopC s (.slice va s.baths.length vc)) 30), (w.heap.size + 1, .cells (tapC t) 34), (w.heap.size + 2, .cells #[.int .i64 0, .int .i64 0, .int .i64 0, .int .i64 0, .int .i64 0, .int .i64 0, .int .i64 0, .int .i64 0, .slice none 0 0] 106)] _) := Lib.hid ((((Bs.nil w).push _ rfl (.cells (dshopC s (.slice va s.baths.length vc)) 30)).push (w.heap.size + 1) (by simp) (.cells (tapC t) 34)).push (w.heap.size + 2) (by simp) (.cells #[.int .i64 0, .int .i64 0, .int .i64 0, .int .i64 0, .int .i64 0, .int .i64 0, .int .i64 0, .int .i64 0, .slice none 0 0] 106))
  go_enter Tryz.func43, Tryz.ntmps43
  go_upto_region 1 with fail
  obtain ⟨w2, HW2⟩ : ∃ z, Hid ((((w.alloc (.cells (dshopC s (.slice va s.baths.length vc)) 30)).alloc (.cells (tapC t) 34)).alloc (.cells #[.int .i64 0, .int .i64 0, .int .i64 0, .int .i64 0, .int .i64 0, .int .i64 0, .int .i64 0, .int .i64 0, .slice none 0 0] 106)) = z) := ⟨_, rfl⟩
  have HZ2 : Hid (w2.heap.size = w.heap.size + 3) := by unfold Hid; rw [← HW2.out]; simp
  rw [HW2.out] at C2 ⊢
  have CP := Lib.hid (C2.out.push (w.heap.size + 3) HZ2.out (.cells #[.int .i64 0, .int .i64 0, .int .i64 0, .int .i64 0, .int .i64 0, .int .i64 0, .int .i64 0, .int .i64 0, .slice none 0 0] 106))
  go_upto_region 2 with (first | (refine wpList_load_row rfl 30 _ rfl _ rfl _ _ _ _ (C2.out.get 0 rfl) Tryz.underlying30 rfl infoDS ?_) | (refine wpList_store_bs rfl 106 _ _ rfl CP.out 3 _ (dshopC s (.slice va s.baths.length vc)) _ _ rfl (by go_simp; rw [HZ2.out]) rfl infoDsh rfl (by simp [Value.oneCell']) ?_; intro w3 hC; have C3 : Hid (Bs w [(w.heap.size, .cells (dshopC s (.slice va s.baths.length vc)) 30), (w.heap.size + 1, .cells (tapC t) 34), (w.heap.size + 2, .cells #[.int .i64 0, .int .i64 0, .int .i64 0, .int .i64 0, .int .i64 0, .int .i64 0, .int .i64 0, .int .i64 0, .slice none 0 0] 106), (w.heap.size + 3, .cells (dshopC s (.slice va s.baths.length vc)) 106)] w3) := hC; clear hC CP))
  rw [HZ2.out]
  go_wp2_with (refine wpList_load_row rfl 30 _ rfl _ rfl _ _ _ _ (C3.out.get 0 rfl) Tryz.underlying30 rfl infoDS ?_)
  refine (HCK _ _ ((HV.out.below C3.out.bel).mono C3.out.bel.size)).out.mono ?_
  rintro e w4 ⟨rfl, hb⟩
  have C4 := Lib.hid (C3.out.call hb)
  clear hb C3 C2 HCK
  have t0 := C4.out.cell 1 rfl 0
  have t1 := C4.out.cell 1 rfl 1
  have t2 := C4.out.cell 1 rfl 2
  go_wp2_with fail
  refine (dout_row false 0 100000 [t.wick, t.top, t.foot] 3 rfl (by simp) (outB_in (by have := HT.out.wick; have := HT.out.top; have := HT.out.foot; simp; omega)) _ _ rfl _ (heap_alloc_new _ _)).mono ?_
  rintro e w5 ⟨rfl, hb⟩
  have C6 := Lib.hid ((C4.out.alloc _).call hb)
  clear hb C4 t0 t1 t2
  have t0 := C6.out.cell 1 rfl 0
  have t1 := C6.out.cell 1 rfl 1
  have t2 := C6.out.cell 1 rfl 2
  have hmin : ¬ min t.top t.foot < t.wick := by have := HT.out.top; have := HT.out.foot; omega
  go_upto_region 9 with fail
  clear t0 t1 t2 hmin
  refine wp_region_inv0 (by kernel_rfl) (by kernel_rfl) (fun D w' => Bs w [(w.heap.size, .cells (dshopC s (.slice va s.baths.length vc)) 30), (w.heap.size + 1, .cells (tapC t) 34), (w.heap.size + 2, .cells (bif D 4 then (dshopC s (.slice va s.baths.length vc)) else #[.int .i64 0, .int .i64 0, .int .i64 0, .int .i64 0, .int .i64 0, .int .i64 0, .int .i64 0, .int .i64 0, .slice none 0 0]) 106), (w.heap.size + 3, .cells (dshopC s (.slice va s.baths.length vc)) 106)] w') C6.out.drew ?_
  apply obl_det
  case hrun =>
    intro D y wz hW hD R hR
    have HRR := Lib.hid hR
    clear hR
    have HW := Lib.hid hW
    have h1 := HW.out.get 3 rfl
    clear hW hD
    refine wpList_load_row rfl 106 _ rfl _ rfl _ _ _ _ h1 Tryz.underlying106 rfl infoDsh ?_
    go_simp
    exact HRR.out _ HW.out
  case hnp => rfl
  case hv => first | exact ⟨_, fun _ => rfl⟩ | exact ⟨undef, fun _ => rfl⟩
  apply obl_det
  case hrun =>
    intro D y wz hW hD R hR
    have HRR := Lib.hid hR
    clear hR
    have HW := Lib.hid hW
    have h1 := HW.out.get 3 rfl
    clear hW hD
    refine wpList_load_row rfl 106 _ rfl _ rfl _ _ _ _ h1 Tryz.underlying106 rfl infoDsh ?_
    go_simp
    exact HRR.out _ HW.out
  case hnp => rfl
  case hv => first | exact ⟨_, fun _ => rfl⟩ | exact ⟨undef, fun _ => rfl⟩
  apply obl_det
  case hrun =>
    intro D y wz hW hD R hR
    have HRR := Lib.hid hR
    clear hR
    have HW := Lib.hid hW
    clear hW hD
    go_wp2
    exact HRR.out _ HW.out
  case hnp => rfl
  case hv => first | exact ⟨_, fun _ => rfl⟩ | exact ⟨undef, fun _ => rfl⟩
  apply obl_det
  case hrun =>
    intro D y wz hW hD R hR
    have HRR := Lib.hid hR
    clear hR
    have HW := Lib.hid hW
    clear hW hD
    go_wp2_with fail
    refine (HPL _ _ ((HL.out.below HW.out.bel).mono HW.out.bel.size)).out.mono ?_
    rintro e w' ⟨rfl, hb⟩
    have HB2 := Lib.hid (HW.out.call hb)
    clear hb
    go_wp2_with fail
    exact HRR.out _ HB2.out
  case hnp => rfl
  case hv => first | exact ⟨_, fun _ => rfl⟩ | exact ⟨undef, fun _ => rfl⟩
  apply obl_det
  case hrun =>
    intro D y wz hW hD R hR
    have HRR := Lib.hid hR
    clear hR
    have h4 : D 4 = false := hD.not
    rw [h4] at hW
    replace hW : Bs w [(w.heap.size, .cells (dshopC s (.slice va s.baths.length vc)) 30), (w.heap.size + 1, .cells (tapC t) 34), (w.heap.size + 2, .cells #[.int .i64 0, .int .i64 0, .int .i64 0, .int .i64 0, .int .i64 0, .int .i64 0, .int .i64 0, .int .i64 0, .slice none 0 0] 106), (w.heap.size + 3, .cells (dshopC s (.slice va s.baths.length vc)) 106)] wz := hW
    have HW := Lib.hid hW
    clear hW hD
    refine wpList_store_bs rfl 106 _ _ rfl HW.out 2 _ (dshopC s (.slice va s.baths.length vc)) _ _ rfl rfl rfl infoDsh rfl (by simp [Value.oneCell']) ?_
    intro w' hw'
    go_simp
    exact HRR.out _ hw'
  case hnp => rfl
  case hv => first | exact ⟨_, fun _ => rfl⟩ | exact ⟨undef, fun _ => rfl⟩
  apply obl_det
  case hrun =>
    intro D y wz hW hD R hR
    have HRR := Lib.hid hR
    clear hR
    have HW := Lib.hid hW
    clear hW hD
    go_wp2
    exact HRR.out _ HW.out
  case hnp => rfl
  case hv => first | exact ⟨_, fun _ => rfl⟩ | exact ⟨undef, fun _ => rfl⟩
  apply obl_nil
  intro D y w8 hall hW
  have C8 : Hid (Bs w [(w.heap.size, .cells (dshopC s (.slice va s.baths.length vc)) 30), (w.heap.size + 1, .cells (tapC t) 34), (w.heap.size + 2, .cells (dshopC s (.slice va s.baths.length vc)) 106), (w.heap.size + 3, .cells (dshopC s (.slice va s.baths.length vc)) 106)] w8) := by
    have h4 := hall 4 (by decide)
    rw [h4] at hW
    exact hW
  clear hW hall C6
  go_wp2_with fail
  exact bodyPost_ret (results_row_tmp (fn := Tryz.f43) rfl _ _ _ _ _ _ _ rfl rfl (C8.out.get 2 rfl) Tryz.underlying106 rfl infoDsh) rfl ⟨rfl, C8.out.bel⟩
end Go.Proofs.YtpkggjobdmchlaaGreatDoor
