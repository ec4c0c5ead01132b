/- store.Check: find at stores, and the whole. -/
import Derived.Test.YtddapabmfecidaaW7
namespace Go.Proofs.Ytddapabmfecidaa
open Go.RowKit

def stosE (l : List Sto) : Int × Int := findE ((List.range l.length).map (stoE l)) 0
theorem stos_drop (l : List Sto) (k : Nat) (h : k < l.length) (i : Int) : findE (((List.range l.length).map (stoE l)).drop k) i = if stoE l k = 0 then findE (((List.range l.length).map (stoE l)).drop (k + 1)) (i + 1) else (i, stoE l k) := by
  rw [findE_drop _ _ (by simpa using h)]
  simp [List.getD, h]

set_option maxHeartbeats 2000000 in
/-- find at stores. -/
theorem findSto_any (l : List Sto) (vs : Value) (bs : Nat) (w : World) (hv : StosIn w.heap.size w vs l) (hbs : bs < w.heap.size) (hc5 : w.cell? ⟨bs, 5, none⟩ = some vs) :
    Calls Try.prog 52 #[vs, .func (.func 53) #[] #[.pointer (some ⟨bs, 0, none⟩)]] w fun e w' => e = .returned (.tuple #[.int .i64 (stosE l).1, .int .i64 (stosE l).2]) ∧ Below w.heap.size w w' := by
  have HV := Lib.hid hv
  have HC5 := Lib.hid hc5
  obtain ⟨a, c, rfl, hl, hlc, -⟩ := hv
  clear hc5
  go_enter Try.func52, Try.ntmps52
  go_wp2
  go_loopw [10] (fun i wr => ∃ k : Nat, k ≤ l.length ∧ i = .int .i64 k ∧ Below w.heap.size w wr ∧ stosE l = findE (((List.range l.length).map (stoE l)).drop k) k) (fun i _ => l.length - (intOf i).toNat)
  case atStart => exact ⟨0, by omega, rfl, Below.refl _ _, rfl⟩
  case round =>
    obtain ⟨k, hk, rfl, hb, hf⟩ := hrel
    have HF := Lib.hid hf
    clear hf
    by_cases hlt : k < l.length
    · obtain ⟨b, o, c', hvv, _, hbB, hc1, hc2, hz, vw, hc3, hw⟩ := (HV.out.below hb).at hlt
      cases hvv
      have HD := Lib.hid (stos_drop l k hlt k)
      obtain ⟨x, hx⟩ : ∃ x, l.getD k default = x := ⟨_, rfl⟩
      rw [hx] at hc1 hc2 hz hw
      have HX := Lib.hid hx
      clear hx
      obtain ⟨e, he⟩ : ∃ e, stoE l k = e := ⟨_, rfl⟩
      rw [he] at HD
      have HE := Lib.hid he
      have HW := Lib.hid hw
      obtain ⟨av, cv, rfl, _, _, _⟩ := hw
      have hbA := hb.alloc hb.size (.cells #[.string x.name, .int .i64 x.rent, .slice av x.warm.length cv] 66)
      have HBA := Lib.hid hbA
      have hsz := hb.size
      clear he hbA
      by_cases hez : e = 0
      · subst hez
        go_wp2_with (go_at_call 53; refine (check1_any x _ _ l k bs _ ((HV.out.below HBA.out).mono HBA.out.size) hlt HX.out ((HW.out.below ((Below.refl wr.heap.size wr |>.alloc (Nat.le_refl _) _).mono hb.size)).mono HBA.out.size) hz (by simp; omega) ((HBA.out.cell (p := ⟨bs, 5, none⟩) hbs).trans HC5.out)).mono ?_; rintro e w' ⟨rfl, hbw⟩; rw [HE.out])
        go_roundw
        case rel => exact ⟨k + 1, by omega, by go_num, HBA.out.trans (hbw.mono HBA.out.size), by rw [HF.out, HD.out]; rfl⟩
        case measure => simp [intOf]; omega
      · have hz1 : (e == 0) = false := by simpa using hez
        have hz2 : (e != 0) = true := by simpa using hez
        have HZ := Lib.hid hez
        clear hez
        go_wp2_with (go_at_call 53; refine (check1_any x _ _ l k bs _ ((HV.out.below HBA.out).mono HBA.out.size) hlt HX.out ((HW.out.below ((Below.refl wr.heap.size wr |>.alloc (Nat.le_refl _) _).mono hb.size)).mono HBA.out.size) hz (by simp; omega) ((HBA.out.cell (p := ⟨bs, 5, none⟩) hbs).trans HC5.out)).mono ?_; rintro e w' ⟨rfl, hbw⟩; rw [HE.out])
        go_ret2
        exact ⟨by rw [HF.out, HD.out, if_neg HZ.out]; rfl, HBA.out.trans (hbw.mono HBA.out.size)⟩
    · have : k = l.length := by omega
      subst this
      have HZ : Hid (stosE l = (0, 0)) := by unfold Hid; rw [HF.out, List.drop_of_length_le (by simp)]; rfl
      go_wp2
      go_ret2
      exact ⟨by rw [HZ.out]; rfl, hb⟩

/-- The blocks of Check. -/
structure CW (w wr : World) (S C : Array Value) : Prop where
  b0 : wr.heap[w.heap.size]? = some (.cells S 31)
  b1 : wr.heap[w.heap.size + 1]? = some (.cells C 28)
  bel : Below w.heap.size w wr
theorem CW.mk2 (w : World) (S C : Array Value) : CW w ((w.alloc (.cells S 31)).alloc (.cells C 28)) S C :=
  ⟨heap_alloc2_old _ _ _, heap_alloc2_new _ _ _, ((Below.refl _ _).alloc (Nat.le_refl _) _).alloc (by simp) _⟩
theorem CW.alloc {w wr : World} {S C : Array Value} (h : CW w wr S C) (o : Obj) : CW w (wr.alloc o) S C :=
  ⟨(heap_alloc_old wr o (block_lt h.b0)).trans h.b0, (heap_alloc_old wr o (block_lt h.b1)).trans h.b1, h.bel.alloc h.bel.size o⟩
theorem CW.call {w wr w' : World} {S C : Array Value} (h : CW w wr S C) (hb : Below wr.heap.size wr w') : CW w w' S C :=
  ⟨block_keep h.b0 hb, block_keep h.b1 hb, h.bel.trans (hb.mono h.bel.size)⟩

/-- Check: its three results. -/
def headE (s : Sea) : Bool := outB 0 60 [s.bend, s.jump] || (outB 1 8 [s.days, s.times] || outB 0 100000 [s.move])
def checkV (s : Sea) : Int × Int × Int :=
  if headE s then (1, 0, 7) else if outB 1 3 [(s.stores.length : Int)] then (2, 0, 3) else if (stosE s.stores).2 = 0 then (0, 0, 0) else (2, (stosE s.stores).1, (stosE s.stores).2)

theorem intsIn_new' (w : World) (g : Nat) (hg : w.heap.size = g) (l : List Int) (hl : l.length ≤ 1000) (n : Nat) (hn : l.length = n) : IntsIn .i64 (w.alloc (.cells (ints l) 3)).heap.size (w.alloc (.cells (ints l) 3)) (.slice (some ⟨g, 0, none⟩) n n) l :=
  (intsIn_new w g hg l hl n hn).mono (by simp [hg])

set_option maxRecDepth 100000 in
set_option maxHeartbeats 4000000 in
theorem checkS_any (s : Sea) (vs : Value) (w : World) (hv : StosIn w.heap.size w vs s.stores) :
    Calls Try.prog 39 #[.agg #[.int .i64 s.bend, .int .i64 s.days, .int .i64 s.jump, .int .i64 s.times, .int .i64 s.move, vs]] w
      fun e w' => e = .returned (.tuple #[.int .i64 (checkV s).1, .int .i64 (checkV s).2.1, .int .i64 (checkV s).2.2]) ∧ Below w.heap.size w w' := by
  obtain ⟨be, d, jm, t, mv, l⟩ := s
  simp only at hv
  have HV := Lib.hid hv
  obtain ⟨a, c, rfl, hl, hlc, -⟩ := hv
  obtain ⟨r1, hr1⟩ : ∃ r, outB 0 60 [be, jm] = r := ⟨_, rfl⟩
  obtain ⟨r2, hr2⟩ : ∃ r, outB 1 8 [d, t] = r := ⟨_, rfl⟩
  obtain ⟨r3, hr3⟩ : ∃ r, outB 0 100000 [mv] = r := ⟨_, rfl⟩
  obtain ⟨r4, hr4⟩ : ∃ r, outB 1 3 [(l.length : Int)] = r := ⟨_, rfl⟩
  have HE : Hid (checkV ⟨be, d, jm, t, mv, l⟩ = if r1 || (r2 || r3) then (1, 0, 7) else if r4 then (2, 0, 3) else if (stosE l).2 = 0 then (0, 0, 0) else (2, (stosE l).1, (stosE l).2)) := by
    unfold Hid checkV headE; simp only [hr1, hr2, hr3, hr4]
  have HR1 := Lib.hid hr1
  have HR2 := Lib.hid hr2
  have HR3 := Lib.hid hr3
  have HR4 := Lib.hid hr4
  clear hr1 hr2 hr3 hr4
  simp only
  have C0 : Hid (CW w ((w.alloc (.cells #[.int .i64 be, .int .i64 d, .int .i64 jm, .int .i64 t, .int .i64 mv, .slice a l.length c] 31)).alloc (.cells #[.int .i64 be, .int .i64 d, .int .i64 jm, .int .i64 t] 28)) #[.int .i64 be, .int .i64 d, .int .i64 jm, .int .i64 t, .int .i64 mv, .slice a l.length c] #[.int .i64 be, .int .i64 d, .int .i64 jm, .int .i64 t]) := CW.mk2 w _ _
  cases r1
  rotate_left
  · go_enter Try.func39, Try.ntmps39
    go_wp2_with fail
    refine (out_r _ 0 60 _ HR1.out _ _ _ (intsIn_new' ((w.alloc (.cells #[.int .i64 be, .int .i64 d, .int .i64 jm, .int .i64 t, .int .i64 mv, .slice a l.length c] 31)).alloc (.cells #[.int .i64 be, .int .i64 d, .int .i64 jm, .int .i64 t] 28)) (w.heap.size + 1 + 1) (by simp) [be, jm] (by simp) 2 rfl) (Nat.le_refl _)).mono ?_
    rintro e w1 ⟨rfl, hbw⟩
    have C1 := Lib.hid ((C0.out.alloc _).call hbw)
    have c1 := fun i => cell_of_row w1 _ i _ _ _ C1.out.b0
    have d1 := fun i => cell_of_row w1 _ i _ _ _ C1.out.b1
    clear hbw
    go_wp2_with fail
    go_ret3
    exact ⟨by rw [HE.out]; rfl, C1.out.bel⟩
  · cases r2
    rotate_left
    · go_enter Try.func39, Try.ntmps39
      go_wp2_with fail
      refine (out_r _ 0 60 _ HR1.out _ _ _ (intsIn_new' ((w.alloc (.cells #[.int .i64 be, .int .i64 d, .int .i64 jm, .int .i64 t, .int .i64 mv, .slice a l.length c] 31)).alloc (.cells #[.int .i64 be, .int .i64 d, .int .i64 jm, .int .i64 t] 28)) (w.heap.size + 1 + 1) (by simp) [be, jm] (by simp) 2 rfl) (Nat.le_refl _)).mono ?_
      rintro e w1 ⟨rfl, hbw⟩
      have C1 := Lib.hid ((C0.out.alloc _).call hbw)
      have c1 := fun i => cell_of_row w1 _ i _ _ _ C1.out.b0
      have d1 := fun i => cell_of_row w1 _ i _ _ _ C1.out.b1
      clear hbw
      go_wp2_with fail
      refine (out_r _ 1 8 _ HR2.out _ _ _ (intsIn_new' w1 _ rfl [d, t] (by simp) 2 rfl) (Nat.le_refl _)).mono ?_
      rintro e w2 ⟨rfl, hbw⟩
      have C2 := Lib.hid ((C1.out.alloc _).call hbw)
      have c2 := fun i => cell_of_row w2 _ i _ _ _ C2.out.b0
      have d2 := fun i => cell_of_row w2 _ i _ _ _ C2.out.b1
      clear hbw c1 d1
      go_wp2_with fail
      go_ret3
      exact ⟨by rw [HE.out]; rfl, C2.out.bel⟩
    · cases r3
      rotate_left
      · go_enter Try.func39, Try.ntmps39
        go_wp2_with fail
        refine (out_r _ 0 60 _ HR1.out _ _ _ (intsIn_new' ((w.alloc (.cells #[.int .i64 be, .int .i64 d, .int .i64 jm, .int .i64 t, .int .i64 mv, .slice a l.length c] 31)).alloc (.cells #[.int .i64 be, .int .i64 d, .int .i64 jm, .int .i64 t] 28)) (w.heap.size + 1 + 1) (by simp) [be, jm] (by simp) 2 rfl) (Nat.le_refl _)).mono ?_
        rintro e w1 ⟨rfl, hbw⟩
        have C1 := Lib.hid ((C0.out.alloc _).call hbw)
        have c1 := fun i => cell_of_row w1 _ i _ _ _ C1.out.b0
        have d1 := fun i => cell_of_row w1 _ i _ _ _ C1.out.b1
        clear hbw
        go_wp2_with fail
        refine (out_r _ 1 8 _ HR2.out _ _ _ (intsIn_new' w1 _ rfl [d, t] (by simp) 2 rfl) (Nat.le_refl _)).mono ?_
        rintro e w2 ⟨rfl, hbw⟩
        have C2 := Lib.hid ((C1.out.alloc _).call hbw)
        have c2 := fun i => cell_of_row w2 _ i _ _ _ C2.out.b0
        have d2 := fun i => cell_of_row w2 _ i _ _ _ C2.out.b1
        clear hbw c1 d1
        go_wp2_with fail
        refine (out_r _ 0 100000 _ HR3.out _ _ _ (intsIn_new' w2 _ rfl [mv] (by simp) 1 rfl) (Nat.le_refl _)).mono ?_
        rintro e w3 ⟨rfl, hbw⟩
        have C3 := Lib.hid ((C2.out.alloc _).call hbw)
        have c3 := fun i => cell_of_row w3 _ i _ _ _ C3.out.b0
        have d3 := fun i => cell_of_row w3 _ i _ _ _ C3.out.b1
        clear hbw c2 d2
        go_wp2_with fail
        go_ret3
        exact ⟨by rw [HE.out]; rfl, C3.out.bel⟩
      · cases r4
        rotate_left
        · go_enter Try.func39, Try.ntmps39
          go_wp2_with fail
          refine (out_r _ 0 60 _ HR1.out _ _ _ (intsIn_new' ((w.alloc (.cells #[.int .i64 be, .int .i64 d, .int .i64 jm, .int .i64 t, .int .i64 mv, .slice a l.length c] 31)).alloc (.cells #[.int .i64 be, .int .i64 d, .int .i64 jm, .int .i64 t] 28)) (w.heap.size + 1 + 1) (by simp) [be, jm] (by simp) 2 rfl) (Nat.le_refl _)).mono ?_
          rintro e w1 ⟨rfl, hbw⟩
          have C1 := Lib.hid ((C0.out.alloc _).call hbw)
          have c1 := fun i => cell_of_row w1 _ i _ _ _ C1.out.b0
          have d1 := fun i => cell_of_row w1 _ i _ _ _ C1.out.b1
          clear hbw
          go_wp2_with fail
          refine (out_r _ 1 8 _ HR2.out _ _ _ (intsIn_new' w1 _ rfl [d, t] (by simp) 2 rfl) (Nat.le_refl _)).mono ?_
          rintro e w2 ⟨rfl, hbw⟩
          have C2 := Lib.hid ((C1.out.alloc _).call hbw)
          have c2 := fun i => cell_of_row w2 _ i _ _ _ C2.out.b0
          have d2 := fun i => cell_of_row w2 _ i _ _ _ C2.out.b1
          clear hbw c1 d1
          go_wp2_with fail
          refine (out_r _ 0 100000 _ HR3.out _ _ _ (intsIn_new' w2 _ rfl [mv] (by simp) 1 rfl) (Nat.le_refl _)).mono ?_
          rintro e w3 ⟨rfl, hbw⟩
          have C3 := Lib.hid ((C2.out.alloc _).call hbw)
          have c3 := fun i => cell_of_row w3 _ i _ _ _ C3.out.b0
          have d3 := fun i => cell_of_row w3 _ i _ _ _ C3.out.b1
          clear hbw c2 d2
          go_wp2_with fail
          refine (out_r _ 1 3 _ HR4.out _ _ _ (intsIn_new' w3 _ rfl [(l.length : Int)] (by simp) 1 rfl) (Nat.le_refl _)).mono ?_
          rintro e w4 ⟨rfl, hbw⟩
          have C4 := Lib.hid ((C3.out.alloc _).call hbw)
          have c4 := fun i => cell_of_row w4 _ i _ _ _ C4.out.b0
          have d4 := fun i => cell_of_row w4 _ i _ _ _ C4.out.b1
          clear hbw c3 d3
          go_wp2_with fail
          go_ret3
          exact ⟨by rw [HE.out]; rfl, C4.out.bel⟩
        · obtain ⟨ei, he⟩ : ∃ e, stosE l = e := ⟨_, rfl⟩
          obtain ⟨k, e⟩ := ei
          rw [he] at HE
          have HEE := Lib.hid he
          clear he
          by_cases hz : e = 0
          · subst hz
            go_enter Try.func39, Try.ntmps39
            go_wp2_with fail
            refine (out_r _ 0 60 _ HR1.out _ _ _ (intsIn_new' ((w.alloc (.cells #[.int .i64 be, .int .i64 d, .int .i64 jm, .int .i64 t, .int .i64 mv, .slice a l.length c] 31)).alloc (.cells #[.int .i64 be, .int .i64 d, .int .i64 jm, .int .i64 t] 28)) (w.heap.size + 1 + 1) (by simp) [be, jm] (by simp) 2 rfl) (Nat.le_refl _)).mono ?_
            rintro e w1 ⟨rfl, hbw⟩
            have C1 := Lib.hid ((C0.out.alloc _).call hbw)
            have c1 := fun i => cell_of_row w1 _ i _ _ _ C1.out.b0
            have d1 := fun i => cell_of_row w1 _ i _ _ _ C1.out.b1
            clear hbw
            go_wp2_with fail
            refine (out_r _ 1 8 _ HR2.out _ _ _ (intsIn_new' w1 _ rfl [d, t] (by simp) 2 rfl) (Nat.le_refl _)).mono ?_
            rintro e w2 ⟨rfl, hbw⟩
            have C2 := Lib.hid ((C1.out.alloc _).call hbw)
            have c2 := fun i => cell_of_row w2 _ i _ _ _ C2.out.b0
            have d2 := fun i => cell_of_row w2 _ i _ _ _ C2.out.b1
            clear hbw c1 d1
            go_wp2_with fail
            refine (out_r _ 0 100000 _ HR3.out _ _ _ (intsIn_new' w2 _ rfl [mv] (by simp) 1 rfl) (Nat.le_refl _)).mono ?_
            rintro e w3 ⟨rfl, hbw⟩
            have C3 := Lib.hid ((C2.out.alloc _).call hbw)
            have c3 := fun i => cell_of_row w3 _ i _ _ _ C3.out.b0
            have d3 := fun i => cell_of_row w3 _ i _ _ _ C3.out.b1
            clear hbw c2 d2
            go_wp2_with fail
            refine (out_r _ 1 3 _ HR4.out _ _ _ (intsIn_new' w3 _ rfl [(l.length : Int)] (by simp) 1 rfl) (Nat.le_refl _)).mono ?_
            rintro e w4 ⟨rfl, hbw⟩
            have C4 := Lib.hid ((C3.out.alloc _).call hbw)
            have c4 := fun i => cell_of_row w4 _ i _ _ _ C4.out.b0
            have d4 := fun i => cell_of_row w4 _ i _ _ _ C4.out.b1
            clear hbw c3 d3
            go_wp2_with fail
            refine (findSto_any l _ _ _ ((HV.out.below C4.out.bel).mono C4.out.bel.size) (block_lt C4.out.b0) (c4 5)).mono ?_
            rw [HEE.out]
            rintro e w5 ⟨rfl, hbw⟩
            have C5 := Lib.hid (C4.out.call hbw)
            clear hbw c4 d4
            go_wp2_with fail
            go_ret3
            exact ⟨by rw [HE.out]; rfl, C5.out.bel⟩
          · have hz1 : (e != 0) = true := by simpa using hz
            have hz2 : (e == 0) = false := by simpa using hz
            have HZ := Lib.hid hz
            clear hz
            go_enter Try.func39, Try.ntmps39
            go_wp2_with fail
            refine (out_r _ 0 60 _ HR1.out _ _ _ (intsIn_new' ((w.alloc (.cells #[.int .i64 be, .int .i64 d, .int .i64 jm, .int .i64 t, .int .i64 mv, .slice a l.length c] 31)).alloc (.cells #[.int .i64 be, .int .i64 d, .int .i64 jm, .int .i64 t] 28)) (w.heap.size + 1 + 1) (by simp) [be, jm] (by simp) 2 rfl) (Nat.le_refl _)).mono ?_
            rintro e w1 ⟨rfl, hbw⟩
            have C1 := Lib.hid ((C0.out.alloc _).call hbw)
            have c1 := fun i => cell_of_row w1 _ i _ _ _ C1.out.b0
            have d1 := fun i => cell_of_row w1 _ i _ _ _ C1.out.b1
            clear hbw
            go_wp2_with fail
            refine (out_r _ 1 8 _ HR2.out _ _ _ (intsIn_new' w1 _ rfl [d, t] (by simp) 2 rfl) (Nat.le_refl _)).mono ?_
            rintro e w2 ⟨rfl, hbw⟩
            have C2 := Lib.hid ((C1.out.alloc _).call hbw)
            have c2 := fun i => cell_of_row w2 _ i _ _ _ C2.out.b0
            have d2 := fun i => cell_of_row w2 _ i _ _ _ C2.out.b1
            clear hbw c1 d1
            go_wp2_with fail
            refine (out_r _ 0 100000 _ HR3.out _ _ _ (intsIn_new' w2 _ rfl [mv] (by simp) 1 rfl) (Nat.le_refl _)).mono ?_
            rintro e w3 ⟨rfl, hbw⟩
            have C3 := Lib.hid ((C2.out.alloc _).call hbw)
            have c3 := fun i => cell_of_row w3 _ i _ _ _ C3.out.b0
            have d3 := fun i => cell_of_row w3 _ i _ _ _ C3.out.b1
            clear hbw c2 d2
            go_wp2_with fail
            refine (out_r _ 1 3 _ HR4.out _ _ _ (intsIn_new' w3 _ rfl [(l.length : Int)] (by simp) 1 rfl) (Nat.le_refl _)).mono ?_
            rintro e w4 ⟨rfl, hbw⟩
            have C4 := Lib.hid ((C3.out.alloc _).call hbw)
            have c4 := fun i => cell_of_row w4 _ i _ _ _ C4.out.b0
            have d4 := fun i => cell_of_row w4 _ i _ _ _ C4.out.b1
            clear hbw c3 d3
            go_wp2_with fail
            refine (findSto_any l _ _ _ ((HV.out.below C4.out.bel).mono C4.out.bel.size) (block_lt C4.out.b0) (c4 5)).mono ?_
            rw [HEE.out]
            rintro e w5 ⟨rfl, hbw⟩
            have C5 := Lib.hid (C4.out.call hbw)
            clear hbw c4 d4
            go_wp2_with fail
            go_ret3
            exact ⟨by rw [HE.out]; simp only [if_neg HZ.out]; rfl, C5.out.bel⟩
end Go.Proofs.Ytddapabmfecidaa
