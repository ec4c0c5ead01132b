/- scent.out; slices.IndexFunc and ContainsFunc at ints, ranges, things, lots, lists of ints. -/
import Derived.Test.YtaigbhhmmdfdcaaRows
import Derived.Test.YtaigbhhmmdfdcaaSl
import Derived.Test.YtaigbhhmmdfdcaaBl
namespace Go.Proofs.Ytaigbhhmmdfdcaa
open Go.RowKit
theorem out1_any (x lo hi : Int) (b1 b2 : Nat) (w : World) (h1 : w.cell? ⟨b1, 0, none⟩ = some (.int .i64 lo)) (h2 : w.cell? ⟨b2, 0, none⟩ = some (.int .i64 hi)) :
    Calls Try.prog 86 #[.int .i64 x, .pointer (some ⟨b1, 0, none⟩), .pointer (some ⟨b2, 0, none⟩)] w
      fun e w' => e = .returned (.bool (outOne lo hi x)) ∧ w = w' := by
  unfold outOne
  go_enter Try.func86, Try.ntmps86
  by_cases h : x < lo
  · go_wp2
    go_ret
    exact ⟨by simp [h], rfl⟩
  · go_wp2
    go_ret
    exact ⟨by simp; omega, rfl⟩
theorem outB_cons (lo hi : Int) (l : List Int) (k : Nat) (h : k < l.length) : outB lo hi (l.drop k) = (outOne lo hi (l.getD k 0) || outB lo hi (l.drop (k + 1))) := by
  unfold outB
  rw [List.drop_eq_getElem_cons h, List.any_cons]
  simp [List.getD, h]
set_option maxHeartbeats 400000 in
/-- slices.IndexFunc at ints with the test of out. -/
theorem indexFunc_any (l : List Int) (v : Value) (lo hi : Int) (b1 b2 : Nat) (w : World) (B : Nat) (hv : IntsIn .i64 B w v l)
    (h1 : w.cell? ⟨b1, 0, none⟩ = some (.int .i64 lo)) (h2 : w.cell? ⟨b2, 0, none⟩ = some (.int .i64 hi)) :
    Calls Try.prog 103 #[v, .func (.func 86) #[] #[.pointer (some ⟨b1, 0, none⟩), .pointer (some ⟨b2, 0, none⟩)]] w
      fun e w' => (∃ k : Int, e = .returned (.int .i64 k) ∧ decide (0 ≤ k) = outB lo hi l) ∧ w = w' := by
  obtain ⟨a, c, rfl, hl, hv⟩ := hv
  go_enter Try.func103, Try.ntmps103
  go_wp2
  go_loop [8] (fun i => ∃ k : Nat, k ≤ l.length ∧ i = .int .i64 k ∧ outB lo hi l = outB lo hi (l.drop k)) (fun i => l.length - (intOf i).toNat)
  case atStart => exact ⟨0, by omega, rfl, by simp⟩
  case round =>
    obtain ⟨k, hk, rfl, ho⟩ := hrel
    have HO := Lib.hid ho
    clear ho
    by_cases hlt : k < l.length
    · obtain ⟨b, o, rfl, _, hc⟩ : ∃ b o, a = some ⟨b, o, none⟩ ∧ b < B ∧ ∀ i, i < l.length → w.cell? ⟨b, o + i, none⟩ = some (.int .i64 (l.getD i 0)) := by
        rcases hv with rfl | h
        · simp at hlt
        · exact h
      have hc' := hc k hlt
      have H3 := Lib.hid (outB_cons lo hi l k hlt)
      generalize l.getD k 0 = x at hc' H3
      clear hc hv
      by_cases hx : outOne lo hi x = true
      · go_wp2_with (go_at_call 86; refine (out1_any _ _ _ _ _ _ h1 h2).mono ?_; rintro e w' ⟨rfl, rfl⟩)
        go_ret
        exact ⟨⟨_, rfl, by rw [HO.out, H3.out, hx]; simp⟩, rfl⟩
      · have hx' : outOne lo hi x = false := by simpa using hx
        go_wp2_with (go_at_call 86; refine (out1_any _ _ _ _ _ _ h1 h2).mono ?_; rintro e w' ⟨rfl, rfl⟩)
        go_round
        case rel => exact ⟨k + 1, by omega, by go_num, by rw [HO.out, H3.out, hx']; simp⟩
        case measure => simp [intOf]; omega
    · have : k = l.length := by omega
      go_wp2
      go_ret
      exact ⟨⟨_, rfl, by rw [HO.out, this]; simp [outB]⟩, rfl⟩
theorem contains_any (l : List Int) (v : Value) (lo hi : Int) (b1 b2 : Nat) (w : World) (B : Nat) (hv : IntsIn .i64 B w v l)
    (h1 : w.cell? ⟨b1, 0, none⟩ = some (.int .i64 lo)) (h2 : w.cell? ⟨b2, 0, none⟩ = some (.int .i64 hi)) :
    Calls Try.prog 85 #[v, .func (.func 86) #[] #[.pointer (some ⟨b1, 0, none⟩), .pointer (some ⟨b2, 0, none⟩)]] w
      fun e w' => e = .returned (.bool (outB lo hi l)) ∧ w = w' := by
  go_enter Try.func85, Try.ntmps85
  go_wp2_with (go_at_call 103; refine (indexFunc_any l v lo hi b1 b2 _ B hv h1 h2).mono ?_; rintro e w' ⟨⟨k, rfl, hk⟩, rfl⟩; have HK := Lib.hid hk; clear hk)
  go_ret
  exact ⟨ret_bool HK.out, rfl⟩
/-- scent.out -/
theorem out_any (lo hi : Int) (l : List Int) (v : Value) (w : World) (hv : IntsIn .i64 w.heap.size w v l) :
    Calls Try.prog 50 #[.int .i64 lo, .int .i64 hi, v] w fun e w' => e = .returned (.bool (outB lo hi l)) ∧ Below w.heap.size w w' := by
  have hb := (((Below.refl w.heap.size w).alloc (Nat.le_refl _) (.cells #[.int .i64 lo] 3)).alloc (by simp) (.cells #[.int .i64 hi] 3))
  have H := Lib.hid (hv.below hb)
  clear hv
  go_enter Try.func50, Try.ntmps50
  go_wp2_with (go_at_call 85; refine (contains_any l v lo hi _ _ _ _ H.out (by simp) (by simp)).mono ?_; rintro e w' ⟨rfl, rfl⟩)
  go_ret
  exact ⟨rfl, hb⟩
theorem out_r (r : Bool) (lo hi : Int) (l : List Int) (hr : outB lo hi l = r) (v : Value) (w : World) (B : Nat) (hv : IntsIn .i64 B w v l) (hB : B ≤ w.heap.size) :
    Calls Try.prog 50 #[.int .i64 lo, .int .i64 hi, v] w fun e w' => e = .returned (.bool r) ∧ Below w.heap.size w w' := by
  subst hr; exact out_any lo hi l v w (hv.mono hB)
/-- The ints of a slice literal, in the block that was just made for it. -/
theorem intsIn_new (w : World) (g : Nat) (hg : w.heap.size = g) (l : List Int) (hl : l.length ≤ 1000) (n : Nat) (hn : l.length = n) : IntsIn .i64 (g + 1) (w.alloc (.cells (ints l) 3)) (.slice (some ⟨g, 0, none⟩) n n) l := by
  subst hg
  exact ⟨_, _, by rw [hn], by omega, .inr ⟨_, _, rfl, by omega, fun i hi => by rw [cell_of_row _ _ _ _ _ _ (heap_alloc_new w _), Nat.zero_add, ints_get _ _ hi]⟩⟩
/-- out at one number, in the block that was just made for it. -/
theorem out_one (r : Bool) (lo hi x : Int) (hr : outOne lo hi x = r) (g : Nat) (w : World) (h : w.heap[g]? = some (.cells #[.int .i64 x] 3)) :
    Calls Try.prog 50 #[.int .i64 lo, .int .i64 hi, .slice (some ⟨g, 0, none⟩) 1 1] w fun e w' => e = .returned (.bool r) ∧ Below w.heap.size w w' := by
  refine out_r r lo hi [x] (by simpa [outB] using hr) _ w w.heap.size ⟨_, 1, rfl, by simp, .inr ⟨g, 0, rfl, block_lt h, fun i hi => ?_⟩⟩ (Nat.le_refl _)
  obtain rfl : i = 0 := by simpa using hi
  rw [cell_of_row w g _ _ _ _ h]
  rfl

set_option maxHeartbeats 2000000 in
theorem idxThing_any (p : Option Addr) (l : List Thing) (test : Thing → Bool) (v : Value) (w : World) (hv : ThingsIn w.heap.size w v l)
    (hf : ∀ k W, k < l.length → Below w.heap.size w W → Calls Try.prog 88 #[.agg #[.string (l.getD k default).name, .int .i64 (l.getD k default).kind, .int .i64 (l.getD k default).limit, .int .i64 (l.getD k default).weak, .int .i64 (l.getD k default).fade], .pointer p] W fun e W' => e = .returned (.bool (test (l.getD k default))) ∧ Below W.heap.size W W') :
    Calls Try.prog 104 #[v, .func (.func 88) #[] #[.pointer p]] w
      fun e w' => (∃ k : Int, e = .returned (.int .i64 k) ∧ decide (0 ≤ k) = l.any test) ∧ Below w.heap.size w w' := by
  have HV := Lib.hid hv
  have HFN := Lib.hid hf
  obtain ⟨a, c, rfl, hl, hlc, -⟩ := hv
  clear hf
  go_enter Try.func104, Try.ntmps104
  go_wp2_with fail
  go_loopw [8] (fun i wr => ∃ k : Nat, k ≤ l.length ∧ i = .int .i64 k ∧ Below w.heap.size w wr ∧ l.any test = (l.drop k).any test) (fun i _ => l.length - (intOf i).toNat)
  case atStart => exact ⟨0, by omega, rfl, Below.refl _ _, by simp⟩
  case round =>
    obtain ⟨k, hk, rfl, hb, hf⟩ := hrel
    have HF := Lib.hid hf
    clear hf
    by_cases hkl : k < l.length
    · obtain ⟨b', o, c', hvv, -, hbB, hc1, hc2, hc3, hc4, hc5, -⟩ := (HV.out.below hb).at hkl
      cases hvv
      have HD : Hid ((l.drop k).any test = (test (l.getD k default) || (l.drop (k + 1)).any test)) := by
        unfold Hid
        rw [List.drop_eq_getElem_cons hkl, List.any_cons]
        simp [List.getD, hkl]
      have HC := Lib.hid (HFN.out k wr hkl hb)
      generalize l.getD k default = y at *
      simp only [rdThing] at hc1 hc2 hc3 hc4 hc5
      obtain ⟨r, hr⟩ : ∃ r, test y = r := ⟨_, rfl⟩
      rw [hr] at HC
      have HR := Lib.hid hr
      clear hr
      have hsz := hb.size
      have HB := Lib.hid hb
      clear hb
      cases r
      · go_wp2_with fail
        refine HC.out.mono ?_
        rintro e w' ⟨rfl, hbw⟩
        go_wp2_with fail
        go_roundw
        case rel => exact ⟨k + 1, by omega, by go_num, HB.out.trans (hbw.mono HB.out.size), by rw [HF.out, HD.out, HR.out]; simp⟩
        case measure => simp [intOf]; omega
      · go_wp2_with fail
        refine HC.out.mono ?_
        rintro e w' ⟨rfl, hbw⟩
        go_wp2_with fail
        go_ret
        exact ⟨⟨_, rfl, by rw [HF.out, HD.out, HR.out]; simp⟩, HB.out.trans (hbw.mono HB.out.size)⟩
    · have : k = l.length := by omega
      go_wp2_with fail
      go_ret
      exact ⟨⟨_, rfl, by rw [HF.out, this]; simp⟩, hb⟩
theorem hasThing_any (p : Option Addr) (r : Bool) (l : List Thing) (test : Thing → Bool) (v : Value) (w : World) (hv : ThingsIn w.heap.size w v l)
    (hf : ∀ k W, k < l.length → Below w.heap.size w W → Calls Try.prog 88 #[.agg #[.string (l.getD k default).name, .int .i64 (l.getD k default).kind, .int .i64 (l.getD k default).limit, .int .i64 (l.getD k default).weak, .int .i64 (l.getD k default).fade], .pointer p] W fun e W' => e = .returned (.bool (test (l.getD k default))) ∧ Below W.heap.size W W') (hr : l.any test = r) :
    Calls Try.prog 87 #[v, .func (.func 88) #[] #[.pointer p]] w fun e w' => e = .returned (.bool r) ∧ Below w.heap.size w w' := by
  have HR := Lib.hid hr
  have HX := Lib.hid (idxThing_any p l test v w hv hf)
  clear hr hf
  go_enter Try.func87, Try.ntmps87
  go_wp2_with fail
  refine HX.out.mono ?_
  rintro e w' ⟨⟨k, rfl, hk⟩, hbw⟩
  have HK := Lib.hid hk
  clear hk
  go_wp2_with fail
  go_ret
  exact ⟨ret_bool (HK.out.trans HR.out), hbw⟩

set_option maxHeartbeats 2000000 in
theorem idxSpan0_any (p : Option Addr) (l : List (Int × Int)) (test : (Int × Int) → Bool) (v : Value) (w : World) (hv : SpansIn w.heap.size w v l)
    (hf : ∀ k W, k < l.length → Below w.heap.size w W → Calls Try.prog 91 #[.agg #[.int .i64 (l.getD k default).1, .int .i64 (l.getD k default).2], .pointer p] W fun e W' => e = .returned (.bool (test (l.getD k default))) ∧ Below W.heap.size W W') :
    Calls Try.prog 105 #[v, .func (.func 91) #[] #[.pointer p]] w
      fun e w' => (∃ k : Int, e = .returned (.int .i64 k) ∧ decide (0 ≤ k) = l.any test) ∧ Below w.heap.size w w' := by
  have HV := Lib.hid hv
  have HFN := Lib.hid hf
  obtain ⟨a, c, rfl, hl, hlc, -⟩ := hv
  clear hf
  go_enter Try.func105, Try.ntmps105
  go_wp2_with fail
  go_loopw [8] (fun i wr => ∃ k : Nat, k ≤ l.length ∧ i = .int .i64 k ∧ Below w.heap.size w wr ∧ l.any test = (l.drop k).any test) (fun i _ => l.length - (intOf i).toNat)
  case atStart => exact ⟨0, by omega, rfl, Below.refl _ _, by simp⟩
  case round =>
    obtain ⟨k, hk, rfl, hb, hf⟩ := hrel
    have HF := Lib.hid hf
    clear hf
    by_cases hkl : k < l.length
    · obtain ⟨b', o, c', hvv, -, hbB, hc1, hc2⟩ := (HV.out.below hb).at hkl
      cases hvv
      have HD : Hid ((l.drop k).any test = (test (l.getD k default) || (l.drop (k + 1)).any test)) := by
        unfold Hid
        rw [List.drop_eq_getElem_cons hkl, List.any_cons]
        simp [List.getD, hkl]
      have HC := Lib.hid (HFN.out k wr hkl hb)
      generalize l.getD k default = y at *
      simp only [rdSpan] at hc1 hc2
      obtain ⟨r, hr⟩ : ∃ r, test y = r := ⟨_, rfl⟩
      rw [hr] at HC
      have HR := Lib.hid hr
      clear hr
      have hsz := hb.size
      have HB := Lib.hid hb
      clear hb
      cases r
      · go_wp2_with fail
        refine HC.out.mono ?_
        rintro e w' ⟨rfl, hbw⟩
        go_wp2_with fail
        go_roundw
        case rel => exact ⟨k + 1, by omega, by go_num, HB.out.trans (hbw.mono HB.out.size), by rw [HF.out, HD.out, HR.out]; simp⟩
        case measure => simp [intOf]; omega
      · go_wp2_with fail
        refine HC.out.mono ?_
        rintro e w' ⟨rfl, hbw⟩
        go_wp2_with fail
        go_ret
        exact ⟨⟨_, rfl, by rw [HF.out, HD.out, HR.out]; simp⟩, HB.out.trans (hbw.mono HB.out.size)⟩
    · have : k = l.length := by omega
      go_wp2_with fail
      go_ret
      exact ⟨⟨_, rfl, by rw [HF.out, this]; simp⟩, hb⟩
theorem hasSpan0_any (p : Option Addr) (r : Bool) (l : List (Int × Int)) (test : (Int × Int) → Bool) (v : Value) (w : World) (hv : SpansIn w.heap.size w v l)
    (hf : ∀ k W, k < l.length → Below w.heap.size w W → Calls Try.prog 91 #[.agg #[.int .i64 (l.getD k default).1, .int .i64 (l.getD k default).2], .pointer p] W fun e W' => e = .returned (.bool (test (l.getD k default))) ∧ Below W.heap.size W W') (hr : l.any test = r) :
    Calls Try.prog 90 #[v, .func (.func 91) #[] #[.pointer p]] w fun e w' => e = .returned (.bool r) ∧ Below w.heap.size w w' := by
  have HR := Lib.hid hr
  have HX := Lib.hid (idxSpan0_any p l test v w hv hf)
  clear hr hf
  go_enter Try.func90, Try.ntmps90
  go_wp2_with fail
  refine HX.out.mono ?_
  rintro e w' ⟨⟨k, rfl, hk⟩, hbw⟩
  have HK := Lib.hid hk
  clear hk
  go_wp2_with fail
  go_ret
  exact ⟨ret_bool (HK.out.trans HR.out), hbw⟩

set_option maxHeartbeats 2000000 in
theorem idxSpan1_any (l : List (Int × Int)) (test : (Int × Int) → Bool) (v : Value) (w : World) (hv : SpansIn w.heap.size w v l)
    (hf : ∀ k W, k < l.length → Below w.heap.size w W → Calls Try.prog 92 #[.agg #[.int .i64 (l.getD k default).1, .int .i64 (l.getD k default).2]] W fun e W' => e = .returned (.bool (test (l.getD k default))) ∧ Below W.heap.size W W') :
    Calls Try.prog 105 #[v, .func (.func 92) #[] #[]] w
      fun e w' => (∃ k : Int, e = .returned (.int .i64 k) ∧ decide (0 ≤ k) = l.any test) ∧ Below w.heap.size w w' := by
  have HV := Lib.hid hv
  have HFN := Lib.hid hf
  obtain ⟨a, c, rfl, hl, hlc, -⟩ := hv
  clear hf
  go_enter Try.func105, Try.ntmps105
  go_wp2_with fail
  go_loopw [8] (fun i wr => ∃ k : Nat, k ≤ l.length ∧ i = .int .i64 k ∧ Below w.heap.size w wr ∧ l.any test = (l.drop k).any test) (fun i _ => l.length - (intOf i).toNat)
  case atStart => exact ⟨0, by omega, rfl, Below.refl _ _, by simp⟩
  case round =>
    obtain ⟨k, hk, rfl, hb, hf⟩ := hrel
    have HF := Lib.hid hf
    clear hf
    by_cases hkl : k < l.length
    · obtain ⟨b', o, c', hvv, -, hbB, hc1, hc2⟩ := (HV.out.below hb).at hkl
      cases hvv
      have HD : Hid ((l.drop k).any test = (test (l.getD k default) || (l.drop (k + 1)).any test)) := by
        unfold Hid
        rw [List.drop_eq_getElem_cons hkl, List.any_cons]
        simp [List.getD, hkl]
      have HC := Lib.hid (HFN.out k wr hkl hb)
      generalize l.getD k default = y at *
      simp only [rdSpan] at hc1 hc2
      obtain ⟨r, hr⟩ : ∃ r, test y = r := ⟨_, rfl⟩
      rw [hr] at HC
      have HR := Lib.hid hr
      clear hr
      have hsz := hb.size
      have HB := Lib.hid hb
      clear hb
      cases r
      · go_wp2_with fail
        refine HC.out.mono ?_
        rintro e w' ⟨rfl, hbw⟩
        go_wp2_with fail
        go_roundw
        case rel => exact ⟨k + 1, by omega, by go_num, HB.out.trans (hbw.mono HB.out.size), by rw [HF.out, HD.out, HR.out]; simp⟩
        case measure => simp [intOf]; omega
      · go_wp2_with fail
        refine HC.out.mono ?_
        rintro e w' ⟨rfl, hbw⟩
        go_wp2_with fail
        go_ret
        exact ⟨⟨_, rfl, by rw [HF.out, HD.out, HR.out]; simp⟩, HB.out.trans (hbw.mono HB.out.size)⟩
    · have : k = l.length := by omega
      go_wp2_with fail
      go_ret
      exact ⟨⟨_, rfl, by rw [HF.out, this]; simp⟩, hb⟩
theorem hasSpan1_any (r : Bool) (l : List (Int × Int)) (test : (Int × Int) → Bool) (v : Value) (w : World) (hv : SpansIn w.heap.size w v l)
    (hf : ∀ k W, k < l.length → Below w.heap.size w W → Calls Try.prog 92 #[.agg #[.int .i64 (l.getD k default).1, .int .i64 (l.getD k default).2]] W fun e W' => e = .returned (.bool (test (l.getD k default))) ∧ Below W.heap.size W W') (hr : l.any test = r) :
    Calls Try.prog 90 #[v, .func (.func 92) #[] #[]] w fun e w' => e = .returned (.bool r) ∧ Below w.heap.size w w' := by
  have HR := Lib.hid hr
  have HX := Lib.hid (idxSpan1_any l test v w hv hf)
  clear hr hf
  go_enter Try.func90, Try.ntmps90
  go_wp2_with fail
  refine HX.out.mono ?_
  rintro e w' ⟨⟨k, rfl, hk⟩, hbw⟩
  have HK := Lib.hid hk
  clear hk
  go_wp2_with fail
  go_ret
  exact ⟨ret_bool (HK.out.trans HR.out), hbw⟩

set_option maxHeartbeats 2000000 in
theorem idxLot_any (p : Option Addr) (l : List Lot) (test : Lot → Bool) (v : Value) (w : World) (hv : LotsIn w.heap.size w v l)
    (hf : ∀ k W, k < l.length → Below w.heap.size w W → ∀ u, Calls Try.prog 58 #[.agg #[.string (l.getD k default).name, u], .pointer p] W fun e W' => e = .returned (.bool (test (l.getD k default))) ∧ Below W.heap.size W W') :
    Calls Try.prog 89 #[v, .func (.func 58) #[] #[.pointer p]] w
      fun e w' => (∃ k : Int, e = .returned (.int .i64 k) ∧ decide (0 ≤ k) = l.any test) ∧ Below w.heap.size w w' := by
  have HV := Lib.hid hv
  have HFN := Lib.hid hf
  obtain ⟨a, c, rfl, hl, hlc, -⟩ := hv
  clear hf
  go_enter Try.func89, Try.ntmps89
  go_wp2_with fail
  go_loopw [8] (fun i wr => ∃ k : Nat, k ≤ l.length ∧ i = .int .i64 k ∧ Below w.heap.size w wr ∧ l.any test = (l.drop k).any test) (fun i _ => l.length - (intOf i).toNat)
  case atStart => exact ⟨0, by omega, rfl, Below.refl _ _, by simp⟩
  case round =>
    obtain ⟨k, hk, rfl, hb, hf⟩ := hrel
    have HF := Lib.hid hf
    clear hf
    by_cases hkl : k < l.length
    · obtain ⟨b', o, c', hvv, -, hbB, hc1, -, u, hc2, -⟩ := (HV.out.below hb).at hkl
      cases hvv
      have HD : Hid ((l.drop k).any test = (test (l.getD k default) || (l.drop (k + 1)).any test)) := by
        unfold Hid
        rw [List.drop_eq_getElem_cons hkl, List.any_cons]
        simp [List.getD, hkl]
      have HC := Lib.hid (HFN.out k wr hkl hb u)
      generalize l.getD k default = y at *
      simp only [rdLot] at hc1 hc2
      obtain ⟨r, hr⟩ : ∃ r, test y = r := ⟨_, rfl⟩
      rw [hr] at HC
      have HR := Lib.hid hr
      clear hr
      have hsz := hb.size
      have HB := Lib.hid hb
      clear hb
      cases r
      · go_wp2_with fail
        refine HC.out.mono ?_
        rintro e w' ⟨rfl, hbw⟩
        go_wp2_with fail
        go_roundw
        case rel => exact ⟨k + 1, by omega, by go_num, HB.out.trans (hbw.mono HB.out.size), by rw [HF.out, HD.out, HR.out]; simp⟩
        case measure => simp [intOf]; omega
      · go_wp2_with fail
        refine HC.out.mono ?_
        rintro e w' ⟨rfl, hbw⟩
        go_wp2_with fail
        go_ret
        exact ⟨⟨_, rfl, by rw [HF.out, HD.out, HR.out]; simp⟩, HB.out.trans (hbw.mono HB.out.size)⟩
    · have : k = l.length := by omega
      go_wp2_with fail
      go_ret
      exact ⟨⟨_, rfl, by rw [HF.out, this]; simp⟩, hb⟩
theorem hasLot_any (p : Option Addr) (r : Bool) (l : List Lot) (test : Lot → Bool) (v : Value) (w : World) (hv : LotsIn w.heap.size w v l)
    (hf : ∀ k W, k < l.length → Below w.heap.size w W → ∀ u, Calls Try.prog 58 #[.agg #[.string (l.getD k default).name, u], .pointer p] W fun e W' => e = .returned (.bool (test (l.getD k default))) ∧ Below W.heap.size W W') (hr : l.any test = r) :
    Calls Try.prog 57 #[v, .func (.func 58) #[] #[.pointer p]] w fun e w' => e = .returned (.bool r) ∧ Below w.heap.size w w' := by
  have HR := Lib.hid hr
  have HX := Lib.hid (idxLot_any p l test v w hv hf)
  clear hr hf
  go_enter Try.func57, Try.ntmps57
  go_wp2_with fail
  refine HX.out.mono ?_
  rintro e w' ⟨⟨k, rfl, hk⟩, hbw⟩
  have HK := Lib.hid hk
  clear hk
  go_wp2_with fail
  go_ret
  exact ⟨ret_bool (HK.out.trans HR.out), hbw⟩

set_option maxHeartbeats 2000000 in
theorem idxInts_any (p : Option Addr) (l : List (List Int)) (test : (List Int) → Bool) (v : Value) (w : World) (hv : IntsLIn w.heap.size w v l)
    (hf : ∀ k W, k < l.length → Below w.heap.size w W → ∀ u, IntsIn .i64 W.heap.size W u (l.getD k default) → Calls Try.prog 69 #[u, .pointer p] W fun e W' => e = .returned (.bool (test (l.getD k default))) ∧ Below W.heap.size W W') :
    Calls Try.prog 99 #[v, .func (.func 69) #[] #[.pointer p]] w
      fun e w' => (∃ k : Int, e = .returned (.int .i64 k) ∧ decide (0 ≤ k) = l.any test) ∧ Below w.heap.size w w' := by
  have HV := Lib.hid hv
  have HFN := Lib.hid hf
  obtain ⟨a, c, rfl, hl, hlc, -⟩ := hv
  clear hf
  go_enter Try.func99, Try.ntmps99
  go_wp2_with fail
  go_loopw [8] (fun i wr => ∃ k : Nat, k ≤ l.length ∧ i = .int .i64 k ∧ Below w.heap.size w wr ∧ l.any test = (l.drop k).any test) (fun i _ => l.length - (intOf i).toNat)
  case atStart => exact ⟨0, by omega, rfl, Below.refl _ _, by simp⟩
  case round =>
    obtain ⟨k, hk, rfl, hb, hf⟩ := hrel
    have HF := Lib.hid hf
    clear hf
    by_cases hkl : k < l.length
    · obtain ⟨b', o, c', hvv, -, hbB, u, hc2, hc3⟩ := (HV.out.below hb).at hkl
      cases hvv
      have HD : Hid ((l.drop k).any test = (test (l.getD k default) || (l.drop (k + 1)).any test)) := by
        unfold Hid
        rw [List.drop_eq_getElem_cons hkl, List.any_cons]
        simp [List.getD, hkl]
      have HC := Lib.hid (HFN.out k wr hkl hb u (hc3.mono hb.size))
      generalize l.getD k default = y at *
      simp only [rdInts, Nat.mul_one] at hc2
      obtain ⟨r, hr⟩ : ∃ r, test y = r := ⟨_, rfl⟩
      rw [hr] at HC
      have HR := Lib.hid hr
      clear hr
      have hsz := hb.size
      have HB := Lib.hid hb
      clear hb
      cases r
      · go_wp2_with fail
        refine HC.out.mono ?_
        rintro e w' ⟨rfl, hbw⟩
        go_wp2_with fail
        go_roundw
        case rel => exact ⟨k + 1, by omega, by go_num, HB.out.trans (hbw.mono HB.out.size), by rw [HF.out, HD.out, HR.out]; simp⟩
        case measure => simp [intOf]; omega
      · go_wp2_with fail
        refine HC.out.mono ?_
        rintro e w' ⟨rfl, hbw⟩
        go_wp2_with fail
        go_ret
        exact ⟨⟨_, rfl, by rw [HF.out, HD.out, HR.out]; simp⟩, HB.out.trans (hbw.mono HB.out.size)⟩
    · have : k = l.length := by omega
      go_wp2_with fail
      go_ret
      exact ⟨⟨_, rfl, by rw [HF.out, this]; simp⟩, hb⟩
theorem hasInts_any (p : Option Addr) (r : Bool) (l : List (List Int)) (test : (List Int) → Bool) (v : Value) (w : World) (hv : IntsLIn w.heap.size w v l)
    (hf : ∀ k W, k < l.length → Below w.heap.size w W → ∀ u, IntsIn .i64 W.heap.size W u (l.getD k default) → Calls Try.prog 69 #[u, .pointer p] W fun e W' => e = .returned (.bool (test (l.getD k default))) ∧ Below W.heap.size W W') (hr : l.any test = r) :
    Calls Try.prog 70 #[v, .func (.func 69) #[] #[.pointer p]] w fun e w' => e = .returned (.bool r) ∧ Below w.heap.size w w' := by
  have HR := Lib.hid hr
  have HX := Lib.hid (idxInts_any p l test v w hv hf)
  clear hr hf
  go_enter Try.func70, Try.ntmps70
  go_wp2_with fail
  refine HX.out.mono ?_
  rintro e w' ⟨⟨k, rfl, hk⟩, hbw⟩
  have HK := Lib.hid hk
  clear hk
  go_wp2_with fail
  go_ret
  exact ⟨ret_bool (HK.out.trans HR.out), hbw⟩
end Go.Proofs.Ytaigbhhmmdfdcaa
