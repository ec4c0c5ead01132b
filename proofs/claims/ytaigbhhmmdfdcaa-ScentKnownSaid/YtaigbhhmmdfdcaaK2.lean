/- Walks: names, ranges, things, Check, batches poured. -/
import Derived.Test.YtaigbhhmmdfdcaaRows
import Derived.Test.YtaigbhhmmdfdcaaK1
import Derived.StillTailTactics
import Derived.Great.BuildSlice
import Derived.OwnWalk
import Derived.Deep.AppendLies
import Derived.BigQuiet
/- scent.out; slices.IndexFunc and ContainsFunc at ints, ranges, things, lots, lists of ints. -/
namespace Go.Proofs.Ytaigbhhmmdfdcaa
open Go.RowKit
theorem out1_any (x lo hi : Int) (b1 b2 : Nat) (w : World) (h1 : w.cell? ⟨b1, 0, none⟩ = some (.int .i64 lo)) (h2 : w.cell? ⟨b2, 0, none⟩ = some (.int .i64 hi)) :
    Calls Try.prog 86 #[.int .i64 x, .pointer (some ⟨b1, 0, none⟩), .pointer (some ⟨b2, 0, none⟩)] w
      fun e w' => e = .returned (.bool (outOne lo hi x)) ∧ w = w' := by
  unfold outOne
  go_enter Try.func86, Try.ntmps86
  by_cases h : x < lo
  · go_wp2
    go_ret
    exact ⟨by simp [h], rfl⟩
  · go_wp2
    go_ret
    exact ⟨by simp; omega, rfl⟩
theorem outB_cons (lo hi : Int) (l : List Int) (k : Nat) (h : k < l.length) : outB lo hi (l.drop k) = (outOne lo hi (l.getD k 0) || outB lo hi (l.drop (k + 1))) := by
  unfold outB
  rw [List.drop_eq_getElem_cons h, List.any_cons]
  simp [List.getD, h]
set_option maxHeartbeats 400000 in
/-- slices.IndexFunc at ints with the test of out. -/
theorem indexFunc_any (l : List Int) (v : Value) (lo hi : Int) (b1 b2 : Nat) (w : World) (B : Nat) (hv : IntsIn .i64 B w v l)
    (h1 : w.cell? ⟨b1, 0, none⟩ = some (.int .i64 lo)) (h2 : w.cell? ⟨b2, 0, none⟩ = some (.int .i64 hi)) :
    Calls Try.prog 103 #[v, .func (.func 86) #[] #[.pointer (some ⟨b1, 0, none⟩), .pointer (some ⟨b2, 0, none⟩)]] w
      fun e w' => (∃ k : Int, e = .returned (.int .i64 k) ∧ decide (0 ≤ k) = outB lo hi l) ∧ w = w' := by
  obtain ⟨a, c, rfl, hl, hv⟩ := hv
  go_enter Try.func103, Try.ntmps103
  go_wp2
  go_loop [8] (fun i => ∃ k : Nat, k ≤ l.length ∧ i = .int .i64 k ∧ outB lo hi l = outB lo hi (l.drop k)) (fun i => l.length - (intOf i).toNat)
  case atStart => exact ⟨0, by omega, rfl, by simp⟩
  case round =>
    obtain ⟨k, hk, rfl, ho⟩ := hrel
    have HO := Lib.hid ho
    clear ho
    by_cases hlt : k < l.length
    · obtain ⟨b, o, rfl, _, hc⟩ : ∃ b o, a = some ⟨b, o, none⟩ ∧ b < B ∧ ∀ i, i < l.length → w.cell? ⟨b, o + i, none⟩ = some (.int .i64 (l.getD i 0)) := by
        rcases hv with rfl | h
        · simp at hlt
        · exact h
      have hc' := hc k hlt
      have H3 := Lib.hid (outB_cons lo hi l k hlt)
      generalize l.getD k 0 = x at hc' H3
      clear hc hv
      by_cases hx : outOne lo hi x = true
      · go_wp2_with (go_at_call 86; refine (out1_any _ _ _ _ _ _ h1 h2).mono ?_; rintro e w' ⟨rfl, rfl⟩)
        go_ret
        exact ⟨⟨_, rfl, by rw [HO.out, H3.out, hx]; simp⟩, rfl⟩
      · have hx' : outOne lo hi x = false := by simpa using hx
        go_wp2_with (go_at_call 86; refine (out1_any _ _ _ _ _ _ h1 h2).mono ?_; rintro e w' ⟨rfl, rfl⟩)
        go_round
        case rel => exact ⟨k + 1, by omega, by go_num, by rw [HO.out, H3.out, hx']; simp⟩
        case measure => simp [intOf]; omega
    · have : k = l.length := by omega
      go_wp2
      go_ret
      exact ⟨⟨_, rfl, by rw [HO.out, this]; simp [outB]⟩, rfl⟩
theorem contains_any (l : List Int) (v : Value) (lo hi : Int) (b1 b2 : Nat) (w : World) (B : Nat) (hv : IntsIn .i64 B w v l)
    (h1 : w.cell? ⟨b1, 0, none⟩ = some (.int .i64 lo)) (h2 : w.cell? ⟨b2, 0, none⟩ = some (.int .i64 hi)) :
    Calls Try.prog 85 #[v, .func (.func 86) #[] #[.pointer (some ⟨b1, 0, none⟩), .pointer (some ⟨b2, 0, none⟩)]] w
      fun e w' => e = .returned (.bool (outB lo hi l)) ∧ w = w' := by
  go_enter Try.func85, Try.ntmps85
  go_wp2_with (go_at_call 103; refine (indexFunc_any l v lo hi b1 b2 _ B hv h1 h2).mono ?_; rintro e w' ⟨⟨k, rfl, hk⟩, rfl⟩; have HK := Lib.hid hk; clear hk)
  go_ret
  exact ⟨ret_bool HK.out, rfl⟩
/-- scent.out -/
theorem out_any (lo hi : Int) (l : List Int) (v : Value) (w : World) (hv : IntsIn .i64 w.heap.size w v l) :
    Calls Try.prog 50 #[.int .i64 lo, .int .i64 hi, v] w fun e w' => e = .returned (.bool (outB lo hi l)) ∧ Below w.heap.size w w' := by
  have hb := (((Below.refl w.heap.size w).alloc (Nat.le_refl _) (.cells #[.int .i64 lo] 3)).alloc (by simp) (.cells #[.int .i64 hi] 3))
  have H := Lib.hid (hv.below hb)
  clear hv
  go_enter Try.func50, Try.ntmps50
  go_wp2_with (go_at_call 85; refine (contains_any l v lo hi _ _ _ _ H.out (by simp) (by simp)).mono ?_; rintro e w' ⟨rfl, rfl⟩)
  go_ret
  exact ⟨rfl, hb⟩
theorem out_r (r : Bool) (lo hi : Int) (l : List Int) (hr : outB lo hi l = r) (v : Value) (w : World) (B : Nat) (hv : IntsIn .i64 B w v l) (hB : B ≤ w.heap.size) :
    Calls Try.prog 50 #[.int .i64 lo, .int .i64 hi, v] w fun e w' => e = .returned (.bool r) ∧ Below w.heap.size w w' := by
  subst hr; exact out_any lo hi l v w (hv.mono hB)
/-- The ints of a slice literal, in the block that was just made for it. -/
theorem intsIn_new (w : World) (g : Nat) (hg : w.heap.size = g) (l : List Int) (hl : l.length ≤ 1000) (n : Nat) (hn : l.length = n) : IntsIn .i64 (g + 1) (w.alloc (.cells (ints l) 3)) (.slice (some ⟨g, 0, none⟩) n n) l := by
  subst hg
  exact ⟨_, _, by rw [hn], by omega, .inr ⟨_, _, rfl, by omega, fun i hi => by rw [cell_of_row _ _ _ _ _ _ (heap_alloc_new w _), Nat.zero_add, ints_get _ _ hi]⟩⟩
/-- out at one number, in the block that was just made for it. -/
theorem out_one (r : Bool) (lo hi x : Int) (hr : outOne lo hi x = r) (g : Nat) (w : World) (h : w.heap[g]? = some (.cells #[.int .i64 x] 3)) :
    Calls Try.prog 50 #[.int .i64 lo, .int .i64 hi, .slice (some ⟨g, 0, none⟩) 1 1] w fun e w' => e = .returned (.bool r) ∧ Below w.heap.size w w' := by
  refine out_r r lo hi [x] (by simpa [outB] using hr) _ w w.heap.size ⟨_, 1, rfl, by simp, .inr ⟨g, 0, rfl, block_lt h, fun i hi => ?_⟩⟩ (Nat.le_refl _)
  obtain rfl : i = 0 := by simpa using hi
  rw [cell_of_row w g _ _ _ _ h]
  rfl

set_option maxHeartbeats 2000000 in
theorem idxThing_any (p : Option Addr) (l : List Thing) (test : Thing → Bool) (v : Value) (w : World) (hv : ThingsIn w.heap.size w v l)
    (hf : ∀ k W, k < l.length → Below w.heap.size w W → Calls Try.prog 88 #[.agg #[.string (l.getD k default).name, .int .i64 (l.getD k default).kind, .int .i64 (l.getD k default).limit, .int .i64 (l.getD k default).weak, .int .i64 (l.getD k default).fade], .pointer p] W fun e W' => e = .returned (.bool (test (l.getD k default))) ∧ Below W.heap.size W W') :
    Calls Try.prog 104 #[v, .func (.func 88) #[] #[.pointer p]] w
      fun e w' => (∃ k : Int, e = .returned (.int .i64 k) ∧ decide (0 ≤ k) = l.any test) ∧ Below w.heap.size w w' := by
  have HV := Lib.hid hv
  have HFN := Lib.hid hf
  obtain ⟨a, c, rfl, hl, hlc, -⟩ := hv
  clear hf
  go_enter Try.func104, Try.ntmps104
  go_wp2_with fail
  go_loopw [8] (fun i wr => ∃ k : Nat, k ≤ l.length ∧ i = .int .i64 k ∧ Below w.heap.size w wr ∧ l.any test = (l.drop k).any test) (fun i _ => l.length - (intOf i).toNat)
  case atStart => exact ⟨0, by omega, rfl, Below.refl _ _, by simp⟩
  case round =>
    obtain ⟨k, hk, rfl, hb, hf⟩ := hrel
    have HF := Lib.hid hf
    clear hf
    by_cases hkl : k < l.length
    · obtain ⟨b', o, c', hvv, -, hbB, hc1, hc2, hc3, hc4, hc5, -⟩ := (HV.out.below hb).at hkl
      cases hvv
      have HD : Hid ((l.drop k).any test = (test (l.getD k default) || (l.drop (k + 1)).any test)) := by
        unfold Hid
        rw [List.drop_eq_getElem_cons hkl, List.any_cons]
        simp [List.getD, hkl]
      have HC := Lib.hid (HFN.out k wr hkl hb)
      generalize l.getD k default = y at *
      simp only [rdThing] at hc1 hc2 hc3 hc4 hc5
      obtain ⟨r, hr⟩ : ∃ r, test y = r := ⟨_, rfl⟩
      rw [hr] at HC
      have HR := Lib.hid hr
      clear hr
      have hsz := hb.size
      have HB := Lib.hid hb
      clear hb
      cases r
      · go_wp2_with fail
        refine HC.out.mono ?_
        rintro e w' ⟨rfl, hbw⟩
        go_wp2_with fail
        go_roundw
        case rel => exact ⟨k + 1, by omega, by go_num, HB.out.trans (hbw.mono HB.out.size), by rw [HF.out, HD.out, HR.out]; simp⟩
        case measure => simp [intOf]; omega
      · go_wp2_with fail
        refine HC.out.mono ?_
        rintro e w' ⟨rfl, hbw⟩
        go_wp2_with fail
        go_ret
        exact ⟨⟨_, rfl, by rw [HF.out, HD.out, HR.out]; simp⟩, HB.out.trans (hbw.mono HB.out.size)⟩
    · have : k = l.length := by omega
      go_wp2_with fail
      go_ret
      exact ⟨⟨_, rfl, by rw [HF.out, this]; simp⟩, hb⟩
theorem hasThing_any (p : Option Addr) (r : Bool) (l : List Thing) (test : Thing → Bool) (v : Value) (w : World) (hv : ThingsIn w.heap.size w v l)
    (hf : ∀ k W, k < l.length → Below w.heap.size w W → Calls Try.prog 88 #[.agg #[.string (l.getD k default).name, .int .i64 (l.getD k default).kind, .int .i64 (l.getD k default).limit, .int .i64 (l.getD k default).weak, .int .i64 (l.getD k default).fade], .pointer p] W fun e W' => e = .returned (.bool (test (l.getD k default))) ∧ Below W.heap.size W W') (hr : l.any test = r) :
    Calls Try.prog 87 #[v, .func (.func 88) #[] #[.pointer p]] w fun e w' => e = .returned (.bool r) ∧ Below w.heap.size w w' := by
  have HR := Lib.hid hr
  have HX := Lib.hid (idxThing_any p l test v w hv hf)
  clear hr hf
  go_enter Try.func87, Try.ntmps87
  go_wp2_with fail
  refine HX.out.mono ?_
  rintro e w' ⟨⟨k, rfl, hk⟩, hbw⟩
  have HK := Lib.hid hk
  clear hk
  go_wp2_with fail
  go_ret
  exact ⟨ret_bool (HK.out.trans HR.out), hbw⟩

set_option maxHeartbeats 2000000 in
theorem idxSpan0_any (p : Option Addr) (l : List (Int × Int)) (test : (Int × Int) → Bool) (v : Value) (w : World) (hv : SpansIn w.heap.size w v l)
    (hf : ∀ k W, k < l.length → Below w.heap.size w W → Calls Try.prog 91 #[.agg #[.int .i64 (l.getD k default).1, .int .i64 (l.getD k default).2], .pointer p] W fun e W' => e = .returned (.bool (test (l.getD k default))) ∧ Below W.heap.size W W') :
    Calls Try.prog 105 #[v, .func (.func 91) #[] #[.pointer p]] w
      fun e w' => (∃ k : Int, e = .returned (.int .i64 k) ∧ decide (0 ≤ k) = l.any test) ∧ Below w.heap.size w w' := by
  have HV := Lib.hid hv
  have HFN := Lib.hid hf
  obtain ⟨a, c, rfl, hl, hlc, -⟩ := hv
  clear hf
  go_enter Try.func105, Try.ntmps105
  go_wp2_with fail
  go_loopw [8] (fun i wr => ∃ k : Nat, k ≤ l.length ∧ i = .int .i64 k ∧ Below w.heap.size w wr ∧ l.any test = (l.drop k).any test) (fun i _ => l.length - (intOf i).toNat)
  case atStart => exact ⟨0, by omega, rfl, Below.refl _ _, by simp⟩
  case round =>
    obtain ⟨k, hk, rfl, hb, hf⟩ := hrel
    have HF := Lib.hid hf
    clear hf
    by_cases hkl : k < l.length
    · obtain ⟨b', o, c', hvv, -, hbB, hc1, hc2⟩ := (HV.out.below hb).at hkl
      cases hvv
      have HD : Hid ((l.drop k).any test = (test (l.getD k default) || (l.drop (k + 1)).any test)) := by
        unfold Hid
        rw [List.drop_eq_getElem_cons hkl, List.any_cons]
        simp [List.getD, hkl]
      have HC := Lib.hid (HFN.out k wr hkl hb)
      generalize l.getD k default = y at *
      simp only [rdSpan] at hc1 hc2
      obtain ⟨r, hr⟩ : ∃ r, test y = r := ⟨_, rfl⟩
      rw [hr] at HC
      have HR := Lib.hid hr
      clear hr
      have hsz := hb.size
      have HB := Lib.hid hb
      clear hb
      cases r
      · go_wp2_with fail
        refine HC.out.mono ?_
        rintro e w' ⟨rfl, hbw⟩
        go_wp2_with fail
        go_roundw
        case rel => exact ⟨k + 1, by omega, by go_num, HB.out.trans (hbw.mono HB.out.size), by rw [HF.out, HD.out, HR.out]; simp⟩
        case measure => simp [intOf]; omega
      · go_wp2_with fail
        refine HC.out.mono ?_
        rintro e w' ⟨rfl, hbw⟩
        go_wp2_with fail
        go_ret
        exact ⟨⟨_, rfl, by rw [HF.out, HD.out, HR.out]; simp⟩, HB.out.trans (hbw.mono HB.out.size)⟩
    · have : k = l.length := by omega
      go_wp2_with fail
      go_ret
      exact ⟨⟨_, rfl, by rw [HF.out, this]; simp⟩, hb⟩
theorem hasSpan0_any (p : Option Addr) (r : Bool) (l : List (Int × Int)) (test : (Int × Int) → Bool) (v : Value) (w : World) (hv : SpansIn w.heap.size w v l)
    (hf : ∀ k W, k < l.length → Below w.heap.size w W → Calls Try.prog 91 #[.agg #[.int .i64 (l.getD k default).1, .int .i64 (l.getD k default).2], .pointer p] W fun e W' => e = .returned (.bool (test (l.getD k default))) ∧ Below W.heap.size W W') (hr : l.any test = r) :
    Calls Try.prog 90 #[v, .func (.func 91) #[] #[.pointer p]] w fun e w' => e = .returned (.bool r) ∧ Below w.heap.size w w' := by
  have HR := Lib.hid hr
  have HX := Lib.hid (idxSpan0_any p l test v w hv hf)
  clear hr hf
  go_enter Try.func90, Try.ntmps90
  go_wp2_with fail
  refine HX.out.mono ?_
  rintro e w' ⟨⟨k, rfl, hk⟩, hbw⟩
  have HK := Lib.hid hk
  clear hk
  go_wp2_with fail
  go_ret
  exact ⟨ret_bool (HK.out.trans HR.out), hbw⟩

set_option maxHeartbeats 2000000 in
theorem idxSpan1_any (l : List (Int × Int)) (test : (Int × Int) → Bool) (v : Value) (w : World) (hv : SpansIn w.heap.size w v l)
    (hf : ∀ k W, k < l.length → Below w.heap.size w W → Calls Try.prog 92 #[.agg #[.int .i64 (l.getD k default).1, .int .i64 (l.getD k default).2]] W fun e W' => e = .returned (.bool (test (l.getD k default))) ∧ Below W.heap.size W W') :
    Calls Try.prog 105 #[v, .func (.func 92) #[] #[]] w
      fun e w' => (∃ k : Int, e = .returned (.int .i64 k) ∧ decide (0 ≤ k) = l.any test) ∧ Below w.heap.size w w' := by
  have HV := Lib.hid hv
  have HFN := Lib.hid hf
  obtain ⟨a, c, rfl, hl, hlc, -⟩ := hv
  clear hf
  go_enter Try.func105, Try.ntmps105
  go_wp2_with fail
  go_loopw [8] (fun i wr => ∃ k : Nat, k ≤ l.length ∧ i = .int .i64 k ∧ Below w.heap.size w wr ∧ l.any test = (l.drop k).any test) (fun i _ => l.length - (intOf i).toNat)
  case atStart => exact ⟨0, by omega, rfl, Below.refl _ _, by simp⟩
  case round =>
    obtain ⟨k, hk, rfl, hb, hf⟩ := hrel
    have HF := Lib.hid hf
    clear hf
    by_cases hkl : k < l.length
    · obtain ⟨b', o, c', hvv, -, hbB, hc1, hc2⟩ := (HV.out.below hb).at hkl
      cases hvv
      have HD : Hid ((l.drop k).any test = (test (l.getD k default) || (l.drop (k + 1)).any test)) := by
        unfold Hid
        rw [List.drop_eq_getElem_cons hkl, List.any_cons]
        simp [List.getD, hkl]
      have HC := Lib.hid (HFN.out k wr hkl hb)
      generalize l.getD k default = y at *
      simp only [rdSpan] at hc1 hc2
      obtain ⟨r, hr⟩ : ∃ r, test y = r := ⟨_, rfl⟩
      rw [hr] at HC
      have HR := Lib.hid hr
      clear hr
      have hsz := hb.size
      have HB := Lib.hid hb
      clear hb
      cases r
      · go_wp2_with fail
        refine HC.out.mono ?_
        rintro e w' ⟨rfl, hbw⟩
        go_wp2_with fail
        go_roundw
        case rel => exact ⟨k + 1, by omega, by go_num, HB.out.trans (hbw.mono HB.out.size), by rw [HF.out, HD.out, HR.out]; simp⟩
        case measure => simp [intOf]; omega
      · go_wp2_with fail
        refine HC.out.mono ?_
        rintro e w' ⟨rfl, hbw⟩
        go_wp2_with fail
        go_ret
        exact ⟨⟨_, rfl, by rw [HF.out, HD.out, HR.out]; simp⟩, HB.out.trans (hbw.mono HB.out.size)⟩
    · have : k = l.length := by omega
      go_wp2_with fail
      go_ret
      exact ⟨⟨_, rfl, by rw [HF.out, this]; simp⟩, hb⟩
theorem hasSpan1_any (r : Bool) (l : List (Int × Int)) (test : (Int × Int) → Bool) (v : Value) (w : World) (hv : SpansIn w.heap.size w v l)
    (hf : ∀ k W, k < l.length → Below w.heap.size w W → Calls Try.prog 92 #[.agg #[.int .i64 (l.getD k default).1, .int .i64 (l.getD k default).2]] W fun e W' => e = .returned (.bool (test (l.getD k default))) ∧ Below W.heap.size W W') (hr : l.any test = r) :
    Calls Try.prog 90 #[v, .func (.func 92) #[] #[]] w fun e w' => e = .returned (.bool r) ∧ Below w.heap.size w w' := by
  have HR := Lib.hid hr
  have HX := Lib.hid (idxSpan1_any l test v w hv hf)
  clear hr hf
  go_enter Try.func90, Try.ntmps90
  go_wp2_with fail
  refine HX.out.mono ?_
  rintro e w' ⟨⟨k, rfl, hk⟩, hbw⟩
  have HK := Lib.hid hk
  clear hk
  go_wp2_with fail
  go_ret
  exact ⟨ret_bool (HK.out.trans HR.out), hbw⟩

set_option maxHeartbeats 2000000 in
theorem idxLot_any (p : Option Addr) (l : List Lot) (test : Lot → Bool) (v : Value) (w : World) (hv : LotsIn w.heap.size w v l)
    (hf : ∀ k W, k < l.length → Below w.heap.size w W → ∀ u, Calls Try.prog 58 #[.agg #[.string (l.getD k default).name, u], .pointer p] W fun e W' => e = .returned (.bool (test (l.getD k default))) ∧ Below W.heap.size W W') :
    Calls Try.prog 89 #[v, .func (.func 58) #[] #[.pointer p]] w
      fun e w' => (∃ k : Int, e = .returned (.int .i64 k) ∧ decide (0 ≤ k) = l.any test) ∧ Below w.heap.size w w' := by
  have HV := Lib.hid hv
  have HFN := Lib.hid hf
  obtain ⟨a, c, rfl, hl, hlc, -⟩ := hv
  clear hf
  go_enter Try.func89, Try.ntmps89
  go_wp2_with fail
  go_loopw [8] (fun i wr => ∃ k : Nat, k ≤ l.length ∧ i = .int .i64 k ∧ Below w.heap.size w wr ∧ l.any test = (l.drop k).any test) (fun i _ => l.length - (intOf i).toNat)
  case atStart => exact ⟨0, by omega, rfl, Below.refl _ _, by simp⟩
  case round =>
    obtain ⟨k, hk, rfl, hb, hf⟩ := hrel
    have HF := Lib.hid hf
    clear hf
    by_cases hkl : k < l.length
    · obtain ⟨b', o, c', hvv, -, hbB, hc1, -, u, hc2, -⟩ := (HV.out.below hb).at hkl
      cases hvv
      have HD : Hid ((l.drop k).any test = (test (l.getD k default) || (l.drop (k + 1)).any test)) := by
        unfold Hid
        rw [List.drop_eq_getElem_cons hkl, List.any_cons]
        simp [List.getD, hkl]
      have HC := Lib.hid (HFN.out k wr hkl hb u)
      generalize l.getD k default = y at *
      simp only [rdLot] at hc1 hc2
      obtain ⟨r, hr⟩ : ∃ r, test y = r := ⟨_, rfl⟩
      rw [hr] at HC
      have HR := Lib.hid hr
      clear hr
      have hsz := hb.size
      have HB := Lib.hid hb
      clear hb
      cases r
      · go_wp2_with fail
        refine HC.out.mono ?_
        rintro e w' ⟨rfl, hbw⟩
        go_wp2_with fail
        go_roundw
        case rel => exact ⟨k + 1, by omega, by go_num, HB.out.trans (hbw.mono HB.out.size), by rw [HF.out, HD.out, HR.out]; simp⟩
        case measure => simp [intOf]; omega
      · go_wp2_with fail
        refine HC.out.mono ?_
        rintro e w' ⟨rfl, hbw⟩
        go_wp2_with fail
        go_ret
        exact ⟨⟨_, rfl, by rw [HF.out, HD.out, HR.out]; simp⟩, HB.out.trans (hbw.mono HB.out.size)⟩
    · have : k = l.length := by omega
      go_wp2_with fail
      go_ret
      exact ⟨⟨_, rfl, by rw [HF.out, this]; simp⟩, hb⟩
theorem hasLot_any (p : Option Addr) (r : Bool) (l : List Lot) (test : Lot → Bool) (v : Value) (w : World) (hv : LotsIn w.heap.size w v l)
    (hf : ∀ k W, k < l.length → Below w.heap.size w W → ∀ u, Calls Try.prog 58 #[.agg #[.string (l.getD k default).name, u], .pointer p] W fun e W' => e = .returned (.bool (test (l.getD k default))) ∧ Below W.heap.size W W') (hr : l.any test = r) :
    Calls Try.prog 57 #[v, .func (.func 58) #[] #[.pointer p]] w fun e w' => e = .returned (.bool r) ∧ Below w.heap.size w w' := by
  have HR := Lib.hid hr
  have HX := Lib.hid (idxLot_any p l test v w hv hf)
  clear hr hf
  go_enter Try.func57, Try.ntmps57
  go_wp2_with fail
  refine HX.out.mono ?_
  rintro e w' ⟨⟨k, rfl, hk⟩, hbw⟩
  have HK := Lib.hid hk
  clear hk
  go_wp2_with fail
  go_ret
  exact ⟨ret_bool (HK.out.trans HR.out), hbw⟩

set_option maxHeartbeats 2000000 in
theorem idxInts_any (p : Option Addr) (l : List (List Int)) (test : (List Int) → Bool) (v : Value) (w : World) (hv : IntsLIn w.heap.size w v l)
    (hf : ∀ k W, k < l.length → Below w.heap.size w W → ∀ u, IntsIn .i64 W.heap.size W u (l.getD k default) → Calls Try.prog 69 #[u, .pointer p] W fun e W' => e = .returned (.bool (test (l.getD k default))) ∧ Below W.heap.size W W') :
    Calls Try.prog 99 #[v, .func (.func 69) #[] #[.pointer p]] w
      fun e w' => (∃ k : Int, e = .returned (.int .i64 k) ∧ decide (0 ≤ k) = l.any test) ∧ Below w.heap.size w w' := by
  have HV := Lib.hid hv
  have HFN := Lib.hid hf
  obtain ⟨a, c, rfl, hl, hlc, -⟩ := hv
  clear hf
  go_enter Try.func99, Try.ntmps99
  go_wp2_with fail
  go_loopw [8] (fun i wr => ∃ k : Nat, k ≤ l.length ∧ i = .int .i64 k ∧ Below w.heap.size w wr ∧ l.any test = (l.drop k).any test) (fun i _ => l.length - (intOf i).toNat)
  case atStart => exact ⟨0, by omega, rfl, Below.refl _ _, by simp⟩
  case round =>
    obtain ⟨k, hk, rfl, hb, hf⟩ := hrel
    have HF := Lib.hid hf
    clear hf
    by_cases hkl : k < l.length
    · obtain ⟨b', o, c', hvv, -, hbB, u, hc2, hc3⟩ := (HV.out.below hb).at hkl
      cases hvv
      have HD : Hid ((l.drop k).any test = (test (l.getD k default) || (l.drop (k + 1)).any test)) := by
        unfold Hid
        rw [List.drop_eq_getElem_cons hkl, List.any_cons]
        simp [List.getD, hkl]
      have HC := Lib.hid (HFN.out k wr hkl hb u (hc3.mono hb.size))
      generalize l.getD k default = y at *
      simp only [rdInts, Nat.mul_one] at hc2
      obtain ⟨r, hr⟩ : ∃ r, test y = r := ⟨_, rfl⟩
      rw [hr] at HC
      have HR := Lib.hid hr
      clear hr
      have hsz := hb.size
      have HB := Lib.hid hb
      clear hb
      cases r
      · go_wp2_with fail
        refine HC.out.mono ?_
        rintro e w' ⟨rfl, hbw⟩
        go_wp2_with fail
        go_roundw
        case rel => exact ⟨k + 1, by omega, by go_num, HB.out.trans (hbw.mono HB.out.size), by rw [HF.out, HD.out, HR.out]; simp⟩
        case measure => simp [intOf]; omega
      · go_wp2_with fail
        refine HC.out.mono ?_
        rintro e w' ⟨rfl, hbw⟩
        go_wp2_with fail
        go_ret
        exact ⟨⟨_, rfl, by rw [HF.out, HD.out, HR.out]; simp⟩, HB.out.trans (hbw.mono HB.out.size)⟩
    · have : k = l.length := by omega
      go_wp2_with fail
      go_ret
      exact ⟨⟨_, rfl, by rw [HF.out, this]; simp⟩, hb⟩
theorem hasInts_any (p : Option Addr) (r : Bool) (l : List (List Int)) (test : (List Int) → Bool) (v : Value) (w : World) (hv : IntsLIn w.heap.size w v l)
    (hf : ∀ k W, k < l.length → Below w.heap.size w W → ∀ u, IntsIn .i64 W.heap.size W u (l.getD k default) → Calls Try.prog 69 #[u, .pointer p] W fun e W' => e = .returned (.bool (test (l.getD k default))) ∧ Below W.heap.size W W') (hr : l.any test = r) :
    Calls Try.prog 70 #[v, .func (.func 69) #[] #[.pointer p]] w fun e w' => e = .returned (.bool r) ∧ Below w.heap.size w w' := by
  have HR := Lib.hid hr
  have HX := Lib.hid (idxInts_any p l test v w hv hf)
  clear hr hf
  go_enter Try.func70, Try.ntmps70
  go_wp2_with fail
  refine HX.out.mono ?_
  rintro e w' ⟨⟨k, rfl, hk⟩, hbw⟩
  have HK := Lib.hid hk
  clear hk
  go_wp2_with fail
  go_ret
  exact ⟨ret_bool (HK.out.trans HR.out), hbw⟩
end Go.Proofs.Ytaigbhhmmdfdcaa
/- The functions that say whether a string is a name: wax.Name and stearinref01.Name: both are nameB. -/
namespace Go.Proofs.Ytaigbhhmmdfdcaa
open Go.RowKit

theorem nameL_drop (s : ByteArray) (pos : Nat) (h : pos < s.size) (last : Int) : nameL last (s.data.toList.drop pos) = (!badN last (s[pos]'h).toNat && nameL (s[pos]'h).toNat (s.data.toList.drop (pos + 1))) := by
  rw [List.drop_eq_getElem_cons (by simpa using h), nameL]
  rfl
theorem badN_t1 {l c : Int} (h : ¬ c = 45) (h2 : c < 97 ∨ 122 < c) : badN l c = true := by
  unfold badN; simp; omega
theorem badN_t2 {l c : Int} (h : c = 45) (h2 : (l == 45) = true) : badN l c = true := by
  unfold badN; simp_all
theorem badN_f1 {l c : Int} (_h : c = 45) (h2 : (l == 45) = false) : badN l c = false := by
  unfold badN; simp_all
theorem badN_f2 {l c : Int} (_h : ¬ c = 45) (h2 : 97 ≤ c) (h3 : c ≤ 122) : badN l c = false := by
  unfold badN; simp; omega
theorem badN_high (last c : Int) (h : 128 ≤ c) : badN last c = true := by
  unfold badN; simp; omega

set_option maxHeartbeats 2000000 in
theorem name_any (s : ByteArray) (w : World) (hs : s.size ≤ 1000000000000000) :
    Calls Try.prog 56 #[.string s] w fun e w' => e = .returned (.bool (nameB s)) ∧ Below w.heap.size w w' := by
  go_enter Try.func56, Try.ntmps56
  go_wp2
  go_loopw [3] (fun la wr => ∃ (pos : Nat) (l : Int), wr = w.iter s pos ∧ la = .int .i32 l ∧ pos ≤ s.size ∧ 0 ≤ l ∧ l ≤ 127 ∧ nameL 45 s.data.toList = nameL l (s.data.toList.drop pos)) (fun _ wr => s.size - wr.iterPos w.heap.size)
  case atStart => exact ⟨0, 45, rfl, rfl, by omega, by omega, by omega, by simp⟩
  case round =>
    obtain ⟨pos, l, rfl, rfl, hp, hl0, hl1, hn⟩ := hrel
    have HN := Lib.hid hn
    clear hn
    by_cases hlt : pos < s.size
    · have HD := Lib.hid (nameL_drop s pos hlt l)
      by_cases ha : (s[pos]'hlt).toNat < 128
      · have hnx := fun ty => run_next_ascii (P := Try.prog) w s pos ty hlt ha
        generalize (s[pos]'hlt).toNat = c at *
        obtain ⟨r, hr⟩ : ∃ r, badN l c = r := ⟨_, rfl⟩
        have HR := Lib.hid hr
        unfold badN at hr
        have hW : Hid (∀ p, Below w.heap.size w (w.iter s p)) := fun p => (Below.refl _ _).alloc (Nat.le_refl _) _
        clear HR hr
        go_wp2
        all_goals first
          | (have hb : badN l c = true := (by first | exact badN_t2 ‹_› ‹_› | exact badN_t1 ‹_› (.inl ‹_›) | exact badN_t1 ‹_› (.inr ‹_›))
             go_ret
             exact ⟨ret_bool (by unfold nameB; rw [HN.out, HD.out, hb]; rfl), hW.out _⟩)
          | (have hb : badN l c = false := (by first | exact badN_f1 ‹_› ‹_› | exact badN_f2 ‹_› ‹_› ‹_›)
             go_roundw
             case rel => exact ⟨pos + 1, _, rfl, rfl, by omega, by omega, by omega, by rw [HN.out, HD.out, hb]; simp [*]⟩
             case measure => simp; omega)
      · have hnx := fun ty => run_next_any (P := Try.prog) w s pos ty hlt
        have hhi := (decode_high s pos hlt (by omega)).1
        have hle := decode_le s pos
        have hb : badN l (s[pos]'hlt).toNat = true := badN_high _ _ (by omega)
        have HF : Hid (nameB s = false) := by unfold Hid nameB; rw [HN.out, HD.out, hb]; rfl
        have hW : Hid (∀ p, Below w.heap.size w (w.iter s p)) := fun p => (Below.refl _ _).alloc (Nat.le_refl _) _
        generalize (Utf8.decode s pos).1 = c at *
        generalize (Utf8.decode s pos).2 = d at *
        clear HD HN hb
        go_wp2
        all_goals
          go_ret
          exact ⟨ret_bool HF.out.symm, hW.out _⟩
    · have : pos = s.size := by omega
      subst this
      have HF : Hid (nameB s = ((l != 45) && decide (s.size ≤ 20))) := by unfold Hid nameB; rw [HN.out, List.drop_of_length_le (by simp)]; rfl
      have hW : Hid (∀ p, Below w.heap.size w (w.iter s p)) := fun p => (Below.refl _ _).alloc (Nat.le_refl _) _
      have hnx := fun ty => run_next_end (P := Try.prog) w s s.size ty (by omega)
      clear HN
      have hd : decide ((s.size : Int) ≤ 20) = decide (s.size ≤ 20) := by rw [decide_eq_decide]; omega
      have HDD := Lib.hid hd
      clear hd
      go_wp2
      all_goals
        go_ret
        exact ⟨ret_bool (by rw [HF.out, ← HDD.out]; try simp [*]), hW.out _⟩

theorem name_r (r : Bool) (s : ByteArray) (w : World) (hs : s.size ≤ 1000000000000000) (hr : nameB s = r) :
    Calls Try.prog 56 #[.string s] w fun e w' => e = .returned (.bool r) ∧ Below w.heap.size w w' := by
  subst hr; exact name_any s w hs

def inB (n lo hi : Int) : Bool := decide (lo ≤ n) && decide (n ≤ hi)
theorem inB_out (n lo hi : Int) : inB n lo hi = !outOne lo hi n := by
  unfold inB outOne
  rw [Bool.eq_iff_iff]
  simp
theorem in1_r (r : Bool) (n lo hi : Int) (w : World) (hr : inB n lo hi = r) : Calls Try.prog 106 #[.int .i64 n, .int .i64 lo, .int .i64 hi] w fun e w' => e = .returned (.bool r) ∧ w = w' := by
  subst hr
  unfold inB
  go_enter Try.func106, Try.ntmps106
  by_cases h : lo ≤ n
  · have h1 : decide (lo ≤ n) = true := by simpa using h
    go_wp2
    all_goals (go_ret; exact ⟨by simp [h], rfl⟩)
  · have h1 : decide (lo ≤ n) = false := by simpa using h
    go_wp2
    all_goals (go_ret; exact ⟨by simp, rfl⟩)

theorem in_r (r : Bool) (n lo hi : Int) (w : World) (hr : inB n lo hi = r) : Calls Try.prog 60 #[.int .i64 n, .int .i64 lo, .int .i64 hi] w fun e w' => e = .returned (.bool r) ∧ w = w' := by
  subst hr
  unfold inB
  go_enter Try.func60, Try.ntmps60
  by_cases h : lo ≤ n
  · have h1 : decide (lo ≤ n) = true := by simpa using h
    go_wp2
    all_goals (go_ret; exact ⟨by simp [h], rfl⟩)
  · have h1 : decide (lo ≤ n) = false := by simpa using h
    go_wp2
    all_goals (go_ret; exact ⟨by simp, rfl⟩)

/-- A string whose last letter is a dash is no name. -/
theorem nameL_last : ∀ (l : List UInt8) (a : Int) (_ : l ≠ []) (_ : l.getLastD 0 = 45), nameL a l = false
  | [], _, h, _ => absurd rfl h
  | [c], a, _, h => by
    have : c = 45 := by simpa using h
    subst this
    simp [nameL]
  | c :: d :: l, a, _, h => by
    rw [nameL, nameL_last (d :: l) _ (by simp) (by simpa using h)]
    simp
theorem nameB_empty (s : ByteArray) (h : s.size = 0) : nameB s = false := by
  unfold nameB
  have : s.data.toList = [] := by
    apply List.eq_nil_of_length_eq_zero
    simpa using h
  rw [this]; rfl
theorem nameB_long (s : ByteArray) (h : 20 < s.size) : nameB s = false := by
  unfold nameB; simp; omega
theorem nameB_first (s : ByteArray) (h : 0 < s.size) (h0 : (s[0]'h).toNat = 45) : nameB s = false := by
  have := nameL_drop s 0 h 45
  rw [h0] at this
  unfold nameB
  rw [List.drop_zero] at this
  rw [this]; rfl
theorem nameB_last (s : ByteArray) (h : 0 < s.size) (h0 : (s[s.size - 1]'(by omega)).toNat = 45) : nameB s = false := by
  unfold nameB
  rw [nameL_last]
  · rfl
  · intro hh
    have : s.data.toList.length = s.size := by simp
    rw [hh] at this
    simp at this; omega
  · have : s.data.toList.getLastD 0 = s[s.size - 1]'(by omega) := by
      rw [List.getLastD_eq_getLast?, List.getLast?_eq_getElem?]
      have : s.data.toList.length = s.size := by simp
      rw [this, List.getElem?_eq_getElem (by omega)]
      rfl
    rw [this]
    exact UInt8.toNat_inj.1 h0

/-- The letter before a place (a dash: before the first one). -/
def prevN (s : ByteArray) (k : Nat) : Int := if k = 0 then 45 else ((s.data.toList.getD (k - 1) 0).toNat : Int)
theorem prevN_pos (s : ByteArray) (k : Nat) (h : 0 < k) (hk : k - 1 < s.size) : prevN s k = ((s[k - 1]'hk).toNat : Int) := by
  unfold prevN
  rw [if_neg (by omega)]
  have : s.data.toList.getD (k - 1) 0 = s[k - 1]'hk := by simp [List.getD, List.getElem?_eq_getElem (show k - 1 < s.data.toList.length by simpa using hk)]; rfl
  rw [this]
theorem prevN_succ (s : ByteArray) (k : Nat) (hk : k < s.size) : prevN s (k + 1) = ((s[k]'hk).toNat : Int) := prevN_pos s (k + 1) (by omega) hk

set_option maxHeartbeats 4000000 in
/-- stearinref01.Name -/
theorem refName_any (s : ByteArray) (w : World) (hs : s.size ≤ 1000000000000000) :
    Calls Try.prog 93 #[.string s] w fun e w' => e = .returned (.bool (nameB s)) ∧ w = w' := by
  by_cases h0 : 1 ≤ s.size
  · by_cases h20 : s.size ≤ 20
    · have HI : Hid (inB s.size 1 20 = true) := by unfold Hid inB; simp; omega
      have HA := Lib.hid (nameB_first s h0)
      have HB := Lib.hid (nameB_last s h0)
      have hfirst := h0
      by_cases hf : (s[0]'h0).toNat = 45
      · have HF := Lib.hid (HA.out hf)
        clear HA HB
        go_enter Try.func93, Try.ntmps93
        go_wp2_with (go_at_call 106; refine (in1_r _ _ _ _ _ HI.out).mono ?_; rintro e w' ⟨rfl, rfl⟩)
        go_ret
        exact ⟨ret_bool HF.out.symm, rfl⟩
      · have hf1 : (((s[0]'h0).toNat : Int) == 45) = false := by simp; omega
        by_cases hg : (s[s.size - 1]'(by omega)).toNat = 45
        · have HF := Lib.hid (HB.out hg)
          have hg1 : (((s[s.size - 1]'(by omega)).toNat : Int) == 45) = true := by simp; omega
          clear HA HB hf hg
          go_enter Try.func93, Try.ntmps93
          go_wp2_with (go_at_call 106; refine (in1_r _ _ _ _ _ HI.out).mono ?_; rintro e w' ⟨rfl, rfl⟩)
          go_ret
          exact ⟨ret_bool HF.out.symm, rfl⟩
        · have hg1 : (((s[s.size - 1]'(by omega)).toNat : Int) == 45) = false := by simp; omega
          have HG := Lib.hid hg
          have HFF := Lib.hid hf
          clear HA HB hf hg
          go_enter Try.func93, Try.ntmps93
          go_wp2_with (go_at_call 106; refine (in1_r _ _ _ _ _ HI.out).mono ?_; rintro e w' ⟨rfl, rfl⟩)
          go_loop [3] (fun i => ∃ k : Nat, k ≤ s.size ∧ i = .int .i64 k ∧ nameL 45 s.data.toList = nameL (prevN s k) (s.data.toList.drop k)) (fun i => s.size - (intOf i).toNat)
          case atStart => exact ⟨0, by omega, rfl, by simp [prevN]⟩
          case round =>
            obtain ⟨k, hk, rfl, hn⟩ := hrel
            have HN := Lib.hid hn
            clear hn hf1 hg1
            by_cases hlt : k < s.size
            · have HD := Lib.hid (nameL_drop s k hlt (prevN s k))
              have HNEXT : Hid (prevN s (k + 1) = ((s[k]'hlt).toNat : Int)) := prevN_succ s k hlt
              have hcr : (s[k]'hlt).toNat < 256 := (s[k]'hlt).toNat_lt
              by_cases hc : (s[k]'hlt).toNat = 45
              · have hc1 : (((s[k]'hlt).toNat : Int) != 45) = false := by simp; omega
                have hc2 : (((s[k]'hlt).toNat : Int) == 45) = true := by simp; omega
                have hk0 : 0 < k := by
                  rcases Nat.eq_zero_or_pos k with rfl | h
                  · exact absurd hc HFF.out
                  · exact h
                have HP : Hid (prevN s k = ((s[k - 1]'(by omega)).toNat : Int)) := prevN_pos s k hk0 (by omega)
                have HC := Lib.hid hc
                clear hc
                by_cases hp : (s[k - 1]'(by omega)).toNat = 45
                · have hp1 : (((s[k - 1]'(by omega)).toNat : Int) == 45) = true := by simp; omega
                  have HF : Hid (nameB s = false) := by unfold Hid nameB; rw [HN.out, HD.out, HC.out, HP.out, hp]; rfl
                  clear hp
                  go_wp2_with fail
                  go_ret
                  exact ⟨ret_bool HF.out.symm, rfl⟩
                · have hp1 : (((s[k - 1]'(by omega)).toNat : Int) == 45) = false := by simp; omega
                  have HF : Hid (nameL 45 s.data.toList = nameL (prevN s (k + 1)) (s.data.toList.drop (k + 1))) := by
                    unfold Hid; rw [HN.out, HD.out, HNEXT.out, HC.out, badN_f1 (l := prevN s k) (c := ((45 : Nat) : Int)) rfl (by rw [HP.out]; exact hp1)]; rfl
                  clear hp
                  go_wp2_with fail
                  go_round
                  case rel => exact ⟨k + 1, by omega, by go_num, HF.out⟩
                  case measure => simp [intOf]; omega
              · have hc1 : (((s[k]'hlt).toNat : Int) != 45) = true := by simp; omega
                have hc2 : (((s[k]'hlt).toNat : Int) == 45) = false := by simp; omega
                by_cases hz : 97 ≤ (s[k]'hlt).toNat ∧ (s[k]'hlt).toNat ≤ 122
                · have HI2 : Hid (inB (s[k]'hlt).toNat 97 122 = true) := by unfold Hid inB; simp; omega
                  have HF : Hid (nameL 45 s.data.toList = nameL (prevN s (k + 1)) (s.data.toList.drop (k + 1))) := by
                    unfold Hid; rw [HN.out, HD.out, HNEXT.out, badN_f2 (by omega) (by omega) (by omega)]; rfl
                  clear hc hz
                  by_cases hk0 : 0 < k
                  all_goals
                    go_wp2_with (go_at_call 106; refine (in1_r _ _ _ _ _ HI2.out).mono ?_; rintro e w' ⟨rfl, rfl⟩)
                    go_round
                    case rel => exact ⟨k + 1, by omega, by go_num, HF.out⟩
                    case measure => simp [intOf]; omega
                · have HI2 : Hid (inB (s[k]'hlt).toNat 97 122 = false) := by unfold Hid inB; simp; omega
                  have HF : Hid (nameB s = false) := by unfold Hid nameB; rw [HN.out, HD.out, badN_t1 (by omega) (by omega)]; rfl
                  clear hc hz
                  go_wp2_with (go_at_call 106; refine (in1_r _ _ _ _ _ HI2.out).mono ?_; rintro e w' ⟨rfl, rfl⟩)
                  go_ret
                  exact ⟨ret_bool HF.out.symm, rfl⟩
            · have : k = s.size := by omega
              subst this
              have HF : Hid (nameB s = true) := by
                unfold Hid nameB; rw [HN.out, List.drop_of_length_le (by simp), prevN_pos s _ (by omega) (by omega)]
                have := HG.out
                simp [nameL, h20]; omega
              clear HG
              go_wp2_with fail
              go_ret
              exact ⟨ret_bool HF.out.symm, rfl⟩
    · have HF := Lib.hid (nameB_long s (by omega))
      have HI : Hid (inB s.size 1 20 = false) := by unfold Hid inB; simp; omega
      go_enter Try.func93, Try.ntmps93
      go_wp2_with (go_at_call 106; refine (in1_r _ _ _ _ _ HI.out).mono ?_; rintro e w' ⟨rfl, rfl⟩)
      go_ret
      exact ⟨ret_bool HF.out.symm, rfl⟩
  · have HF := Lib.hid (nameB_empty s (by omega))
    have HI : Hid (inB s.size 1 20 = false) := by unfold Hid inB; simp; omega
    go_enter Try.func93, Try.ntmps93
    go_wp2_with (go_at_call 106; refine (in1_r _ _ _ _ _ HI.out).mono ?_; rintro e w' ⟨rfl, rfl⟩)
    go_ret
    exact ⟨ret_bool HF.out.symm, rfl⟩

theorem refName_r (r : Bool) (s : ByteArray) (w : World) (hs : s.size ≤ 1000000000000000) (hr : nameB s = r) :
    Calls Try.prog 93 #[.string s] w fun e w' => e = .returned (.bool r) ∧ w = w' := by
  subst hr; exact refName_any s w hs

/-- The slice value reads as these strings. -/
def rdStr : Rd ByteArray where
  sz := 1
  rd _ w b o x := w.cell? ⟨b, o, none⟩ = some (.string x)
  below hbb hb h := (hb.cell (p := ⟨_, _, none⟩) hbb).trans h
  mono _ h := h
def namedE (before : List ByteArray) (n : ByteArray) : Int := if nameB n = false then 6 else if before.any (sameN n) then 5 else 0
instance : Inhabited ByteArray := ⟨ByteArray.empty⟩
set_option maxHeartbeats 2000000 in
/-- stearinref01.Named -/
theorem named_any (l : List ByteArray) (v : Value) (n : ByteArray) (w : World) (hn : n.size ≤ 1000000000000000) (hv : SlIn rdStr w.heap.size w v l) :
    Calls Try.prog 61 #[.string n, v] w fun e w' => e = .returned (.int .i64 (namedE l n)) ∧ w = w' := by
  have HV := Lib.hid hv
  obtain ⟨a, c, rfl, hl, hlc, -⟩ := hv
  have hnm := refName_any n w hn
  have HE : Hid (namedE l n = if nameB n = false then 6 else if l.any (sameN n) then 5 else 0) := rfl
  generalize namedE l n = E at *
  obtain ⟨r, hr⟩ : ∃ r, nameB n = r := ⟨_, rfl⟩
  rw [hr] at HE hnm
  have HN := Lib.hid hnm
  clear hnm hr
  cases r
  · go_enter Try.func61, Try.ntmps61
    go_wp2_with fail
    refine HN.out.mono ?_
    rintro e w' ⟨rfl, rfl⟩
    go_wp2_with fail
    go_ret
    exact ⟨ret_int (by rw [HE.out]; rfl), rfl⟩
  · go_enter Try.func61, Try.ntmps61
    go_wp2_with fail
    refine HN.out.mono ?_
    rintro e w' ⟨rfl, rfl⟩
    go_wp2_with fail
    go_loop [5] (fun i => ∃ k : Nat, k ≤ l.length ∧ i = .int .i64 k ∧ l.any (sameN n) = (l.drop k).any (sameN n)) (fun i => l.length - (intOf i).toNat)
    case atStart => exact ⟨0, by omega, rfl, by simp⟩
    case round =>
      obtain ⟨k, hk, rfl, hf⟩ := hrel
      have HF := Lib.hid hf
      clear hf
      by_cases hkl : k < l.length
      · obtain ⟨b', o, c', hvv, -, hbB, hc1⟩ := HV.out.at hkl
        cases hvv
        simp only [rdStr, Nat.mul_one] at hc1
        have HD : Hid ((l.drop k).any (sameN n) = (sameN n (l.getD k default) || (l.drop (k + 1)).any (sameN n))) := by
          unfold Hid
          rw [List.drop_eq_getElem_cons hkl, List.any_cons]
          simp [List.getD, hkl]
        generalize l.getD k default = y at *
        obtain ⟨r, hr⟩ : ∃ r, (y.toList == n.toList) = r := ⟨_, rfl⟩
        have HR : Hid (sameN n y = r) := hr
        cases r
        · go_wp2_with fail
          go_round
          case rel => exact ⟨k + 1, by omega, by go_num, by rw [HF.out, HD.out, HR.out]; simp⟩
          case measure => simp [intOf]; omega
        · go_wp2_with fail
          go_ret
          exact ⟨ret_int (by rw [HE.out, HF.out, HD.out, HR.out]; simp), rfl⟩
      · have : k = l.length := by omega
        go_wp2_with fail
        go_ret
        exact ⟨ret_int (by rw [HE.out, HF.out, this]; simp), rfl⟩
end Go.Proofs.Ytaigbhhmmdfdcaa
/- The closures of Check; scent.ranges, thing, first, Check. -/
namespace Go.Proofs.Ytaigbhhmmdfdcaa
open Go.RowKit
def thC (x : Thing) : Array Value := #[.string x.name, .int .i64 x.kind, .int .i64 x.limit, .int .i64 x.weak, .int .i64 x.fade]
theorem same88 (y : Thing) (g : Nat) (n : ByteArray) (w : World) (hc : w.cell? ⟨g, 0, none⟩ = some (.string n)) (hlt : g < w.heap.size) (r : Bool) (hr : sameN n y.name = r) :
    Calls Try.prog 88 #[.agg #[.string y.name, .int .i64 y.kind, .int .i64 y.limit, .int .i64 y.weak, .int .i64 y.fade], .pointer (some ⟨g, 0, none⟩)] w fun e w' => e = .returned (.bool r) ∧ Below w.heap.size w w' := by
  have HR := Lib.hid hr
  clear hr
  go_enter Try.func88, Try.ntmps88
  go_wp2
  go_ret
  exact ⟨ret_bool HR.out, (Below.refl _ _).alloc (Nat.le_refl _) _⟩
theorem same58 (y : Lot) (u : Value) (g : Nat) (n : ByteArray) (w : World) (hc : w.cell? ⟨g, 0, none⟩ = some (.string n)) (hlt : g < w.heap.size) (r : Bool) (hr : sameN n y.name = r) :
    Calls Try.prog 58 #[.agg #[.string y.name, u], .pointer (some ⟨g, 0, none⟩)] w fun e w' => e = .returned (.bool r) ∧ Below w.heap.size w w' := by
  have HR := Lib.hid hr
  clear hr
  go_enter Try.func58, Try.ntmps58
  go_wp2
  go_ret
  exact ⟨ret_bool HR.out, (Below.refl _ _).alloc (Nat.le_refl _) _⟩
theorem wide91 (lo hi m : Int) (g : Nat) (w : World) (hc : w.cell? ⟨g, 0, none⟩ = some (.int .i64 m)) (hlt : g < w.heap.size) :
    Calls Try.prog 91 #[.agg #[.int .i64 lo, .int .i64 hi], .pointer (some ⟨g, 0, none⟩)] w fun e w' => e = .returned (.bool (outB 0 m [lo, hi])) ∧ Below w.heap.size w w' := by
  have hb := (((Below.refl w.heap.size w).alloc (Nat.le_refl _) (.cells #[.int .i64 lo, .int .i64 hi] 51)).alloc (by simp) (.cells (ints [lo, hi]) 3))
  have hI := intsIn_new (w.alloc (.cells #[.int .i64 lo, .int .i64 hi] 51)) (w.heap.size + 1) (by simp) [lo, hi] (by simp) 2 rfl
  have HI := Lib.hid hI
  clear hI
  obtain ⟨r, hr⟩ : ∃ r, outB 0 m [lo, hi] = r := ⟨_, rfl⟩
  rw [hr]
  have HR := Lib.hid hr
  clear hr
  go_enter Try.func91, Try.ntmps91
  go_wp2_with fail
  refine (out_r _ 0 m _ HR.out _ _ _ HI.out (by simp)).mono ?_
  rintro e w' ⟨rfl, hbw⟩
  go_wp2_with fail
  go_ret
  exact ⟨rfl, hb.trans (hbw.mono (by simp; omega))⟩
theorem turned92 (lo hi : Int) (w : World) : Calls Try.prog 92 #[.agg #[.int .i64 lo, .int .i64 hi]] w fun e w' => e = .returned (.bool (decide (hi < lo))) ∧ Below w.heap.size w w' := by
  go_enter Try.func92, Try.ntmps92
  go_wp2
  go_ret
  exact ⟨rfl, (Below.refl _ _).alloc (Nat.le_refl _) _⟩
/-- scent.ranges -/
theorem ranges_any (l : List (Int × Int)) (m : Int) (v : Value) (w : World) (hv : SpansIn w.heap.size w v l) :
    Calls Try.prog 59 #[v, .int .i64 m] w fun e w' => e = .returned (.int .i64 (spansE m l)) ∧ Below w.heap.size w w' := by
  have HV := Lib.hid hv
  have hb := (Below.refl w.heap.size w).alloc (Nat.le_refl _) (.cells #[.int .i64 m] 3)
  have HB := Lib.hid hb
  have HE : Hid (spansE m l = if l.any (fun p => outB 0 m [p.1, p.2]) then 7 else if l.any (fun p => decide (p.2 < p.1)) then 2 else 0) := rfl
  generalize spansE m l = E at *
  clear hv hb
  obtain ⟨r1, hr1⟩ : ∃ r, l.any (fun p => outB 0 m [p.1, p.2]) = r := ⟨_, rfl⟩
  obtain ⟨r2, hr2⟩ : ∃ r, l.any (fun p => decide (p.2 < p.1)) = r := ⟨_, rfl⟩
  rw [hr1, hr2] at HE
  have HR1 := Lib.hid hr1
  have HR2 := Lib.hid hr2
  clear hr1 hr2
  go_enter Try.func59, Try.ntmps59
  go_wp2_with fail
  refine (hasSpan0_any (some ⟨w.heap.size, 0, none⟩) r1 l _ v _ (HV.out.next HB.out) (fun k W _ hW => wide91 _ _ m _ W ((hW.cell (p := ⟨w.heap.size, 0, none⟩) (by simp)).trans (by simp)) (Nat.lt_of_lt_of_le (by simp) hW.size)) HR1.out).mono ?_
  rintro e w1 ⟨rfl, hb1⟩
  have HB1 := Lib.hid (HB.out.trans (hb1.mono (by simp)))
  clear hb1
  cases r1
  · go_wp2_with fail
    refine (hasSpan1_any r2 l _ v _ (HV.out.next HB1.out) (fun k W _ hW => turned92 _ _ W) HR2.out).mono ?_
    rintro e w2 ⟨rfl, hb1⟩
    have HB2 := Lib.hid (HB1.out.trans (hb1.mono HB1.out.size))
    clear hb1
    cases r2
    · go_wp2_with fail
      go_ret
      exact ⟨ret_int HE.out.symm, HB2.out⟩
    · go_wp2_with fail
      go_ret
      exact ⟨ret_int HE.out.symm, HB2.out⟩
  · go_wp2_with fail
    go_ret
    exact ⟨ret_int HE.out.symm, HB1.out⟩
end Go.Proofs.Ytaigbhhmmdfdcaa
/- scent.thing. -/
namespace Go.Proofs.Ytaigbhhmmdfdcaa
open Go.RowKit
set_option maxRecDepth 100000 in
set_option maxHeartbeats 8000000 in
/-- scent.thing -/
theorem thing_any (l : List Thing) (i : Nat) (hi : i < l.length) (v : Value) (w : World) (hv : ThingsIn w.heap.size w v l) :
    Calls Try.prog 53 #[v, .int .i64 i] w fun e w' => e = .returned (.int .i64 (thingE (l.take i) (l.getD i default))) ∧ Below w.heap.size w w' := by
  obtain ⟨b, o, c, rfl, hlc, hbB, hc1, hc2, hc3, hc4, hc5, hsz⟩ := hv.at hi
  have HL := Lib.hid hv.len
  have HT := Lib.hid (hv.take i (by omega))
  have HE : Hid (thingE (l.take i) (l.getD i default) = if nameB (l.getD i default).name = false then 6 else if (l.take i).any (fun y => sameN (l.getD i default).name y.name) then 5 else if outOne 0 2 (l.getD i default).kind then 2
    else if outOne 0 1000000 (l.getD i default).limit || outOne 0 (weakM (l.getD i default)) (l.getD i default).weak || outOne 0 (fadeM (l.getD i default)) (l.getD i default).fade then 7 else 0) := rfl
  generalize thingE (l.take i) (l.getD i default) = E at *
  generalize l.getD i default = x at *
  generalize l.take i = t at *
  generalize l.length = n at *
  clear hv
  obtain ⟨nm, kd, lm, wk, fd⟩ := x
  simp only [rdThing] at hc1 hc2 hc3 hc4 hc5 hsz
  simp only at HE
  have HN := fun w => Lib.hid (name_any nm w hsz)
  obtain ⟨r1, hr1⟩ : ∃ r, nameB nm = r := ⟨_, rfl⟩
  obtain ⟨r2, hr2⟩ : ∃ r, t.any (fun y => sameN nm y.name) = r := ⟨_, rfl⟩
  obtain ⟨r4, hr4⟩ : ∃ r, outOne 0 1000000 lm = r := ⟨_, rfl⟩
  rw [hr1, hr2, hr4] at HE
  simp only [hr1] at HN
  have HR2 := Lib.hid hr2
  have HR4 := Lib.hid hr4
  clear hr1 hr2 hr4
  by_cases hk0 : kd = 0
  · subst hk0
    have e1 : weakM ⟨nm, 0, lm, wk, fd⟩ = 100 := rfl
    have e2 : fadeM ⟨nm, 0, lm, wk, fd⟩ = 0 := rfl
    rw [e1, e2] at HE
    clear e1 e2
    have C0 := Lib.hid ((Bs.nil w).push _ rfl (.cells #[.string nm, .int .i64 (0), .int .i64 lm, .int .i64 wk, .int .i64 fd] 62))
    have hcN := C0.out.cell 0 rfl 0
    obtain ⟨r3, hr3⟩ : ∃ r, outOne 0 2 (0) = r := ⟨_, rfl⟩
    obtain ⟨r5, hr5⟩ : ∃ r, outOne 0 (100) wk = r := ⟨_, rfl⟩
    obtain ⟨r6, hr6⟩ : ∃ r, outOne 0 (0) fd = r := ⟨_, rfl⟩
    rw [hr3, hr5, hr6] at HE
    have HR3 := Lib.hid hr3
    have HR5 := Lib.hid hr5
    have HR6 := Lib.hid hr6
    clear hr3 hr5 hr6
    have HH := Lib.hid hbB
    clear hbB
    go_enter Try.func53, Try.ntmps53
    go_wp2_with fail
    refine (HN _).out.mono ?_
    rintro e w1 ⟨rfl, hb1⟩
    have C1 := Lib.hid (C0.out.call hb1)
    clear hb1 hcN hc1 hc2 hc3 hc4 hc5
    cases r1
    · go_wp2_with fail
      go_ret
      exact ⟨ret_int (by rw [HE.out]; rfl), C1.out.bel⟩
    have HS := Lib.hid (C1.out.lt 0 rfl)
    go_wp2_with fail
    refine (hasThing_any (some ⟨w.heap.size, 0, none⟩) r2 t (fun y => sameN nm y.name) _ w1 ((HT.out.below C1.out.bel).mono C1.out.bel.size) (fun k W _ hW => same88 _ _ nm W ((hW.cell (p := ⟨w.heap.size, 0, none⟩) HS.out).trans (C1.out.cell 0 rfl 0)) (Nat.lt_of_lt_of_le HS.out hW.size) _ rfl) HR2.out).mono ?_
    rintro e w2 ⟨rfl, hb1⟩
    have C2 := Lib.hid (C1.out.call hb1)
    clear hb1 C1 HS
    cases r2
    case true =>
      go_wp2_with fail
      go_ret
      exact ⟨ret_int (by rw [HE.out]; rfl), C2.out.bel⟩
    have hcK := C2.out.cell 0 rfl 1
    have C2A := Lib.hid (C2.out.push _ rfl (.cells #[.int .i64 (0)] 3))
    go_wp2_with fail
    refine (out_one r3 0 2 _ HR3.out _ _ (C2A.out.get 1 rfl)).mono ?_
    rintro e w3 ⟨rfl, hb1⟩
    have C3 := Lib.hid ((C2A.out.call hb1).sub [(w.heap.size, .cells #[.string nm, .int .i64 (0), .int .i64 lm, .int .i64 wk, .int .i64 fd] 62)] (by simp))
    clear hb1 C2 C2A hcK
    cases r3
    case true =>
      go_wp2_with fail
      go_ret
      exact ⟨ret_int (by rw [HE.out]; rfl), C3.out.bel⟩
    have hcL := C3.out.cell 0 rfl 2
    have C3A := Lib.hid (C3.out.push _ rfl (.cells #[.int .i64 lm] 3))
    go_wp2_with fail
    refine (out_one r4 0 1000000 _ HR4.out _ _ (C3A.out.get 1 rfl)).mono ?_
    rintro e w4 ⟨rfl, hb1⟩
    have C4 := Lib.hid ((C3A.out.call hb1).sub [(w.heap.size, .cells #[.string nm, .int .i64 (0), .int .i64 lm, .int .i64 wk, .int .i64 fd] 62)] (by simp))
    clear hb1 C3 C3A hcL
    cases r4
    case true =>
      go_wp2_with fail
      go_ret
      exact ⟨ret_int (by rw [HE.out]; rfl), C4.out.bel⟩
    have hcW := C4.out.cell 0 rfl 3
    have C4A := Lib.hid (C4.out.push _ rfl (.cells #[.int .i64 wk] 3))
    go_wp2_with fail
    refine (out_one r5 0 (100) _ HR5.out _ _ (C4A.out.get 1 rfl)).mono ?_
    rintro e w5 ⟨rfl, hb1⟩
    have C5 := Lib.hid ((C4A.out.call hb1).sub [(w.heap.size, .cells #[.string nm, .int .i64 (0), .int .i64 lm, .int .i64 wk, .int .i64 fd] 62)] (by simp))
    clear hb1 C4 C4A hcW
    cases r5
    case true =>
      go_wp2_with fail
      go_ret
      exact ⟨ret_int (by rw [HE.out]; rfl), C5.out.bel⟩
    have hcF := C5.out.cell 0 rfl 4
    have C5A := Lib.hid (C5.out.push _ rfl (.cells #[.int .i64 fd] 3))
    go_wp2_with fail
    refine (out_one r6 0 (0) _ HR6.out _ _ (C5A.out.get 1 rfl)).mono ?_
    rintro e w6 ⟨rfl, hb1⟩
    have C6 := Lib.hid (C5A.out.call hb1)
    clear hb1 C5 C5A hcF
    cases r6
    all_goals
      go_wp2_with fail
      go_ret
      exact ⟨ret_int (by rw [HE.out]; rfl), C6.out.bel⟩
  by_cases hk1 : kd = 1
  · subst hk1
    have e1 : weakM ⟨nm, 1, lm, wk, fd⟩ = 0 := rfl
    have e2 : fadeM ⟨nm, 1, lm, wk, fd⟩ = 1000 := rfl
    rw [e1, e2] at HE
    clear e1 e2 hk0
    have C0 := Lib.hid ((Bs.nil w).push _ rfl (.cells #[.string nm, .int .i64 (1), .int .i64 lm, .int .i64 wk, .int .i64 fd] 62))
    have hcN := C0.out.cell 0 rfl 0
    obtain ⟨r3, hr3⟩ : ∃ r, outOne 0 2 (1) = r := ⟨_, rfl⟩
    obtain ⟨r5, hr5⟩ : ∃ r, outOne 0 (0) wk = r := ⟨_, rfl⟩
    obtain ⟨r6, hr6⟩ : ∃ r, outOne 0 (1000) fd = r := ⟨_, rfl⟩
    rw [hr3, hr5, hr6] at HE
    have HR3 := Lib.hid hr3
    have HR5 := Lib.hid hr5
    have HR6 := Lib.hid hr6
    clear hr3 hr5 hr6
    have HH := Lib.hid hbB
    clear hbB
    go_enter Try.func53, Try.ntmps53
    go_wp2_with fail
    refine (HN _).out.mono ?_
    rintro e w1 ⟨rfl, hb1⟩
    have C1 := Lib.hid (C0.out.call hb1)
    clear hb1 hcN hc1 hc2 hc3 hc4 hc5
    cases r1
    · go_wp2_with fail
      go_ret
      exact ⟨ret_int (by rw [HE.out]; rfl), C1.out.bel⟩
    have HS := Lib.hid (C1.out.lt 0 rfl)
    go_wp2_with fail
    refine (hasThing_any (some ⟨w.heap.size, 0, none⟩) r2 t (fun y => sameN nm y.name) _ w1 ((HT.out.below C1.out.bel).mono C1.out.bel.size) (fun k W _ hW => same88 _ _ nm W ((hW.cell (p := ⟨w.heap.size, 0, none⟩) HS.out).trans (C1.out.cell 0 rfl 0)) (Nat.lt_of_lt_of_le HS.out hW.size) _ rfl) HR2.out).mono ?_
    rintro e w2 ⟨rfl, hb1⟩
    have C2 := Lib.hid (C1.out.call hb1)
    clear hb1 C1 HS
    cases r2
    case true =>
      go_wp2_with fail
      go_ret
      exact ⟨ret_int (by rw [HE.out]; rfl), C2.out.bel⟩
    have hcK := C2.out.cell 0 rfl 1
    have C2A := Lib.hid (C2.out.push _ rfl (.cells #[.int .i64 (1)] 3))
    go_wp2_with fail
    refine (out_one r3 0 2 _ HR3.out _ _ (C2A.out.get 1 rfl)).mono ?_
    rintro e w3 ⟨rfl, hb1⟩
    have C3 := Lib.hid ((C2A.out.call hb1).sub [(w.heap.size, .cells #[.string nm, .int .i64 (1), .int .i64 lm, .int .i64 wk, .int .i64 fd] 62)] (by simp))
    clear hb1 C2 C2A hcK
    cases r3
    case true =>
      go_wp2_with fail
      go_ret
      exact ⟨ret_int (by rw [HE.out]; rfl), C3.out.bel⟩
    have hcL := C3.out.cell 0 rfl 2
    have C3A := Lib.hid (C3.out.push _ rfl (.cells #[.int .i64 lm] 3))
    go_wp2_with fail
    refine (out_one r4 0 1000000 _ HR4.out _ _ (C3A.out.get 1 rfl)).mono ?_
    rintro e w4 ⟨rfl, hb1⟩
    have C4 := Lib.hid ((C3A.out.call hb1).sub [(w.heap.size, .cells #[.string nm, .int .i64 (1), .int .i64 lm, .int .i64 wk, .int .i64 fd] 62)] (by simp))
    clear hb1 C3 C3A hcL
    cases r4
    case true =>
      go_wp2_with fail
      go_ret
      exact ⟨ret_int (by rw [HE.out]; rfl), C4.out.bel⟩
    have hcW := C4.out.cell 0 rfl 3
    have C4A := Lib.hid (C4.out.push _ rfl (.cells #[.int .i64 wk] 3))
    go_wp2_with fail
    refine (out_one r5 0 (0) _ HR5.out _ _ (C4A.out.get 1 rfl)).mono ?_
    rintro e w5 ⟨rfl, hb1⟩
    have C5 := Lib.hid ((C4A.out.call hb1).sub [(w.heap.size, .cells #[.string nm, .int .i64 (1), .int .i64 lm, .int .i64 wk, .int .i64 fd] 62)] (by simp))
    clear hb1 C4 C4A hcW
    cases r5
    case true =>
      go_wp2_with fail
      go_ret
      exact ⟨ret_int (by rw [HE.out]; rfl), C5.out.bel⟩
    have hcF := C5.out.cell 0 rfl 4
    have C5A := Lib.hid (C5.out.push _ rfl (.cells #[.int .i64 fd] 3))
    go_wp2_with fail
    refine (out_one r6 0 (1000) _ HR6.out _ _ (C5A.out.get 1 rfl)).mono ?_
    rintro e w6 ⟨rfl, hb1⟩
    have C6 := Lib.hid (C5A.out.call hb1)
    clear hb1 C5 C5A hcF
    cases r6
    all_goals
      go_wp2_with fail
      go_ret
      exact ⟨ret_int (by rw [HE.out]; rfl), C6.out.bel⟩
  have e1 : weakM ⟨nm, kd, lm, wk, fd⟩ = 0 := by simp [weakM, hk0]
  have e2 : fadeM ⟨nm, kd, lm, wk, fd⟩ = 0 := by simp [fadeM, hk1]
  rw [e1, e2] at HE
  clear e1 e2
  have hq0 : (kd == 0) = false := by simpa using hk0
  have hq1 : (kd == 1) = false := by simpa using hk1
  clear hk0 hk1
  have C0 := Lib.hid ((Bs.nil w).push _ rfl (.cells #[.string nm, .int .i64 (kd), .int .i64 lm, .int .i64 wk, .int .i64 fd] 62))
  have hcN := C0.out.cell 0 rfl 0
  obtain ⟨r3, hr3⟩ : ∃ r, outOne 0 2 (kd) = r := ⟨_, rfl⟩
  obtain ⟨r5, hr5⟩ : ∃ r, outOne 0 (0) wk = r := ⟨_, rfl⟩
  obtain ⟨r6, hr6⟩ : ∃ r, outOne 0 (0) fd = r := ⟨_, rfl⟩
  rw [hr3, hr5, hr6] at HE
  have HR3 := Lib.hid hr3
  have HR5 := Lib.hid hr5
  have HR6 := Lib.hid hr6
  clear hr3 hr5 hr6
  have HH := Lib.hid hbB
  clear hbB
  go_enter Try.func53, Try.ntmps53
  go_wp2_with fail
  refine (HN _).out.mono ?_
  rintro e w1 ⟨rfl, hb1⟩
  have C1 := Lib.hid (C0.out.call hb1)
  clear hb1 hcN hc1 hc2 hc3 hc4 hc5
  cases r1
  · go_wp2_with fail
    go_ret
    exact ⟨ret_int (by rw [HE.out]; rfl), C1.out.bel⟩
  have HS := Lib.hid (C1.out.lt 0 rfl)
  go_wp2_with fail
  refine (hasThing_any (some ⟨w.heap.size, 0, none⟩) r2 t (fun y => sameN nm y.name) _ w1 ((HT.out.below C1.out.bel).mono C1.out.bel.size) (fun k W _ hW => same88 _ _ nm W ((hW.cell (p := ⟨w.heap.size, 0, none⟩) HS.out).trans (C1.out.cell 0 rfl 0)) (Nat.lt_of_lt_of_le HS.out hW.size) _ rfl) HR2.out).mono ?_
  rintro e w2 ⟨rfl, hb1⟩
  have C2 := Lib.hid (C1.out.call hb1)
  clear hb1 C1 HS
  cases r2
  case true =>
    go_wp2_with fail
    go_ret
    exact ⟨ret_int (by rw [HE.out]; rfl), C2.out.bel⟩
  have hcK := C2.out.cell 0 rfl 1
  have C2A := Lib.hid (C2.out.push _ rfl (.cells #[.int .i64 (kd)] 3))
  go_wp2_with fail
  refine (out_one r3 0 2 _ HR3.out _ _ (C2A.out.get 1 rfl)).mono ?_
  rintro e w3 ⟨rfl, hb1⟩
  have C3 := Lib.hid ((C2A.out.call hb1).sub [(w.heap.size, .cells #[.string nm, .int .i64 (kd), .int .i64 lm, .int .i64 wk, .int .i64 fd] 62)] (by simp))
  clear hb1 C2 C2A hcK
  cases r3
  case true =>
    go_wp2_with fail
    go_ret
    exact ⟨ret_int (by rw [HE.out]; rfl), C3.out.bel⟩
  have hcL := C3.out.cell 0 rfl 2
  have C3A := Lib.hid (C3.out.push _ rfl (.cells #[.int .i64 lm] 3))
  go_wp2_with fail
  refine (out_one r4 0 1000000 _ HR4.out _ _ (C3A.out.get 1 rfl)).mono ?_
  rintro e w4 ⟨rfl, hb1⟩
  have C4 := Lib.hid ((C3A.out.call hb1).sub [(w.heap.size, .cells #[.string nm, .int .i64 (kd), .int .i64 lm, .int .i64 wk, .int .i64 fd] 62)] (by simp))
  clear hb1 C3 C3A hcL
  cases r4
  case true =>
    go_wp2_with fail
    go_ret
    exact ⟨ret_int (by rw [HE.out]; rfl), C4.out.bel⟩
  have hcW := C4.out.cell 0 rfl 3
  have C4A := Lib.hid (C4.out.push _ rfl (.cells #[.int .i64 wk] 3))
  go_wp2_with fail
  refine (out_one r5 0 (0) _ HR5.out _ _ (C4A.out.get 1 rfl)).mono ?_
  rintro e w5 ⟨rfl, hb1⟩
  have C5 := Lib.hid ((C4A.out.call hb1).sub [(w.heap.size, .cells #[.string nm, .int .i64 (kd), .int .i64 lm, .int .i64 wk, .int .i64 fd] 62)] (by simp))
  clear hb1 C4 C4A hcW
  cases r5
  case true =>
    go_wp2_with fail
    go_ret
    exact ⟨ret_int (by rw [HE.out]; rfl), C5.out.bel⟩
  have hcF := C5.out.cell 0 rfl 4
  have C5A := Lib.hid (C5.out.push _ rfl (.cells #[.int .i64 fd] 3))
  go_wp2_with fail
  refine (out_one r6 0 (0) _ HR6.out _ _ (C5A.out.get 1 rfl)).mono ?_
  rintro e w6 ⟨rfl, hb1⟩
  have C6 := Lib.hid (C5A.out.call hb1)
  clear hb1 C5 C5A hcF
  cases r6
  all_goals
    go_wp2_with fail
    go_ret
    exact ⟨ret_int (by rw [HE.out]; rfl), C6.out.bel⟩
end Go.Proofs.Ytaigbhhmmdfdcaa
/- scent.first at things and lots; the closures of Check; scent.Check. -/
namespace Go.Proofs.Ytaigbhhmmdfdcaa
open Go.RowKit
theorem errs_get (E : Nat → Int) (n k : Nat) (h : k < n) : ((List.range n).map E).getD k 0 = E k := by
  rw [List.getD_eq_getElem?_getD, List.getElem?_map, List.getElem?_range h]; rfl

set_option maxRecDepth 100000 in
set_option maxHeartbeats 4000000 in
theorem firstThing_any (p : Option Addr) (l : List Thing) (E : Nat → Int) (v : Value) (w : World) (hv : ThingsIn w.heap.size w v l)
    (hf : ∀ k W, k < l.length → Below w.heap.size w W → Calls Try.prog 52 #[.int .i64 k, .agg #[.string (l.getD k default).name, .int .i64 (l.getD k default).kind, .int .i64 (l.getD k default).limit, .int .i64 (l.getD k default).weak, .int .i64 (l.getD k default).fade], .pointer p] W fun e W' => e = .returned (.int .i64 (E k)) ∧ Below W.heap.size W W') :
    Calls Try.prog 51 #[v, .func (.func 52) #[] #[.pointer p]] w
      fun e w' => e = .returned (.tuple #[.int .i64 (findE ((List.range l.length).map E) 0).1, .int .i64 (findE ((List.range l.length).map E) 0).2]) ∧ Below w.heap.size w w' := by
  have HV := Lib.hid hv
  have HFN := Lib.hid hf
  obtain ⟨a, c, rfl, hl, hlc, -⟩ := hv
  clear hf
  go_enter Try.func51, Try.ntmps51
  go_wp2_with fail
  go_loopw [10] (fun i wr => ∃ k : Nat, k ≤ l.length ∧ i = .int .i64 k ∧ Below w.heap.size w wr ∧ findE ((List.range l.length).map E) 0 = findE (((List.range l.length).map E).drop k) k) (fun i _ => l.length - (intOf i).toNat)
  case atStart => exact ⟨0, by omega, rfl, Below.refl _ _, rfl⟩
  case round =>
    obtain ⟨k, hk, rfl, hb, hf⟩ := hrel
    have HF := Lib.hid hf
    clear hf
    by_cases hkl : k < l.length
    · obtain ⟨b', o, c', hvv, -, hbB, hc1, hc2, hc3, hc4, hc5, -⟩ := (HV.out.below hb).at hkl
      cases hvv
      have HD : Hid (findE (((List.range l.length).map E).drop k) k = if E k = 0 then findE (((List.range l.length).map E).drop (k + 1)) (k + 1) else (k, E k)) := by
        unfold Hid
        rw [findE_drop _ _ (by simpa using hkl), errs_get _ _ _ hkl]
      have HC := fun (W : World) (hW : Below w.heap.size w W) => Lib.hid (HFN.out k W hkl hW)
      generalize l.getD k default = y at *
      simp only [rdThing] at hc1 hc2 hc3 hc4 hc5
      have hsz := hb.size
      have HB := Lib.hid hb
      have HB1 := Lib.hid (hb.alloc hsz (.cells #[.string y.name, .int .i64 y.kind, .int .i64 y.limit, .int .i64 y.weak, .int .i64 y.fade] 62))
      clear hb
      go_wp2_with fail
      refine (HC _ HB1.out).out.mono ?_
      rintro e w' ⟨rfl, hbw⟩
      have HB2 := Lib.hid (HB1.out.trans (hbw.mono HB1.out.size))
      clear hbw
      obtain ⟨r, hr⟩ : ∃ r, E k = r := ⟨_, rfl⟩
      rw [hr] at HD
      rw [hr]
      clear hr
      by_cases hz : r = 0
      · subst hz
        go_wp2_with fail
        go_roundw
        case rel => exact ⟨k + 1, by omega, by go_num, HB2.out, by rw [HF.out, HD.out]; simp⟩
        case measure => simp [intOf]; omega
      · have hz2 : (r != 0) = true := by simpa using hz
        have HZ := Lib.hid hz
        clear hz
        go_wp2_with fail
        go_ret2
        rw [HF.out, HD.out, if_neg HZ.out]
        exact ⟨rfl, HB2.out⟩
    · have : k = l.length := by omega
      have HD : Hid (findE ((List.range l.length).map E) 0 = (0, 0)) := by
        unfold Hid
        rw [HF.out, this, List.drop_of_length_le (by simp)]
        rfl
      go_wp2_with fail
      go_ret2
      rw [HD.out]
      exact ⟨rfl, hb⟩

set_option maxRecDepth 100000 in
set_option maxHeartbeats 4000000 in
theorem firstLot_any (p : Option Addr) (l : List Lot) (E : Nat → Int) (v : Value) (w : World) (hv : LotsIn w.heap.size w v l)
    (hf : ∀ k W, k < l.length → Below w.heap.size w W → ∀ u, (l.getD k default).name.size ≤ 1000000000000000 → SpansIn W.heap.size W u (l.getD k default).parts → Calls Try.prog 55 #[.int .i64 k, .agg #[.string (l.getD k default).name, u], .pointer p] W fun e W' => e = .returned (.int .i64 (E k)) ∧ Below W.heap.size W W') :
    Calls Try.prog 54 #[v, .func (.func 55) #[] #[.pointer p]] w
      fun e w' => e = .returned (.tuple #[.int .i64 (findE ((List.range l.length).map E) 0).1, .int .i64 (findE ((List.range l.length).map E) 0).2]) ∧ Below w.heap.size w w' := by
  have HV := Lib.hid hv
  have HFN := Lib.hid hf
  obtain ⟨a, c, rfl, hl, hlc, -⟩ := hv
  clear hf
  go_enter Try.func54, Try.ntmps54
  go_wp2_with fail
  go_loopw [10] (fun i wr => ∃ k : Nat, k ≤ l.length ∧ i = .int .i64 k ∧ Below w.heap.size w wr ∧ findE ((List.range l.length).map E) 0 = findE (((List.range l.length).map E).drop k) k) (fun i _ => l.length - (intOf i).toNat)
  case atStart => exact ⟨0, by omega, rfl, Below.refl _ _, rfl⟩
  case round =>
    obtain ⟨k, hk, rfl, hb, hf⟩ := hrel
    have HF := Lib.hid hf
    clear hf
    by_cases hkl : k < l.length
    · obtain ⟨b', o, c', hvv, -, hbB, hc1, hn1, u, hc2, hs1⟩ := HV.out.at hkl
      have HS1 := Lib.hid hs1
      obtain ⟨ua, uc, hu, -⟩ := hs1
      subst hu
      have hc1 := (hb.cell (p := ⟨b', _, none⟩) hbB).trans hc1
      have hc2 := (hb.cell (p := ⟨b', _, none⟩) hbB).trans hc2
      cases hvv
      have HD : Hid (findE (((List.range l.length).map E).drop k) k = if E k = 0 then findE (((List.range l.length).map E).drop (k + 1)) (k + 1) else (k, E k)) := by
        unfold Hid
        rw [findE_drop _ _ (by simpa using hkl), errs_get _ _ _ hkl]
      have HC := fun (W : World) (hW : Below w.heap.size w W) => Lib.hid (HFN.out k W hkl hW (.slice ua (l.getD k default).parts.length uc) hn1 ((HS1.out.below hW).mono hW.size))
      generalize l.getD k default = y at *
      simp only [rdLot] at hc1 hc2
      have hsz := hb.size
      have HB := Lib.hid hb
      have HB1 := Lib.hid (hb.alloc hsz (.cells #[.string y.name, .slice ua y.parts.length uc] 83))
      clear hb
      go_wp2_with fail
      refine (HC _ HB1.out).out.mono ?_
      rintro e w' ⟨rfl, hbw⟩
      have HB2 := Lib.hid (HB1.out.trans (hbw.mono HB1.out.size))
      clear hbw
      obtain ⟨r, hr⟩ : ∃ r, E k = r := ⟨_, rfl⟩
      rw [hr] at HD
      rw [hr]
      clear hr
      by_cases hz : r = 0
      · subst hz
        go_wp2_with fail
        go_roundw
        case rel => exact ⟨k + 1, by omega, by go_num, HB2.out, by rw [HF.out, HD.out]; simp⟩
        case measure => simp [intOf]; omega
      · have hz2 : (r != 0) = true := by simpa using hz
        have HZ := Lib.hid hz
        clear hz
        go_wp2_with fail
        go_ret2
        rw [HF.out, HD.out, if_neg HZ.out]
        exact ⟨rfl, HB2.out⟩
    · have : k = l.length := by omega
      have HD : Hid (findE ((List.range l.length).map E) 0 = (0, 0)) := by
        unfold Hid
        rw [HF.out, this, List.drop_of_length_le (by simp)]
        rfl
      go_wp2_with fail
      go_ret2
      rw [HD.out]
      exact ⟨rfl, hb⟩
end Go.Proofs.Ytaigbhhmmdfdcaa
/- The closures of Check; scent.Check. -/
namespace Go.Proofs.Ytaigbhhmmdfdcaa
open Go.RowKit
theorem sl_shape {α : Type} [Inhabited α] {R : Rd α} {B : Nat} {w : World} {v : Value} {l : List α} (h : SlIn R B w v l) : ∃ a c, v = .slice a l.length c ∧ l.length ≤ c ∧ l.length ≤ 1000000000000000 := by
  obtain ⟨a, c, e, h1, h2, -⟩ := h
  exact ⟨a, c, e, h2, h1⟩
set_option maxHeartbeats 1000000 in
theorem check1_any (things : List Thing) (k : Nat) (hk : k < things.length) (y : Thing) (vt : Value) (g : Nat) (w : World) (hv : ThingsIn w.heap.size w vt things) (hg : g < w.heap.size) (hc : w.cell? ⟨g, 0, none⟩ = some vt) :
    Calls Try.prog 52 #[.int .i64 k, .agg #[.string y.name, .int .i64 y.kind, .int .i64 y.limit, .int .i64 y.weak, .int .i64 y.fade], .pointer (some ⟨g, 0, none⟩)] w
      fun e w' => e = .returned (.int .i64 (thingE (things.take k) (things.getD k default))) ∧ Below w.heap.size w w' := by
  have hb := (Below.refl w.heap.size w).alloc (Nat.le_refl _) (.cells #[.string y.name, .int .i64 y.kind, .int .i64 y.limit, .int .i64 y.weak, .int .i64 y.fade] 62)
  have HB := Lib.hid hb
  have HV := Lib.hid (hv.next hb)
  obtain ⟨a, c, rfl, -⟩ := hv
  clear hb
  have HX := Lib.hid (thing_any things k hk _ _ HV.out)
  generalize thingE (things.take k) (things.getD k default) = E at *
  go_enter Try.func52, Try.ntmps52
  go_wp2_with fail
  refine HX.out.mono ?_
  rintro e w1 ⟨rfl, hb1⟩
  have HB1 := Lib.hid (HB.out.trans (hb1.mono (by simp)))
  clear hb1
  go_wp2_with fail
  go_ret
  exact ⟨rfl, HB1.out⟩
set_option maxRecDepth 100000 in
set_option maxHeartbeats 4000000 in
theorem check2_any (s : Shop) (k : Nat) (hk : k < s.lots.length) (y : Lot) (u : Value) (vt vl : Value) (g : Nat) (w : World) (hv : ShopAt w.heap.size w vt vl s) (hg : g < w.heap.size)
    (h0 : w.cell? ⟨g, 0, none⟩ = some vt) (h1 : w.cell? ⟨g, 1, none⟩ = some vl) (hn : y.name.size ≤ 1000000000000000) (hu : SpansIn w.heap.size w u y.parts) :
    Calls Try.prog 55 #[.int .i64 k, .agg #[.string y.name, u], .pointer (some ⟨g, 0, none⟩)] w
      fun e w' => e = .returned (.int .i64 (lotE s.things.length (s.lots.take k) y)) ∧ Below w.heap.size w w' := by
  have HG0 := Lib.hid h0
  have HG1 := Lib.hid h1
  have HG := Lib.hid hg
  have HV := Lib.hid hv
  have HU := Lib.hid hu
  have HN := fun w => Lib.hid (name_any y.name w hn)
  obtain ⟨ta, tc, rfl, -, htl⟩ := sl_shape hv.1
  obtain ⟨la, lc, rfl, hlc, hll⟩ := sl_shape hv.2
  obtain ⟨ua, uc, rfl, -, hul⟩ := sl_shape hu
  have C0 := Lib.hid ((Bs.nil w).push _ rfl (.cells #[.string y.name, .slice ua y.parts.length uc] 83))
  have HT := Lib.hid (hv.2.take k (by omega))
  have HE : Hid (lotE s.things.length (s.lots.take k) y = if nameB y.name = false then 6 else if (s.lots.take k).any (fun x => sameN y.name x.name) then 5 else if y.parts.length ≠ s.things.length then 3 else spansE 1000000 y.parts) := rfl
  generalize lotE s.things.length (s.lots.take k) y = E at *
  clear hv hu h0 h1
  generalize s.lots.take k = t at *
  generalize s.lots.length = nl at *
  generalize s.things.length = nt at *
  obtain ⟨r1, hr1⟩ : ∃ r, nameB y.name = r := ⟨_, rfl⟩
  obtain ⟨r2, hr2⟩ : ∃ r, t.any (fun x => sameN y.name x.name) = r := ⟨_, rfl⟩
  obtain ⟨n, hnn⟩ : ∃ n, y.parts.length = n := ⟨_, rfl⟩
  rw [hr1, hr2, hnn] at HE
  simp only [hr1] at HN
  have HR2 := Lib.hid hr2
  have HNN := Lib.hid hnn
  rw [hnn] at HU hul C0 ⊢
  clear hr1 hr2 hnn hg
  have hcN := C0.out.cell 0 rfl 0
  go_enter Try.func55, Try.ntmps55
  go_wp2_with fail
  refine (HN _).out.mono ?_
  rintro e w1 ⟨rfl, hb1⟩
  have C1 := Lib.hid (C0.out.call hb1)
  clear hb1 hcN
  cases r1
  · go_wp2_with fail
    go_ret
    exact ⟨ret_int (by rw [HE.out]; rfl), C1.out.bel⟩
  have HS := Lib.hid (C1.out.lt 0 rfl)
  have hg0 := (C1.out.bel.cell (p := ⟨g, 0, none⟩) HG.out).trans HG0.out
  have hg1 := (C1.out.bel.cell (p := ⟨g, 1, none⟩) HG.out).trans HG1.out
  go_wp2_with fail
  clear hg0 hg1
  refine (hasLot_any (some ⟨w.heap.size, 0, none⟩) r2 t (fun x => sameN y.name x.name) _ w1 ((HT.out.below C1.out.bel).mono C1.out.bel.size) (fun k W _ hW u => same58 _ u _ y.name W ((hW.cell (p := ⟨w.heap.size, 0, none⟩) HS.out).trans (C1.out.cell 0 rfl 0)) (Nat.lt_of_lt_of_le HS.out hW.size) _ rfl) HR2.out).mono ?_
  rintro e w2 ⟨rfl, hb1⟩
  have C2 := Lib.hid (C1.out.call hb1)
  clear hb1 C1 HS
  cases r2
  case true =>
    go_wp2_with fail
    go_ret
    exact ⟨ret_int (by rw [HE.out]; rfl), C2.out.bel⟩
  have hg0 := (C2.out.bel.cell (p := ⟨g, 0, none⟩) HG.out).trans HG0.out
  have hcP := C2.out.cell 0 rfl 1
  by_cases hq : n = nt
  · subst hq
    have hq1 : ((n : Int) != (n : Int)) = false := by simp
    go_wp2_with fail
    have HX := Lib.hid (ranges_any y.parts 1000000 _ w2 ((HU.out.below C2.out.bel).mono C2.out.bel.size))
    refine HX.out.mono ?_
    rintro e w3 ⟨rfl, hb1⟩
    have C3 := Lib.hid (C2.out.call hb1)
    clear hb1 C2 hcP hg0
    go_wp2_with fail
    go_ret
    exact ⟨ret_int (by rw [HE.out]; simp), C3.out.bel⟩
  · have hq1 : ((n : Int) != (nt : Int)) = true := by simp; omega
    have HQ := Lib.hid hq
    clear hq
    go_wp2_with fail
    go_ret
    exact ⟨ret_int (by rw [HE.out]; simp [HQ.out]), C2.out.bel⟩
set_option maxRecDepth 100000 in
set_option maxHeartbeats 8000000 in
/-- scent.Check -/
theorem check_any (s : Shop) (vt vl : Value) (w : World) (hv : ShopAt w.heap.size w vt vl s) :
    Calls Try.prog 16 #[.agg #[vt, vl]] w fun e w' => e = .returned (.tuple #[.int .i64 (checkV s).1, .int .i64 (checkV s).2.1, .int .i64 (checkV s).2.2]) ∧ Below w.heap.size w w' := by
  have HV := Lib.hid hv
  obtain ⟨ta, tc, rfl, -, htl⟩ := sl_shape hv.1
  obtain ⟨la, lc, rfl, -, hll⟩ := sl_shape hv.2
  clear hv
  have C0 := Lib.hid ((Bs.nil w).push _ rfl (.cells #[.slice ta s.things.length tc, .slice la s.lots.length lc] 25))
  have HE : Hid (checkV s = if outOne 1 5 s.things.length || outOne 1 6 s.lots.length then (1, 0, 3)
    else if (findE (thingEs s) 0).2 ≠ 0 then (2, (findE (thingEs s) 0).1, (findE (thingEs s) 0).2)
    else if (findE (lotEs s) 0).2 ≠ 0 then (3, (findE (lotEs s) 0).1, (findE (lotEs s) 0).2) else (0, 0, 0)) := rfl
  have HF1 : Hid (thingEs s = (List.range s.things.length).map fun i => thingE (s.things.take i) (s.things.getD i default)) := rfl
  have HF2 : Hid (lotEs s = (List.range s.lots.length).map fun i => lotE s.things.length (s.lots.take i) (s.lots.getD i default)) := rfl
  generalize checkV s = E at *
  obtain ⟨q1, hq1⟩ : ∃ q, findE (thingEs s) 0 = q := ⟨_, rfl⟩
  obtain ⟨q2, hq2⟩ : ∃ q, findE (lotEs s) 0 = q := ⟨_, rfl⟩
  rw [hq1, hq2] at HE
  rw [HF1.out] at hq1
  rw [HF2.out] at hq2
  obtain ⟨at1, e1⟩ := q1
  obtain ⟨at2, e2⟩ := q2
  have HQ1 := Lib.hid hq1
  have HQ2 := Lib.hid hq2
  clear hq1 hq2 HF1 HF2
  have hc0 := C0.out.cell 0 rfl 0
  have hc1 := C0.out.cell 0 rfl 1
  obtain ⟨r1, hr1⟩ : ∃ r, outOne 1 5 (s.things.length : Int) = r := ⟨_, rfl⟩
  obtain ⟨r2, hr2⟩ : ∃ r, outOne 1 6 (s.lots.length : Int) = r := ⟨_, rfl⟩
  rw [hr1, hr2] at HE
  have HR1 := Lib.hid hr1
  have HR2 := Lib.hid hr2
  clear hr1 hr2
  have C0A := Lib.hid (C0.out.push (w.heap.size + 1) (by simp) (.cells #[.int .i64 (s.things.length : Nat)] 3))
  go_enter Try.func16, Try.ntmps16
  go_wp2_with fail
  refine (out_one r1 1 5 _ HR1.out _ _ (C0A.out.get 1 rfl)).mono ?_
  rintro e w1 ⟨rfl, hb1⟩
  have C1 := Lib.hid ((C0A.out.call hb1).sub [(w.heap.size, .cells #[.slice ta s.things.length tc, .slice la s.lots.length lc] 25)] (by simp))
  clear hb1 C0 C0A hc0 hc1
  cases r1
  case true =>
    go_wp2_with fail
    go_ret3
    rw [HE.out]
    exact ⟨rfl, C1.out.bel⟩
  have hc1 := C1.out.cell 0 rfl 1
  have C1A := Lib.hid (C1.out.push _ rfl (.cells #[.int .i64 (s.lots.length : Nat)] 3))
  go_wp2_with fail
  refine (out_one r2 1 6 _ HR2.out _ _ (C1A.out.get 1 rfl)).mono ?_
  rintro e w2 ⟨rfl, hb1⟩
  have C2 := Lib.hid ((C1A.out.call hb1).sub [(w.heap.size, .cells #[.slice ta s.things.length tc, .slice la s.lots.length lc] 25)] (by simp))
  clear hb1 C1 C1A hc1
  cases r2
  case true =>
    go_wp2_with fail
    go_ret3
    rw [HE.out]
    exact ⟨rfl, C2.out.bel⟩
  have hc0 := C2.out.cell 0 rfl 0
  have HS := Lib.hid (C2.out.lt 0 rfl)
  go_wp2_with fail
  refine (firstThing_any _ s.things (fun i => thingE (s.things.take i) (s.things.getD i default)) _ w2 ((HV.out.1.below C2.out.bel).mono C2.out.bel.size) (fun k W hk hW => check1_any s.things k hk _ _ _ W ((HV.out.1.below (C2.out.bel.trans (hW.mono C2.out.bel.size))).mono (Nat.le_trans C2.out.bel.size hW.size)) (Nat.lt_of_lt_of_le HS.out hW.size) ((hW.cell (p := ⟨w.heap.size, 0, none⟩) HS.out).trans (C2.out.cell 0 rfl 0)))).mono ?_
  rintro e w3 ⟨rfl, hb1⟩
  have C3 := Lib.hid (C2.out.call hb1)
  clear hb1 C2 hc0 HS
  rw [HQ1.out]
  by_cases hz : e1 = 0
  case neg =>
    have hz2 : (e1 != 0) = true := by simpa using hz
    have HZ := Lib.hid hz
    clear hz
    go_wp2_with fail
    go_ret3
    rw [HE.out]
    refine ⟨?_, C3.out.bel⟩
    simp [HZ.out]
  subst hz
  have hc1 := C3.out.cell 0 rfl 1
  have HS := Lib.hid (C3.out.lt 0 rfl)
  go_wp2_with fail
  refine (firstLot_any _ s.lots (fun i => lotE s.things.length (s.lots.take i) (s.lots.getD i default)) _ w3 ((HV.out.2.below C3.out.bel).mono C3.out.bel.size) (fun k W hk hW u hn hu => check2_any s k hk _ u _ _ _ W ((HV.out.below (C3.out.bel.trans (hW.mono C3.out.bel.size))).mono (Nat.le_trans C3.out.bel.size hW.size)) (Nat.lt_of_lt_of_le HS.out hW.size)
    ((hW.cell (p := ⟨w.heap.size, 0, none⟩) HS.out).trans (C3.out.cell 0 rfl 0)) ((hW.cell (p := ⟨w.heap.size, 1, none⟩) HS.out).trans (C3.out.cell 0 rfl 1)) hn hu)).mono ?_
  rintro e w4 ⟨rfl, hb1⟩
  have C4 := Lib.hid (C3.out.call hb1)
  clear hb1 C3 hc1 HS
  rw [HQ2.out]
  by_cases hz : e2 = 0
  case neg =>
    have hz2 : (e2 != 0) = true := by simpa using hz
    have HZ := Lib.hid hz
    clear hz
    go_wp2_with fail
    go_ret3
    rw [HE.out]
    refine ⟨?_, C4.out.bel⟩
    simp [HZ.out]
  subst hz
  go_wp2_with fail
  go_ret3
  rw [HE.out]
  exact ⟨rfl, C4.out.bel⟩
end Go.Proofs.Ytaigbhhmmdfdcaa
/- A batch that is looked at: its cells; least, most. -/
namespace Go.Proofs.Ytaigbhhmmdfdcaa
open Go.RowKit
/-- All but one block stays. -/
structure But (g : Nat) (w w' : World) : Prop where
  os : w'.os = w.os
  tape : w'.tape = w.tape
  output : w'.output = w.output
  size : w.heap.size ≤ w'.heap.size
  block : ∀ k, k < w.heap.size → k ≠ g → w'.heap[k]? = w.heap[k]?
theorem But.refl (g : Nat) (w : World) : But g w w := ⟨rfl, rfl, rfl, Nat.le_refl _, fun _ _ _ => rfl⟩
theorem But.trans {g : Nat} {a b c : World} (h : But g a b) (k : But g b c) : But g a c :=
  ⟨k.os.trans h.os, k.tape.trans h.tape, k.output.trans h.output, Nat.le_trans h.size k.size, fun i hi hg => (k.block i (Nat.lt_of_lt_of_le hi h.size) hg).trans (h.block i hi hg)⟩
theorem But.of {g : Nat} {w w' : World} (h : Below w.heap.size w w') : But g w w' := ⟨h.os, h.tape, h.output, h.size, fun k hk _ => h.block k hk⟩
theorem But.drewN (g : Nat) (w : World) (n : Nat) : But g w (w.drewN n) := But.of (below_drewN (Below.refl _ _) n)
theorem But.alloc {g : Nat} {w w' : World} (h : But g w w') (o : Obj) : But g w (w'.alloc o) := h.trans (But.of ((Below.refl _ _).alloc (Nat.le_refl _) o))
theorem But.below {g B : Nat} {w w' : World} (h : But g w w') (h1 : B ≤ g) (h2 : B ≤ w.heap.size) : Below B w w' := ⟨h.os, h.tape, h.output, h.size, fun k hk => h.block k (by omega) (by omega)⟩
theorem But.cell {g b o : Nat} {w w' : World} (h : But g w w') (h1 : b < w.heap.size) (h2 : b ≠ g) : w'.cell? ⟨b, o, none⟩ = w.cell? ⟨b, o, none⟩ := by
  unfold World.cell?
  simp only [h.block b h1 h2]
/-- A list of blocks, one of them turned. -/
theorem Bs.but {w0 w w' : World} {l : List (Nat × Obj)} (H : Bs w0 l w) (i : Nat) {g : Nat} {o o' : Obj} (hi : l[i]? = some (g, o)) (h : But g w w') (hg : w'.heap[g]? = some o') : Bs w0 (l.set i (g, o')) w' := by
  refine ⟨?_, ?_, ?_, H.bel.trans (h.below (H.le i hi) H.bel.size)⟩
  · intro p hp
    obtain ⟨j, hj⟩ := List.mem_iff_getElem?.1 hp
    by_cases hji : j = i
    · subst hji
      have hlt : j < l.length := (List.getElem?_eq_some_iff.1 hi).1
      rw [List.getElem?_set_self hlt] at hj
      cases hj
      exact hg
    · rw [List.getElem?_set_ne (Ne.symm hji)] at hj
      have hm := List.mem_of_getElem? hj
      rw [h.block _ (block_lt (H.get' p hm)) (H.other i hi hji hj)]
      exact H.get' p hm
  · have : (l.set i (g, o')).map Prod.fst = l.map Prod.fst := by
      rw [List.map_set]
      apply List.ext_getElem?
      intro j
      by_cases hji : j = i
      · subst hji
        have hlt : j < (l.map Prod.fst).length := by simpa using (List.getElem?_eq_some_iff.1 hi).1
        rw [List.getElem?_set_self hlt]
        simp [hi]
      · rw [List.getElem?_set_ne (Ne.symm hji)]
    rw [this]
    exact H.inc
  · intro p hp
    obtain ⟨j, hj⟩ := List.mem_iff_getElem?.1 hp
    by_cases hji : j = i
    · subst hji
      have hlt : j < l.length := (List.getElem?_eq_some_iff.1 hi).1
      rw [List.getElem?_set_self hlt] at hj
      cases hj
      exact H.le j hi
    · rw [List.getElem?_set_ne (Ne.symm hji)] at hj
      exact H.ge p (List.mem_of_getElem? hj)
section
variable {P : Program} {ops : Array Oper} {rest : List Oper} {o : Oper} {a : Act} {w : World} {Q : Exit → Act → World → Prop}
/-- One cell of a block is stored. -/
theorem wpList_cell_but (hgd : o.guard = none) (ty : TypeId) (x y : Operand) (ho : o.op = .store ty x y) (g j : Nat) (old : Array Value) (t : TypeId) (hi : w.heap[g]? = some (.cells old t))
    (hx : a.eval x = .pointer (some ⟨g, j, none⟩)) (v : Value) (hy : a.eval y = v) (hj : j < old.size) (h1 : v.oneCell' = true) (hn : (P.info? ty).map (·.size) = some 1)
    (h : ∀ w', w'.heap[g]? = some (.cells (old.setIfInBounds j v) t) → But g w w' → wpList P ops Q rest (a.put o.dst undef) w') : wpList P ops Q (o :: rest) a w :=
  wpList_plain hgd fun _ hK => by
    have hc : w.cell? ⟨g, j, none⟩ = some old[j] := by rw [cell_of_row w g j _ _ _ hi]; simp [hj]
    unfold Oper.wp execOp
    simp only [ho, hx, hy, Instr.storeAt, Instr.sureAddr, Sem.run_bind, Sem.run_pure, Result.andThen_ok, run_store_at w g j ty v _ h1 hc (frozen_of_row w g j _ _ hi) hn]
    refine hK _ _ (h _ (heap_setCell_same w g j old t v hi) ⟨rfl, rfl, rfl, by simp, fun k _ hk => heap_setCell_other _ _ _ _ hk⟩)
/-- A row in the middle of a block is stored. -/
theorem wpList_mid_but (hgd : o.guard = none) (ty : TypeId) (x y : Operand) (ho : o.op = .store ty x y) (g off : Nat) (cells : Array Value) (pre rest' : List Value) (t : TypeId)
    (hg : w.heap[g]? = some (.cells (pre ++ rest').toArray t)) (hoff : pre.length = off) (hx : a.eval x = .pointer (some ⟨g, off, none⟩)) (hy : a.eval y = .agg cells)
    (hi : (P.info? ty).map (·.size) = some cells.size) (hfit : cells.size ≤ rest'.length) (h1 : cells.all (·.oneCell') = true)
    (h : ∀ w', w'.heap[g]? = some (.cells (pre ++ cells.toList ++ rest'.drop cells.size).toArray t) → But g w w' → wpList P ops Q rest (a.put o.dst undef) w') : wpList P ops Q (o :: rest) a w :=
  wpList_plain hgd fun _ hK => by
    subst hoff
    have ht : w.there g pre.length cells.size := by
      intro j hj
      refine ⟨?_, frozen_of_row w g _ _ _ hg⟩
      rw [cell_of_row w g _ _ _ _ hg]
      simp only [List.getElem?_toArray]
      rw [List.getElem?_append_right (by omega), Nat.add_sub_cancel_left]
      simp
      omega
    have hs := run_storeVar_mid (P := P) w g pre.length ty cells ht hi h1
    rw [setCells_row g t _ _ w _ hg, writeAt_list (pre ++ rest') cells.toList pre rest' rfl (by simpa using hfit)] at hs
    unfold Oper.wp execOp
    simp only [ho, hx, hy, Instr.storeAt, Instr.sureAddr, Sem.run_bind, Sem.run_pure, Result.andThen_ok, hs]
    exact hK _ _ (h _ (setRow_heap _ _ _ _ _ _ hg) ⟨rfl, rfl, rfl, by simp, fun k _ hk => setRow_other _ _ _ _ hk⟩)
end
theorem wrap_in {a : Int} (h0 : -9223372036854775808 ≤ a) (h1 : a ≤ 9223372036854775807) : IntKind.i64.wrap a = a := by rw [IntKind.wrap_i64]; omega
theorem info3 : (Try.prog.info? 3).map (·.size) = some 1 := by kernel_rfl
theorem info51 : (Try.prog.info? 51).map (·.size) = some 2 := by kernel_rfl
def upm {α : Type} (f : Nat → α) (t : Nat) (x : α) : Nat → α := fun u => if u = t then x else f u
def spC (m : Nat → Int × Int) : List Value := [.int .i64 (m 0).1, .int .i64 (m 0).2, .int .i64 (m 1).1, .int .i64 (m 1).2, .int .i64 (m 2).1, .int .i64 (m 2).2, .int .i64 (m 3).1, .int .i64 (m 3).2, .int .i64 (m 4).1, .int .i64 (m 4).2]
structure BO where
  vg : Value
  vb : Value
  va : Value
  wt : Int
  tk : Int
  mi : Nat → Int × Int
  pa : Nat → Int × Int
/-- The cells of a batch that is looked at. -/
def BO.c (x : BO) : Array Value := ([x.vg, x.vb, x.va, .int .i64 x.wt, .int .i64 x.tk] ++ (spC x.mi ++ spC x.pa)).toArray
theorem lt5 {t : Nat} (h : t < 5) : t = 0 ∨ t = 1 ∨ t = 2 ∨ t = 3 ∨ t = 4 := by omega
theorem BO.size (x : BO) : x.c.size = 25 := rfl
theorem BO.lo (x : BO) {t : Nat} (h : t < 5) : x.c[5 + t * 2]? = some (.int .i64 (x.mi t).1) := by
  rcases lt5 h with rfl | rfl | rfl | rfl | rfl <;> rfl
theorem BO.hi (x : BO) {t : Nat} (h : t < 5) : x.c[5 + t * 2 + 1]? = some (.int .i64 (x.mi t).2) := by
  rcases lt5 h with rfl | rfl | rfl | rfl | rfl <;> rfl
theorem BO.plo (x : BO) {t : Nat} (h : t < 5) : x.c[15 + t * 2]? = some (.int .i64 (x.pa t).1) := by
  rcases lt5 h with rfl | rfl | rfl | rfl | rfl <;> rfl
theorem BO.phi (x : BO) {t : Nat} (h : t < 5) : x.c[15 + t * 2 + 1]? = some (.int .i64 (x.pa t).2) := by
  rcases lt5 h with rfl | rfl | rfl | rfl | rfl <;> rfl
theorem BO.set_lo (x : BO) {t : Nat} (h : t < 5) (n : Int) : x.c.setIfInBounds (5 + t * 2) (.int .i64 n) = ({ x with mi := upm x.mi t (n, (x.mi t).2) } : BO).c := by
  rcases lt5 h with rfl | rfl | rfl | rfl | rfl <;> simp [BO.c, spC, upm]
theorem BO.set_hi (x : BO) {t : Nat} (h : t < 5) (n : Int) : x.c.setIfInBounds (5 + t * 2 + 1) (.int .i64 n) = ({ x with mi := upm x.mi t ((x.mi t).1, n) } : BO).c := by
  rcases lt5 h with rfl | rfl | rfl | rfl | rfl <;> simp [BO.c, spC, upm]
theorem BO.set_wt (x : BO) (n : Int) : x.c.setIfInBounds 3 (.int .i64 n) = ({ x with wt := n } : BO).c := by simp [BO.c, spC]
theorem BO.set_tk (x : BO) (n : Int) : x.c.setIfInBounds 4 (.int .i64 n) = ({ x with tk := n } : BO).c := by simp [BO.c, spC]
set_option maxRecDepth 100000 in
set_option maxHeartbeats 2000000 in
theorem least_any (x : BO) (g t : Nat) (n s : Int) (ht : t < 5) (w : World) (hg : w.heap[g]? = some (.cells x.c 111)) (hs : (x.mi t).1 + n = s) (h0 : -1000000000000000 ≤ s) (h1 : s ≤ 1000000000000000) :
    Calls Try.prog 107 #[.pointer (some ⟨g, 0, none⟩), .int .i64 t, .int .i64 n] w
      fun e w' => (∃ v, e = .returned v) ∧ w'.heap[g]? = some (.cells ({ x with mi := upm x.mi t (s, (x.mi t).2) } : BO).c 111) ∧ But g w w' := by
  have hc := (cell_of_row w g (5 + t * 2) _ _ _ hg).trans (x.lo ht)
  have HG := Lib.hid hg
  have HSET := Lib.hid (x.set_lo ht s)
  have HLT : Hid (5 + t * 2 < x.c.size) := by unfold Hid; rw [BO.size]; omega
  have hw : IntKind.i64.wrap ((x.mi t).1 + n) = s := by rw [hs]; exact wrap_in (by omega) (by omega)
  have HW := Lib.hid hw
  clear hg hs hw
  generalize (x.mi t).1 = m at *
  have hti : (t : Int) < 5 := by omega
  have htj : (0 : Int) ≤ t := by omega
  go_enter Try.func107, Try.ntmps107
  go_still_tail 13, (by kernel_rfl)
  change wpList _ _ _ _ _ (w.drewN 1)
  refine wpList_cell_but rfl 3 _ _ rfl g (5 + t * 2) x.c 111 HG.out rfl (.int .i64 (IntKind.i64.wrap (m + n))) rfl HLT.out rfl info3 ?_
  rw [HW.out, HSET.out]
  intro w1 hg1 hb1
  go_wp2
  refine bodyPost_end (results_none rfl _ _ _) rfl ⟨⟨_, rfl⟩, hg1, (But.drewN g w 1).trans hb1⟩
set_option maxRecDepth 100000 in
set_option maxHeartbeats 2000000 in
theorem most_any (x : BO) (g t : Nat) (n s : Int) (ht : t < 5) (w : World) (hg : w.heap[g]? = some (.cells x.c 111)) (hs : (x.mi t).2 + n = s) (h0 : -1000000000000000 ≤ s) (h1 : s ≤ 1000000000000000) :
    Calls Try.prog 108 #[.pointer (some ⟨g, 0, none⟩), .int .i64 t, .int .i64 n] w
      fun e w' => (∃ v, e = .returned v) ∧ w'.heap[g]? = some (.cells ({ x with mi := upm x.mi t ((x.mi t).1, s) } : BO).c 111) ∧ But g w w' := by
  have hc := (cell_of_row w g (5 + t * 2 + 1) _ _ _ hg).trans (x.hi ht)
  have HG := Lib.hid hg
  have HSET := Lib.hid (x.set_hi ht s)
  have HLT : Hid (5 + t * 2 + 1 < x.c.size) := by unfold Hid; rw [BO.size]; omega
  have hw : IntKind.i64.wrap ((x.mi t).2 + n) = s := by rw [hs]; exact wrap_in (by omega) (by omega)
  have HW := Lib.hid hw
  clear hg hs hw
  generalize (x.mi t).2 = m at *
  have hti : (t : Int) < 5 := by omega
  have htj : (0 : Int) ≤ t := by omega
  go_enter Try.func108, Try.ntmps108
  go_still_tail 13, (by kernel_rfl)
  change wpList _ _ _ _ _ (w.drewN 1)
  refine wpList_cell_but rfl 3 _ _ rfl g (5 + t * 2 + 1) x.c 111 HG.out rfl (.int .i64 (IntKind.i64.wrap (m + n))) rfl HLT.out rfl info3 ?_
  rw [HW.out, HSET.out]
  intro w1 hg1 hb1
  go_wp2
  refine bodyPost_end (results_none rfl _ _ _) rfl ⟨⟨_, rfl⟩, hg1, (But.drewN g w 1).trans hb1⟩
end Go.Proofs.Ytaigbhhmmdfdcaa
/- pour. -/
namespace Go.Proofs.Ytaigbhhmmdfdcaa
open Go.RowKit
/-- What a pour makes of the ranges. -/
def pourTo (m : Nat → Int × Int) (times : Int) (l : List (Int × Int)) (k : Nat) : Nat → Int × Int :=
  fun t => if t < k then ((m t).1 + times * (l.getD t (0, 0)).1, (m t).2 + times * (l.getD t (0, 0)).2) else m t
theorem pourTo_zero (m : Nat → Int × Int) (times : Int) (l : List (Int × Int)) : pourTo m times l 0 = m := by
  funext t; simp [pourTo]
theorem pourTo_at (m : Nat → Int × Int) (times : Int) (l : List (Int × Int)) (k : Nat) : pourTo m times l k k = m k := by simp [pourTo]
theorem pourTo_succ (m : Nat → Int × Int) (times : Int) (l : List (Int × Int)) (k : Nat) :
    upm (upm (pourTo m times l k) k ((m k).1 + times * (l.getD k (0, 0)).1, (m k).2)) k ((m k).1 + times * (l.getD k (0, 0)).1, (m k).2 + times * (l.getD k (0, 0)).2) = pourTo m times l (k + 1) := by
  funext t
  unfold upm pourTo
  by_cases h : t = k
  · subst h; simp
  · simp only [h, if_false]
    by_cases h2 : t < k
    · rw [if_pos h2, if_pos (by omega)]
    · rw [if_neg h2, if_neg (by omega)]
/-- What is poured fits. -/
def PourOk (m : Nat → Int × Int) (times : Int) (l : List (Int × Int)) : Prop :=
  ∀ t, t < l.length → 0 ≤ (m t).1 ∧ (m t).1 ≤ 100000000000000 ∧ 0 ≤ (m t).2 ∧ (m t).2 ≤ 100000000000000 ∧
    0 ≤ times * (l.getD t (0, 0)).1 ∧ times * (l.getD t (0, 0)).1 ≤ 100000000000000 ∧ 0 ≤ times * (l.getD t (0, 0)).2 ∧ times * (l.getD t (0, 0)).2 ≤ 100000000000000
/-- A slice of ranges that lies apart from a block. -/
def SpansBut (g : Nat) (w : World) (v : Value) (l : List (Int × Int)) : Prop :=
  ∃ a c, v = .slice a l.length c ∧ (l = [] ∨ ∃ b o, a = some ⟨b, o, none⟩ ∧ b < w.heap.size ∧ b ≠ g ∧ ∀ i, i < l.length → w.cell? ⟨b, o + i * 2, none⟩ = some (.int .i64 (l.getD i (0, 0)).1) ∧ w.cell? ⟨b, o + i * 2 + 1, none⟩ = some (.int .i64 (l.getD i (0, 0)).2))
theorem SlIn.but {B g : Nat} {w : World} {v : Value} {l : List (Int × Int)} (h : SpansIn B w v l) (hB : B ≤ g) (hw : B ≤ w.heap.size) : SpansBut g w v l := by
  obtain ⟨a, c, rfl, -, -, h⟩ := h
  refine ⟨a, c, rfl, ?_⟩
  rcases h with h | ⟨b, o, rfl, hb, h⟩
  · exact .inl h
  · exact .inr ⟨b, o, rfl, by omega, by omega, h⟩
set_option maxRecDepth 100000 in
set_option maxHeartbeats 4000000 in
/-- pour -/
theorem pour_any (x : BO) (g : Nat) (l : List (Int × Int)) (times : Int) (v : Value) (w : World) (hg : w.heap[g]? = some (.cells x.c 111)) (hl : l.length ≤ 5) (hok : PourOk x.mi times l) (hv : SpansBut g w v l) :
    Calls Try.prog 96 #[.pointer (some ⟨g, 0, none⟩), .int .i64 times, v] w
      fun e w' => (∃ v, e = .returned v) ∧ w'.heap[g]? = some (.cells ({ x with mi := pourTo x.mi times l l.length } : BO).c 111) ∧ But g w w' := by
  have HV := Lib.hid hv
  have HOK := Lib.hid hok
  have HG := Lib.hid hg
  have hglt := block_lt hg
  obtain ⟨a, c, rfl, -⟩ := hv
  clear hok hg
  obtain ⟨n, hn⟩ : ∃ n, l.length = n := ⟨_, rfl⟩
  have HN := Lib.hid hn
  rw [hn] at hl ⊢
  clear hn
  go_enter Try.func96, Try.ntmps96
  go_wp2_with fail
  go_loopw [16] (fun i wr => ∃ k : Nat, k ≤ n ∧ i = .int .i64 k ∧ wr.heap[g]? = some (.cells ({ x with mi := pourTo x.mi times l k } : BO).c 111) ∧ But g w wr) (fun i _ => n - (intOf i).toNat)
  case atStart => exact ⟨0, by omega, rfl, by rw [pourTo_zero]; exact HG.out, But.refl _ _⟩
  case round =>
    obtain ⟨k, hk, rfl, hgr, hbr⟩ := hrel
    have HGR := Lib.hid hgr
    have HBR := Lib.hid hbr
    clear hgr hbr
    by_cases hlt : k < n
    · have hnn := (HN.out : l.length = n)
      obtain ⟨a', c', he, hv⟩ := HV.out
      cases he
      obtain ⟨b, o, rfl, hb1, hb2, hc⟩ := hv.resolve_left (by intro h; rw [h] at hnn; simp at hnn; omega)
      have hc1 := (HBR.out.cell (o := o + k * 2) hb1 hb2).trans (hc k (by omega)).1
      have hc2 := (HBR.out.cell (o := o + k * 2 + 1) hb1 hb2).trans (hc k (by omega)).2
      obtain ⟨b1, b2, b3, b4, b5, b6, b7, b8⟩ := HOK.out k (by omega)
      have HS := Lib.hid (pourTo_succ x.mi times l k)
      have HA := Lib.hid (pourTo_at x.mi times l k)
      clear hc hnn hv
      generalize (l.getD k (0, 0)).1 = lo at *
      generalize (l.getD k (0, 0)).2 = hi at *
      have hsz := HBR.out.size
      have hne : Hid (wr.heap.size ≠ g) := by unfold Hid; omega
      have HL := Lib.hid (least_any { x with mi := pourTo x.mi times l k } g k (times * lo) ((x.mi k).1 + times * lo) (by omega) (wr.alloc (.cells #[.int .i64 lo, .int .i64 hi] 51)) (block_keep HGR.out ((Below.refl _ _).alloc (Nat.le_refl _) _)) (by simp only [HA.out]) (by omega) (by omega))
      go_wp2_with fail
      refine HL.out.mono ?_
      rintro e w1 ⟨⟨v1, rfl⟩, hg1, hb1⟩
      have hcx : w1.cell? ⟨wr.heap.size, 1, none⟩ = some (.int .i64 hi) := by
        rw [hb1.cell (by simp) hne.out, cell_of_row _ _ _ _ _ _ (heap_alloc_new wr _)]
        rfl
      have HG1 := Lib.hid hg1
      have HB1 := Lib.hid ((But.refl g wr).alloc (.cells #[.int .i64 lo, .int .i64 hi] 51) |>.trans hb1)
      clear hg1 hb1 hc1 hc2 HL
      have HL2 := Lib.hid (most_any _ g k (times * hi) ((x.mi k).2 + times * hi) (by omega) w1 HG1.out (by simp [upm, HA.out]) (by omega) (by omega))
      go_wp2_with fail
      refine HL2.out.mono ?_
      rintro e w2 ⟨⟨v2, rfl⟩, hg2, hb2⟩
      have HG2 := Lib.hid hg2
      have HB2 := Lib.hid (HBR.out.trans (HB1.out.trans hb2))
      clear hg2 hb2 hcx HL2
      go_wp2_with fail
      go_roundw
      case rel =>
        refine ⟨k + 1, by omega, by go_num, ?_, HB2.out⟩
        have := HG2.out
        simp only [HA.out] at this
        rw [← HS.out]
        simpa [upm] using this
      case measure => simp [intOf]; omega
    · obtain rfl : k = n := by omega
      go_wp2_with fail
      exact bodyPost_end (results_none rfl _ _ _) rfl ⟨⟨_, rfl⟩, HGR.out, HBR.out⟩
end Go.Proofs.Ytaigbhhmmdfdcaa
/- Rows of the call's own: what stays, what reads. -/
namespace Go.Proofs.Ytaigbhhmmdfdcaa
open Go.RowKit
section
variable {w w' : World} {base : Nat} {v : Value} {n sz : Nat} {e : TypeId} {xs : List Value}
theorem ownsRow_slice (h : w.ownsRow base e sz v n xs) : ∃ a c, v = .slice a n c := by
  rcases h.2 with ⟨rfl, h0⟩ | ⟨g, cap, cur, rfl, _⟩
  · exact ⟨none, 0, by rw [h0]⟩
  · exact ⟨_, _, rfl⟩
theorem ownsRow.below (h : w.ownsRow base e sz v n xs) (hb : Below w.heap.size w w') : w'.ownsRow base e sz v n xs := by
  refine ⟨h.1, ?_⟩
  rcases h.2 with h0 | ⟨g, cap, cur, rfl, h1, h2, h3⟩
  · exact .inl h0
  · exact .inr ⟨g, cap, cur, rfl, h1, block_keep h2 hb, h3⟩
/-- A block of another type is turned. -/
theorem ownsRow.but (h : w.ownsRow base e sz v n xs) {g : Nat} (hb : But g w w') {cs : Array Value} {t : TypeId} (hg : w.heap[g]? = some (.cells cs t)) (hne : t ≠ e) : w'.ownsRow base e sz v n xs := by
  refine ⟨h.1, ?_⟩
  rcases h.2 with h0 | ⟨b, cap, cur, rfl, h1, h2, h3⟩
  · exact .inl h0
  · refine .inr ⟨b, cap, cur, rfl, h1, (hb.block b (block_lt h2) ?_).trans h2, h3⟩
    rintro rfl
    rw [hg] at h2
    cases h2
    exact hne rfl
theorem ownsRow.le {base' : Nat} (h : w.ownsRow base e sz v n xs) (hb : base' ≤ base) : w.ownsRow base' e sz v n xs := by
  refine ⟨h.1, ?_⟩
  rcases h.2 with h0 | ⟨b, cap, cur, rfl, h1, h2, h3⟩
  · exact .inl h0
  · exact .inr ⟨b, cap, cur, rfl, by omega, h2, h3⟩
/-- What an append leaves as it was. -/
theorem grown_keep (h : w.ownsRow base e sz v n xs) (hg : w.grownBy w' v.ownBlock) {k : Nat} {cs : Array Value} {t : TypeId} (hk : w.heap[k]? = some (.cells cs t)) (hne : t ≠ e) : w'.heap[k]? = some (.cells cs t) := by
  have hlt := block_lt hk
  have hb : Below k w (w) := Below.refl _ _
  rcases h.2 with ⟨rfl, -⟩ | ⟨b, cap, cur, rfl, h1, h2, -⟩
  · exact (hg.block k hlt (by simp [Value.ownBlock])).trans hk
  · refine (hg.block k hlt ?_).trans hk
    rintro e1
    simp only [Value.ownBlock, Option.some.injEq] at e1
    subst e1
    rw [hk] at h2
    cases h2
    exact hne rfl
theorem grown_below (h : w.ownsRow base e sz v n xs) (hg : w.grownBy w' v.ownBlock) {B : Nat} (h1 : B ≤ base) (h2 : B ≤ w.heap.size) : Below B w w' :=
  (Below.refl B w).grown hg h2 (fun k e => Nat.le_trans h1 ((World.ownsRow.lt h k e).1))
/-- A cell of a row. -/
theorem ownsRow_cell {a : Option Addr} {c : Nat} (h : w.ownsRow base e 1 (.slice a n c) n xs) {i : Nat} (hi : i < n) : ∃ b, a = some ⟨b, 0, none⟩ ∧ b < w.heap.size ∧ n ≤ c ∧ w.cell? ⟨b, i, none⟩ = xs[i]? := by
  rcases h.2 with ⟨e1, h0⟩ | ⟨b, cap, cur, e1, h1, h2, h3, h4, h5, h6⟩
  · omega
  · cases e1
    refine ⟨b, rfl, block_lt h2, h3, ?_⟩
    rw [cell_of_row w b i _ _ _ h2, ← h6, List.getElem?_take, if_pos (by omega), ← Array.getElem?_toList]
end
end Go.Proofs.Ytaigbhhmmdfdcaa
/- What melt holds between two batches. -/
namespace Go.Proofs.Ytaigbhhmmdfdcaa
open Go.RowKit
theorem pour_start (s : Shop) (l : List Bat) (k : Nat) : pourTo (fun _ => (0, 0)) 1000 (l.getD k default).added s.things.length = midA s l k 0 := by
  funext t
  unfold pourTo midA
  simp [dot]
theorem pour_lot (s : Shop) (l : List Bat) (k i : Nat) : pourTo (midA s l k i) ((l.getD k default).grams.getD i 0) (s.lots.getD i default).parts s.things.length = midA s l k (i + 1) := by
  funext t
  unfold pourTo midA
  by_cases h : t < s.things.length
  · simp only [h, if_true, dot, lotT, sd, Bool.false_eq_true, if_false]
    refine Prod.ext ?_ ?_ <;> simp only <;> omega
  · simp only [h, if_false]
theorem pour_back (s : Shop) (l : List Bat) {k : Nat} (hk : k ≤ l.length) {i : Nat} (hi : i < k) : pourTo (midB s l k i) ((l.getD k default).back.getD i 0) ((List.range s.things.length).map (parV s l i)) s.things.length = midB s l k (i + 1) := by
  funext t
  unfold pourTo midB
  by_cases h : t < s.things.length
  · have e : ((List.range s.things.length).map (parV s l i)).getD t (0, 0) = parV s l i t := by rw [List.getD_eq_getElem?_getD, List.getElem?_map, List.getElem?_range h]; rfl
    simp only [h, if_true, dot]
    rw [backT_eq s l hk _ t false hi, backT_eq s l hk _ t true hi, e]
    simp only [sd, Bool.false_eq_true, if_false, if_true]
    refine Prod.ext ?_ ?_ <;> simp only <;> omega
  · simp only [h, if_false]
theorem ok_start {s : Shop} {l : List Bat} {k : Nat} (h : BatOk0 s l k) : PourOk (fun _ => (0, 0)) 1000 (l.getD k default).added := by
  intro t _
  have := h.add t
  simp only
  omega
theorem ok_lot {s : Shop} (hs : ShopOk s) {l : List Bat} (hl : l.length ≤ 6) {k : Nat} (hp : Prefix s l k) (hk : k < l.length) (hb : BatOk0 s l k) {i : Nat} (hi : i < s.lots.length) :
    PourOk (midA s l k i) ((l.getD k default).grams.getD i 0) (s.lots.getD i default).parts := by
  intro t _
  have h1 := (mic_bound hs hl k hp hk hb).1 i t (by omega)
  have h2 := lotT_bound hs hb t false hi
  have h3 := lotT_bound hs hb t true hi
  unfold lotT sd at h2 h3
  simp only [Bool.false_eq_true, if_false, if_true] at h2 h3
  omega
theorem ok_back {s : Shop} (hs : ShopOk s) {l : List Bat} (hl : l.length ≤ 6) {k : Nat} (hp : Prefix s l k) (hk : k < l.length) (hb : BatOk0 s l k) {i : Nat} (hi : i < (l.getD k default).back.length) :
    PourOk (midB s l k i) ((l.getD k default).back.getD i 0) ((List.range s.things.length).map (parV s l i)) := by
  intro t ht
  have h1 := (mic_bound hs hl k hp hk hb).2 i t (by omega)
  have hbl := hb.blen
  have h2 := par_ok hs hl hp (by omega) (show i < k by omega) t
  have e : ((List.range s.things.length).map (parV s l i)).getD t (0, 0) = parV s l i t := by
    rw [List.getD_eq_getElem?_getD, List.getElem?_map, List.getElem?_range (by simpa using ht)]; rfl
  rw [e]
  have h3 := mul_bound (hb.back i) (show 0 ≤ (parV s l i t).1 ∧ (parV s l i t).1 ≤ 1000000 by omega)
  have h4 := mul_bound (hb.back i) (show 0 ≤ (parV s l i t).2 ∧ (parV s l i t).2 ≤ 1000000 by omega)
  omega
/-- A batch that is looked at is the i-th one, after the first k. -/
def BoOk (B : Nat) (w : World) (s : Shop) (l : List Bat) (k i : Nat) (x : BO) : Prop :=
  x.wt = weightV (l.getD i default) ∧ x.tk = takenV l i k ∧ x.mi = micV s l i ∧ x.pa = parV s l i ∧ BatAt B w x.vg x.vb x.va (l.getD i default)
/-- What lies in the world of melt: k batches that are looked at, the shop's box, the list's box. -/
structure MS (B : Nat) (w : World) (k : Nat) (g : Nat → Nat) (bo : Nat → BO) (gs ga : Nat) (vt vl va : Value) (wr : World) : Prop where
  bel : Below B w wr
  le : B ≤ wr.heap.size
  obj : ∀ i, i < k → wr.heap[g i]? = some (.cells (bo i).c 111)
  inj : ∀ i j, i < k → j < k → g i = g j → i = j
  ge : ∀ i, i < k → B ≤ g i
  sh : wr.heap[gs]? = some (.cells #[vt, vl] 25)
  shB : B ≤ gs
  al : wr.heap[ga]? = some (.cells #[va] 103)
  alB : B ≤ ga
  row : wr.ownsRow B 106 1 va k ((List.range k).map fun i => .pointer (some ⟨g i, 0, none⟩))
section
variable {B : Nat} {w wr w' : World} {k : Nat} {g : Nat → Nat} {bo : Nat → BO} {gs ga : Nat} {vt vl va : Value}
theorem MS.call (h : MS B w k g bo gs ga vt vl va wr) (hb : Below wr.heap.size wr w') : MS B w k g bo gs ga vt vl va w' :=
  ⟨h.bel.trans (hb.mono h.le), Nat.le_trans h.le hb.size, fun i hi => block_keep (h.obj i hi) hb, h.inj, h.ge, block_keep h.sh hb, h.shB, block_keep h.al hb, h.alB, ownsRow.below h.row hb⟩
theorem MS.alloc (h : MS B w k g bo gs ga vt vl va wr) (o : Obj) : MS B w k g bo gs ga vt vl va (wr.alloc o) := h.call ((Below.refl _ _).alloc (Nat.le_refl _) o)
theorem MS.drew (h : MS B w k g bo gs ga vt vl va wr) (n : Nat) : MS B w k g bo gs ga vt vl va (wr.drewN n) := h.call (below_drewN (Below.refl _ _) n)
theorem MS.lt (h : MS B w k g bo gs ga vt vl va wr) {i : Nat} (hi : i < k) : g i < wr.heap.size := block_lt (h.obj i hi)
/-- A block of a batch that is not yet in the list is turned. -/
theorem MS.but (h : MS B w k g bo gs ga vt vl va wr) {gb : Nat} (hb : But gb wr w') (hB : B ≤ gb) {cs : Array Value} (hg : wr.heap[gb]? = some (.cells cs 111)) (hne : ∀ i, i < k → g i ≠ gb) : MS B w k g bo gs ga vt vl va w' := by
  have keep : ∀ {q : Nat} {c : Array Value} {t : TypeId}, wr.heap[q]? = some (.cells c t) → t ≠ 111 → w'.heap[q]? = some (.cells c t) := by
    intro q c t hq ht
    rw [hb.block q (block_lt hq) (by rintro rfl; rw [hg] at hq; cases hq; exact ht rfl)]
    exact hq
  exact ⟨h.bel.trans (hb.below hB h.le), Nat.le_trans h.le hb.size, fun i hi => (hb.block _ (h.lt hi) (hne i hi)).trans (h.obj i hi), h.inj, h.ge, keep h.sh (by decide), h.shB, keep h.al (by decide), h.alB, ownsRow.but h.row hb hg (by decide)⟩
/-- One of the batches is turned. -/
theorem MS.turn (h : MS B w k g bo gs ga vt vl va wr) {i : Nat} (hi : i < k) (hb : But (g i) wr w') {x : BO} (hx : w'.heap[g i]? = some (.cells x.c 111)) : MS B w k g (upm bo i x) gs ga vt vl va w' := by
  have keep : ∀ {q : Nat} {c : Array Value} {t : TypeId}, wr.heap[q]? = some (.cells c t) → t ≠ 111 → w'.heap[q]? = some (.cells c t) := by
    intro q c t hq ht
    rw [hb.block q (block_lt hq) (by rintro rfl; rw [h.obj i hi] at hq; cases hq; exact ht rfl)]
    exact hq
  refine ⟨h.bel.trans (hb.below (h.ge i hi) h.le), Nat.le_trans h.le hb.size, fun j hj => ?_, h.inj, h.ge, keep h.sh (by decide), h.shB, keep h.al (by decide), h.alB, ownsRow.but h.row hb (h.obj i hi) (by decide)⟩
  unfold upm
  by_cases hji : j = i
  · subst hji; simpa using hx
  · rw [if_neg hji, hb.block _ (h.lt hj) (fun e => hji (h.inj j i hj hi e))]
    exact h.obj j hj
/-- The list has one batch more. -/
theorem MS.more (h : MS B w k g bo gs ga vt vl va wr) {gb : Nat} {x : BO} (hgb : wr.heap[gb]? = some (.cells x.c 111)) (hB : B ≤ gb) (hne : ∀ i, i < k → g i ≠ gb) {v' : Value} {w1 : World}
    (hown : w1.ownsRow B 106 1 v' (k + 1) ((List.range k).map (fun i => .pointer (some ⟨g i, 0, none⟩)) ++ [.pointer (some ⟨gb, 0, none⟩)])) (hgr : wr.grownBy w1 va.ownBlock)
    (hb : But ga w1 w') (ha : w'.heap[ga]? = some (.cells #[v'] 103)) : MS B w (k + 1) (upm g k gb) (upm bo k x) gs ga vt vl v' w' := by
  have k1 : ∀ {q : Nat} {c : Array Value} {t : TypeId}, wr.heap[q]? = some (.cells c t) → t ≠ 106 → w1.heap[q]? = some (.cells c t) := fun hq ht => grown_keep h.row hgr hq ht
  have a1 := k1 h.al (by decide)
  have keep : ∀ {q : Nat} {c : Array Value} {t : TypeId}, wr.heap[q]? = some (.cells c t) → t ≠ 106 → t ≠ 103 → w'.heap[q]? = some (.cells c t) := by
    intro q c t hq h6 h3
    have := k1 hq h6
    rw [hb.block q (block_lt this) (by rintro rfl; rw [a1] at this; cases this; exact h3 rfl)]
    exact this
  refine ⟨(h.bel.trans (grown_below h.row hgr (Nat.le_refl _) h.le)).trans (hb.below h.alB (Nat.le_trans h.le hgr.size)), Nat.le_trans h.le (Nat.le_trans hgr.size hb.size), fun j hj => ?_, fun i j hi hj => ?_, fun i hi => ?_, keep h.sh (by decide) (by decide), h.shB, ha, h.alB, ?_⟩
  · unfold upm
    by_cases hjk : j = k
    · subst hjk; simpa using keep hgb (by decide) (by decide)
    · rw [if_neg hjk, if_neg hjk]
      exact keep (h.obj j (by omega)) (by decide) (by decide)
  · unfold upm
    by_cases hik : i = k <;> by_cases hjk : j = k
    · intro _; omega
    · rw [if_pos hik, if_neg hjk]
      intro e
      exact absurd e.symm (hne j (by omega))
    · rw [if_neg hik, if_pos hjk]
      intro e
      exact absurd e (hne i (by omega))
    · rw [if_neg hik, if_neg hjk]
      exact h.inj i j (by omega) (by omega)
  · unfold upm
    by_cases hik : i = k
    · rw [if_pos hik]; exact hB
    · rw [if_neg hik]; exact h.ge i (by omega)
  · have e : (List.range (k + 1)).map (fun i => Value.pointer (some ⟨upm g k gb i, 0, none⟩)) = (List.range k).map (fun i => Value.pointer (some ⟨g i, 0, none⟩)) ++ [.pointer (some ⟨gb, 0, none⟩)] := by
      rw [List.range_succ, List.map_append]
      congr 1
      · apply List.map_congr_left
        intro i hi
        have : i < k := List.mem_range.1 hi
        unfold upm
        rw [if_neg (by omega)]
      · simp [upm]
    rw [e]
    exact ownsRow.but hown hb a1 (by decide)
/-- What the list's row says at a place. -/
theorem MS.ptr (h : MS B w k g bo gs ga vt vl va wr) {i : Nat} (hi : i < k) : ∃ b c, va = .slice (some ⟨b, 0, none⟩) k c ∧ k ≤ c ∧ b < wr.heap.size ∧ wr.cell? ⟨b, i, none⟩ = some (.pointer (some ⟨g i, 0, none⟩)) := by
  obtain ⟨a, c, e⟩ := ownsRow_slice h.row
  subst e
  obtain ⟨b, e2, hb, hc, hcell⟩ := ownsRow_cell h.row hi
  subst e2
  refine ⟨b, c, rfl, hc, hb, ?_⟩
  rw [hcell, List.getElem?_map, List.getElem?_range hi]
  rfl
/-- The parts of a batch, apart from another one. -/
theorem MS.parts (h : MS B w k g bo gs ga vt vl va wr) {i : Nat} (hi : i < k) {gb nt : Nat} (hne : g i ≠ gb) (hnt : nt ≤ 5) {c : Nat} : SpansBut gb wr (.slice (some ⟨g i, 15, none⟩) nt c) ((List.range nt).map (bo i).pa) := by
  refine ⟨some ⟨g i, 15, none⟩, c, by simp, .inr ⟨g i, 15, rfl, h.lt hi, hne, fun t ht => ?_⟩⟩
  have ht' : t < nt := by simpa using ht
  have e : ((List.range nt).map (bo i).pa).getD t (0, 0) = (bo i).pa t := by rw [List.getD_eq_getElem?_getD, List.getElem?_map, List.getElem?_range ht']; rfl
  rw [e]
  exact ⟨(cell_of_row _ _ _ _ _ _ (h.obj i hi)).trans ((bo i).plo (by omega)), (cell_of_row _ _ _ _ _ _ (h.obj i hi)).trans ((bo i).phi (by omega))⟩
end
end Go.Proofs.Ytaigbhhmmdfdcaa
/- The batch of melt: its lists' lengths. -/
namespace Go.Proofs.Ytaigbhhmmdfdcaa
open Go.RowKit
def bo0 (vg vb va : Value) : BO := ⟨vg, vb, va, 0, 0, fun _ => (0, 0), fun _ => (0, 0)⟩
/-- What a batch's look leaves. -/
def NextPost (B : Nat) (w : World) (s : Shop) (l : List Bat) (k gs ga : Nat) (vt vl : Value) : Ending → World → Prop := fun e w' =>
  e = .returned (.int .i64 (batchE s l k)) ∧ Below B w w' ∧ (∃ va, w'.heap[ga]? = some (.cells #[va] 103)) ∧ (batchE s l k = 0 → ∃ g bo va, MS B w (k + 1) g bo gs ga vt vl va w' ∧ ∀ i, i < k + 1 → BoOk B w s l (k + 1) i (bo i))
theorem ints_shape {k : IntKind} {B : Nat} {w : World} {v : Value} {l : List Int} (h : IntsIn k B w v l) : ∃ a c, v = .slice a l.length c ∧ l.length ≤ 1000000000000000 := by
  obtain ⟨a, c, e, h1, -⟩ := h
  exact ⟨a, c, e, h1⟩
theorem lenE {s : Shop} {l : List Bat} {k : Nat} (h : (l.getD k default).grams.length ≠ s.lots.length ∨ k < (l.getD k default).back.length ∨ (l.getD k default).added.length ≠ s.things.length) : batchE s l k = 3 := by
  unfold batchE batchE0
  rw [if_pos h]
  simp
set_option maxRecDepth 100000 in
set_option maxHeartbeats 16000000 in
theorem next_len (B : Nat) (w wr : World) (s : Shop) (l : List Bat) (k : Nat) (g : Nat → Nat) (bo : Nat → BO) (gs ga : Nat) (vt vl va vg vb vd : Value) (hv : ShopAt B w vt vl s) (hM : MS B w k g bo gs ga vt vl va wr) (hx : BatAt B w vg vb vd (l.getD k default))
    (h : (l.getD k default).grams.length ≠ s.lots.length ∨ k < (l.getD k default).back.length ∨ (l.getD k default).added.length ≠ s.things.length) :
    Calls Try.prog 95 #[.int .i64 k, .agg #[vg, vb, vd], .pointer (some ⟨gs, 0, none⟩), .pointer (some ⟨ga, 0, none⟩)] wr (NextPost B w s l k gs ga vt vl) := by
  have HE := Lib.hid (lenE h)
  obtain ⟨sa, sc, rfl, -, hnt⟩ := sl_shape hv.1
  obtain ⟨ka, kc, rfl, -, hnl⟩ := sl_shape hv.2
  obtain ⟨a1, c1, rfl, h1⟩ := ints_shape hx.1
  obtain ⟨a2, c2, rfl, h2⟩ := ints_shape hx.2.1
  obtain ⟨a3, c3, rfl, -, h3⟩ := sl_shape hx.2.2
  unfold NextPost
  rw [HE.out]
  have HM := Lib.hid hM
  clear hM hx hv HE
  generalize (l.getD k default).grams.length = n1 at *
  generalize (l.getD k default).back.length = n2 at *
  generalize (l.getD k default).added.length = n3 at *
  generalize s.lots.length = nl at *
  generalize s.things.length = nt at *
  have HM1 := Lib.hid ((HM.out.alloc (.cells #[.slice a1 n1 c1, .slice a2 n2 c2, .slice a3 n3 c3] 75)).alloc (.cells (bo0 (.slice a1 n1 c1) (.slice a2 n2 c2) (.slice a3 n3 c3)).c 111))
  have h0 := cell_of_row _ _ 0 _ _ _ HM.out.sh
  have h1 := cell_of_row _ _ 1 _ _ _ HM.out.sh
  have hgs := block_lt HM.out.sh
  have HB := Lib.hid HM1.out.bel
  rcases h with h | h
  · have hq1 : ((n1 : Int) != (nl : Int)) = true := by simp; omega
    clear h
    go_enter Try.func95, Try.ntmps95
    go_wp2_with fail
    go_quiet (fail)
    simp only [Exit.then]
    go_wp2_with fail
    go_ret
    exact ⟨rfl, below_drewN HB.out _, ⟨_, (HM1.out.drew _).al⟩, fun h => (by simp at h)⟩
  · by_cases hq : n1 = nl
    case neg =>
      have hq1 : ((n1 : Int) != (nl : Int)) = true := by simp; omega
      clear h hq
      go_enter Try.func95, Try.ntmps95
      go_wp2_with fail
      go_quiet (fail)
      simp only [Exit.then]
      go_wp2_with fail
      go_ret
      exact ⟨rfl, below_drewN HB.out _, ⟨_, (HM1.out.drew _).al⟩, fun h => (by simp at h)⟩
    subst hq
    have hq1 : ((n1 : Int) != (n1 : Int)) = false := by simp
    rcases h with h | h
    · have hq2 : decide (k < n2) = true := decide_eq_true (by omega)
      clear h
      go_enter Try.func95, Try.ntmps95
      go_wp2_with fail
      go_quiet (fail)
      simp only [Exit.then]
      go_wp2_with fail
      go_ret
      exact ⟨rfl, below_drewN HB.out _, ⟨_, (HM1.out.drew _).al⟩, fun h => (by simp at h)⟩
    · have hq3 : ((n3 : Int) != (nt : Int)) = true := by simp; omega
      clear h
      by_cases h2 : k < n2
      · have hq2 : decide (k < n2) = true := decide_eq_true (by omega)
        clear h2
        go_enter Try.func95, Try.ntmps95
        go_wp2_with fail
        go_quiet (fail)
        simp only [Exit.then]
        go_wp2_with fail
        go_ret
        exact ⟨rfl, below_drewN HB.out _, ⟨_, (HM1.out.drew _).al⟩, fun h => (by simp at h)⟩
      · have hq2 : decide (k < n2) = false := decide_eq_false (by omega)
        clear h2
        go_enter Try.func95, Try.ntmps95
        go_wp2_with fail
        go_quiet (fail)
        simp only [Exit.then]
        go_wp2_with fail
        go_ret
        exact ⟨rfl, below_drewN HB.out _, ⟨_, (HM1.out.drew _).al⟩, fun h => (by simp at h)⟩
end Go.Proofs.Ytaigbhhmmdfdcaa
