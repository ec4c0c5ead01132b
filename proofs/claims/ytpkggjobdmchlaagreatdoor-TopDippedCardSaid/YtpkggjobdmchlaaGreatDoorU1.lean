/- wick.out; slices.IndexFunc and ContainsFunc at wicks, waxes and ranges; wick.must, wick.turned. -/
import Derived.Test.YtpkggjobdmchlaaGreatDoorK2
import Derived.Test.YtpkggjobdmchlaaGreatDoorV1
namespace Go.Proofs.YtpkggjobdmchlaaGreatDoor
open Go.RowKit
theorem kout1_any (x lo hi : Int) (b1 b2 : Nat) (w : World) (h1 : w.cell? ⟨b1, 0, none⟩ = some (.int .i64 lo)) (h2 : w.cell? ⟨b2, 0, none⟩ = some (.int .i64 hi)) :
    Calls Tryz.prog 93 #[.int .i64 x, .pointer (some ⟨b1, 0, none⟩), .pointer (some ⟨b2, 0, none⟩)] w
      fun e w' => e = .returned (.bool (outOne lo hi x)) ∧ w = w' := by
  unfold outOne
  go_enter Tryz.func93, Tryz.ntmps93
  by_cases h : x < lo
  · go_wp2
    go_ret
    exact ⟨by simp [h], rfl⟩
  · go_wp2
    go_ret
    exact ⟨by simp; omega, rfl⟩
set_option maxHeartbeats 400000 in
theorem kindex_any (l : List Int) (v : Value) (lo hi : Int) (b1 b2 : Nat) (w : World) (B : Nat) (hv : IntsIn .i64 B w v l)
    (h1 : w.cell? ⟨b1, 0, none⟩ = some (.int .i64 lo)) (h2 : w.cell? ⟨b2, 0, none⟩ = some (.int .i64 hi)) :
    Calls Tryz.prog 113 #[v, .func (.func 93) #[] #[.pointer (some ⟨b1, 0, none⟩), .pointer (some ⟨b2, 0, none⟩)]] w
      fun e w' => (∃ k : Int, e = .returned (.int .i64 k) ∧ decide (0 ≤ k) = outB lo hi l) ∧ w = w' := by
  obtain ⟨a, c, rfl, hl, hv⟩ := hv
  go_enter Tryz.func113, Tryz.ntmps113
  go_wp2
  go_loop [8] (fun i => ∃ k : Nat, k ≤ l.length ∧ i = .int .i64 k ∧ outB lo hi l = outB lo hi (l.drop k)) (fun i => l.length - (intOf i).toNat)
  case atStart => exact ⟨0, by omega, rfl, by simp⟩
  case round =>
    obtain ⟨k, hk, rfl, ho⟩ := hrel
    have HO := Lib.hid ho
    clear ho
    by_cases hlt : k < l.length
    · obtain ⟨b, o, rfl, _, hc⟩ : ∃ b o, a = some ⟨b, o, none⟩ ∧ b < B ∧ ∀ i, i < l.length → w.cell? ⟨b, o + i, none⟩ = some (.int .i64 (l.getD i 0)) := by
        rcases hv with rfl | h
        · simp at hlt
        · exact h
      have hc' := hc k hlt
      have H3 := Lib.hid (outB_cons lo hi l k hlt)
      generalize l.getD k 0 = x at hc' H3
      clear hc hv
      by_cases hx : outOne lo hi x = true
      · go_wp2_with (go_at_call 93; refine (kout1_any _ _ _ _ _ _ h1 h2).mono ?_; rintro e w' ⟨rfl, rfl⟩)
        go_ret
        exact ⟨⟨_, rfl, by rw [HO.out, H3.out, hx]; simp⟩, rfl⟩
      · have hx' : outOne lo hi x = false := by simpa using hx
        go_wp2_with (go_at_call 93; refine (kout1_any _ _ _ _ _ _ h1 h2).mono ?_; rintro e w' ⟨rfl, rfl⟩)
        go_round
        case rel => exact ⟨k + 1, by omega, by go_num, by rw [HO.out, H3.out, hx']; simp⟩
        case measure => simp [intOf]; omega
    · have : k = l.length := by omega
      go_wp2
      go_ret
      exact ⟨⟨_, rfl, by rw [HO.out, this]; simp [outB]⟩, rfl⟩
theorem kcontains_any (l : List Int) (v : Value) (lo hi : Int) (b1 b2 : Nat) (w : World) (B : Nat) (hv : IntsIn .i64 B w v l)
    (h1 : w.cell? ⟨b1, 0, none⟩ = some (.int .i64 lo)) (h2 : w.cell? ⟨b2, 0, none⟩ = some (.int .i64 hi)) :
    Calls Tryz.prog 81 #[v, .func (.func 93) #[] #[.pointer (some ⟨b1, 0, none⟩), .pointer (some ⟨b2, 0, none⟩)]] w
      fun e w' => e = .returned (.bool (outB lo hi l)) ∧ w = w' := by
  go_enter Tryz.func81, Tryz.ntmps81
  go_wp2_with (go_at_call 113; refine (kindex_any l v lo hi b1 b2 _ B hv h1 h2).mono ?_; rintro e w' ⟨⟨k, rfl, hk⟩, rfl⟩; have HK := Lib.hid hk; clear hk)
  go_ret
  exact ⟨ret_bool HK.out, rfl⟩
theorem kout_any (lo hi : Int) (l : List Int) (v : Value) (w : World) (hv : IntsIn .i64 w.heap.size w v l) :
    Calls Tryz.prog 60 #[.int .i64 lo, .int .i64 hi, v] w fun e w' => e = .returned (.bool (outB lo hi l)) ∧ Below w.heap.size w w' := by
  have hb := (((Below.refl w.heap.size w).alloc (Nat.le_refl _) (.cells #[.int .i64 lo] 3)).alloc (by simp) (.cells #[.int .i64 hi] 3))
  have H := Lib.hid (hv.below hb)
  clear hv
  go_enter Tryz.func60, Tryz.ntmps60
  go_wp2_with (go_at_call 81; refine (kcontains_any l v lo hi _ _ _ _ H.out (by simp) (by simp)).mono ?_; rintro e w' ⟨rfl, rfl⟩)
  go_ret
  exact ⟨rfl, hb⟩
theorem kout_r (r : Bool) (lo hi : Int) (l : List Int) (hr : outB lo hi l = r) (v : Value) (w : World) (B : Nat) (hv : IntsIn .i64 B w v l) (hB : B ≤ w.heap.size) :
    Calls Tryz.prog 60 #[.int .i64 lo, .int .i64 hi, v] w fun e w' => e = .returned (.bool r) ∧ Below w.heap.size w w' := by
  subst hr; exact kout_any lo hi l v w (hv.mono hB)
/-- wick.out at numbers that lie in a block alone. -/
theorem kout_row (r : Bool) (lo hi : Int) (l : List Int) (n : Nat) (hn : l.length = n) (hl : l.length ≤ 1000) (hr : outB lo hi l = r) (g : Nat) (cs : Array Value) (hcs : cs = ints l) (w : World) (h : w.heap[g]? = some (.cells cs 3)) :
    Calls Tryz.prog 60 #[.int .i64 lo, .int .i64 hi, .slice (some ⟨g, 0, none⟩) n n] w fun e w' => e = .returned (.bool r) ∧ Below w.heap.size w w' := by
  subst hn hcs
  refine kout_r r lo hi l hr _ w w.heap.size ⟨_, _, rfl, by omega, .inr ⟨g, 0, rfl, block_lt h, fun i hi => ?_⟩⟩ (Nat.le_refl _)
  rw [cell_of_row w g _ _ _ _ h, Nat.zero_add, ints_get _ _ hi]
theorem outB_one (lo hi x : Int) : outB lo hi [x] = outOne lo hi x := by simp [outB]
theorem outB_in {lo hi : Int} {l : List Int} (h : ∀ x ∈ l, lo ≤ x ∧ x ≤ hi) : outB lo hi l = false := by
  unfold outB
  rw [List.any_eq_false]
  intro x hx
  have := h x hx
  simp [outOne]; omega

set_option maxHeartbeats 2000000 in
theorem idxWick_any (p q : Option Addr) (l : List Wick) (test : Wick → Bool) (v : Value) (w : World) (hv : WicksIn w.heap.size w v l)
    (hf : ∀ k W, k < l.length → Below w.heap.size w W → Calls Tryz.prog 127 #[.agg #[.string (l.getD k default).name, .int .i64 (l.getD k default).threads, .int .i64 (l.getD k default).pull.1, .int .i64 (l.getD k default).pull.2], .pointer p, .pointer q] W fun e W' => e = .returned (.bool (test (l.getD k default))) ∧ Below W.heap.size W W') :
    Calls Tryz.prog 148 #[v, .func (.func 127) #[] #[.pointer p, .pointer q]] w
      fun e w' => (∃ k : Int, e = .returned (.int .i64 k) ∧ decide (0 ≤ k) = l.any test) ∧ Below w.heap.size w w' := by
  have HV := Lib.hid hv
  have HFN := Lib.hid hf
  obtain ⟨a, c, rfl, hl, hlc, -⟩ := hv
  clear hf
  go_enter Tryz.func148, Tryz.ntmps148
  go_wp2_with fail
  go_loopw [8] (fun i wr => ∃ k : Nat, k ≤ l.length ∧ i = .int .i64 k ∧ Below w.heap.size w wr ∧ l.any test = (l.drop k).any test) (fun i _ => l.length - (intOf i).toNat)
  case atStart => exact ⟨0, by omega, rfl, Below.refl _ _, by simp⟩
  case round =>
    obtain ⟨k, hk, rfl, hb, hf⟩ := hrel
    have HF := Lib.hid hf
    clear hf
    by_cases hkl : k < l.length
    · obtain ⟨b', o, c', hvv, -, hbB, hc1, hc2, hc3, hc4, -⟩ := (HV.out.below hb).at hkl
      cases hvv
      have HD : Hid ((l.drop k).any test = (test (l.getD k default) || (l.drop (k + 1)).any test)) := by
        unfold Hid
        rw [List.drop_eq_getElem_cons hkl, List.any_cons]
        simp [List.getD, hkl]
      have HC := Lib.hid (HFN.out k wr hkl hb)
      generalize l.getD k default = y at *
      simp only [rdWick] at hc1 hc2 hc3 hc4
      obtain ⟨r, hr⟩ : ∃ r, test y = r := ⟨_, rfl⟩
      rw [hr] at HC
      have HR := Lib.hid hr
      clear hr
      have hsz := hb.size
      have HB := Lib.hid hb
      clear hb
      cases r
      · go_wp2_with fail
        refine HC.out.mono ?_
        rintro e w' ⟨rfl, hbw⟩
        go_wp2_with fail
        go_roundw
        case rel => exact ⟨k + 1, by omega, by go_num, HB.out.trans (hbw.mono HB.out.size), by rw [HF.out, HD.out, HR.out]; simp⟩
        case measure => simp [intOf]; omega
      · go_wp2_with fail
        refine HC.out.mono ?_
        rintro e w' ⟨rfl, hbw⟩
        go_wp2_with fail
        go_ret
        exact ⟨⟨_, rfl, by rw [HF.out, HD.out, HR.out]; simp⟩, HB.out.trans (hbw.mono HB.out.size)⟩
    · have : k = l.length := by omega
      go_wp2_with fail
      go_ret
      exact ⟨⟨_, rfl, by rw [HF.out, this]; simp⟩, hb⟩
theorem hasWick_any (p q : Option Addr) (r : Bool) (l : List Wick) (test : Wick → Bool) (v : Value) (w : World) (hv : WicksIn w.heap.size w v l)
    (hf : ∀ k W, k < l.length → Below w.heap.size w W → Calls Tryz.prog 127 #[.agg #[.string (l.getD k default).name, .int .i64 (l.getD k default).threads, .int .i64 (l.getD k default).pull.1, .int .i64 (l.getD k default).pull.2], .pointer p, .pointer q] W fun e W' => e = .returned (.bool (test (l.getD k default))) ∧ Below W.heap.size W W') (hr : l.any test = r) :
    Calls Tryz.prog 126 #[v, .func (.func 127) #[] #[.pointer p, .pointer q]] w fun e w' => e = .returned (.bool r) ∧ Below w.heap.size w w' := by
  have HR := Lib.hid hr
  have HX := Lib.hid (idxWick_any p q l test v w hv hf)
  clear hr hf
  go_enter Tryz.func126, Tryz.ntmps126
  go_wp2_with fail
  refine HX.out.mono ?_
  rintro e w' ⟨⟨k, rfl, hk⟩, hbw⟩
  have HK := Lib.hid hk
  clear hk
  go_wp2_with fail
  go_ret
  exact ⟨ret_bool (HK.out.trans HR.out), hbw⟩

set_option maxHeartbeats 2000000 in
theorem idxWax_any (p q : Option Addr) (l : List Wax) (test : Wax → Bool) (v : Value) (w : World) (hv : WaxesIn w.heap.size w v l)
    (hf : ∀ k W, k < l.length → Below w.heap.size w W → Calls Tryz.prog 129 #[.agg #[.string (l.getD k default).name, .int .i64 (l.getD k default).flow.1, .int .i64 (l.getD k default).flow.2, .int .i64 (l.getD k default).rise.1, .int .i64 (l.getD k default).rise.2, .int .i64 (l.getD k default).spread.1, .int .i64 (l.getD k default).spread.2, .int .i64 (l.getD k default).chill], .pointer p, .pointer q] W fun e W' => e = .returned (.bool (test (l.getD k default))) ∧ Below W.heap.size W W') :
    Calls Tryz.prog 149 #[v, .func (.func 129) #[] #[.pointer p, .pointer q]] w
      fun e w' => (∃ k : Int, e = .returned (.int .i64 k) ∧ decide (0 ≤ k) = l.any test) ∧ Below w.heap.size w w' := by
  have HV := Lib.hid hv
  have HFN := Lib.hid hf
  obtain ⟨a, c, rfl, hl, hlc, -⟩ := hv
  clear hf
  go_enter Tryz.func149, Tryz.ntmps149
  go_wp2_with fail
  go_loopw [8] (fun i wr => ∃ k : Nat, k ≤ l.length ∧ i = .int .i64 k ∧ Below w.heap.size w wr ∧ l.any test = (l.drop k).any test) (fun i _ => l.length - (intOf i).toNat)
  case atStart => exact ⟨0, by omega, rfl, Below.refl _ _, by simp⟩
  case round =>
    obtain ⟨k, hk, rfl, hb, hf⟩ := hrel
    have HF := Lib.hid hf
    clear hf
    by_cases hkl : k < l.length
    · obtain ⟨b', o, c', hvv, -, hbB, hc1, hc2, hc3, hc4, hc5, hc6, hc7, hc8, -⟩ := (HV.out.below hb).at hkl
      cases hvv
      have HD : Hid ((l.drop k).any test = (test (l.getD k default) || (l.drop (k + 1)).any test)) := by
        unfold Hid
        rw [List.drop_eq_getElem_cons hkl, List.any_cons]
        simp [List.getD, hkl]
      have HC := Lib.hid (HFN.out k wr hkl hb)
      generalize l.getD k default = y at *
      simp only [rdWax] at hc1 hc2 hc3 hc4 hc5 hc6 hc7 hc8
      obtain ⟨r, hr⟩ : ∃ r, test y = r := ⟨_, rfl⟩
      rw [hr] at HC
      have HR := Lib.hid hr
      clear hr
      have hsz := hb.size
      have HB := Lib.hid hb
      clear hb
      cases r
      · go_wp2_with fail
        refine HC.out.mono ?_
        rintro e w' ⟨rfl, hbw⟩
        go_wp2_with fail
        go_roundw
        case rel => exact ⟨k + 1, by omega, by go_num, HB.out.trans (hbw.mono HB.out.size), by rw [HF.out, HD.out, HR.out]; simp⟩
        case measure => simp [intOf]; omega
      · go_wp2_with fail
        refine HC.out.mono ?_
        rintro e w' ⟨rfl, hbw⟩
        go_wp2_with fail
        go_ret
        exact ⟨⟨_, rfl, by rw [HF.out, HD.out, HR.out]; simp⟩, HB.out.trans (hbw.mono HB.out.size)⟩
    · have : k = l.length := by omega
      go_wp2_with fail
      go_ret
      exact ⟨⟨_, rfl, by rw [HF.out, this]; simp⟩, hb⟩
theorem hasWax_any (p q : Option Addr) (r : Bool) (l : List Wax) (test : Wax → Bool) (v : Value) (w : World) (hv : WaxesIn w.heap.size w v l)
    (hf : ∀ k W, k < l.length → Below w.heap.size w W → Calls Tryz.prog 129 #[.agg #[.string (l.getD k default).name, .int .i64 (l.getD k default).flow.1, .int .i64 (l.getD k default).flow.2, .int .i64 (l.getD k default).rise.1, .int .i64 (l.getD k default).rise.2, .int .i64 (l.getD k default).spread.1, .int .i64 (l.getD k default).spread.2, .int .i64 (l.getD k default).chill], .pointer p, .pointer q] W fun e W' => e = .returned (.bool (test (l.getD k default))) ∧ Below W.heap.size W W') (hr : l.any test = r) :
    Calls Tryz.prog 128 #[v, .func (.func 129) #[] #[.pointer p, .pointer q]] w fun e w' => e = .returned (.bool r) ∧ Below w.heap.size w w' := by
  have HR := Lib.hid hr
  have HX := Lib.hid (idxWax_any p q l test v w hv hf)
  clear hr hf
  go_enter Tryz.func128, Tryz.ntmps128
  go_wp2_with fail
  refine HX.out.mono ?_
  rintro e w' ⟨⟨k, rfl, hk⟩, hbw⟩
  have HK := Lib.hid hk
  clear hk
  go_wp2_with fail
  go_ret
  exact ⟨ret_bool (HK.out.trans HR.out), hbw⟩

set_option maxHeartbeats 2000000 in
theorem idxSpanK_any (l : List (Int × Int)) (test : (Int × Int) → Bool) (v : Value) (w : World) (hv : SpansIn w.heap.size w v l)
    (hf : ∀ k W, k < l.length → Below w.heap.size w W → Calls Tryz.prog 112 #[.agg #[.int .i64 (l.getD k default).1, .int .i64 (l.getD k default).2]] W fun e W' => e = .returned (.bool (test (l.getD k default))) ∧ Below W.heap.size W W') :
    Calls Tryz.prog 130 #[v, .func (.func 112) #[] #[]] w
      fun e w' => (∃ k : Int, e = .returned (.int .i64 k) ∧ decide (0 ≤ k) = l.any test) ∧ Below w.heap.size w w' := by
  have HV := Lib.hid hv
  have HFN := Lib.hid hf
  obtain ⟨a, c, rfl, hl, hlc, -⟩ := hv
  clear hf
  go_enter Tryz.func130, Tryz.ntmps130
  go_wp2_with fail
  go_loopw [8] (fun i wr => ∃ k : Nat, k ≤ l.length ∧ i = .int .i64 k ∧ Below w.heap.size w wr ∧ l.any test = (l.drop k).any test) (fun i _ => l.length - (intOf i).toNat)
  case atStart => exact ⟨0, by omega, rfl, Below.refl _ _, by simp⟩
  case round =>
    obtain ⟨k, hk, rfl, hb, hf⟩ := hrel
    have HF := Lib.hid hf
    clear hf
    by_cases hkl : k < l.length
    · obtain ⟨b', o, c', hvv, -, hbB, hc1, hc2⟩ := (HV.out.below hb).at hkl
      cases hvv
      have HD : Hid ((l.drop k).any test = (test (l.getD k default) || (l.drop (k + 1)).any test)) := by
        unfold Hid
        rw [List.drop_eq_getElem_cons hkl, List.any_cons]
        simp [List.getD, hkl]
      have HC := Lib.hid (HFN.out k wr hkl hb)
      generalize l.getD k default = y at *
      simp only [rdSpan] at hc1 hc2
      obtain ⟨r, hr⟩ : ∃ r, test y = r := ⟨_, rfl⟩
      rw [hr] at HC
      have HR := Lib.hid hr
      clear hr
      have hsz := hb.size
      have HB := Lib.hid hb
      clear hb
      cases r
      · go_wp2_with fail
        refine HC.out.mono ?_
        rintro e w' ⟨rfl, hbw⟩
        go_wp2_with fail
        go_roundw
        case rel => exact ⟨k + 1, by omega, by go_num, HB.out.trans (hbw.mono HB.out.size), by rw [HF.out, HD.out, HR.out]; simp⟩
        case measure => simp [intOf]; omega
      · go_wp2_with fail
        refine HC.out.mono ?_
        rintro e w' ⟨rfl, hbw⟩
        go_wp2_with fail
        go_ret
        exact ⟨⟨_, rfl, by rw [HF.out, HD.out, HR.out]; simp⟩, HB.out.trans (hbw.mono HB.out.size)⟩
    · have : k = l.length := by omega
      go_wp2_with fail
      go_ret
      exact ⟨⟨_, rfl, by rw [HF.out, this]; simp⟩, hb⟩
theorem hasSpanK_any (r : Bool) (l : List (Int × Int)) (test : (Int × Int) → Bool) (v : Value) (w : World) (hv : SpansIn w.heap.size w v l)
    (hf : ∀ k W, k < l.length → Below w.heap.size w W → Calls Tryz.prog 112 #[.agg #[.int .i64 (l.getD k default).1, .int .i64 (l.getD k default).2]] W fun e W' => e = .returned (.bool (test (l.getD k default))) ∧ Below W.heap.size W W') (hr : l.any test = r) :
    Calls Tryz.prog 111 #[v, .func (.func 112) #[] #[]] w fun e w' => e = .returned (.bool r) ∧ Below w.heap.size w w' := by
  have HR := Lib.hid hr
  have HX := Lib.hid (idxSpanK_any l test v w hv hf)
  clear hr hf
  go_enter Tryz.func111, Tryz.ntmps111
  go_wp2_with fail
  refine HX.out.mono ?_
  rintro e w' ⟨⟨k, rfl, hk⟩, hbw⟩
  have HK := Lib.hid hk
  clear hk
  go_wp2_with fail
  go_ret
  exact ⟨ret_bool (HK.out.trans HR.out), hbw⟩

theorem must_ok (e : Int) (w : World) : Calls Tryz.prog 106 #[.bool true, .int .i64 e] w fun r w' => r = .returned (.tuple #[]) ∧ w = w' := by
  go_enter Tryz.func106, Tryz.ntmps106
  go_wp2
  exact bodyPost_end (results_none rfl _ _ _) rfl ⟨rfl, rfl⟩
theorem turned1_any (p : Int × Int) (w : World) : Calls Tryz.prog 112 #[.agg #[.int .i64 p.1, .int .i64 p.2]] w fun e w' => e = .returned (.bool (decide (p.2 < p.1))) ∧ Below w.heap.size w w' := by
  have hb := (Below.refl w.heap.size w).alloc (Nat.le_refl _) (.cells #[.int .i64 p.1, .int .i64 p.2] 25)
  go_enter Tryz.func112, Tryz.ntmps112
  go_wp2
  go_ret
  exact ⟨rfl, hb⟩
theorem turned_any (r : Bool) (l : List (Int × Int)) (v : Value) (w : World) (hv : SpansIn w.heap.size w v l) (hr : l.any (fun p => decide (p.2 < p.1)) = r) :
    Calls Tryz.prog 80 #[v] w fun e w' => e = .returned (.bool r) ∧ Below w.heap.size w w' := by
  have HR := Lib.hid hr
  clear hr
  have HX := Lib.hid (hasSpanK_any r l _ v w hv (fun k W _ _ => turned1_any _ W) HR.out)
  obtain ⟨a, c, rfl, -⟩ := hv
  go_enter Tryz.func80, Tryz.ntmps80
  go_wp2_with fail
  refine HX.out.mono ?_
  rintro e w' ⟨rfl, hbw⟩
  go_wp2_with fail
  go_ret
  exact ⟨rfl, hbw⟩
end Go.Proofs.YtpkggjobdmchlaaGreatDoor
/- Layer 4 plainly: shops, dips, tapers; how they lie in cells; dip.out. -/
namespace Go.Proofs.YtpkggjobdmchlaaGreatDoor
open Go.RowKit
structure DBath where
  name : ByteArray
  warm : Int × Int
instance : Inhabited DBath := ⟨⟨ByteArray.empty, (0, 0)⟩⟩
structure DShop where
  melt : Int
  coat : Int
  thin : Int
  hold : Int
  back : Int
  draw : Int
  set : Int
  run : Int
  baths : List DBath
structure DDip where
  bath : Int
  seconds : Int
  pause : Int
  turned : Bool
instance : Inhabited DDip := ⟨⟨0, 0, 0, false⟩⟩
structure DTap where
  wick : Int
  top : Int
  foot : Int
structure DRng where
  top : Int × Int
  foot : Int × Int
  skew : Int × Int
instance : Inhabited DRng := ⟨⟨(0, 0), (0, 0), (0, 0)⟩⟩
/-- A shop in order. -/
structure DOk (s : DShop) : Prop where
  melt : 0 ≤ s.melt ∧ s.melt ≤ 2000
  coat : 0 ≤ s.coat ∧ s.coat ≤ 5000
  thin : 0 ≤ s.thin ∧ s.thin ≤ 100
  back : 0 ≤ s.back ∧ s.back ≤ 10
  hold : 0 ≤ s.hold ∧ s.hold ≤ 600
  draw : 0 ≤ s.draw ∧ s.draw ≤ 600
  set : 0 ≤ s.set ∧ s.set ≤ 600
  run : 0 ≤ s.run ∧ s.run ≤ 50
  n1 : 1 ≤ s.baths.length
  n6 : s.baths.length ≤ 6
  name : ∀ i, i < s.baths.length → nameB (s.baths.getD i default).name = true
  twice : ∀ i, i < s.baths.length → (s.baths.take i).any (fun y => sameN y.name (s.baths.getD i default).name) = false
  warm : ∀ i, i < s.baths.length → s.melt ≤ (s.baths.getD i default).warm.1 ∧ (s.baths.getD i default).warm.1 ≤ (s.baths.getD i default).warm.2 ∧ (s.baths.getD i default).warm.2 ≤ 2000
/-- A dip in order. -/
structure DipOk (s : DShop) (d : DDip) : Prop where
  bath : 0 ≤ d.bath ∧ d.bath < s.baths.length
  seconds : 0 ≤ d.seconds ∧ d.seconds ≤ 600
  pause : 0 ≤ d.pause ∧ d.pause ≤ 600
  draw : s.draw < d.seconds
structure TapOk (t : DTap) : Prop where
  wick : 0 ≤ t.wick
  top : t.wick ≤ t.top ∧ t.top ≤ 100000
  foot : t.wick ≤ t.foot ∧ t.foot ≤ 100000
def rdDBath : Rd DBath where
  sz := 3
  rd _ w b o x := w.cell? ⟨b, o, none⟩ = some (.string x.name) ∧ x.name.size ≤ 1000000000000000 ∧ w.cell? ⟨b, o + 1, none⟩ = some (.int .i64 x.warm.1) ∧ w.cell? ⟨b, o + 2, none⟩ = some (.int .i64 x.warm.2)
  below hbb hb h := ⟨(hb.cell (p := ⟨_, _, none⟩) hbb).trans h.1, h.2.1, (hb.cell (p := ⟨_, _, none⟩) hbb).trans h.2.2.1, (hb.cell (p := ⟨_, _, none⟩) hbb).trans h.2.2.2⟩
  mono _ h := h
abbrev DBathsIn := SlIn rdDBath
def rdDip : Rd DDip where
  sz := 4
  rd _ w b o x := w.cell? ⟨b, o, none⟩ = some (.int .i64 x.bath) ∧ w.cell? ⟨b, o + 1, none⟩ = some (.int .i64 x.seconds) ∧ w.cell? ⟨b, o + 2, none⟩ = some (.int .i64 x.pause) ∧ w.cell? ⟨b, o + 3, none⟩ = some (.bool x.turned)
  below hbb hb h := ⟨(hb.cell (p := ⟨_, _, none⟩) hbb).trans h.1, (hb.cell (p := ⟨_, _, none⟩) hbb).trans h.2.1, (hb.cell (p := ⟨_, _, none⟩) hbb).trans h.2.2.1, (hb.cell (p := ⟨_, _, none⟩) hbb).trans h.2.2.2⟩
  mono _ h := h
abbrev DipsIn := SlIn rdDip
abbrev dshopC (x : DShop) (v : Value) : Array Value := #[.int .i64 x.melt, .int .i64 x.coat, .int .i64 x.thin, .int .i64 x.hold, .int .i64 x.back, .int .i64 x.draw, .int .i64 x.set, .int .i64 x.run, v]
abbrev dipC (d : DDip) : Array Value := #[.int .i64 d.bath, .int .i64 d.seconds, .int .i64 d.pause, .bool d.turned]
abbrev tapC (t : DTap) : Array Value := #[.int .i64 t.wick, .int .i64 t.top, .int .i64 t.foot]
abbrev rngC (r : DRng) : Array Value := #[.int .i64 r.top.1, .int .i64 r.top.2, .int .i64 r.foot.1, .int .i64 r.foot.2, .int .i64 r.skew.1, .int .i64 r.skew.2]
abbrev bathC (b : DBath) : Array Value := #[.string b.name, .int .i64 b.warm.1, .int .i64 b.warm.2]
theorem infoDS : (Tryz.prog.info? 30).map (·.size) = some 9 := by kernel_rfl
theorem infoDsh : (Tryz.prog.info? 106).map (·.size) = some 9 := by kernel_rfl
theorem infoDB : (Tryz.prog.info? 124).map (·.size) = some 3 := by kernel_rfl
theorem infoDD : (Tryz.prog.info? 54).map (·.size) = some 4 := by kernel_rfl
theorem infoDT : (Tryz.prog.info? 34).map (·.size) = some 3 := by kernel_rfl
theorem infoDR : (Tryz.prog.info? 95).map (·.size) = some 6 := by kernel_rfl
theorem infoInt1 : (Tryz.prog.info? 3).map (·.size) = some 1 := by kernel_rfl
/-- What a coat is. -/
def coatV (s : DShop) (over seconds : Int) : Int := s.coat - over * (s.thin + s.back * max 0 (seconds - s.hold))
def runV (s : DShop) (d : DDip) : Int := s.run * max 0 (s.set - d.pause)
/-- By how much the top and the foot grow. -/
def growV (s : DShop) (d : DDip) (warm : Int) : Int × Int :=
  if d.turned then (2 * (coatV s (warm - s.melt) d.seconds + runV s d), 2 * (coatV s (warm - s.melt) (d.seconds - s.draw) - runV s d))
  else (2 * (coatV s (warm - s.melt) (d.seconds - s.draw) - runV s d), 2 * (coatV s (warm - s.melt) d.seconds + runV s d))
def skewG (g : Int × Int) : Int := g.2 - g.1
def warmOf (s : DShop) (d : DDip) : Int × Int := (s.baths.getD d.bath.toNat default).warm
def coldV (s : DShop) (d : DDip) : Int × Int := growV s d (warmOf s d).1
def hotV (s : DShop) (d : DDip) : Int × Int := growV s d (warmOf s d).2
def leastV (s : DShop) (d : DDip) : (Int × Int) × Int := if skewG (hotV s d) < skewG (coldV s d) then (hotV s d, (warmOf s d).2) else (coldV s d, (warmOf s d).1)
def mostV (s : DShop) (d : DDip) : (Int × Int) × Int := if skewG (coldV s d) < skewG (hotV s d) then (hotV s d, (warmOf s d).2) else (coldV s d, (warmOf s d).1)
def afterV (s : DShop) (r : DRng) (d : DDip) : DRng :=
  ⟨(r.top.1 + (hotV s d).1, r.top.2 + (coldV s d).1), (r.foot.1 + (hotV s d).2, r.foot.2 + (coldV s d).2), (r.skew.1 + skewG (leastV s d).1, r.skew.2 + skewG (mostV s d).1)⟩
def beginV (t : DTap) : DRng := ⟨(t.top, t.top), (t.foot, t.foot), (t.foot - t.top, t.foot - t.top)⟩
theorem max0 (a : Int) (A : Int) (h : a ≤ A) (h0 : 0 ≤ A) : 0 ≤ max 0 a ∧ max 0 a ≤ A := by omega
theorem coat_bound {s : DShop} (hs : DOk s) {over sec : Int} (ho : 0 ≤ over ∧ over ≤ 2000) (hsec : sec ≤ 600) : -12200000 ≤ coatV s over sec ∧ coatV s over sec ≤ 5000 ∧ 0 ≤ s.back * max 0 (sec - s.hold) ∧ s.back * max 0 (sec - s.hold) ≤ 6000 ∧ 0 ≤ over * (s.thin + s.back * max 0 (sec - s.hold)) ∧ over * (s.thin + s.back * max 0 (sec - s.hold)) ≤ 12200000 := by
  have h1 := max0 (sec - s.hold) 600 (by have := hs.hold; omega) (by omega)
  have h2 := hs.back
  have h3 := hs.thin
  have h4 := hs.coat
  unfold coatV
  generalize max 0 (sec - s.hold) = m at *
  have h5 : 0 ≤ s.back * m ∧ s.back * m ≤ 10 * 600 := ⟨Int.mul_nonneg h2.1 h1.1, Int.le_trans (Int.mul_le_mul_of_nonneg_right h2.2 h1.1) (Int.mul_le_mul_of_nonneg_left h1.2 (by decide))⟩
  generalize s.back * m = q at *
  have h6 : 0 ≤ over * (s.thin + q) ∧ over * (s.thin + q) ≤ 2000 * 6100 := ⟨Int.mul_nonneg ho.1 (by omega), Int.le_trans (Int.mul_le_mul_of_nonneg_right ho.2 (by omega)) (Int.mul_le_mul_of_nonneg_left (by omega) (by decide))⟩
  omega
theorem run_bound {s : DShop} (hs : DOk s) {d : DDip} (hp : 0 ≤ d.pause) : 0 ≤ runV s d ∧ runV s d ≤ 30000 ∧ 0 ≤ max 0 (s.set - d.pause) ∧ max 0 (s.set - d.pause) ≤ 600 := by
  have h1 := max0 (s.set - d.pause) 600 (by have := hs.set; omega) (by omega)
  have h2 := hs.run
  unfold runV
  generalize max 0 (s.set - d.pause) = m at *
  have h5 : 0 ≤ s.run * m ∧ s.run * m ≤ 50 * 600 := ⟨Int.mul_nonneg h2.1 h1.1, Int.le_trans (Int.mul_le_mul_of_nonneg_right h2.2 h1.1) (Int.mul_le_mul_of_nonneg_left h1.2 (by decide))⟩
  omega
theorem grow_bound {s : DShop} (hs : DOk s) {d : DDip} (hd : DipOk s d) {warm : Int} (hw : s.melt ≤ warm ∧ warm ≤ 2000) : (-25000000 ≤ (growV s d warm).1 ∧ (growV s d warm).1 ≤ 25000000) ∧ -25000000 ≤ (growV s d warm).2 ∧ (growV s d warm).2 ≤ 25000000 := by
  have h0 := hs.melt
  have h1 := coat_bound hs (over := warm - s.melt) (sec := d.seconds) (by omega) hd.seconds.2
  have h2 := coat_bound hs (over := warm - s.melt) (sec := d.seconds - s.draw) (by omega) (by have := hd.seconds; have := hs.draw; omega)
  have h3 := run_bound hs (d := d) hd.pause.1
  unfold growV
  split <;> simp only <;> omega
theorem dout1_any (x lo hi : Int) (b1 b2 : Nat) (w : World) (h1 : w.cell? ⟨b1, 0, none⟩ = some (.int .i64 lo)) (h2 : w.cell? ⟨b2, 0, none⟩ = some (.int .i64 hi)) :
    Calls Tryz.prog 82 #[.int .i64 x, .pointer (some ⟨b1, 0, none⟩), .pointer (some ⟨b2, 0, none⟩)] w
      fun e w' => e = .returned (.bool (outOne lo hi x)) ∧ w = w' := by
  unfold outOne
  go_enter Tryz.func82, Tryz.ntmps82
  by_cases h : x < lo
  · go_wp2
    go_ret
    exact ⟨by simp [h], rfl⟩
  · go_wp2
    go_ret
    exact ⟨by simp; omega, rfl⟩
set_option maxHeartbeats 400000 in
theorem dindex_any (l : List Int) (v : Value) (lo hi : Int) (b1 b2 : Nat) (w : World) (B : Nat) (hv : IntsIn .i64 B w v l)
    (h1 : w.cell? ⟨b1, 0, none⟩ = some (.int .i64 lo)) (h2 : w.cell? ⟨b2, 0, none⟩ = some (.int .i64 hi)) :
    Calls Tryz.prog 113 #[v, .func (.func 82) #[] #[.pointer (some ⟨b1, 0, none⟩), .pointer (some ⟨b2, 0, none⟩)]] w
      fun e w' => (∃ k : Int, e = .returned (.int .i64 k) ∧ decide (0 ≤ k) = outB lo hi l) ∧ w = w' := by
  obtain ⟨a, c, rfl, hl, hv⟩ := hv
  go_enter Tryz.func113, Tryz.ntmps113
  go_wp2
  go_loop [8] (fun i => ∃ k : Nat, k ≤ l.length ∧ i = .int .i64 k ∧ outB lo hi l = outB lo hi (l.drop k)) (fun i => l.length - (intOf i).toNat)
  case atStart => exact ⟨0, by omega, rfl, by simp⟩
  case round =>
    obtain ⟨k, hk, rfl, ho⟩ := hrel
    have HO := Lib.hid ho
    clear ho
    by_cases hlt : k < l.length
    · obtain ⟨b, o, rfl, _, hc⟩ : ∃ b o, a = some ⟨b, o, none⟩ ∧ b < B ∧ ∀ i, i < l.length → w.cell? ⟨b, o + i, none⟩ = some (.int .i64 (l.getD i 0)) := by
        rcases hv with rfl | h
        · simp at hlt
        · exact h
      have hc' := hc k hlt
      have H3 := Lib.hid (outB_cons lo hi l k hlt)
      generalize l.getD k 0 = x at hc' H3
      clear hc hv
      by_cases hx : outOne lo hi x = true
      · go_wp2_with (go_at_call 82; refine (dout1_any _ _ _ _ _ _ h1 h2).mono ?_; rintro e w' ⟨rfl, rfl⟩)
        go_ret
        exact ⟨⟨_, rfl, by rw [HO.out, H3.out, hx]; simp⟩, rfl⟩
      · have hx' : outOne lo hi x = false := by simpa using hx
        go_wp2_with (go_at_call 82; refine (dout1_any _ _ _ _ _ _ h1 h2).mono ?_; rintro e w' ⟨rfl, rfl⟩)
        go_round
        case rel => exact ⟨k + 1, by omega, by go_num, by rw [HO.out, H3.out, hx']; simp⟩
        case measure => simp [intOf]; omega
    · have : k = l.length := by omega
      go_wp2
      go_ret
      exact ⟨⟨_, rfl, by rw [HO.out, this]; simp [outB]⟩, rfl⟩
theorem dcontains_any (l : List Int) (v : Value) (lo hi : Int) (b1 b2 : Nat) (w : World) (B : Nat) (hv : IntsIn .i64 B w v l)
    (h1 : w.cell? ⟨b1, 0, none⟩ = some (.int .i64 lo)) (h2 : w.cell? ⟨b2, 0, none⟩ = some (.int .i64 hi)) :
    Calls Tryz.prog 81 #[v, .func (.func 82) #[] #[.pointer (some ⟨b1, 0, none⟩), .pointer (some ⟨b2, 0, none⟩)]] w
      fun e w' => e = .returned (.bool (outB lo hi l)) ∧ w = w' := by
  go_enter Tryz.func81, Tryz.ntmps81
  go_wp2_with (go_at_call 113; refine (dindex_any l v lo hi b1 b2 _ B hv h1 h2).mono ?_; rintro e w' ⟨⟨k, rfl, hk⟩, rfl⟩; have HK := Lib.hid hk; clear hk)
  go_ret
  exact ⟨ret_bool HK.out, rfl⟩
theorem dout_any (lo hi : Int) (l : List Int) (v : Value) (w : World) (hv : IntsIn .i64 w.heap.size w v l) :
    Calls Tryz.prog 44 #[.int .i64 lo, .int .i64 hi, v] w fun e w' => e = .returned (.bool (outB lo hi l)) ∧ Below w.heap.size w w' := by
  have hb := (((Below.refl w.heap.size w).alloc (Nat.le_refl _) (.cells #[.int .i64 lo] 3)).alloc (by simp) (.cells #[.int .i64 hi] 3))
  have H := Lib.hid (hv.below hb)
  clear hv
  go_enter Tryz.func44, Tryz.ntmps44
  go_wp2_with (go_at_call 81; refine (dcontains_any l v lo hi _ _ _ _ H.out (by simp) (by simp)).mono ?_; rintro e w' ⟨rfl, rfl⟩)
  go_ret
  exact ⟨rfl, hb⟩
theorem dout_r (r : Bool) (lo hi : Int) (l : List Int) (hr : outB lo hi l = r) (v : Value) (w : World) (B : Nat) (hv : IntsIn .i64 B w v l) (hB : B ≤ w.heap.size) :
    Calls Tryz.prog 44 #[.int .i64 lo, .int .i64 hi, v] w fun e w' => e = .returned (.bool r) ∧ Below w.heap.size w w' := by
  subst hr; exact dout_any lo hi l v w (hv.mono hB)
/-- dip.out at numbers that lie in a block alone. -/
theorem dout_row (r : Bool) (lo hi : Int) (l : List Int) (n : Nat) (hn : l.length = n) (hl : l.length ≤ 1000) (hr : outB lo hi l = r) (g : Nat) (cs : Array Value) (hcs : cs = ints l) (w : World) (h : w.heap[g]? = some (.cells cs 3)) :
    Calls Tryz.prog 44 #[.int .i64 lo, .int .i64 hi, .slice (some ⟨g, 0, none⟩) n n] w fun e w' => e = .returned (.bool r) ∧ Below w.heap.size w w' := by
  subst hn hcs
  refine dout_r r lo hi l hr _ w w.heap.size ⟨_, _, rfl, by omega, .inr ⟨g, 0, rfl, block_lt h, fun i hi => ?_⟩⟩ (Nat.le_refl _)
  rw [cell_of_row w g _ _ _ _ h, Nat.zero_add, ints_get _ _ hi]
end Go.Proofs.YtpkggjobdmchlaaGreatDoor
