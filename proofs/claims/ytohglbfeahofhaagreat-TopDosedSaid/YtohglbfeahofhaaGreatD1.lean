/- blend.out; slices.IndexFunc and ContainsFunc at waxes; blend.Check's closure. -/
import Derived.Test.YtohglbfeahofhaaGreatK2
import Derived.Test.YtohglbfeahofhaaGreatB3
namespace Go.Proofs.YtohglbfeahofhaaGreat
open Go.RowKit
theorem kout1_any (x lo hi : Int) (b1 b2 : Nat) (w : World) (h1 : w.cell? ⟨b1, 0, none⟩ = some (.int .i64 lo)) (h2 : w.cell? ⟨b2, 0, none⟩ = some (.int .i64 hi)) :
    Calls Tryz.prog 70 #[.int .i64 x, .pointer (some ⟨b1, 0, none⟩), .pointer (some ⟨b2, 0, none⟩)] w
      fun e w' => e = .returned (.bool (outOne lo hi x)) ∧ w = w' := by
  unfold outOne
  go_enter Tryz.func70, Tryz.ntmps70
  by_cases h : x < lo
  · go_wp2
    go_ret
    exact ⟨by simp [h], rfl⟩
  · go_wp2
    go_ret
    exact ⟨by simp; omega, rfl⟩
set_option maxHeartbeats 400000 in
theorem kindex_any (l : List Int) (v : Value) (lo hi : Int) (b1 b2 : Nat) (w : World) (B : Nat) (hv : IntsIn .i64 B w v l)
    (h1 : w.cell? ⟨b1, 0, none⟩ = some (.int .i64 lo)) (h2 : w.cell? ⟨b2, 0, none⟩ = some (.int .i64 hi)) :
    Calls Tryz.prog 95 #[v, .func (.func 70) #[] #[.pointer (some ⟨b1, 0, none⟩), .pointer (some ⟨b2, 0, none⟩)]] w
      fun e w' => (∃ k : Int, e = .returned (.int .i64 k) ∧ decide (0 ≤ k) = outB lo hi l) ∧ w = w' := by
  obtain ⟨a, c, rfl, hl, hv⟩ := hv
  go_enter Tryz.func95, Tryz.ntmps95
  go_wp2
  go_loop [8] (fun i => ∃ k : Nat, k ≤ l.length ∧ i = .int .i64 k ∧ outB lo hi l = outB lo hi (l.drop k)) (fun i => l.length - (intOf i).toNat)
  case atStart => exact ⟨0, by omega, rfl, by simp⟩
  case round =>
    obtain ⟨k, hk, rfl, ho⟩ := hrel
    have HO := Lib.hid ho
    clear ho
    by_cases hlt : k < l.length
    · obtain ⟨b, o, rfl, _, hc⟩ : ∃ b o, a = some ⟨b, o, none⟩ ∧ b < B ∧ ∀ i, i < l.length → w.cell? ⟨b, o + i, none⟩ = some (.int .i64 (l.getD i 0)) := by
        rcases hv with rfl | h
        · simp at hlt
        · exact h
      have hc' := hc k hlt
      have H3 := Lib.hid (outB_cons lo hi l k hlt)
      generalize l.getD k 0 = x at hc' H3
      clear hc hv
      by_cases hx : outOne lo hi x = true
      · go_wp2_with (go_at_call 70; refine (kout1_any _ _ _ _ _ _ h1 h2).mono ?_; rintro e w' ⟨rfl, rfl⟩)
        go_ret
        exact ⟨⟨_, rfl, by rw [HO.out, H3.out, hx]; simp⟩, rfl⟩
      · have hx' : outOne lo hi x = false := by simpa using hx
        go_wp2_with (go_at_call 70; refine (kout1_any _ _ _ _ _ _ h1 h2).mono ?_; rintro e w' ⟨rfl, rfl⟩)
        go_round
        case rel => exact ⟨k + 1, by omega, by go_num, by rw [HO.out, H3.out, hx']; simp⟩
        case measure => simp [intOf]; omega
    · have : k = l.length := by omega
      go_wp2
      go_ret
      exact ⟨⟨_, rfl, by rw [HO.out, this]; simp [outB]⟩, rfl⟩
theorem kcontains_any (l : List Int) (v : Value) (lo hi : Int) (b1 b2 : Nat) (w : World) (B : Nat) (hv : IntsIn .i64 B w v l)
    (h1 : w.cell? ⟨b1, 0, none⟩ = some (.int .i64 lo)) (h2 : w.cell? ⟨b2, 0, none⟩ = some (.int .i64 hi)) :
    Calls Tryz.prog 69 #[v, .func (.func 70) #[] #[.pointer (some ⟨b1, 0, none⟩), .pointer (some ⟨b2, 0, none⟩)]] w
      fun e w' => e = .returned (.bool (outB lo hi l)) ∧ w = w' := by
  go_enter Tryz.func69, Tryz.ntmps69
  go_wp2_with (go_at_call 95; refine (kindex_any l v lo hi b1 b2 _ B hv h1 h2).mono ?_; rintro e w' ⟨⟨k, rfl, hk⟩, rfl⟩; have HK := Lib.hid hk; clear hk)
  go_ret
  exact ⟨ret_bool HK.out, rfl⟩
theorem kout_any (lo hi : Int) (l : List Int) (v : Value) (w : World) (hv : IntsIn .i64 w.heap.size w v l) :
    Calls Tryz.prog 37 #[.int .i64 lo, .int .i64 hi, v] w fun e w' => e = .returned (.bool (outB lo hi l)) ∧ Below w.heap.size w w' := by
  have hb := (((Below.refl w.heap.size w).alloc (Nat.le_refl _) (.cells #[.int .i64 lo] 3)).alloc (by simp) (.cells #[.int .i64 hi] 3))
  have H := Lib.hid (hv.below hb)
  clear hv
  go_enter Tryz.func37, Tryz.ntmps37
  go_wp2_with (go_at_call 69; refine (kcontains_any l v lo hi _ _ _ _ H.out (by simp) (by simp)).mono ?_; rintro e w' ⟨rfl, rfl⟩)
  go_ret
  exact ⟨rfl, hb⟩
theorem kout_r (r : Bool) (lo hi : Int) (l : List Int) (hr : outB lo hi l = r) (v : Value) (w : World) (B : Nat) (hv : IntsIn .i64 B w v l) (hB : B ≤ w.heap.size) :
    Calls Tryz.prog 37 #[.int .i64 lo, .int .i64 hi, v] w fun e w' => e = .returned (.bool r) ∧ Below w.heap.size w w' := by
  subst hr; exact kout_any lo hi l v w (hv.mono hB)
/-- wick.out at numbers that lie in a block alone. -/
theorem kout_row (r : Bool) (lo hi : Int) (l : List Int) (n : Nat) (hn : l.length = n) (hl : l.length ≤ 1000) (hr : outB lo hi l = r) (g : Nat) (cs : Array Value) (hcs : cs = ints l) (w : World) (h : w.heap[g]? = some (.cells cs 3)) :
    Calls Tryz.prog 37 #[.int .i64 lo, .int .i64 hi, .slice (some ⟨g, 0, none⟩) n n] w fun e w' => e = .returned (.bool r) ∧ Below w.heap.size w w' := by
  subst hn hcs
  refine kout_r r lo hi l hr _ w w.heap.size ⟨_, _, rfl, by omega, .inr ⟨g, 0, rfl, block_lt h, fun i hi => ?_⟩⟩ (Nat.le_refl _)
  rw [cell_of_row w g _ _ _ _ h, Nat.zero_add, ints_get _ _ hi]
theorem outB_one (lo hi x : Int) : outB lo hi [x] = outOne lo hi x := by simp [outB]
theorem outB_in {lo hi : Int} {l : List Int} (h : ∀ x ∈ l, lo ≤ x ∧ x ≤ hi) : outB lo hi l = false := by
  unfold outB
  rw [List.any_eq_false]
  intro x hx
  have := h x hx
  simp [outOne]; omega

set_option maxHeartbeats 2000000 in
theorem idxBWax_any (p : Option Addr) (l : List BWax) (test : BWax → Bool) (v : Value) (w : World) (hv : BWaxesIn w.heap.size w v l)
    (hf : ∀ k W, k < l.length → Below w.heap.size w W → ∀ u, Calls Tryz.prog 79 #[.agg #[.string (l.getD k default).name, .int .i64 (l.getD k default).price, .int .i64 (l.getD k default).melt.1, .int .i64 (l.getD k default).melt.2, .int .i64 (l.getD k default).shrink.1, .int .i64 (l.getD k default).shrink.2, u], .pointer p] W fun e W' => e = .returned (.bool (test (l.getD k default))) ∧ Below W.heap.size W W') :
    Calls Tryz.prog 108 #[v, .func (.func 79) #[] #[.pointer p]] w
      fun e w' => (∃ k : Int, e = .returned (.int .i64 k) ∧ decide (0 ≤ k) = l.any test) ∧ Below w.heap.size w w' := by
  have HV := Lib.hid hv
  have HFN := Lib.hid hf
  obtain ⟨a, c, rfl, hl, hlc, -⟩ := hv
  clear hf
  go_enter Tryz.func108, Tryz.ntmps108
  go_wp2_with fail
  go_loopw [8] (fun i wr => ∃ k : Nat, k ≤ l.length ∧ i = .int .i64 k ∧ Below w.heap.size w wr ∧ l.any test = (l.drop k).any test) (fun i _ => l.length - (intOf i).toNat)
  case atStart => exact ⟨0, by omega, rfl, Below.refl _ _, by simp⟩
  case round =>
    obtain ⟨k, hk, rfl, hb, hf⟩ := hrel
    have HF := Lib.hid hf
    clear hf
    by_cases hkl : k < l.length
    · obtain ⟨b', o, c', hvv, -, hbB, hc1, -, hc2, hc3, hc4, hc5, hc6, u, hc7, -⟩ := (HV.out.below hb).at hkl
      cases hvv
      have HD : Hid ((l.drop k).any test = (test (l.getD k default) || (l.drop (k + 1)).any test)) := by
        unfold Hid
        rw [List.drop_eq_getElem_cons hkl, List.any_cons]
        simp [List.getD, hkl]
      have HC := Lib.hid (HFN.out k wr hkl hb u)
      generalize l.getD k default = y at *
      simp only [rdBWax] at hc1 hc2 hc3 hc4 hc5 hc6 hc7
      obtain ⟨r, hr⟩ : ∃ r, test y = r := ⟨_, rfl⟩
      rw [hr] at HC
      have HR := Lib.hid hr
      clear hr
      have hsz := hb.size
      have HB := Lib.hid hb
      clear hb
      cases r
      · go_wp2_with fail
        refine HC.out.mono ?_
        rintro e w' ⟨rfl, hbw⟩
        go_wp2_with fail
        go_roundw
        case rel => exact ⟨k + 1, by omega, by go_num, HB.out.trans (hbw.mono HB.out.size), by rw [HF.out, HD.out, HR.out]; simp⟩
        case measure => simp [intOf]; omega
      · go_wp2_with fail
        refine HC.out.mono ?_
        rintro e w' ⟨rfl, hbw⟩
        go_wp2_with fail
        go_ret
        exact ⟨⟨_, rfl, by rw [HF.out, HD.out, HR.out]; simp⟩, HB.out.trans (hbw.mono HB.out.size)⟩
    · have : k = l.length := by omega
      go_wp2_with fail
      go_ret
      exact ⟨⟨_, rfl, by rw [HF.out, this]; simp⟩, hb⟩
theorem hasBWax_any (p : Option Addr) (r : Bool) (l : List BWax) (test : BWax → Bool) (v : Value) (w : World) (hv : BWaxesIn w.heap.size w v l)
    (hf : ∀ k W, k < l.length → Below w.heap.size w W → ∀ u, Calls Tryz.prog 79 #[.agg #[.string (l.getD k default).name, .int .i64 (l.getD k default).price, .int .i64 (l.getD k default).melt.1, .int .i64 (l.getD k default).melt.2, .int .i64 (l.getD k default).shrink.1, .int .i64 (l.getD k default).shrink.2, u], .pointer p] W fun e W' => e = .returned (.bool (test (l.getD k default))) ∧ Below W.heap.size W W') (hr : l.any test = r) :
    Calls Tryz.prog 78 #[v, .func (.func 79) #[] #[.pointer p]] w fun e w' => e = .returned (.bool r) ∧ Below w.heap.size w w' := by
  have HR := Lib.hid hr
  have HX := Lib.hid (idxBWax_any p l test v w hv hf)
  clear hr hf
  go_enter Tryz.func78, Tryz.ntmps78
  go_wp2_with fail
  refine HX.out.mono ?_
  rintro e w' ⟨⟨k, rfl, hk⟩, hbw⟩
  have HK := Lib.hid hk
  clear hk
  go_wp2_with fail
  go_ret
  exact ⟨ret_bool (HK.out.trans HR.out), hbw⟩
theorem infoBW : (Tryz.prog.info? 44).map (·.size) = some 7 := by kernel_rfl
theorem sameBW_r (r : Bool) (y : BWax) (u : Value) (nm : ByteArray) (b6 : Nat) (w : World) (h6 : w.cell? ⟨b6, 0, none⟩ = some (.string nm)) (l6 : b6 < w.heap.size) (hr : sameN nm y.name = r) :
    Calls Tryz.prog 79 #[.agg #[.string y.name, .int .i64 y.price, .int .i64 y.melt.1, .int .i64 y.melt.2, .int .i64 y.shrink.1, .int .i64 y.shrink.2, u], .pointer (some ⟨b6, 0, none⟩)] w fun e w' => e = .returned (.bool r) ∧ Below w.heap.size w w' := by
  have HR : Hid ((y.name.toList == nm.toList) = r) := hr
  have C0 : Hid (Bs w [(w.heap.size, .cells #[.string y.name, .int .i64 y.price, .int .i64 y.melt.1, .int .i64 y.melt.2, .int .i64 y.shrink.1, .int .i64 y.shrink.2, u] 44)] _) := (Bs.nil w).push _ rfl (.cells #[.string y.name, .int .i64 y.price, .int .i64 y.melt.1, .int .i64 y.melt.2, .int .i64 y.shrink.1, .int .i64 y.shrink.2, u] 44)
  have h7 := (C0.out.bel.cell (p := ⟨b6, 0, none⟩) l6).trans h6
  clear hr h6
  go_enter Tryz.func79, Tryz.ntmps79
  go_wp2_with fail
  go_ret
  exact ⟨ret_bool HR.out, C0.out.bel⟩
end Go.Proofs.YtohglbfeahofhaaGreat
