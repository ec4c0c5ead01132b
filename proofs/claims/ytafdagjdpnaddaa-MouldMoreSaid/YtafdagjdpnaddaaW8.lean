/- mould.cold, hot, span, skin; slices.Max, slices.Clone. -/
import Derived.Test.YtafdagjdpnaddaaAp
import Derived.Test.YtafdagjdpnaddaaW4
namespace Go.Proofs.Ytafdagjdpnaddaa
open Go.RowKit
theorem addr_add2 {g o j : Nat} : ((⟨g, o, none⟩ : Addr).add j) = ⟨g, o + j, none⟩ := by unfold Addr.add; split <;> simp_all
/-- The greatest of the first numbers of a list (of the first one, if it is of none). -/
def maxTo (l : List Int) : Nat → Int
  | 0 => l.getD 0 0
  | k + 1 => max (maxTo l k) (l.getD k 0)

set_option maxHeartbeats 1000000 in
theorem max_any (l : List Int) (v : Value) (B : Nat) (w : World) (hv : IntsIn .i64 B w v l) (n : Nat) (hn : l.length = n) (hne : 0 < n) :
    Calls Try.prog 61 #[v] w fun e w' => e = .returned (.int .i64 (maxTo l n)) ∧ w = w' := by
  subst hn
  obtain ⟨a, c, rfl, hl, hv⟩ := hv
  obtain ⟨b, o, rfl, _, hc⟩ : ∃ b o, a = some ⟨b, o, none⟩ ∧ b < B ∧ ∀ i, i < l.length → w.cell? ⟨b, o + i, none⟩ = some (.int .i64 (l.getD i 0)) := by
    rcases hv with rfl | h
    · simp at hne
    · exact h
  clear hv
  have h0 := hc 0 hne
  have HC := Lib.hid hc
  clear hc
  have e1 : l.getD 0 0 = maxTo l 1 := by simp [maxTo]
  rw [e1, Nat.add_zero] at h0
  clear e1
  go_enter Try.func61, Try.ntmps61
  go_wp2
  go_loop [3, 4] (fun m i => ∃ k : Nat, 1 ≤ k ∧ k ≤ l.length ∧ i = .int .i64 k ∧ m = .int .i64 (maxTo l k)) (fun _ i => l.length - (intOf i).toNat)
  case atStart => exact ⟨1, by omega, by omega, rfl, rfl⟩
  case round =>
    obtain ⟨k, hk1, hk, rfl, rfl⟩ := hrel
    by_cases hlt : k < l.length
    · have hck := HC.out k hlt
      have HM : Hid (maxTo l (k + 1) = max (maxTo l k) (l.getD k 0)) := Lib.hid rfl
      generalize l.getD k 0 = x at hck HM
      by_cases hx : maxTo l k < x
      all_goals
        go_wp2
        go_round
        case rel => exact ⟨k + 1, by omega, by omega, by go_num, by rw [HM.out]; congr 1; omega⟩
        case measure => simp [intOf]; omega
    · have : k = l.length := by omega
      subst this
      go_wp2
      go_ret
      exact ⟨rfl, rfl⟩


theorem info23 : (Try.prog.info? 23).map (·.size) = some 2 := by kernel_rfl
theorem cold_any (m : Mou) (lo hi : Int) (w : World) : Calls Try.prog 55 #[.agg #[.int .i64 m.rings, .int .i64 m.give, .int .i64 m.pl, .int .i64 m.ph, .int .i64 m.wl, .int .i64 m.wh, .int .i64 m.set, .int .i64 m.shrink, .int .i64 m.skin, .int .i64 m.fill, .int .i64 m.gap, .int .i64 m.deep], .agg #[.int .i64 lo, .int .i64 hi]] w fun e w' => e = .returned (.int .i64 lo) ∧ Below w.heap.size w w' := by
  go_enter Try.func55, Try.ntmps55
  go_wp2
  go_ret
  exact ⟨rfl, ((Below.refl _ _).alloc (Nat.le_refl _) _).alloc (by simp) _⟩
theorem hot_any (m : Mou) (lo hi : Int) (w : World) : Calls Try.prog 56 #[.agg #[.int .i64 m.rings, .int .i64 m.give, .int .i64 m.pl, .int .i64 m.ph, .int .i64 m.wl, .int .i64 m.wh, .int .i64 m.set, .int .i64 m.shrink, .int .i64 m.skin, .int .i64 m.fill, .int .i64 m.gap, .int .i64 m.deep], .agg #[.int .i64 lo, .int .i64 hi]] w fun e w' => e = .returned (.int .i64 hi) ∧ Below w.heap.size w w' := by
  go_enter Try.func56, Try.ntmps56
  go_wp2
  go_ret
  exact ⟨rfl, ((Below.refl _ _).alloc (Nat.le_refl _) _).alloc (by simp) _⟩
/-- One of the two sides: cold or hot. -/
theorem side_any (hot : Bool) (m : Mou) (lo hi : Int) (w : World) : Calls Try.prog (if hot then 56 else 55) #[.agg #[.int .i64 m.rings, .int .i64 m.give, .int .i64 m.pl, .int .i64 m.ph, .int .i64 m.wl, .int .i64 m.wh, .int .i64 m.set, .int .i64 m.shrink, .int .i64 m.skin, .int .i64 m.fill, .int .i64 m.gap, .int .i64 m.deep], .agg #[.int .i64 lo, .int .i64 hi]] w fun e w' => e = .returned (.int .i64 (if hot then hi else lo)) ∧ Below w.heap.size w w' := by
  cases hot
  · exact cold_any m lo hi w
  · exact hot_any m lo hi w
theorem span_any (lo hi : Int) (w : World) : Calls Try.prog 59 #[.int .i64 lo, .int .i64 hi] w fun e w' => e = .returned (.agg #[.int .i64 lo, .int .i64 hi]) ∧ Below w.heap.size w w' := by
  have hC := (Bs.nil w).push _ rfl (.cells #[.int .i64 lo, .int .i64 hi] 23)
  have HC := Lib.hid hC
  clear hC
  go_enter Try.func59, Try.ntmps59
  go_wp2
  refine bodyPost_ret (v := .agg #[.int .i64 lo, .int .i64 hi]) (results_cell_row (fn := Try.f59) rfl _ _ _ _ _ _ _ rfl (HC.out.get 0 rfl) Try.underlying23 rfl info23) rfl ⟨rfl, HC.out.bel⟩
/-- How many of the first k are at most n. -/
def leTo (l : List Int) (n : Int) : Nat → Nat
  | 0 => 0
  | k + 1 => leTo l n k + if l.getD k 0 ≤ n then 1 else 0
def skinP (l : List Int) (n : Int) : Nat := leTo l n l.length
theorem leTo_le (l : List Int) (n : Int) : ∀ k, leTo l n k ≤ k
  | 0 => Nat.le_refl _
  | k + 1 => by have := leTo_le l n k; simp only [leTo]; split <;> omega
set_option maxHeartbeats 1000000 in
theorem skin_any (l : List Int) (n : Int) (hl : l.length ≤ 1000) (v : Value) (w : World) (hv : IntsIn .i64 w.heap.size w v l) :
    Calls Try.prog 63 #[v, .int .i64 n] w fun e w' => e = .returned (.int .i64 (skinP l n)) ∧ w = w' := by
  obtain ⟨a, c, rfl, -, hv⟩ := hv
  unfold skinP
  have HV := Lib.hid hv
  obtain ⟨len, hlen⟩ : ∃ x, l.length = x := ⟨_, rfl⟩
  have HLEN := Lib.hid hlen
  rw [hlen] at hl ⊢
  clear hv hlen
  go_enter Try.func63, Try.ntmps63
  go_wp2
  go_loop [4, 9] (fun t i => ∃ k : Nat, k ≤ len ∧ i = .int .i64 k ∧ t = .int .i64 (leTo l n k : Nat)) (fun _ i => len - (intOf i).toNat)
  case atStart => exact ⟨0, by omega, rfl, rfl⟩
  case round =>
    obtain ⟨k, hk, rfl, rfl⟩ := hrel
    have hle := leTo_le l n k
    by_cases hlt : k < len
    · obtain ⟨b, o, rfl, _, hc⟩ := HV.out.resolve_left (by intro h; have := HLEN.out; rw [h] at this; simp at this; omega)
      have hck := hc k (by rw [HLEN.out]; exact hlt)
      have HS : Hid (leTo l n (k + 1) = leTo l n k + if l.getD k 0 ≤ n then 1 else 0) := rfl
      clear hc
      generalize leTo l n k = t at *
      generalize l.getD k 0 = x at *
      have hki : (k : Int) < (len : Int) := by omega
      by_cases hx : x ≤ n
      · have hd : decide (x ≤ n) = true := decide_eq_true hx
        rw [if_pos hx] at HS
        go_wp2
        go_round
        case rel => exact ⟨k + 1, by omega, by go_num, by rw [HS.out]; go_num⟩
        case measure => simp [intOf]; omega
      · have hd : decide (x ≤ n) = false := decide_eq_false hx
        rw [if_neg hx] at HS
        go_wp2
        go_round
        case rel => exact ⟨k + 1, by omega, by go_num, by rw [HS.out]; rfl⟩
        case measure => simp [intOf]; omega
    · obtain rfl : k = len := by omega
      go_wp2
      go_ret
      exact ⟨rfl, rfl⟩
set_option maxRecDepth 100000 in
set_option maxHeartbeats 1000000 in
/-- slices.Clone at ints that lie in a row. -/
theorem clone_any (l : List Int) (hl : l.length ≤ 1000) (b off c : Nat) (w : World) (hb : b < w.heap.size) (hc : ∀ i, i < l.length → w.cell? ⟨b, off + i, none⟩ = some (.int .i64 (l.getD i 0))) :
    Calls Try.prog 52 #[.slice (some ⟨b, off, none⟩) l.length c] w (RetL l w) := by
  have HC := Lib.hid hc
  clear hc
  obtain ⟨n, hn⟩ : ∃ n, l.length = n := ⟨_, rfl⟩
  have HN := Lib.hid hn
  rw [hn] at hl ⊢
  have hmap : (l.map (Value.int .i64)).length = n := by rw [List.length_map, HN.out]
  have HM := Lib.hid hmap
  clear hn hmap
  obtain ⟨i0, hi0, hz0, hz1, hz2⟩ := info3'
  have HI0 := Lib.hid hi0
  have HZ0 := Lib.hid hz0
  have HZ1 := Lib.hid hz1
  have HZ2 := Lib.hid hz2
  clear hi0 hz0 hz1 hz2
  have hnews : Hid (∀ j u, (l.map (Value.int .i64))[j]? = some u → (w.alloc (.cells #[] 3)).cell? ((⟨b, off, none⟩ : Addr).add j) = some u) := by
    intro j u hj
    have hjn : j < n := by rw [← HM.out]; exact (List.getElem?_eq_some_iff.1 hj).1
    rw [addr_add2, ← hj, List.getElem?_map]
    have := (((Below.refl w.heap.size w).alloc (Nat.le_refl _) (.cells #[] 3)).cell (p := ⟨b, off + j, none⟩) hb).trans (HC.out j (by rw [HN.out]; exact hjn))
    rw [this, List.getD_eq_getElem?_getD, List.getElem?_eq_getElem (by rw [HN.out]; exact hjn)]
    rfl
  have hnil := fun w : World => Lib.run_eql_slice_nil (P := Try.prog) w 26 3 (some ⟨b, off, none⟩) n c 0 0 Try.underlying26
  simp only [Option.isNone] at hnil
  go_enter Try.func52, Try.ntmps52
  go_wp2_with (at_builtin; refine wpList_append_own _ rfl _ _ 26 rfl w.heap.size 3 i0 (.int .i64 0) 1 8 Try.underlying26 HI0.out HZ0.out HZ1.out HZ2.out rfl (by decide) _ _ _ rfl (ownsRow_fresh w) ⟨b, off, none⟩ n c (l.map (Value.int .i64)) rfl (by rw [HM.out]; omega) hnews.out (fun u hu => by obtain ⟨z, -, rfl⟩ := List.mem_map.1 hu; rfl) (by unfold maxLen; omega) (by omega) (by simp) ?_; intro v' w12 hown12 hgrow12 _)
  go_ret
  have hlt12 := World.ownsRow.lt (ownsRow_fresh w)
  refine ⟨v', rfl, ?_, ((Below.refl w.heap.size w).alloc (Nat.le_refl _) (.cells #[] 3)).grown hgrow12 (by simp) (fun k e => (hlt12 k e).1)⟩
  unfold OwnInts
  rw [HN.out]
  simpa using hown12
end Go.Proofs.Ytafdagjdpnaddaa
