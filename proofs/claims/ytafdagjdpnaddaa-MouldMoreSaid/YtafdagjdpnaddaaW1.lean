/- mould.out. -/
import Derived.Test.YtafdagjdpnaddaaRows
import Derived.Lib.Hide
import Derived.Test.YtafdagjdpnaddaaBase
import Derived.Test.YtafdagjdpnaddaaP2
namespace Go.Proofs.Ytafdagjdpnaddaa
open Go.RowKit

theorem ret_bool {a b : Bool} (h : a = b) : Ending.returned (.bool a) = .returned (.bool b) := by rw [h]
theorem ret_int {k : IntKind} {a b : Int} (h : a = b) : Ending.returned (.int k a) = .returned (.int k b) := by rw [h]

def outOne (lo hi n : Int) : Bool := decide (n < lo) || decide (hi < n)
def outB (lo hi : Int) (l : List Int) : Bool := l.any (outOne lo hi)

/-- The slice value reads as these ints; its block lies below B. -/
def IntsIn (k : IntKind) (B : Nat) (w : World) (v : Value) (l : List Int) : Prop :=
  ∃ a c, v = .slice a l.length c ∧ l.length ≤ 1000000000000000 ∧ (l = [] ∨ ∃ b o, a = some ⟨b, o, none⟩ ∧ b < B ∧ ∀ i, i < l.length → w.cell? ⟨b, o + i, none⟩ = some (.int k (l.getD i 0)))

theorem IntsIn.below {k : IntKind} {B : Nat} {w w' : World} {v : Value} {l : List Int} (h : IntsIn k B w v l) (hb : Below B w w') : IntsIn k B w' v l := by
  obtain ⟨a, c, rfl, hl, h⟩ := h
  refine ⟨a, c, rfl, hl, ?_⟩
  rcases h with h | ⟨b, o, rfl, hbb, h⟩
  · exact .inl h
  · exact .inr ⟨b, o, rfl, hbb, fun i hi => (hb.cell (p := ⟨b, o + i, none⟩) hbb).trans (h i hi)⟩
theorem IntsIn.mono {k : IntKind} {B B' : Nat} {w : World} {v : Value} {l : List Int} (h : IntsIn k B w v l) (hb : B ≤ B') : IntsIn k B' w v l := by
  obtain ⟨a, c, rfl, hl, h⟩ := h
  refine ⟨a, c, rfl, hl, ?_⟩
  rcases h with h | ⟨b, o, rfl, hbb, h⟩
  · exact .inl h
  · exact .inr ⟨b, o, rfl, by omega, h⟩

theorem out1_any (x lo hi : Int) (b1 b2 : Nat) (w : World) (h1 : w.cell? ⟨b1, 0, none⟩ = some (.int .i64 lo)) (h2 : w.cell? ⟨b2, 0, none⟩ = some (.int .i64 hi)) :
    Calls Try.prog 68 #[.int .i64 x, .pointer (some ⟨b1, 0, none⟩), .pointer (some ⟨b2, 0, none⟩)] w
      fun e w' => e = .returned (.bool (outOne lo hi x)) ∧ w = w' := by
  unfold outOne
  go_enter Try.func68, Try.ntmps68
  by_cases h : x < lo
  · go_wp2
    go_ret
    exact ⟨by simp [h], rfl⟩
  · go_wp2
    go_ret
    exact ⟨by simp; omega, rfl⟩


theorem outB_cons (lo hi : Int) (l : List Int) (k : Nat) (h : k < l.length) : outB lo hi (l.drop k) = (outOne lo hi (l.getD k 0) || outB lo hi (l.drop (k + 1))) := by
  unfold outB
  rw [List.drop_eq_getElem_cons h, List.any_cons]
  simp [List.getD, h]

set_option maxHeartbeats 400000 in
/-- slices.IndexFunc at ints with the test of out. -/
theorem indexFunc_any (l : List Int) (v : Value) (lo hi : Int) (b1 b2 : Nat) (w : World) (B : Nat) (hv : IntsIn .i64 B w v l)
    (h1 : w.cell? ⟨b1, 0, none⟩ = some (.int .i64 lo)) (h2 : w.cell? ⟨b2, 0, none⟩ = some (.int .i64 hi)) :
    Calls Try.prog 71 #[v, .func (.func 68) #[] #[.pointer (some ⟨b1, 0, none⟩), .pointer (some ⟨b2, 0, none⟩)]] w
      fun e w' => (∃ k : Int, e = .returned (.int .i64 k) ∧ decide (0 ≤ k) = outB lo hi l) ∧ w = w' := by
  obtain ⟨a, c, rfl, hl, hv⟩ := hv
  go_enter Try.func71, Try.ntmps71
  go_wp2
  go_loop [8] (fun i => ∃ k : Nat, k ≤ l.length ∧ i = .int .i64 k ∧ outB lo hi l = outB lo hi (l.drop k)) (fun i => l.length - (intOf i).toNat)
  case atStart => exact ⟨0, by omega, rfl, by simp⟩
  case round =>
    obtain ⟨k, hk, rfl, ho⟩ := hrel
    have HO := Lib.hid ho
    clear ho
    by_cases hlt : k < l.length
    · obtain ⟨b, o, rfl, _, hc⟩ : ∃ b o, a = some ⟨b, o, none⟩ ∧ b < B ∧ ∀ i, i < l.length → w.cell? ⟨b, o + i, none⟩ = some (.int .i64 (l.getD i 0)) := by
        rcases hv with rfl | h
        · simp at hlt
        · exact h
      have hc' := hc k hlt
      have H3 := Lib.hid (outB_cons lo hi l k hlt)
      generalize l.getD k 0 = x at hc' H3
      clear hc hv
      by_cases hx : outOne lo hi x = true
      · go_wp2_with (go_at_call 68; refine (out1_any _ _ _ _ _ _ h1 h2).mono ?_; rintro e w' ⟨rfl, rfl⟩)
        go_ret
        exact ⟨⟨_, rfl, by rw [HO.out, H3.out, hx]; simp⟩, rfl⟩
      · have hx' : outOne lo hi x = false := by simpa using hx
        go_wp2_with (go_at_call 68; refine (out1_any _ _ _ _ _ _ h1 h2).mono ?_; rintro e w' ⟨rfl, rfl⟩)
        go_round
        case rel => exact ⟨k + 1, by omega, by go_num, by rw [HO.out, H3.out, hx']; simp⟩
        case measure => simp [intOf]; omega
    · have : k = l.length := by omega
      go_wp2
      go_ret
      exact ⟨⟨_, rfl, by rw [HO.out, this]; simp [outB]⟩, rfl⟩

theorem contains_any (l : List Int) (v : Value) (lo hi : Int) (b1 b2 : Nat) (w : World) (B : Nat) (hv : IntsIn .i64 B w v l)
    (h1 : w.cell? ⟨b1, 0, none⟩ = some (.int .i64 lo)) (h2 : w.cell? ⟨b2, 0, none⟩ = some (.int .i64 hi)) :
    Calls Try.prog 64 #[v, .func (.func 68) #[] #[.pointer (some ⟨b1, 0, none⟩), .pointer (some ⟨b2, 0, none⟩)]] w
      fun e w' => e = .returned (.bool (outB lo hi l)) ∧ w = w' := by
  go_enter Try.func64, Try.ntmps64
  go_wp2_with (go_at_call 71; refine (indexFunc_any l v lo hi b1 b2 _ B hv h1 h2).mono ?_; rintro e w' ⟨⟨k, rfl, hk⟩, rfl⟩; have HK := Lib.hid hk; clear hk)
  go_ret
  exact ⟨ret_bool HK.out, rfl⟩

/-- store.out -/
theorem out_any (lo hi : Int) (l : List Int) (v : Value) (w : World) (hv : IntsIn .i64 w.heap.size w v l) :
    Calls Try.prog 48 #[.int .i64 lo, .int .i64 hi, v] w fun e w' => e = .returned (.bool (outB lo hi l)) ∧ Below w.heap.size w w' := by
  have hb := (((Below.refl w.heap.size w).alloc (Nat.le_refl _) (.cells #[.int .i64 lo] 3)).alloc (by simp) (.cells #[.int .i64 hi] 3))
  have H := Lib.hid (hv.below hb)
  clear hv
  go_enter Try.func48, Try.ntmps48
  go_wp2_with (go_at_call 64; refine (contains_any l v lo hi _ _ _ _ H.out (by simp) (by simp)).mono ?_; rintro e w' ⟨rfl, rfl⟩)
  go_ret
  exact ⟨rfl, hb⟩
end Go.Proofs.Ytafdagjdpnaddaa
