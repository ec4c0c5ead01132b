/- stearinlaw02: turn, Parted. -/
import Derived.Deep.Cut
import Derived.Deep.CutBlock
import Derived.Test.YtohglbfeahofhaaGreatD5
namespace Go.Proofs.YtohglbfeahofhaaGreat
open Go.RowKit
structure TurnsH (x : List Int) : Prop where
  at' : ∀ i, 0 ≤ x.getD i 0 ∧ x.getD i 0 ≤ 65535
theorem turnsH_of {x : List Int} (h : ∀ y ∈ x, 0 ≤ y ∧ y ≤ 65535) : TurnsH x := ⟨fun i => by
  by_cases hi : i < x.length
  · rw [List.getD_eq_getElem?_getD, List.getElem?_eq_getElem hi]
    exact h _ (List.getElem_mem hi)
  · rw [List.getD_eq_getElem?_getD, List.getElem?_eq_none (by omega)]
    exact ⟨Int.le_refl _, by decide⟩⟩
def turnH (x : List Int) (n : Nat) : Int := x.getD (n % x.length) 0
theorem turnH_bound {x : List Int} (h : TurnsH x) (n : Nat) : 0 ≤ turnH x n ∧ turnH x n ≤ 65535 := h.at' _
set_option maxHeartbeats 4000000 in
theorem turn2 (x : List Int) (hx : TurnsH x) (n : Nat) (hn : n ≤ 1000000) (v : Value) (w : World) (hv : IntsIn .u16 w.heap.size w v x) :
    Calls Tryz.prog 38 #[v, .int .i64 n] w fun e w' => e = .returned (.int .i64 (turnH x n)) ∧ w = w' := by
  have HV := Lib.hid hv
  obtain ⟨a, c, rfl, hl, -⟩ := hv
  have hb := turnH_bound hx n
  have HT : Hid (turnH x n = x.getD (n % x.length) 0) := rfl
  generalize turnH x n = T at *
  by_cases h0 : x.length = 0
  · have e : T = 0 := by rw [HT.out, List.eq_nil_of_length_eq_zero h0]; rfl
    subst e
    rw [h0]
    go_enter Tryz.func38, Tryz.ntmps38
    go_wp2_with fail
    go_ret
    exact ⟨rfl, rfl⟩
  · have hq : ((x.length : Int) == 0) = false := by rw [beq_eq_false_iff_ne]; omega
    have hmd : (n : Int) % (x.length : Int) = ((n % x.length : Nat) : Int) := by push_cast; rfl
    have hml : n % x.length < x.length := Nat.mod_lt _ (Nat.pos_of_ne_zero h0)
    obtain ⟨b, o, rfl, hbb, hc⟩ : ∃ b o, a = some ⟨b, o, none⟩ ∧ b < w.heap.size ∧ w.cell? ⟨b, o + n % x.length, none⟩ = some (.int .u16 (x.getD (n % x.length) 0)) := by
      obtain ⟨a', c', e, -, h⟩ := HV.out
      simp only [Value.slice.injEq] at e
      obtain ⟨rfl, -, -⟩ := e
      rcases h with h | ⟨b, o, rfl, h1, h2⟩
      · rw [h] at h0; simp at h0
      · exact ⟨b, o, rfl, h1, h2 _ hml⟩
    rw [← HT.out] at hc
    clear HT HV
    generalize n % x.length = m at *
    go_enter Tryz.func38, Tryz.ntmps38
    go_wp2_with fail
    go_ret
    exact ⟨rfl, rfl⟩
set_option maxRecDepth 100000 in
set_option maxHeartbeats 8000000 in
/-- Parted. -/
theorem parted_any (x : List Int) (hx : TurnsH x) (m : Nat) (h1 : 1 ≤ m) (h5 : m ≤ 5) (v : Value) (w : World) (hv : IntsIn .u16 w.heap.size w v x) :
    Calls Tryz.prog 8 #[.int .i64 m, v] w fun e w' => ∃ u, e = .returned u ∧ IntsIn .i64 w'.heap.size w' u (partedV (turnH x) m) ∧ Below w.heap.size w w' := by
  have HV := Lib.hid hv
  have HXT := Lib.hid hx
  obtain ⟨i0, hi0, hz0, hz1, hz2⟩ := info3'
  have HI0 := Lib.hid hi0
  have HZ0 := Lib.hid hz0
  have HZ1 := Lib.hid hz1
  have HZ2 := Lib.hid hz2
  have HB0 : Hid (Below w.heap.size w w) := Below.refl _ _
  clear hi0 hz0 hz1 hz2 hv hx
  go_enter Tryz.func8, Tryz.ntmps8
  go_wp2_with fail
  go_loopw [5, 6, 7] (fun tx lv iv wr => ∃ (k : Nat) (tv : Value), tv = tx ∧ lv = .int .i64 (leftTo (turnH x) k) ∧ iv = .int .i64 k ∧ k + 1 ≤ m ∧ Below w.heap.size w wr ∧ wr.ownsRow w.heap.size 3 1 tv k ((partsTo (turnH x) k).map (Value.int .i64))) (fun _ _ iv _ => m - (intOf iv).toNat)
  case atStart => exact ⟨0, _, rfl, rfl, rfl, by omega, HB0.out, World.ownsRow_nil _ _ 3 1⟩
  case round =>
    clear HB0
    obtain ⟨k, tv, rfl, rfl, rfl, hk, hb, hT⟩ := hrel
    have HB := Lib.hid hb
    have HT := Lib.hid hT
    clear hb hT
    have hle := leftTo_in (turnH x) k
    by_cases hkl : k + 1 < m
    · have hki : (k : Int) + 1 < (m : Int) := by omega
      have HS : Hid (leftTo (turnH x) (k + 1) = leftTo (turnH x) k - turnH x k % (leftTo (turnH x) k + 1)) := rfl
      have HSN : Hid ((partsTo (turnH x) (k + 1)).map (Value.int .i64) = (partsTo (turnH x) k).map (Value.int .i64) ++ [.int .i64 (turnH x k % (leftTo (turnH x) k + 1))]) := by unfold Hid; rw [partsTo_snoc, List.map_append]; rfl
      have HTU := fun w h => Lib.hid (turn2 x HXT.out k (by omega) v w h)
      have htb := turnH_bound HXT.out k
      have hr1 := Int.emod_nonneg (turnH x k) (show leftTo (turnH x) k + 1 ≠ 0 by omega)
      have hr2 := Int.emod_lt_of_pos (turnH x k) (show 0 < leftTo (turnH x) k + 1 by omega)
      generalize leftTo (turnH x) k = L at *
      generalize turnH x k = T at *
      obtain ⟨R, HR⟩ : ∃ z, Hid (T % (L + 1) = z) := ⟨_, rfl⟩
      rw [HR.out] at HS HSN hr1 hr2
      have HT1 := Lib.hid (HT.out.alloc (.cells #[.int .i64 R] 3))
      have HNW := Lib.hid (heap_alloc_new wr (.cells #[.int .i64 R] 3))
      have HB1 := Lib.hid (HB.out.trans ((allocU wr (.cells #[.int .i64 R] 3)).mono HB.out.size))
      have HLE1 : Hid (w.heap.size ≤ (wr.alloc (.cells #[.int .i64 R] 3)).heap.size) := HB1.out.size
      clear HT
      go_wp2_with fail
      refine (HTU _ ((HV.out.below HB.out).mono HB.out.size)).out.mono ?_
      rintro e w' ⟨rfl, rfl⟩
      go_upto_region 7 with fail
      first | rw [HR.out] | simp only [HR.out]
      go_wp2_with (at_builtin; refine wpList_append_own _ rfl _ _ 30 rfl w.heap.size 3 i0 (.int .i64 0) 1 8 Tryz.underlying30 HI0.out HZ0.out HZ1.out HZ2.out rfl (by decide) _ _ _ rfl HT1.out ⟨wr.heap.size, 0, none⟩ 1 1 [.int .i64 R] rfl rfl (cell_news _ _ _ _ HNW.out) (one_intU _) (by unfold maxLen; omega) (by omega) HLE1.out ?_; intro v' w12 hown12 hgrow12 _; have HB7 := Lib.hid (HB1.out.trans (grown_below HT1.out hgrow12 (Nat.le_refl _) HLE1.out)); have HTN := Lib.hid hown12; rw [← HSN.out] at HTN; clear hown12 hgrow12 HT1 HB1 HNW)
      refine ⟨⟨k + 1, _, rfl, by rw [HS.out], by push_cast; rfl, by omega, HB7.out, HTN.out⟩, ?_⟩
      simp [intOf]; omega
    · obtain rfl : m = k + 1 := by omega
      have HPV : Hid ((partedV (turnH x) (k + 1)).map (Value.int .i64) = (partsTo (turnH x) k).map (Value.int .i64) ++ [.int .i64 (leftTo (turnH x) k)]) := by unfold Hid partedV; rw [List.map_append]; rfl
      have HPL : Hid ((partedV (turnH x) (k + 1)).length = k + 1) := (parted_ok (turnH x) (by omega)).len
      generalize leftTo (turnH x) k = L at *
      have HT1 := Lib.hid (HT.out.alloc (.cells #[.int .i64 L] 3))
      have HNW := Lib.hid (heap_alloc_new wr (.cells #[.int .i64 L] 3))
      have HB1 := Lib.hid (HB.out.trans ((allocU wr (.cells #[.int .i64 L] 3)).mono HB.out.size))
      have HLE1 : Hid (w.heap.size ≤ (wr.alloc (.cells #[.int .i64 L] 3)).heap.size) := HB1.out.size
      clear HT
      have hki : ¬ ((k : Int) + 1 < (k : Int) + 1) := by omega
      go_wp2_with (at_builtin; refine wpList_append_own _ rfl _ _ 30 rfl w.heap.size 3 i0 (.int .i64 0) 1 8 Tryz.underlying30 HI0.out HZ0.out HZ1.out HZ2.out rfl (by decide) _ _ _ rfl HT1.out ⟨wr.heap.size, 0, none⟩ 1 1 [.int .i64 L] rfl rfl (cell_news _ _ _ _ HNW.out) (one_intU _) (by unfold maxLen; omega) (by omega) HLE1.out ?_; intro v' w12 hown12 hgrow12 _; have HB7 := Lib.hid (HB1.out.trans (grown_below HT1.out hgrow12 (Nat.le_refl _) HLE1.out)); have HTN := Lib.hid hown12; rw [← HPV.out] at HTN; clear hown12 hgrow12 HT1 HB1 HNW)
      go_ret
      exact ⟨_, rfl, own_ints HTN.out HPL.out (by omega), HB7.out⟩
end Go.Proofs.YtohglbfeahofhaaGreat
