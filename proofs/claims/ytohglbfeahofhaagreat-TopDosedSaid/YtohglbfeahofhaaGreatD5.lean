/- blend.strange, asked and Weigh, at what is valid. -/
import Derived.Test.YtohglbfeahofhaaGreatD2
import Derived.Test.YtohglbfeahofhaaGreatK3
namespace Go.Proofs.YtohglbfeahofhaaGreat
open Go.RowKit
theorem sum1_any (i x : Int) (w : World) : Calls Tryz.prog 89 #[.int .i64 i, .int .i64 x] w fun e w' => e = .returned (.int .i64 x) ∧ w = w' := by
  go_enter Tryz.func89, Tryz.ntmps89
  go_wp2
  go_ret
  exact ⟨rfl, rfl⟩
set_option maxHeartbeats 4000000 in
theorem sum_ok {m : Nat} {r : List Int} (hr : ROk m r) (hm5 : m ≤ 1000) (v : Value) (w : World) (hv : IntsIn .i64 w.heap.size w v r) :
    Calls Tryz.prog 88 #[v, .func (.func 89) #[] #[]] w fun e w' => e = .returned (.int .i64 20) ∧ w = w' := by
  have HV := Lib.hid hv
  have HR := Lib.hid hr
  obtain ⟨a, c, rfl, -⟩ := hv
  have HN := Lib.hid hr.len
  rw [HN.out] at HV ⊢
  clear hr
  go_enter Tryz.func88, Tryz.ntmps88
  go_wp2_with fail
  go_loopw [4, 9] (fun av iv wr => ∃ k : Nat, av = .int .i64 (upTo r k) ∧ iv = .int .i64 k ∧ k ≤ m ∧ w = wr) (fun _ iv _ => m - (intOf iv).toNat)
  case atStart => exact ⟨0, rfl, rfl, by omega, rfl⟩
  case round =>
    obtain ⟨k, rfl, rfl, hk, rfl⟩ := hrel
    by_cases hkl : k < m
    · have hki : (k : Int) < (m : Int) := by omega
      obtain ⟨b, o, ha, hx⟩ : ∃ b o, a = some ⟨b, o, none⟩ ∧ w.cell? ⟨b, o + k, none⟩ = some (.int .i64 (r.getD k 0)) := by
        obtain ⟨b, o, h1, -, h2⟩ := HV.out.atU (i := k) (by rw [HN.out]; exact hkl)
        exact ⟨b, o, h1, h2⟩
      subst ha
      have HS : Hid (upTo r (k + 1) = upTo r k + r.getD k 0) := rfl
      have hb1 := (HR.out.le (k := k) (by omega))
      have hb2 := (HR.out.le (k := k + 1) (by omega))
      rw [HS.out] at hb2
      generalize upTo r k = u at *
      generalize r.getD k 0 = x at *
      go_wp2_with fail
      refine (sum1_any _ _ _).mono ?_
      rintro e w' ⟨rfl, rfl⟩
      clear hx
      go_wp2_with fail
      refine ⟨⟨k + 1, by rw [HS.out], by push_cast; rfl, by omega, by trivial⟩, ?_⟩
      simp [intOf]; omega
    · obtain rfl : k = m := by omega
      go_wp2_with fail
      go_ret
      exact ⟨by rw [HR.out.sum]; rfl, rfl⟩
theorem rok_in {m : Nat} {r : List Int} (hr : ROk m r) : ∀ x ∈ r, 0 ≤ x ∧ x ≤ 20 := fun x hx => by
  obtain ⟨i, hi, rfl⟩ := List.mem_iff_getElem.1 hx
  have h := hr.part i (by have := hr.len; omega)
  rw [List.getD_eq_getElem?_getD, List.getElem?_eq_getElem hi] at h
  exact h
set_option maxHeartbeats 4000000 in
theorem strange_ok {l : List BWax} {r : List Int} (hr : ROk l.length r) (hl5 : l.length ≤ 5) (v rv : Value) (w : World) (hv : BWaxesIn w.heap.size w v l) (hrv : IntsIn .i64 w.heap.size w rv r) :
    Calls Tryz.prog 53 #[v, rv] w fun e w' => e = .returned (.int .i64 0) ∧ Below w.heap.size w w' := by
  have HV := Lib.hid hv
  have HRV := Lib.hid hrv
  have HR := Lib.hid hr
  obtain ⟨a, c, rfl, -, -⟩ := sl_shape hv
  obtain ⟨ra, rc, rfl, -⟩ := id hrv
  have HN := Lib.hid hr.len
  rw [HN.out] at HRV ⊢
  have hq : ((l.length : Int) != (l.length : Int)) = false := by simp
  clear hv hrv hr
  go_enter Tryz.func53, Tryz.ntmps53
  go_wp2_with fail
  refine (kout_r false 0 20 r (outB_in (rok_in HR.out)) _ w w.heap.size HRV.out (Nat.le_refl _)).mono ?_
  rintro e w1 ⟨rfl, hb⟩
  have HB := Lib.hid hb
  clear hb
  go_wp2_with fail
  refine (sum_ok HR.out (by omega) _ w1 ((HRV.out.below HB.out).mono HB.out.size)).mono ?_
  rintro e w2 ⟨rfl, rfl⟩
  go_wp2_with fail
  go_ret
  exact ⟨rfl, HB.out⟩
theorem asked_ok {l : List BWax} (hl : BOk l) {r : List Int} (hr : ROk l.length r) (v rv : Value) (w : World) (hv : BWaxesIn w.heap.size w v l) (hrv : IntsIn .i64 w.heap.size w rv r) :
    Calls Tryz.prog 36 #[v, rv] w fun e w' => e = .returned (.int .i64 0) ∧ Below w.heap.size w w' := by
  have HV := Lib.hid hv
  have HRV := Lib.hid hrv
  have HR := Lib.hid hr
  have HX := fun w h => Lib.hid (bcheck_ok hl v w h)
  clear hv hrv hr
  go_enter Tryz.func36, Tryz.ntmps36
  go_wp2_with fail
  refine (HX _ HV.out).out.mono ?_
  rintro e w1 ⟨rfl, hb⟩
  have HB := Lib.hid hb
  clear hb
  go_wp2_with fail
  refine (strange_ok HR.out hl.n5 _ _ w1 (HV.out.next HB.out) (HRV.out.next HB.out)).mono ?_
  rintro e w2 ⟨rfl, hb⟩
  have HB := Lib.hid (HB.out.trans (hb.mono HB.out.size))
  clear hb
  go_wp2_with fail
  go_ret
  exact ⟨rfl, HB.out⟩
theorem own_ints {w : World} {base n : Nat} {v : Value} {l : List Int} (h : w.ownsRow base 3 1 v n (l.map (Value.int .i64))) (hn : l.length = n) (hl : n ≤ 1000) : IntsIn .i64 w.heap.size w v l := by
  subst hn
  obtain ⟨_, h⟩ := h
  rcases h with ⟨rfl, h0⟩ | ⟨g, cap, cur, rfl, hb, hg, hn, hm, hc, ht⟩
  · have : l = [] := List.eq_nil_of_length_eq_zero h0
    subst this
    exact ⟨none, 0, rfl, by simp, .inl rfl⟩
  · refine ⟨_, cap, rfl, by omega, .inr ⟨g, 0, rfl, block_lt hg, fun i hi => ?_⟩⟩
    rw [cell_of_row w g _ _ _ _ hg, Nat.zero_add]
    have e : (cur.toList.take (l.length * 1))[i]? = (l.map (Value.int .i64))[i]? := by rw [ht]
    rw [List.getElem?_take, if_pos (by omega), List.getElem?_map, List.getElem?_eq_getElem hi] at e
    rw [← Array.getElem?_toList, e, List.getD_eq_getElem?_getD, List.getElem?_eq_getElem hi]; rfl
def weighTo (r : List Int) (g : Int) (k : Nat) : List Int := (List.range k).map fun i => g * upTo r (i + 1) / 20 - g * upTo r i / 20
theorem weighTo_snoc (r : List Int) (g : Int) (k : Nat) : weighTo r g (k + 1) = weighTo r g k ++ [g * upTo r (k + 1) / 20 - g * upTo r k / 20] := by
  unfold weighTo; rw [List.range_succ, List.map_append]; rfl
theorem weighTo_len (r : List Int) (g : Int) (k : Nat) : (weighTo r g k).length = k := by simp [weighTo]
theorem one_intU (x : Int) : ∀ u ∈ [Value.int .i64 x], u.oneCell' = true := fun u hu => by simp at hu; subst hu; rfl
set_option maxRecDepth 100000 in
set_option maxHeartbeats 8000000 in
theorem weigh_ok {l : List BWax} (hl : BOk l) {r : List Int} (hr : ROk l.length r) {g : Int} (hg : 0 ≤ g ∧ g ≤ 1000000) (v rv : Value) (w : World) (hv : BWaxesIn w.heap.size w v l) (hrv : IntsIn .i64 w.heap.size w rv r) :
    Calls Tryz.prog 7 #[v, rv, .int .i64 g] w fun e w' => ∃ u, e = .returned (.tuple #[u, .int .i64 0]) ∧ IntsIn .i64 w'.heap.size w' u (weighV r g) ∧ Below w.heap.size w w' := by
  have HV := Lib.hid hv
  have HRV := Lib.hid hrv
  have HR := Lib.hid hr
  have HX := fun w h1 h2 => Lib.hid (asked_ok hl hr v rv w h1 h2)
  have hn5 := hl.n5
  obtain ⟨ra, rc, rfl, -⟩ := id hrv
  have HN := Lib.hid hr.len
  obtain ⟨m, hm⟩ : ∃ m, l.length = m := ⟨_, rfl⟩
  rw [hm] at HN HR hn5
  rw [HN.out] at HRV HX ⊢
  obtain ⟨i0, hi0, hz0, hz1, hz2⟩ := info3'
  have HI0 := Lib.hid hi0
  have HZ0 := Lib.hid hz0
  have HZ1 := Lib.hid hz1
  have HZ2 := Lib.hid hz2
  clear hi0 hz0 hz1 hz2 hv hrv hr hm
  have HG := Lib.hid hg
  go_enter Tryz.func7, Tryz.ntmps7
  go_wp2_with fail
  refine (HX _ HV.out HRV.out).out.mono ?_
  rintro e w1 ⟨rfl, hb⟩
  have HB := Lib.hid hb
  clear hb HX
  go_wp2_with fail
  refine (kout_row false 0 1000000 [g] 1 rfl (by simp) (by rw [outB_one]; unfold outOne; simp; omega) _ _ rfl _ (heap_alloc_new _ _)).mono ?_
  rintro e w2 ⟨rfl, hb⟩
  have HB := Lib.hid (HB.out.trans (((allocU w1 (.cells #[.int .i64 g] 3)).trans (hb.mono (allocU w1 (.cells #[.int .i64 g] 3)).size)).mono HB.out.size))
  clear hb
  go_wp2_with fail
  go_loopw [6, 8, 23] (fun tx pv iv wr => ∃ (k : Nat) (tv : Value), tv = tx ∧ pv = .int .i64 (upTo r k) ∧ iv = .int .i64 k ∧ k ≤ m ∧ Below w.heap.size w wr ∧ wr.ownsRow w.heap.size 3 1 tv k ((weighTo r g k).map (Value.int .i64))) (fun _ _ iv _ => m - (intOf iv).toNat)
  case atStart => exact ⟨0, _, rfl, rfl, rfl, by omega, HB.out, World.ownsRow_nil _ _ 3 1⟩
  case round =>
    clear HB
    obtain ⟨k, tv, rfl, rfl, rfl, hk, hb, hT⟩ := hrel
    have HB := Lib.hid hb
    have HT := Lib.hid hT
    clear hb hT
    by_cases hkl : k < m
    · have hki : (k : Int) < (m : Int) := by omega
      obtain ⟨b, o, ha, hbl, hx⟩ := HRV.out.atU (i := k) (by rw [HN.out]; exact hkl)
      subst ha
      have hy := (HB.out.cell (p := ⟨b, o + k, none⟩) hbl).trans hx
      have HS : Hid (upTo r (k + 1) = upTo r k + r.getD k 0) := rfl
      have HSN : Hid ((weighTo r g (k + 1)).map (Value.int .i64) = (weighTo r g k).map (Value.int .i64) ++ [.int .i64 (g * upTo r (k + 1) / 20 - g * upTo r k / 20)]) := by unfold Hid; rw [weighTo_snoc, List.map_append]; rfl
      have hb1 := (HR.out.le (k := k) (by omega))
      have hb2 := (HR.out.le (k := k + 1) (by omega))
      obtain ⟨u2, HU2⟩ : ∃ z, Hid (upTo r (k + 1) = z) := ⟨_, rfl⟩
      rw [HU2.out] at HS HSN hb2
      generalize upTo r k = u at *
      generalize r.getD k 0 = x at *
      obtain ⟨A, HA⟩ : ∃ z, Hid (g * u = z) := ⟨_, rfl⟩
      obtain ⟨A2, HA2⟩ : ∃ z, Hid (g * u2 = z) := ⟨_, rfl⟩
      have hA : 0 ≤ A ∧ A ≤ 20000000 := by rw [← HA.out]; have h := HG.out; have := mulb (a := g) (b := u) (A := 1000000) (B := 20) (by omega) (by omega); omega
      have hA2 : 0 ≤ A2 ∧ A2 ≤ 20000000 := by rw [← HA2.out]; have h := HG.out; have := mulb (a := g) (b := u2) (A := 1000000) (B := 20) (by omega) (by omega); omega
      have hm1 : wrap64 (g * u) = A := by rw [HA.out]; exact wrapU (by omega)
      have hm2 : wrap64 (g * u2) = A2 := by rw [HA2.out]; exact wrapU (by omega)
      rw [HA.out, HA2.out] at HSN
      have hus : u + x = u2 := HS.out.symm
      clear hx hbl HA HA2
      have HT1 := Lib.hid (HT.out.alloc (.cells #[.int .i64 (A2 / 20 - A / 20)] 3))
      have HNW := Lib.hid (heap_alloc_new wr (.cells #[.int .i64 (A2 / 20 - A / 20)] 3))
      have HB1 := Lib.hid (HB.out.trans ((allocU wr (.cells #[.int .i64 (A2 / 20 - A / 20)] 3)).mono HB.out.size))
      have HLE1 : Hid (w.heap.size ≤ (wr.alloc (.cells #[.int .i64 (A2 / 20 - A / 20)] 3)).heap.size) := HB1.out.size
      clear HT
      go_wp2_with (at_builtin; refine wpList_append_own _ rfl _ _ 30 rfl w.heap.size 3 i0 (.int .i64 0) 1 8 Tryz.underlying30 HI0.out HZ0.out HZ1.out HZ2.out rfl (by decide) _ _ _ rfl HT1.out ⟨wr.heap.size, 0, none⟩ 1 1 [.int .i64 (A2 / 20 - A / 20)] rfl rfl (cell_news _ _ _ _ HNW.out) (one_intU _) (by unfold maxLen; omega) (by omega) HLE1.out ?_; intro v' w12 hown12 hgrow12 _; have HB7 := Lib.hid (HB1.out.trans (grown_below HT1.out hgrow12 (Nat.le_refl _) HLE1.out)); have HTN := Lib.hid hown12; rw [← HSN.out] at HTN; clear hown12 hgrow12 HT1 HB1 HNW hy)
      refine ⟨⟨k + 1, _, rfl, by rw [HU2.out], by push_cast; rfl, by omega, HB7.out, HTN.out⟩, ?_⟩
      simp [intOf]; omega
    · obtain rfl : k = m := by omega
      have e : weighTo r g k = weighV r g := by unfold weighTo weighV; rw [HN.out]
      rw [e] at HT
      go_wp2_with fail
      go_ret2
      exact ⟨_, rfl, own_ints HT.out (by rw [weigh_len, HN.out]) (by omega), HB.out⟩
end Go.Proofs.YtohglbfeahofhaaGreat
