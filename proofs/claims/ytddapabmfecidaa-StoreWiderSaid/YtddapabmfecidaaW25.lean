/- store.Show. -/
import Derived.Test.YtddapabmfecidaaP2
import Derived.Test.YtddapabmfecidaaW24
import Derived.OwnWalk
import Derived.BigQuiet
import Derived.Test.YtddapabmfecidaaW18
import Derived.Deep.MidRow
namespace Go.Proofs.Ytddapabmfecidaa
open Go.RowKit

/-- n arrays of 61 ints, one behind the other. -/
def arrL (n : Nat) (f : Nat → List Int) : List Int := (List.range (n * 61)).map fun k => (f (k / 61)).getD (k % 61) 0
theorem arrL_len (n : Nat) (f : Nat → List Int) : (arrL n f).length = n * 61 := by simp [arrL]
theorem arrL_get (n : Nat) (f : Nat → List Int) (i j : Nat) (hi : i < n) (hj : j < 61) : (ints (arrL n f))[i * 61 + j]? = some (.int .i64 ((f i).getD j 0)) := by
  have h1 : i * 61 + j < n * 61 := by omega
  have h2 : (i * 61 + j) / 61 = i := by omega
  have h3 : (i * 61 + j) % 61 = j := by omega
  rw [ints_get _ _ (by rw [arrL_len]; exact h1)]
  unfold arrL
  rw [List.getD_eq_getElem?_getD, List.getElem?_map, List.getElem?_range h1]
  simp only [Option.map_some, Option.getD_some, h2, h3]
theorem arr_range {w : World} {b n : Nat} {f : Nat → List Int} {t : TypeId} (h : w.heap[b]? = some (.cells (ints (arrL n f)) t)) {i : Nat} (hi : i < n) (hl : (f i).length = 61) : w.rangeAt b (i * 61) ((f i).map (Value.int .i64)) := by
  intro j v hv
  have hj : j < 61 := by
    have := (List.getElem?_eq_some_iff.1 hv).1
    simpa [hl] using this
  rw [cell_of_row w b _ _ _ _ h, arrL_get n f i j hi hj]
  rw [List.getElem?_map, List.getElem?_eq_getElem (by omega)] at hv
  simp only [Option.map_some, Option.some.injEq] at hv
  rw [← hv, List.getD_eq_getElem?_getD, List.getElem?_eq_getElem (by omega)]
  rfl
theorem arr_there {w : World} {b n : Nat} {f : Nat → List Int} {t : TypeId} (h : w.heap[b]? = some (.cells (ints (arrL n f)) t)) {i : Nat} (hi : i < n) : w.there b (i * 61) 61 := by
  intro j hj
  refine ⟨?_, frozen_of_row w b _ _ _ h⟩
  rw [cell_of_row w b _ _ _ _ h, arrL_get n f i j hi hj]
  rfl
theorem writeAt_get : ∀ (vs : List Value) (cs : Array Value) (o k : Nat), o + vs.length ≤ cs.size → (writeAt cs o vs)[k]? = if o ≤ k ∧ k < o + vs.length then vs[k - o]? else cs[k]?
  | [], cs, o, k, _ => by simp [writeAt]; omega
  | v :: vs, cs, o, k, h => by
    simp only [List.length_cons] at h
    rw [writeAt, writeAt_get vs (cs.setIfInBounds o v) (o + 1) k (by simp; omega)]
    by_cases h1 : o + 1 ≤ k ∧ k < o + 1 + vs.length
    · rw [if_pos h1, if_pos (by simp only [List.length_cons]; omega), show k - o = (k - (o + 1)) + 1 by omega]
      simp
    · rw [if_neg h1]
      by_cases h2 : k = o
      · subst h2
        rw [if_pos (by simp only [List.length_cons]; omega), Nat.sub_self, Array.getElem?_setIfInBounds_self_of_lt (by omega)]
        rfl
      · rw [if_neg (by simp only [List.length_cons]; omega), Array.getElem?_setIfInBounds_ne (by omega)]
def setF (f : Nat → List Int) (i : Nat) (m : List Int) : Nat → List Int := fun k => if k = i then m else f k
theorem arr_write {n : Nat} {f : Nat → List Int} {i : Nat} (hi : i < n) {m : List Int} (hm : m.length = 61) : writeAt (ints (arrL n f)) (i * 61) (ints m).toList = ints (arrL n (setF f i m)) := by
  have hl : (ints m).toList.length = 61 := by simp [ints, hm]
  apply Array.ext_getElem?
  intro k
  rw [writeAt_get _ _ _ _ (by rw [hl, ints_size, arrL_len]; omega), hl]
  by_cases hk : k < n * 61
  · have hd : k = k / 61 * 61 + k % 61 := by omega
    have hq : k / 61 < n := by omega
    have hr : k % 61 < 61 := Nat.mod_lt _ (by omega)
    have e2 := arrL_get n (setF f i m) (k / 61) (k % 61) hq hr
    rw [← hd] at e2
    rw [e2]
    by_cases h1 : i * 61 ≤ k ∧ k < i * 61 + 61
    · rw [if_pos h1]
      have hki : k / 61 = i := by omega
      unfold setF
      rw [if_pos hki, ints]
      simp only [List.getElem?_map]
      rw [show k - i * 61 = k % 61 by omega, List.getElem?_eq_getElem (by omega), List.getD_eq_getElem?_getD, List.getElem?_eq_getElem (by omega)]
      rfl
    · rw [if_neg h1]
      have hki : k / 61 ≠ i := by omega
      unfold setF
      rw [if_neg hki]
      have e3 := arrL_get n f (k / 61) (k % 61) hq hr
      rw [← hd] at e3
      exact e3
  · rw [if_neg (by omega), Array.getElem?_eq_none (by rw [ints_size, arrL_len]; omega), Array.getElem?_eq_none (by rw [ints_size, arrL_len]; omega)]
/-- The arrays filled from day k on. -/
def fillF (s : Sea) (way : List Int) (k : Nat) : Nat → List Int := fun i => if k ≤ i ∧ i ≤ way.length then RV s way i else List.replicate 61 0
theorem fillF_len (s : Sea) (way : List Int) (k i : Nat) : (fillF s way k i).length = 61 := by unfold fillF; split; exact RV_len _ _ _; simp
theorem fillF_set (s : Sea) (way : List Int) (k : Nat) (hk : k < way.length) : setF (fillF s way (k + 1)) k (RV s way k) = fillF s way k := by
  funext i
  unfold setF fillF
  by_cases h : i = k
  · subst h; rw [if_pos rfl, if_pos (by omega)]
  · rw [if_neg h]
    by_cases h2 : k + 1 ≤ i ∧ i ≤ way.length
    · rw [if_pos h2, if_pos (by omega)]
    · rw [if_neg h2, if_neg (by omega)]
theorem fillF_start (s : Sea) (way : List Int) : fillF s way way.length = fun _ => List.replicate 61 0 := by
  funext i
  unfold fillF
  split
  · rw [show i = way.length by omega, RV_end]
  · rfl

theorem i93info : ∃ (i : TypeInfo) (z : Value), Try.prog.info? 93 = some i ∧ i.zero = some z ∧ z.cells = ints (List.replicate 61 0) ∧ i.size = 61 ∧ i.bytes = 488 := by
  obtain ⟨i, h1, h2⟩ := Option.map_eq_some_iff.1 (show (Try.prog.info? 93).map (fun i => (i.zero.map (·.cells), i.size, i.bytes)) = some (some (ints (List.replicate 61 0)), 61, 488) by kernel_rfl)
  simp only [Prod.mk.injEq] at h2
  obtain ⟨z, hz, hc⟩ := Option.map_eq_some_iff.1 h2.1
  exact ⟨i, z, h1, hz, hc, h2.2⟩
theorem made_zero (n : Nat) : madeCells (ints (List.replicate 61 0)) (n * 61) = ints (arrL n fun _ => List.replicate 61 0) := by
  apply Array.ext_getElem?
  intro k
  by_cases hk : k < n * 61
  · have hd : k = k / 61 * 61 + k % 61 := by omega
    have e := arrL_get n (fun _ => List.replicate 61 0) (k / 61) (k % 61) (by omega) (Nat.mod_lt _ (by omega))
    rw [← hd] at e
    rw [e]
    unfold madeCells
    have hz : (ints (List.replicate 61 0))[k % 61]! = .int .i64 0 := by
      have h1 := ints_get (List.replicate 61 0) (k % 61) (by simp; exact Nat.mod_lt _ (by omega))
      have h2 : (List.replicate 61 (0 : Int)).getD (k % 61) 0 = 0 := by
        rw [List.getD_eq_getElem?_getD, List.getElem?_replicate]; split <;> rfl
      rw [h2] at h1
      rw [Array.getElem!_eq_getD, Array.getD_eq_getD_getElem?, h1]; rfl
    have h2 : (List.replicate 61 (0 : Int)).getD (k % 61) 0 = 0 := by
      rw [List.getD_eq_getElem?_getD, List.getElem?_replicate]; split <;> rfl
    rw [h2, Array.getElem?_map, Array.getElem?_range]
    simp only [hk, if_true, Option.map_some, ints_size, List.length_replicate]
    rw [hz]
  · rw [Array.getElem?_eq_none (by rw [size_madeCells]; omega), Array.getElem?_eq_none (by rw [ints_size, arrL_len]; omega)]
set_option maxRecDepth 100000 in
set_option maxHeartbeats 4000000 in
theorem show_bad (s : Sea) (vs wv : Value) (way : List Int) (w : World) (hv : StosIn w.heap.size w vs s.stores) (hw : IntsIn .i64 w.heap.size w wv way) (e : Int) (he : openE s way = e) (hz : e ≠ 0) :
    Calls Try.prog 24 #[.agg #[.int .i64 s.bend, .int .i64 s.days, .int .i64 s.jump, .int .i64 s.times, .int .i64 s.move, vs], wv] w
      fun e' w' => e' = .returned (.tuple #[.slice none 0 0, .int .i64 e]) ∧ Below w.heap.size w w' := by
  have HV := Lib.hid hv
  have HWV := Lib.hid hw
  obtain ⟨a, c, rfl, hll, hlc, hvv⟩ := hv
  obtain ⟨aw, cw, rfl, hwl, hwv⟩ := hw
  clear hvv hwv
  have C0 : Hid (Below w.heap.size w (w.alloc (.cells #[.int .i64 s.bend, .int .i64 s.days, .int .i64 s.jump, .int .i64 s.times, .int .i64 s.move, .slice a s.stores.length c] 31))) := (Below.refl _ _).alloc (Nat.le_refl _) _
  have HE := Lib.hid he
  clear he
  have hzz : (e != 0) = true := by simpa using hz
  clear hz
  go_enter Try.func24, Try.ntmps24
  go_wp2_with fail
  refine (open_any s _ _ way _ ((HV.out.below C0.out).mono C0.out.size) ((HWV.out.below C0.out).mono C0.out.size)).mono ?_
  rintro e' w1 ⟨rfl, hbw⟩
  have C1 := Lib.hid (C0.out.trans (hbw.mono C0.out.size))
  clear hbw
  rw [HE.out]
  go_wp2_with fail
  go_ret2
  exact ⟨rfl, C1.out.alloc C1.out.size _⟩

theorem Below.drewN' {B : Nat} {a w : World} (h : Below B a w) (n : Nat) : Below B a (w.drewN n) := ⟨h.os, h.tape, h.output, h.size, h.block⟩
/-- The worlds of Show. -/
structure SH (s : Sea) (w : World) (b6 br : Nat) (S : Array Value) (n : Nat) (f : Nat → List Int) (wr : World) : Prop where
  rS : wr.heap[b6]? = some (.cells S 75)
  rR : wr.heap[br]? = some (.cells (ints (arrL n f)) 93)
  bel : Below w.heap.size w wr
  ne : b6 ≠ br ∧ w.heap.size ≤ br
theorem SH.below {s : Sea} {w : World} {b6 br : Nat} {S : Array Value} {n : Nat} {f : Nat → List Int} {wr wr' : World} (h : SH s w b6 br S n f wr) (hb : Below wr.heap.size wr wr') : SH s w b6 br S n f wr' :=
  ⟨block_keep h.rS hb, block_keep h.rR hb, h.bel.trans (hb.mono h.bel.size), h.ne⟩
theorem SH.grown {s : Sea} {w : World} {b6 br base : Nat} {S : Array Value} {n : Nat} {f : Nat → List Int} {wr wr' : World} {v : Value} (h : SH s w b6 br S n f wr) (hg : wr.grownBy wr' v.ownBlock) (hlt : ∀ k, v.ownBlock = some k → base ≤ k) (hb : b6 < base ∧ br < base ∧ w.heap.size ≤ base) : SH s w b6 br S n f wr' :=
  ⟨grown_keeps hg h.rS (fun k e => by have := hlt k e; omega), grown_keeps hg h.rR (fun k e => by have := hlt k e; omega), h.bel.grown hg h.bel.size (fun k e => Nat.le_trans hb.2.2 (hlt k e)), h.ne⟩
theorem SH.write {s : Sea} {w : World} {b6 br : Nat} {S : Array Value} {n : Nat} {f : Nat → List Int} {wr : World} (h : SH s w b6 br S n f wr) {i : Nat} (hi : i < n) {m : List Int} (hm : m.length = 61) : SH s w b6 br S n (setF f i m) (wr.setCells br (i * 61) (ints m).toList) := by
  rw [setCells_row br 93 _ _ _ _ h.rR, arr_write hi hm]
  exact ⟨(setRow_other _ _ _ _ h.ne.1).trans h.rS, setRow_heap _ _ _ _ _ _ h.rR, below_setRow h.bel h.ne.2 _, h.ne⟩
theorem ownsRow_whole {w : World} {base n sz g : Nat} {e : TypeId} {xs : List Value} (h : w.ownsRow base e sz (.slice (some ⟨g, 0, none⟩) n n) n xs) : w.heap[g]? = some (.cells xs.toArray e) := by
  rcases h.2 with ⟨h0, _⟩ | ⟨g', cap, cur, hv, _, hg, _, _, hc, ht⟩
  · cases h0
  · simp only [Value.slice.injEq, Option.some.injEq, Addr.mk.injEq, and_true] at hv
    obtain ⟨rfl, -, rfl⟩ := hv
    rw [hg, ← ht, List.take_of_length_le (by simp; omega)]
def ShowPost (s : Sea) (way : List Int) (w : World) (e : Ending) (w' : World) : Prop :=
  ∃ v, e = .returned (.tuple #[v, .int .i64 (showV s way).2]) ∧ IntsIn .i64 w'.heap.size w' v (showV s way).1 ∧ (∃ a c, v = .slice a (showV s way).1.length c ∧ (showV s way).1.length ≤ c) ∧ Below w.heap.size w w'

set_option maxRecDepth 100000 in
set_option maxHeartbeats 4000000 in
theorem show_good (s : Sea) (vs wv : Value) (way : List Int) (w : World) (hv : StosIn w.heap.size w vs s.stores) (hw : IntsIn .i64 w.heap.size w wv way) (he : openE s way = 0) :
    Calls Try.prog 24 #[.agg #[.int .i64 s.bend, .int .i64 s.days, .int .i64 s.jump, .int .i64 s.times, .int .i64 s.move, vs], wv] w (ShowPost s way w) := by
  have HV := Lib.hid hv
  have HWV := Lib.hid hw
  obtain ⟨a, c, rfl, hll, hlc, hvv⟩ := hv
  obtain ⟨aw, cw, rfl, hwl, hwv⟩ := hw
  clear hvv hwv
  have C0 : Hid (Below w.heap.size w (w.alloc (.cells #[.int .i64 s.bend, .int .i64 s.days, .int .i64 s.jump, .int .i64 s.times, .int .i64 s.move, .slice a s.stores.length c] 31))) := (Below.refl _ _).alloc (Nat.le_refl _) _
  have HE := Lib.hid he
  have HG := Lib.hid (good_of_ok (openE_ok he).1)
  have HW := Lib.hid (way_ok (openE_ok he).2)
  clear he
  have hn8 : way.length ≤ 8 := by have h1 := HW.out.2.1; have h2 := HG.out.len.2; omega
  have hn1 : 0 < way.length := HW.out.1
  have HOKS := Lib.hid (show_ok HG.out HW.out.2.1 HW.out.2.2 hn1)
  obtain ⟨i1, z1, hi1, hz1, hzc, hsz1, hby1⟩ := i93info
  go_enter Try.func24, Try.ntmps24
  go_wp2_with fail
  refine (open_any s _ _ way _ ((HV.out.below C0.out).mono C0.out.size) ((HWV.out.below C0.out).mono C0.out.size)).mono ?_
  rintro e' w1 ⟨rfl, hbw⟩
  have C1 := Lib.hid (C0.out.trans (hbw.mono C0.out.size))
  clear hbw C0
  rw [HE.out]
  go_upto_region 4 with fail
  go_wp2_with (at_make; refine wpList_make_full _ rfl _ _ 105 rfl (w1.heap.size + 1) 93 i1 z1 61 Try.underlying105 hi1 hz1 hsz1 .i64 .i64 _ _ (way.length + 1) rfl rfl (by omega) (by omega) (by rw [hby1]; omega) (by unfold maxLen; omega) (by simp) ?_; intro w2 hown hgrow)
  simp only [World.size_alloc] at hown
  have hrow := ownsRow_whole hown
  rw [hzc, made_zero, ← fillF_start s way] at hrow
  have HSH : Hid (SH s w w1.heap.size (w1.heap.size + 1) #[.int .i64 s.bend, .int .i64 s.days, .int .i64 s.jump, .int .i64 s.times, .int .i64 s.move, .slice a s.stores.length c] (way.length + 1) (fillF s way way.length) w2) := by
    have hb0 := heap_alloc_new w1 (.cells #[.int .i64 s.bend, .int .i64 s.days, .int .i64 s.jump, .int .i64 s.times, .int .i64 s.move, .slice a s.stores.length c] 75)
    have hgb := (Below.refl (w1.alloc (.cells #[.int .i64 s.bend, .int .i64 s.days, .int .i64 s.jump, .int .i64 s.times, .int .i64 s.move, .slice a s.stores.length c] 75)).heap.size (w1.alloc (.cells #[.int .i64 s.bend, .int .i64 s.days, .int .i64 s.jump, .int .i64 s.times, .int .i64 s.move, .slice a s.stores.length c] 75))).grown hgrow (Nat.le_refl _) (fun k e => by cases e)
    exact ⟨block_keep hb0 hgb, hrow, (C1.out.alloc C1.out.size _).trans (hgb.mono (by have := C1.out.size; simp; omega)), by omega, by have := C1.out.size; omega⟩
  clear hown hgrow hrow
  go_loopw [8] (fun iv wr => ∃ k : Nat, iv = .int .i64 ((k : Int) - 1) ∧ k ≤ way.length ∧ SH s w w1.heap.size (w1.heap.size + 1) #[.int .i64 s.bend, .int .i64 s.days, .int .i64 s.jump, .int .i64 s.times, .int .i64 s.move, .slice a s.stores.length c] (way.length + 1) (fillF s way k) wr) (fun iv _ => (intOf iv + 1).toNat)
  case atStart => exact ⟨way.length, by go_num, Nat.le_refl _, HSH.out⟩
  case round =>
    obtain ⟨k, rfl, hk, hH⟩ := hrel
    have HH := Lib.hid hH
    clear hH
    rcases k with _ | q
    · rw [show (((0 : Nat) : Int) - 1) = -1 by omega]
      have hrg := arr_range HH.out.rR (i := 0) (by omega) (fillF_len _ _ _ _)
      rw [show fillF s way 0 0 = RV s way 0 by unfold fillF; rw [if_pos (by omega)], Nat.zero_mul] at hrg
      have HRG := Lib.hid hrg
      have HSM0 : Hid (Small 100 (RV s way 0)) := fun k => by
        have := RV_small s way (way.length - 0) 0 k
        unfold RV
        omega
      clear hrg
      go_wp2_with (refine wpList_load_mid rfl 93 _ rfl _ _ rfl _ _ HRG.out Try.underlying93 rfl (by rw [List.length_map, RV_len]; exact info93) ?_)
      refine (most_any _ (RV_len _ _ _) _ 100 HSM0.out (by omega)).mono ?_
      rintro e w3 ⟨rfl, hbw⟩
      have HH3 := Lib.hid (HH.out.below hbw)
      have hmx := (HOKS.out 0 (by omega)).pos
      have hmz := (HOKS.out 0 (by omega)).zero rfl
      have hmb : 0 < maxTo (RV s way 0) 61 ∧ maxTo (RV s way 0) 61 ≤ 100 := by
        obtain ⟨b, hb, he⟩ := maxTo_at (RV s way 0) 61 (by omega)
        have := (HSM0.out b).2
        omega
      have HST0 : Hid (showSt s way 0 = ([], maxTo (RV s way 0) 61)) := rfl
      clear hbw hmx hmz
      generalize hmm : maxTo (RV s way 0) 61 = mx at *
      clear hmm
      go_wp2_with fail
      have hs3 : w1.heap.size + 1 < w3.heap.size := block_lt HH3.out.rR
      go_loopw [4, 9, 66] (fun v lv dv wr => ∃ d : Nat, dv = .int .i64 d ∧ d ≤ way.length ∧ lv = .int .i64 (showSt s way d).2 ∧ SH s w w1.heap.size (w1.heap.size + 1) #[.int .i64 s.bend, .int .i64 s.days, .int .i64 s.jump, .int .i64 s.times, .int .i64 s.move, .slice a s.stores.length c] (way.length + 1) (fillF s way 0) wr ∧ wr.ownsRow (w1.heap.size + 2) 3 1 v d ((showSt s way d).1.map (Value.int .i64))) (fun _ _ dv _ => way.length - (intOf dv).toNat)
      case atStart => exact ⟨0, rfl, by omega, by rw [HST0.out], HH3.out, by rw [HST0.out]; exact World.ownsRow_nil _ _ _ _⟩
      case round =>
        obtain ⟨d, rfl, hd, rfl, hH, hO⟩ := hrel
        have HH4 := Lib.hid hH
        have HO4 := Lib.hid hO
        obtain ⟨av, cv, hvs⟩ := ownsRow_slice hO
        subst hvs
        clear hH hO
        by_cases hlt : d < way.length
        · have hrg := arr_range HH4.out.rR (i := d) (by omega) (fillF_len _ _ _ _)
          rw [show fillF s way 0 d = RV s way d by unfold fillF; rw [if_pos (by omega)]] at hrg
          have HRG := Lib.hid hrg
          clear hrg
          have HSD := Lib.hid (HOKS.out d hd)
          obtain ⟨left, hleft⟩ : ∃ x, (showSt s way d).2 = x := ⟨_, rfl⟩
          obtain ⟨l, hl⟩ : ∃ x, (showSt s way d).1 = x := ⟨_, rfl⟩
          have HL := Lib.hid hl
          have HLF := Lib.hid hleft
          have hllen := HSD.out.len
          have hlrng := HSD.out.rng
          rw [hl] at HO4 hllen hlrng
          rw [hleft]
          clear hl hleft
          have HLLEN := Lib.hid hllen
          have HLRNG := Lib.hid hlrng
          clear hllen hlrng
          have hvl := RV_len s way d
          have HVS : Hid (Small 100 (RV s way d)) := fun k => by
            have := RV_small s way (way.length - d) d k
            unfold RV
            omega
          have HNX : Hid (∀ x, x < 61 → pickB s.jump (RV s way d) l d left x = true → (∀ k, k < x → pickB s.jump (RV s way d) l d left k = false) → showSt s way (d + 1) = (l ++ [(x : Int)], (RV s way d).getD x 0)) := by
            intro x hx hp hlt2
            rw [showSt, HL.out, HLF.out, find_some hx hp hlt2]
          have HFND : Hid (∃ w, w < 61 ∧ pickB s.jump (RV s way d) l d left w = true) := by
            have := show_found HG.out HW.out.2.1 HW.out.2.2 hlt HSD.out
            rw [HL.out, HLF.out] at this
            exact this
          generalize RV s way d = vec at *
          have HVL := Lib.hid hvl
          clear hvl
          go_wp2_with (refine wpList_load_mid rfl 93 _ rfl _ _ rfl _ _ HRG.out Try.underlying93 rfl (by rw [List.length_map, HVL.out]; exact info93) ?_)
          go_loopw [4, 9, 73] (fun sv lv kv wr => ∃ k : Nat, sv = .slice av d cv ∧ lv = .int .i64 left ∧ kv = .int .i64 k ∧ k ≤ 61 ∧ SH s w w1.heap.size (w1.heap.size + 1) #[.int .i64 s.bend, .int .i64 s.days, .int .i64 s.jump, .int .i64 s.times, .int .i64 s.move, .slice a s.stores.length c] (way.length + 1) (fillF s way 0) wr ∧ wr.ownsRow (w1.heap.size + 2) 3 1 (.slice av d cv) d (l.map (Value.int .i64)) ∧ ∀ j, j < k → pickB s.jump vec l d left j = false) (fun _ _ kv _ => 61 - (intOf kv).toNat)
          case atStart => exact ⟨0, rfl, rfl, rfl, by omega, HH4.out, HO4.out, fun j hj => by omega⟩
          case round =>
            obtain ⟨k, rfl, rfl, rfl, hk, hH, hO, hlo⟩ := hrel
            have HH5 := Lib.hid hH
            have HO5 := Lib.hid hO
            have HLO := Lib.hid hlo
            clear hH hO hlo
            by_cases hk61 : k < 61
            · have hix : (Instr.index 93 (.agg (List.map (Value.int .i64) vec).toArray) (.int .i64 (k : Int))).run Try.prog wr = .ok (.int .i64 (vec.getD k 0)) wr := run_index_ints Try.underlying93 Try.underlying3 info3 vec HVL.out k hk61 wr
              obtain ⟨n, hnv⟩ : ∃ n, vec.getD k 0 = n := ⟨_, rfl⟩
              have hnb := HVS.out k
              have hk61d : decide ((k : Int) < 61) = true := by simp; omega
              rw [hnv] at hix hnb
              have HNV := Lib.hid hnv
              clear hnv
              obtain ⟨q, hq⟩ : ∃ q, (decide (0 < d) && jumpB s.jump (l.getD (d - 1) 0) k) = q := ⟨_, rfl⟩
              have HHE : Hid (hereV s.jump vec l d k = if q then n + 1 else n) := by unfold Hid hereV; rw [hq, HNV.out]
              have HQ := Lib.hid hq
              clear hq
              by_cases hd0 : d = 0
              · skip
                subst hd0
                obtain rfl : q = false := by rw [← HQ.out]; simp
                go_wp2_with fail
                go_quiet (fail)
                simp only [Exit.then]
                have HH6 := Lib.hid (HH5.out.below (Below.drewN' (Below.refl wr.heap.size wr) nq))
                have HO6 := Lib.hid (ownsRow.below HO5.out (Below.drewN' (Below.refl wr.heap.size wr) nq))
                generalize wr.drewN nq = w6 at HH6 HO6 ⊢
                have hqn := HHE.out
                simp only [Bool.false_eq_true, if_false] at hqn
                by_cases hn0 : 0 < n
                · by_cases hel : n = left
                  · have HPK : Hid (pickB s.jump vec l 0 left k = true) := by unfold Hid pickB; rw [hqn, HNV.out, decide_eq_true hn0, decide_eq_true hel]; rfl
                    have HSN := Lib.hid (HNX.out k hk61 HPK.out HLO.out)
                    rw [HNV.out] at HSN
                    have hsw : w1.heap.size + 1 < w6.heap.size := block_lt HH6.out.rR
                    obtain ⟨i0, hi0, hz0, hz1', hz2⟩ := i64info
                    clear hqn
                    go_wp2_with (at_builtin; refine wpList_append_own _ rfl _ _ 33 rfl (w1.heap.size + 2) 3 i0 (.int .i64 0) 1 8 Try.underlying33 hi0 hz0 hz1' hz2 rfl (by decide) _ _ _ rfl (HO6.out.alloc _) ⟨w6.heap.size, 0, none⟩ 1 1 [.int .i64 (k : Int)] rfl rfl (cell_one_new _ _ _) (fun x hx => by simp at hx; subst hx; rfl) (by unfold maxLen; omega) (by omega) (by simp; omega) ?_; intro v' w12 hown12 hgrow12 _)
                    have hbx := (Below.refl w6.heap.size w6).alloc (Nat.le_refl _) (.cells #[.int .i64 (k : Int)] 3)
                    have hlt12 := World.ownsRow.lt HO6.out
                    have HH12 := Lib.hid ((HH6.out.below hbx).grown (base := w1.heap.size + 2) hgrow12 (fun k e => (hlt12 k e).1) ⟨by omega, by omega, by have := C1.out.size; omega⟩)
                    refine ⟨⟨0 + 1, by go_num, by omega, by rw [HSN.out] <;> first | rfl | simp [hel], HH12.out, ?_⟩, ?measure⟩
                    · rw [HSN.out]
                      simp only [List.map_append, List.map_cons, List.map_nil]
                      exact hown12
                    case measure => simp [intOf]; try omega
                  · have HPK : Hid (pickB s.jump vec l 0 left k = false) := by unfold Hid pickB; rw [hqn, decide_eq_false hel, Bool.and_false]
                    have hel' : ((n : Int) == left) = false := by simpa using hel
                    clear hqn
                    go_wp2_with fail
                    go_roundw
                    case rel => exact ⟨k + 1, rfl, rfl, by go_num, by omega, HH6.out, HO6.out, fun j hj => by
                      rcases Nat.lt_or_ge j k with h | h
                      · exact HLO.out j h
                      · rw [show j = k by omega]; exact HPK.out⟩
                    case measure => simp [intOf]; try omega
                · have HPK : Hid (pickB s.jump vec l 0 left k = false) := by unfold Hid pickB; rw [HNV.out, decide_eq_false hn0, Bool.false_and]
                  clear hqn
                  go_wp2_with fail
                  go_roundw
                  case rel => exact ⟨k + 1, rfl, rfl, by go_num, by omega, HH6.out, HO6.out, fun j hj => by
                    rcases Nat.lt_or_ge j k with h | h
                    · exact HLO.out j h
                    · rw [show j = k by omega]; exact HPK.out⟩
                  case measure => simp [intOf]; try omega
              · skip
                have hll := HLLEN.out
                have ho' : wr.ownsRow (w1.heap.size + 2) 3 1 (.slice av l.length cv) l.length (l.map (Value.int .i64)) := by rw [hll]; exact HO5.out
                obtain ⟨a', c2, hv2, _, hcc⟩ := (ownsRow_ints ho' (by omega)).1
                simp only [Value.slice.injEq] at hv2
                obtain ⟨rfl, -, rfl⟩ := hv2
                obtain ⟨g, o, rfl, -, hcl⟩ := hcc.resolve_left (by intro h; rw [h] at hll; simp at hll; omega)
                have hcl1 := hcl (d - 1) (by omega)
                obtain ⟨yv, hyv⟩ : ∃ y, l.getD (d - 1) 0 = y := ⟨_, rfl⟩
                have hyb := HLRNG.out (d - 1) (by omega)
                rw [hyv] at hcl1 hyb
                have HCL := Lib.hid hcl1
                have HQ2 : Hid (jumpB s.jump yv k = q) := by
                  have := HQ.out
                  rw [hyv, decide_eq_true (by omega), Bool.true_and] at this
                  exact this
                have hdp : 0 < d := by omega
                clear hcl hcc ho' hcl1 hyv hll hd0
                cases q
                · skip
                  go_wp2_with fail
                  refine wp_region_inv0 (by kernel_rfl) (by kernel_rfl) (fun _ w' => SH s w w1.heap.size (w1.heap.size + 1) #[.int .i64 s.bend, .int .i64 s.days, .int .i64 s.jump, .int .i64 s.times, .int .i64 s.move, .slice a s.stores.length c] (way.length + 1) (fillF s way 0) w' ∧ w'.ownsRow (w1.heap.size + 2) 3 1 (.slice (some ⟨g, o, none⟩) d cv) d (l.map (Value.int .i64)) ∧ w'.cell? ⟨g, o + (d - 1), none⟩ = some (.int .i64 yv)) ⟨HH5.out.below (Below.refl _ wr).drew, ownsRow.below HO5.out (Below.refl _ wr).drew, HCL.out⟩ ?_
                  apply obl_det
                  case hrun =>
                    intro D y wz hW hD R hR
                    have HRR := Lib.hid hR
                    clear hR hD
                    have HW2 := Lib.hid hW
                    clear hW
                    go_wp2
                    exact HRR.out _ HW2.out
                  case hnp => rfl
                  case hv => first | exact ⟨_, fun _ => rfl⟩ | exact ⟨undef, fun _ => rfl⟩
                  apply obl_det
                  case hrun =>
                    intro D y wz hW hD R hR
                    have HRR := Lib.hid hR
                    clear hR hD
                    have HW2 := Lib.hid hW
                    clear hW
                    go_wp2
                    exact HRR.out _ HW2.out
                  case hnp => rfl
                  case hv => first | exact ⟨_, fun _ => rfl⟩ | exact ⟨undef, fun _ => rfl⟩
                  apply obl_det
                  case hrun =>
                    intro D y wz hW hD R hR
                    have HRR := Lib.hid hR
                    clear hR hD
                    have HW2 := Lib.hid hW
                    clear hW
                    go_wp2
                    exact HRR.out _ HW2.out
                  case hnp => rfl
                  case hv => first | exact ⟨_, fun _ => rfl⟩ | exact ⟨undef, fun _ => rfl⟩
                  apply obl_det
                  case hrun =>
                    intro D y wz hW hD R hR
                    have HRR := Lib.hid hR
                    clear hR hD
                    have HW2 := Lib.hid hW
                    have cs := fun i => cell_of_row wz _ i _ _ _ hW.1.rS
                    clear hW
                    go_wp2
                    exact HRR.out _ HW2.out
                  case hnp => rfl
                  case hv => first | exact ⟨_, fun _ => rfl⟩ | exact ⟨undef, fun _ => rfl⟩
                  apply obl_det
                  case hrun =>
                    intro D y wz hW hD R hR
                    have HRR := Lib.hid hR
                    clear hR hD
                    have HW2 := Lib.hid hW
                    have cs := fun i => cell_of_row wz _ i _ _ _ hW.1.rS
                    clear hW
                    go_wp2
                    exact HRR.out _ HW2.out
                  case hnp => rfl
                  case hv => first | exact ⟨_, fun _ => rfl⟩ | exact ⟨undef, fun _ => rfl⟩
                  apply obl_det
                  case hrun =>
                    intro D y wz hW hD R hR
                    have HRR := Lib.hid hR
                    clear hR hD
                    have HW2 := Lib.hid hW
                    have cs := fun i => cell_of_row wz _ i _ _ _ hW.1.rS
                    clear hW
                    go_wp2
                    exact HRR.out _ HW2.out
                  case hnp => rfl
                  case hv => first | exact ⟨_, fun _ => rfl⟩ | exact ⟨undef, fun _ => rfl⟩
                  apply obl_det
                  case hrun =>
                    intro D y wz hW hD R hR
                    have HRR := Lib.hid hR
                    clear hR hD
                    have HW2 := Lib.hid hW
                    clear hW
                    go_wp2
                    exact HRR.out _ HW2.out
                  case hnp => rfl
                  case hv => first | exact ⟨_, fun _ => rfl⟩ | exact ⟨undef, fun _ => rfl⟩
                  apply obl_det
                  case hrun =>
                    intro D y wz hW hD R hR
                    have HRR := Lib.hid hR
                    clear hR hD
                    have HW2 := Lib.hid hW
                    clear hW
                    go_wp2
                    exact HRR.out _ HW2.out
                  case hnp => rfl
                  case hv => first | exact ⟨_, fun _ => rfl⟩ | exact ⟨undef, fun _ => rfl⟩
                  apply obl_det
                  case hrun =>
                    intro D y wz hW hD R hR
                    have HRR := Lib.hid hR
                    clear hR hD
                    have HW2 := Lib.hid hW
                    clear hW
                    go_wp2
                    exact HRR.out _ HW2.out
                  case hnp => rfl
                  case hv => first | exact ⟨_, fun _ => rfl⟩ | exact ⟨undef, fun _ => rfl⟩
                  apply obl_det
                  case hrun =>
                    intro D y wz hW hD R hR
                    have HRR := Lib.hid hR
                    clear hR hD
                    have HW2 := Lib.hid hW
                    have cl := hW.2.2
                    clear hW
                    go_wp2
                    exact HRR.out _ HW2.out
                  case hnp => rfl
                  case hv => first | exact ⟨_, fun _ => rfl⟩ | exact ⟨undef, fun _ => rfl⟩
                  apply obl_det
                  case hrun =>
                    intro D y wz hW hD R hR
                    have HRR := Lib.hid hR
                    clear hR hD
                    have HW2 := Lib.hid hW
                    have cl := hW.2.2
                    clear hW
                    go_wp2
                    exact HRR.out _ HW2.out
                  case hnp => rfl
                  case hv => first | exact ⟨_, fun _ => rfl⟩ | exact ⟨undef, fun _ => rfl⟩
                  apply obl_det
                  case hrun =>
                    intro D y wz hW hD R hR
                    have HRR := Lib.hid hR
                    clear hR hD
                    have HW2 := Lib.hid hW
                    clear hW
                    go_wp2
                    exact HRR.out _ HW2.out
                  case hnp => rfl
                  case hv => first | exact ⟨_, fun _ => rfl⟩ | exact ⟨undef, fun _ => rfl⟩
                  apply obl_det
                  case hrun =>
                    intro D y wz hW hD R hR
                    have HRR := Lib.hid hR
                    have HW2 := Lib.hid hW
                    clear hR hD hW
                    go_wp2_with (go_at_call 46; refine (jump_r false s.bend s.days s.jump s.times yv k HQ2.out _ hyb.1 hyb.2 (by omega) (by omega)).mono ?_; rintro e w' ⟨rfl, hbw⟩)
                    exact HRR.out _ ⟨HW2.out.1.below hbw, ownsRow.below HW2.out.2.1 hbw, (hbw.cell (p := ⟨g, o + (d - 1), none⟩) (cell_lt HW2.out.2.2)).trans HW2.out.2.2⟩
                  case hnp => rfl
                  case hv => first | exact ⟨_, fun _ => rfl⟩ | exact ⟨undef, fun _ => rfl⟩
                  apply obl_det
                  case hrun =>
                    intro D y wz hW hD R hR
                    have HRR := Lib.hid hR
                    clear hR hD
                    have HW2 := Lib.hid hW
                    clear hW
                    go_wp2
                    exact HRR.out _ HW2.out
                  case hnp => rfl
                  case hv => first | exact ⟨_, fun _ => rfl⟩ | exact ⟨undef, fun _ => rfl⟩
                  apply obl_nil
                  intro D y w6 hall hW
                  have HH6 := Lib.hid hW.1
                  have HO6 := Lib.hid hW.2.1
                  clear hW hall
                  simp only [Exit.then]
                  have hqn := HHE.out
                  simp only [Bool.false_eq_true, if_false] at hqn
                  by_cases hn0 : 0 < n
                  · by_cases hel : n = left
                    · have HPK : Hid (pickB s.jump vec l d left k = true) := by unfold Hid pickB; rw [hqn, HNV.out, decide_eq_true hn0, decide_eq_true hel]; rfl
                      have HSN := Lib.hid (HNX.out k hk61 HPK.out HLO.out)
                      rw [HNV.out] at HSN
                      have hsw : w1.heap.size + 1 < w6.heap.size := block_lt HH6.out.rR
                      obtain ⟨i0, hi0, hz0, hz1', hz2⟩ := i64info
                      clear hqn
                      go_wp2_with (at_builtin; refine wpList_append_own _ rfl _ _ 33 rfl (w1.heap.size + 2) 3 i0 (.int .i64 0) 1 8 Try.underlying33 hi0 hz0 hz1' hz2 rfl (by decide) _ _ _ rfl (HO6.out.alloc _) ⟨w6.heap.size, 0, none⟩ 1 1 [.int .i64 (k : Int)] rfl rfl (cell_one_new _ _ _) (fun x hx => by simp at hx; subst hx; rfl) (by unfold maxLen; omega) (by omega) (by simp; omega) ?_; intro v' w12 hown12 hgrow12 _)
                      have hbx := (Below.refl w6.heap.size w6).alloc (Nat.le_refl _) (.cells #[.int .i64 (k : Int)] 3)
                      have hlt12 := World.ownsRow.lt HO6.out
                      have HH12 := Lib.hid ((HH6.out.below hbx).grown (base := w1.heap.size + 2) hgrow12 (fun k e => (hlt12 k e).1) ⟨by omega, by omega, by have := C1.out.size; omega⟩)
                      refine ⟨⟨d + 1, by go_num, by omega, by rw [HSN.out] <;> first | rfl | simp [hel], HH12.out, ?_⟩, ?measure⟩
                      · rw [HSN.out]
                        simp only [List.map_append, List.map_cons, List.map_nil]
                        exact hown12
                      case measure => simp [intOf]; try omega
                    · have HPK : Hid (pickB s.jump vec l d left k = false) := by unfold Hid pickB; rw [hqn, decide_eq_false hel, Bool.and_false]
                      have hel' : ((n : Int) == left) = false := by simpa using hel
                      clear hqn
                      go_wp2_with fail
                      go_roundw
                      case rel => exact ⟨k + 1, rfl, rfl, by go_num, by omega, HH6.out, HO6.out, fun j hj => by
                        rcases Nat.lt_or_ge j k with h | h
                        · exact HLO.out j h
                        · rw [show j = k by omega]; exact HPK.out⟩
                      case measure => simp [intOf]; try omega
                  · have HPK : Hid (pickB s.jump vec l d left k = false) := by unfold Hid pickB; rw [HNV.out, decide_eq_false hn0, Bool.false_and]
                    clear hqn
                    go_wp2_with fail
                    go_roundw
                    case rel => exact ⟨k + 1, rfl, rfl, by go_num, by omega, HH6.out, HO6.out, fun j hj => by
                      rcases Nat.lt_or_ge j k with h | h
                      · exact HLO.out j h
                      · rw [show j = k by omega]; exact HPK.out⟩
                    case measure => simp [intOf]; try omega
                · skip
                  go_wp2_with fail
                  refine wp_region_inv0 (by kernel_rfl) (by kernel_rfl) (fun _ w' => SH s w w1.heap.size (w1.heap.size + 1) #[.int .i64 s.bend, .int .i64 s.days, .int .i64 s.jump, .int .i64 s.times, .int .i64 s.move, .slice a s.stores.length c] (way.length + 1) (fillF s way 0) w' ∧ w'.ownsRow (w1.heap.size + 2) 3 1 (.slice (some ⟨g, o, none⟩) d cv) d (l.map (Value.int .i64)) ∧ w'.cell? ⟨g, o + (d - 1), none⟩ = some (.int .i64 yv)) ⟨HH5.out.below (Below.refl _ wr).drew, ownsRow.below HO5.out (Below.refl _ wr).drew, HCL.out⟩ ?_
                  apply obl_det
                  case hrun =>
                    intro D y wz hW hD R hR
                    have HRR := Lib.hid hR
                    clear hR hD
                    have HW2 := Lib.hid hW
                    clear hW
                    go_wp2
                    exact HRR.out _ HW2.out
                  case hnp => rfl
                  case hv => first | exact ⟨_, fun _ => rfl⟩ | exact ⟨undef, fun _ => rfl⟩
                  apply obl_det
                  case hrun =>
                    intro D y wz hW hD R hR
                    have HRR := Lib.hid hR
                    clear hR hD
                    have HW2 := Lib.hid hW
                    clear hW
                    go_wp2
                    exact HRR.out _ HW2.out
                  case hnp => rfl
                  case hv => first | exact ⟨_, fun _ => rfl⟩ | exact ⟨undef, fun _ => rfl⟩
                  apply obl_det
                  case hrun =>
                    intro D y wz hW hD R hR
                    have HRR := Lib.hid hR
                    clear hR hD
                    have HW2 := Lib.hid hW
                    clear hW
                    go_wp2
                    exact HRR.out _ HW2.out
                  case hnp => rfl
                  case hv => first | exact ⟨_, fun _ => rfl⟩ | exact ⟨undef, fun _ => rfl⟩
                  apply obl_det
                  case hrun =>
                    intro D y wz hW hD R hR
                    have HRR := Lib.hid hR
                    clear hR hD
                    have HW2 := Lib.hid hW
                    have cs := fun i => cell_of_row wz _ i _ _ _ hW.1.rS
                    clear hW
                    go_wp2
                    exact HRR.out _ HW2.out
                  case hnp => rfl
                  case hv => first | exact ⟨_, fun _ => rfl⟩ | exact ⟨undef, fun _ => rfl⟩
                  apply obl_det
                  case hrun =>
                    intro D y wz hW hD R hR
                    have HRR := Lib.hid hR
                    clear hR hD
                    have HW2 := Lib.hid hW
                    have cs := fun i => cell_of_row wz _ i _ _ _ hW.1.rS
                    clear hW
                    go_wp2
                    exact HRR.out _ HW2.out
                  case hnp => rfl
                  case hv => first | exact ⟨_, fun _ => rfl⟩ | exact ⟨undef, fun _ => rfl⟩
                  apply obl_det
                  case hrun =>
                    intro D y wz hW hD R hR
                    have HRR := Lib.hid hR
                    clear hR hD
                    have HW2 := Lib.hid hW
                    have cs := fun i => cell_of_row wz _ i _ _ _ hW.1.rS
                    clear hW
                    go_wp2
                    exact HRR.out _ HW2.out
                  case hnp => rfl
                  case hv => first | exact ⟨_, fun _ => rfl⟩ | exact ⟨undef, fun _ => rfl⟩
                  apply obl_det
                  case hrun =>
                    intro D y wz hW hD R hR
                    have HRR := Lib.hid hR
                    clear hR hD
                    have HW2 := Lib.hid hW
                    clear hW
                    go_wp2
                    exact HRR.out _ HW2.out
                  case hnp => rfl
                  case hv => first | exact ⟨_, fun _ => rfl⟩ | exact ⟨undef, fun _ => rfl⟩
                  apply obl_det
                  case hrun =>
                    intro D y wz hW hD R hR
                    have HRR := Lib.hid hR
                    clear hR hD
                    have HW2 := Lib.hid hW
                    clear hW
                    go_wp2
                    exact HRR.out _ HW2.out
                  case hnp => rfl
                  case hv => first | exact ⟨_, fun _ => rfl⟩ | exact ⟨undef, fun _ => rfl⟩
                  apply obl_det
                  case hrun =>
                    intro D y wz hW hD R hR
                    have HRR := Lib.hid hR
                    clear hR hD
                    have HW2 := Lib.hid hW
                    clear hW
                    go_wp2
                    exact HRR.out _ HW2.out
                  case hnp => rfl
                  case hv => first | exact ⟨_, fun _ => rfl⟩ | exact ⟨undef, fun _ => rfl⟩
                  apply obl_det
                  case hrun =>
                    intro D y wz hW hD R hR
                    have HRR := Lib.hid hR
                    clear hR hD
                    have HW2 := Lib.hid hW
                    have cl := hW.2.2
                    clear hW
                    go_wp2
                    exact HRR.out _ HW2.out
                  case hnp => rfl
                  case hv => first | exact ⟨_, fun _ => rfl⟩ | exact ⟨undef, fun _ => rfl⟩
                  apply obl_det
                  case hrun =>
                    intro D y wz hW hD R hR
                    have HRR := Lib.hid hR
                    clear hR hD
                    have HW2 := Lib.hid hW
                    have cl := hW.2.2
                    clear hW
                    go_wp2
                    exact HRR.out _ HW2.out
                  case hnp => rfl
                  case hv => first | exact ⟨_, fun _ => rfl⟩ | exact ⟨undef, fun _ => rfl⟩
                  apply obl_det
                  case hrun =>
                    intro D y wz hW hD R hR
                    have HRR := Lib.hid hR
                    clear hR hD
                    have HW2 := Lib.hid hW
                    clear hW
                    go_wp2
                    exact HRR.out _ HW2.out
                  case hnp => rfl
                  case hv => first | exact ⟨_, fun _ => rfl⟩ | exact ⟨undef, fun _ => rfl⟩
                  apply obl_det
                  case hrun =>
                    intro D y wz hW hD R hR
                    have HRR := Lib.hid hR
                    have HW2 := Lib.hid hW
                    clear hR hD hW
                    go_wp2_with (go_at_call 46; refine (jump_r true s.bend s.days s.jump s.times yv k HQ2.out _ hyb.1 hyb.2 (by omega) (by omega)).mono ?_; rintro e w' ⟨rfl, hbw⟩)
                    exact HRR.out _ ⟨HW2.out.1.below hbw, ownsRow.below HW2.out.2.1 hbw, (hbw.cell (p := ⟨g, o + (d - 1), none⟩) (cell_lt HW2.out.2.2)).trans HW2.out.2.2⟩
                  case hnp => rfl
                  case hv => first | exact ⟨_, fun _ => rfl⟩ | exact ⟨undef, fun _ => rfl⟩
                  apply obl_det
                  case hrun =>
                    intro D y wz hW hD R hR
                    have HRR := Lib.hid hR
                    clear hR hD
                    have HW2 := Lib.hid hW
                    clear hW
                    go_wp2
                    exact HRR.out _ HW2.out
                  case hnp => rfl
                  case hv => first | exact ⟨_, fun _ => rfl⟩ | exact ⟨undef, fun _ => rfl⟩
                  apply obl_nil
                  intro D y w6 hall hW
                  have HH6 := Lib.hid hW.1
                  have HO6 := Lib.hid hW.2.1
                  clear hW hall
                  simp only [Exit.then]
                  have hqn := HHE.out
                  simp only [if_true] at hqn
                  by_cases hn0 : 0 < n
                  · by_cases hel : n + 1 = left
                    · have HPK : Hid (pickB s.jump vec l d left k = true) := by unfold Hid pickB; rw [hqn, HNV.out, decide_eq_true hn0, decide_eq_true hel]; rfl
                      have HSN := Lib.hid (HNX.out k hk61 HPK.out HLO.out)
                      rw [HNV.out] at HSN
                      have hsw : w1.heap.size + 1 < w6.heap.size := block_lt HH6.out.rR
                      obtain ⟨i0, hi0, hz0, hz1', hz2⟩ := i64info
                      clear hqn
                      go_wp2_with (at_builtin; refine wpList_append_own _ rfl _ _ 33 rfl (w1.heap.size + 2) 3 i0 (.int .i64 0) 1 8 Try.underlying33 hi0 hz0 hz1' hz2 rfl (by decide) _ _ _ rfl (HO6.out.alloc _) ⟨w6.heap.size, 0, none⟩ 1 1 [.int .i64 (k : Int)] rfl rfl (cell_one_new _ _ _) (fun x hx => by simp at hx; subst hx; rfl) (by unfold maxLen; omega) (by omega) (by simp; omega) ?_; intro v' w12 hown12 hgrow12 _)
                      have hbx := (Below.refl w6.heap.size w6).alloc (Nat.le_refl _) (.cells #[.int .i64 (k : Int)] 3)
                      have hlt12 := World.ownsRow.lt HO6.out
                      have HH12 := Lib.hid ((HH6.out.below hbx).grown (base := w1.heap.size + 2) hgrow12 (fun k e => (hlt12 k e).1) ⟨by omega, by omega, by have := C1.out.size; omega⟩)
                      refine ⟨⟨d + 1, by go_num, by omega, by rw [HSN.out] <;> first | rfl | simp [hel], HH12.out, ?_⟩, ?measure⟩
                      · rw [HSN.out]
                        simp only [List.map_append, List.map_cons, List.map_nil]
                        exact hown12
                      case measure => simp [intOf]; try omega
                    · have HPK : Hid (pickB s.jump vec l d left k = false) := by unfold Hid pickB; rw [hqn, decide_eq_false hel, Bool.and_false]
                      have hel' : ((n + 1 : Int) == left) = false := by simpa using hel
                      clear hqn
                      go_wp2_with fail
                      go_roundw
                      case rel => exact ⟨k + 1, rfl, rfl, by go_num, by omega, HH6.out, HO6.out, fun j hj => by
                        rcases Nat.lt_or_ge j k with h | h
                        · exact HLO.out j h
                        · rw [show j = k by omega]; exact HPK.out⟩
                      case measure => simp [intOf]; try omega
                  · have HPK : Hid (pickB s.jump vec l d left k = false) := by unfold Hid pickB; rw [HNV.out, decide_eq_false hn0, Bool.false_and]
                    clear hqn
                    go_wp2_with fail
                    go_roundw
                    case rel => exact ⟨k + 1, rfl, rfl, by go_num, by omega, HH6.out, HO6.out, fun j hj => by
                      rcases Nat.lt_or_ge j k with h | h
                      · exact HLO.out j h
                      · rw [show j = k by omega]; exact HPK.out⟩
                    case measure => simp [intOf]; try omega
            · exfalso
              obtain ⟨x, hx, hp⟩ := HFND.out
              rw [HLO.out x (by omega)] at hp
              cases hp
        · obtain rfl : d = way.length := by omega
          have HSD := Lib.hid (HOKS.out way.length (Nat.le_refl _))
          go_wp2_with fail
          have HCV : Hid (showV s way = ((showSt s way way.length).1, 0)) := by unfold Hid showV; rw [if_pos HE.out]
          have ho : wr.ownsRow (w1.heap.size + 2) 3 1 (.slice av way.length cv) (showSt s way way.length).1.length ((showSt s way way.length).1.map (Value.int .i64)) := by rw [HSD.out.len]; exact HO4.out
          have hoi := ownsRow_ints ho (by rw [HSD.out.len]; omega)
          go_ret2
          exact ⟨.slice av way.length cv, by rw [HCV.out]; rfl, by rw [HCV.out]; exact hoi.1, by rw [HCV.out]; exact hoi.2, HH4.out.bel⟩
    · rw [show (((q + 1 : Nat) : Int) - 1) = (q : Int) by omega]
      have HRV : Hid (RV s way q = nextTo s.jump (spW s way q).1 ((spW s way q).2 + 1) (RV s way (q + 1))) := RV_succ s way q (by omega)
      obtain ⟨aw', cw', hvv, _, h⟩ := HWV.out
      cases hvv
      obtain ⟨bw, ow, rfl, hbw, hcw⟩ := h.resolve_left (by intro h; rw [h] at hn1; simp at hn1)
      have hcwq := hcw q (by omega)
      have hwq := HW.out.2.2 q (by omega)
      obtain ⟨i, hi'⟩ : ∃ i : Nat, way.getD q 0 = i := ⟨(way.getD q 0).toNat, by omega⟩
      have hiv : i < s.stores.length := by omega
      rw [hi'] at hcwq
      have HCW := Lib.hid hcwq
      obtain ⟨bs, os, c', hse, hcc, hbs, -, -, -, v3, hcs, hsw⟩ := HV.out.at hiv
      cases hse
      have hql : q < s.len := by have := HW.out.2.1; omega
      have hsp := HG.out.span i hiv q hql
      have hwk : q < (s.stores.getD i default).warm.length := by rw [HG.out.lens i hiv]; exact hql
      have hat : spW s way q = (s.stores.getD i default).warm.getD q (0, 0) := by unfold spW Sea.at; rw [hi', Int.toNat_natCast]
      obtain ⟨bp, op, cp, rfl, hcp, hbp, hcp0, hcp1⟩ := hsw.at hwk
      have HCS := Lib.hid hcs
      rw [← hat] at hsp hcp0 hcp1
      generalize (s.stores.getD i default).warm.length = wlen at *
      obtain ⟨pp, hpp⟩ : ∃ pp, spW s way q = pp := ⟨_, rfl⟩
      rw [hpp] at hsp hcp0 hcp1 HRV hat
      clear hpp
      obtain ⟨lo, hi⟩ := pp
      simp only at hsp hcp0 hcp1 HRV
      have HCP0 := Lib.hid hcp0
      have HCP1 := Lib.hid hcp1
      have hp0 := hsp.1
      have hp1 := hsp.2.1
      have hp2 := hsp.2.2
      have HSM : Hid (Small 100 (RV s way (q + 1))) := fun k => by
        have := RV_small s way (way.length - (q + 1)) (q + 1) k
        unfold RV
        omega
      clear hcw h hwq hcwq hcs hcp0 hcp1 hat hsp hsw hi'
      go_wp2_with fail
      refine wp_region_inv0 (by kernel_rfl) (by kernel_rfl) (fun D w' => SH s w w1.heap.size (w1.heap.size + 1) #[.int .i64 s.bend, .int .i64 s.days, .int .i64 s.jump, .int .i64 s.times, .int .i64 s.move, .slice (some ⟨bs, os, none⟩) s.stores.length c] (way.length + 1) (if D 25 then fillF s way q else fillF s way (q + 1)) w') (HH.out.below (Below.refl _ wr).drew) ?_
      apply obl_det
      case hrun =>
        intro D y wz hW hD R hR
        have HRR := Lib.hid hR
        clear hR hD
        have HW2 := Lib.hid hW
        clear hW
        go_wp2
        exact HRR.out _ HW2.out
      case hnp => rfl
      case hv => first | exact ⟨_, fun _ => rfl⟩ | exact ⟨undef, fun _ => rfl⟩
      apply obl_det
      case hrun =>
        intro D y wz hW hD R hR
        have HRR := Lib.hid hR
        clear hR hD
        have HW2 := Lib.hid hW
        clear hW
        go_wp2
        exact HRR.out _ HW2.out
      case hnp => rfl
      case hv => first | exact ⟨_, fun _ => rfl⟩ | exact ⟨undef, fun _ => rfl⟩
      apply obl_det
      case hrun =>
        intro D y wz hW hD R hR
        have HRR := Lib.hid hR
        clear hR hD
        have HW2 := Lib.hid hW
        clear hW
        go_wp2
        exact HRR.out _ HW2.out
      case hnp => rfl
      case hv => first | exact ⟨_, fun _ => rfl⟩ | exact ⟨undef, fun _ => rfl⟩
      apply obl_det
      case hrun =>
        intro D y wz hW hD R hR
        have HRR := Lib.hid hR
        clear hR hD
        have HW2 := Lib.hid hW
        clear hW
        go_wp2
        exact HRR.out _ HW2.out
      case hnp => rfl
      case hv => first | exact ⟨_, fun _ => rfl⟩ | exact ⟨undef, fun _ => rfl⟩
      apply obl_det
      case hrun =>
        intro D y wz hW hD R hR
        have HRR := Lib.hid hR
        clear hR hD
        have HW2 := Lib.hid hW
        clear hW
        go_wp2
        exact HRR.out _ HW2.out
      case hnp => rfl
      case hv => first | exact ⟨_, fun _ => rfl⟩ | exact ⟨undef, fun _ => rfl⟩
      apply obl_det
      case hrun =>
        intro D y wz hW hD R hR
        have HRR := Lib.hid hR
        clear hR hD
        have HW2 := Lib.hid hW
        clear hW
        go_wp2
        exact HRR.out _ HW2.out
      case hnp => rfl
      case hv => first | exact ⟨_, fun _ => rfl⟩ | exact ⟨undef, fun _ => rfl⟩
      apply obl_det
      case hrun =>
        intro D y wz hW hD R hR
        have hd := hD.post _ 25 rfl (by kernel_rfl)
        have HRR := Lib.hid hR
        clear hR hD
        have HW2 := Lib.hid hW
        rw [hd] at hW
        have hrg := arr_range hW.rR (i := q + 1) (by omega) (by rw [if_neg (by simp)]; exact fillF_len _ _ _ _)
        have hfe : fillF s way (q + 1) (q + 1) = RV s way (q + 1) := by unfold fillF; rw [if_pos (by omega)]
        rw [if_neg (by simp), hfe] at hrg
        have HRG := Lib.hid hrg
        clear hW hrg hfe hd
        go_wp2_with (refine wpList_load_mid rfl 93 _ rfl _ _ rfl _ _ HRG.out Try.underlying93 rfl (by rw [List.length_map, RV_len]; exact info93) ?_)
        exact HRR.out _ HW2.out
      case hnp => rfl
      case hv => first | exact ⟨_, fun _ => rfl⟩ | exact ⟨undef, fun _ => rfl⟩
      apply obl_det
      case hrun =>
        intro D y wz hW hD R hR
        have HRR := Lib.hid hR
        clear hR hD
        have HW2 := Lib.hid hW
        clear hW
        go_wp2
        exact HRR.out _ HW2.out
      case hnp => rfl
      case hv => first | exact ⟨_, fun _ => rfl⟩ | exact ⟨undef, fun _ => rfl⟩
      apply obl_det
      case hrun =>
        intro D y wz hW hD R hR
        have HRR := Lib.hid hR
        clear hR hD
        have HW2 := Lib.hid hW
        clear hW
        go_wp2
        exact HRR.out _ HW2.out
      case hnp => rfl
      case hv => first | exact ⟨_, fun _ => rfl⟩ | exact ⟨undef, fun _ => rfl⟩
      apply obl_det
      case hrun =>
        intro D y wz hW hD R hR
        have HRR := Lib.hid hR
        clear hR hD
        have HW2 := Lib.hid hW
        have cs := fun i => cell_of_row wz _ i _ _ _ hW.rS
        clear hW
        go_wp2
        exact HRR.out _ HW2.out
      case hnp => rfl
      case hv => first | exact ⟨_, fun _ => rfl⟩ | exact ⟨undef, fun _ => rfl⟩
      apply obl_det
      case hrun =>
        intro D y wz hW hD R hR
        have HRR := Lib.hid hR
        clear hR hD
        have HW2 := Lib.hid hW
        clear hW
        go_wp2
        exact HRR.out _ HW2.out
      case hnp => rfl
      case hv => first | exact ⟨_, fun _ => rfl⟩ | exact ⟨undef, fun _ => rfl⟩
      apply obl_det
      case hrun =>
        intro D y wz hW hD R hR
        have HRR := Lib.hid hR
        clear hR hD
        have HW2 := Lib.hid hW
        clear hW
        go_wp2
        exact HRR.out _ HW2.out
      case hnp => rfl
      case hv => first | exact ⟨_, fun _ => rfl⟩ | exact ⟨undef, fun _ => rfl⟩
      apply obl_det
      case hrun =>
        intro D y wz hW hD R hR
        have HRR := Lib.hid hR
        clear hR hD
        have HW2 := Lib.hid hW
        have cs := fun i => cell_of_row wz _ i _ _ _ hW.rS
        clear hW
        go_wp2
        exact HRR.out _ HW2.out
      case hnp => rfl
      case hv => first | exact ⟨_, fun _ => rfl⟩ | exact ⟨undef, fun _ => rfl⟩
      apply obl_det
      case hrun =>
        intro D y wz hW hD R hR
        have HRR := Lib.hid hR
        clear hR hD
        have HW2 := Lib.hid hW
        clear hW
        go_wp2
        exact HRR.out _ HW2.out
      case hnp => rfl
      case hv => first | exact ⟨_, fun _ => rfl⟩ | exact ⟨undef, fun _ => rfl⟩
      apply obl_det
      case hrun =>
        intro D y wz hW hD R hR
        have HRR := Lib.hid hR
        clear hR hD
        have HW2 := Lib.hid hW
        clear hW
        go_wp2
        exact HRR.out _ HW2.out
      case hnp => rfl
      case hv => first | exact ⟨_, fun _ => rfl⟩ | exact ⟨undef, fun _ => rfl⟩
      apply obl_det
      case hrun =>
        intro D y wz hW hD R hR
        have HRR := Lib.hid hR
        clear hR hD
        have HW2 := Lib.hid hW
        clear hW
        go_wp2
        exact HRR.out _ HW2.out
      case hnp => rfl
      case hv => first | exact ⟨_, fun _ => rfl⟩ | exact ⟨undef, fun _ => rfl⟩
      apply obl_det
      case hrun =>
        intro D y wz hW hD R hR
        have HRR := Lib.hid hR
        clear hR hD
        have HW2 := Lib.hid hW
        have ck := (hW.bel.cell (p := ⟨bw, ow + q, none⟩) hbw).trans HCW.out
        clear hW
        go_wp2
        exact HRR.out _ HW2.out
      case hnp => rfl
      case hv => first | exact ⟨_, fun _ => rfl⟩ | exact ⟨undef, fun _ => rfl⟩
      apply obl_det
      case hrun =>
        intro D y wz hW hD R hR
        have HRR := Lib.hid hR
        clear hR hD
        have HW2 := Lib.hid hW
        clear hW
        go_wp2
        exact HRR.out _ HW2.out
      case hnp => rfl
      case hv => first | exact ⟨_, fun _ => rfl⟩ | exact ⟨undef, fun _ => rfl⟩
      apply obl_det
      case hrun =>
        intro D y wz hW hD R hR
        have HRR := Lib.hid hR
        clear hR hD
        have HW2 := Lib.hid hW
        clear hW
        go_wp2
        exact HRR.out _ HW2.out
      case hnp => rfl
      case hv => first | exact ⟨_, fun _ => rfl⟩ | exact ⟨undef, fun _ => rfl⟩
      apply obl_det
      case hrun =>
        intro D y wz hW hD R hR
        have HRR := Lib.hid hR
        clear hR hD
        have HW2 := Lib.hid hW
        have ck := (hW.bel.cell (p := ⟨bs, os + i * 3 + 2, none⟩) hbs).trans HCS.out
        clear hW
        go_wp2
        exact HRR.out _ HW2.out
      case hnp => rfl
      case hv => first | exact ⟨_, fun _ => rfl⟩ | exact ⟨undef, fun _ => rfl⟩
      apply obl_det
      case hrun =>
        intro D y wz hW hD R hR
        have HRR := Lib.hid hR
        clear hR hD
        have HW2 := Lib.hid hW
        clear hW
        go_wp2
        exact HRR.out _ HW2.out
      case hnp => rfl
      case hv => first | exact ⟨_, fun _ => rfl⟩ | exact ⟨undef, fun _ => rfl⟩
      apply obl_det
      case hrun =>
        intro D y wz hW hD R hR
        have HRR := Lib.hid hR
        clear hR hD
        have HW2 := Lib.hid hW
        clear hW
        go_wp2
        exact HRR.out _ HW2.out
      case hnp => rfl
      case hv => first | exact ⟨_, fun _ => rfl⟩ | exact ⟨undef, fun _ => rfl⟩
      apply obl_det
      case hrun =>
        intro D y wz hW hD R hR
        have HRR := Lib.hid hR
        clear hR hD
        have HW2 := Lib.hid hW
        have ck := (hW.bel.cell (p := ⟨bp, op + q * 2, none⟩) hbp).trans HCP0.out
        have ck1 := (hW.bel.cell (p := ⟨bp, op + q * 2 + 1, none⟩) hbp).trans HCP1.out
        clear hW
        go_wp2
        exact HRR.out _ HW2.out
      case hnp => rfl
      case hv => first | exact ⟨_, fun _ => rfl⟩ | exact ⟨undef, fun _ => rfl⟩
      apply obl_det
      case hrun =>
        intro D y wz hW hD R hR
        have HRR := Lib.hid hR
        have HW2 := Lib.hid hW
        clear hR hD hW
        go_wp2_with fail
        refine (next_any (RV s way (q + 1)) (RV_len _ _ _) s.bend s.days s.jump s.times lo hi _ hp0 hp2 hp1 HSM.out).mono ?_
        rintro e w' ⟨rfl, hbw2⟩
        go_wp2_with fail
        exact HRR.out _ (HW2.out.below hbw2)
      case hnp => rfl
      case hv => first | exact ⟨_, fun _ => rfl⟩ | exact ⟨undef, fun _ => rfl⟩
      apply obl_det
      case hrun =>
        intro D y wz hW hD R hR
        have HRR := Lib.hid hR
        clear hR hD
        have HW2 := Lib.hid hW
        clear hW
        go_wp2
        exact HRR.out _ HW2.out
      case hnp => rfl
      case hv => first | exact ⟨_, fun _ => rfl⟩ | exact ⟨undef, fun _ => rfl⟩
      apply obl_det
      case hrun =>
        intro D y wz hW hD R hR
        have hd := hD.not
        have HRR := Lib.hid hR
        clear hR hD
        rw [hd, if_neg (by simp)] at hW
        have HW2 := Lib.hid hW
        have HTH := Lib.hid (arr_there hW.rR (i := q) (by omega))
        clear hW hd
        have hln : (ints (nextTo s.jump lo (hi + 1) (RV s way (q + 1)))).size = 61 := by rw [ints_size, nextTo_len]
        go_wp2_with (refine wpList_store_mid rfl 93 _ _ rfl _ _ (ints (nextTo s.jump lo (hi + 1) (RV s way (q + 1)))) rfl rfl (by rw [hln]; exact HTH.out) (by rw [hln]; exact info93) (ints_oneCell _) ?_)
        refine HRR.out _ ?_
        have := HW2.out.write (i := q) (by omega) (nextTo_len s.jump lo (hi + 1) (RV s way (q + 1)))
        rw [← HRV.out, fillF_set s way q (by omega)] at this
        rw [← HRV.out]
        exact this
      case hnp => rfl
      case hv => first | exact ⟨_, fun _ => rfl⟩ | exact ⟨undef, fun _ => rfl⟩
      apply obl_nil
      intro D y w8 hall hW
      have hd25 := hall 25 (by decide)
      rw [hd25, if_pos rfl] at hW
      have HW8 := Lib.hid hW
      clear hW hall hd25
      go_wp2_with fail
      go_roundw
      case rel => exact ⟨q, by go_num, by omega, HW8.out⟩
      case measure => simp [intOf]; try omega
/-- **Show**, at any season and way. -/
theorem show_any (s : Sea) (vs wv : Value) (way : List Int) (w : World) (hv : StosIn w.heap.size w vs s.stores) (hw : IntsIn .i64 w.heap.size w wv way) :
    Calls Try.prog 24 #[.agg #[.int .i64 s.bend, .int .i64 s.days, .int .i64 s.jump, .int .i64 s.times, .int .i64 s.move, vs], wv] w (ShowPost s way w) := by
  by_cases he : openE s way = 0
  · exact show_good s vs wv way w hv hw he
  · refine (show_bad s vs wv way w hv hw _ rfl he).mono ?_
    rintro e w' ⟨rfl, hb⟩
    have HCV : showV s way = ([], openE s way) := by unfold showV; rw [if_neg he]
    exact ⟨.slice none 0 0, by rw [HCV], by rw [HCV]; exact ⟨none, 0, rfl, by simp, .inl rfl⟩, by rw [HCV]; exact ⟨none, 0, rfl, by simp⟩, hb⟩
end Go.Proofs.Ytddapabmfecidaa
