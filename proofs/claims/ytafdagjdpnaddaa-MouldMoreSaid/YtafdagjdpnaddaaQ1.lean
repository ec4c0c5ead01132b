/- The references When, Same and End; truths of turns; plain laws on moulds. -/
import Derived.Test.YtafdagjdpnaddaaW5
import Derived.Test.YtafdagjdpnaddaaW24
import Derived.Test.YtafdagjdpnaddaaW15
import Derived.Test.YtafdagjdpnaddaaP4
import Derived.StillTailTactics
import Derived.BigQuiet
import Derived.Deep.Cut
import Derived.Test.YtafdagjdpnaddaaW1
import Derived.Test.YtafdagjdpnaddaaBl
import Derived.Test.YtafdagjdpnaddaaW21
import Derived.Test.YtafdagjdpnaddaaW27
import Derived.Test.YtafdagjdpnaddaaW18
import Derived.Lib.MinMax
import Derived.Test.YtafdagjdpnaddaaAW
/- stearinref05.When. -/
namespace Go.Proofs.Ytafdagjdpnaddaa
open Go.RowKit
theorem ownsRow_whole {w : World} {base n sz g : Nat} {e : TypeId} {xs : List Value} (h : w.ownsRow base e sz (.slice (some ⟨g, 0, none⟩) n n) n xs) : w.heap[g]? = some (.cells xs.toArray e) := by
  rcases h.2 with ⟨h0, _⟩ | ⟨g', cap, cur, hv, _, hg, _, _, hc, ht⟩
  · cases h0
  · simp only [Value.slice.injEq, Option.some.injEq, Addr.mk.injEq, and_true] at hv
    obtain ⟨rfl, -, rfl⟩ := hv
    rw [hg, ← ht, List.take_of_length_le (by simp; omega)]
/-- When rings have set, up to minute k. -/
def whenTo (m : Mou) (p ws : List Int) (k : Nat) : List Int := (List.range p.length).map (whenI m p ws k)
theorem whenTo_len (m : Mou) (p ws : List Int) (k : Nat) : (whenTo m p ws k).length = p.length := by simp [whenTo]
theorem whenTo_all (m : Mou) (p ws : List Int) : whenTo m p ws (ws.length + 1) = whenL m p ws := rfl
/-- The first i rings have been asked in minute k. -/
def whenAm (m : Mou) (p ws : List Int) (k i : Nat) : List Int := (List.range p.length).map (fun j => if j < i then whenI m p ws (k + 1) j else whenI m p ws k j)
theorem whenAm_len (m : Mou) (p ws : List Int) (k i : Nat) : (whenAm m p ws k i).length = p.length := by simp [whenAm]
theorem whenAm_zero (m : Mou) (p ws : List Int) (k : Nat) : whenAm m p ws k 0 = whenTo m p ws k := by simp [whenAm, whenTo]
theorem whenAm_all (m : Mou) (p ws : List Int) (k : Nat) : whenAm m p ws k p.length = whenTo m p ws (k + 1) := by
  unfold whenAm whenTo
  apply List.map_congr_left
  intro j hj
  rw [if_pos (List.mem_range.1 hj)]
theorem whenAm_at (m : Mou) (p ws : List Int) (k i : Nat) (h : i < p.length) : (whenAm m p ws k i).getD i 0 = whenI m p ws k i := by
  simp [whenAm, List.getD, h]
theorem whenI_succ (m : Mou) (p ws : List Int) (k i : Nat) : whenI m p ws (k + 1) i = if whenI m p ws k i < 0 ∧ setsAt m p ws i k = true then (k : Int) else whenI m p ws k i := rfl
theorem whenAm_keep (m : Mou) (p ws : List Int) (k i : Nat) (h : ¬ (whenI m p ws k i < 0 ∧ setsAt m p ws i k = true)) : whenAm m p ws k (i + 1) = whenAm m p ws k i := by
  unfold whenAm
  apply List.map_congr_left
  intro j _
  by_cases hj : j < i
  · rw [if_pos hj, if_pos (by omega)]
  · by_cases he : j = i
    · subst he
      rw [if_pos (by omega), if_neg hj, whenI_succ, if_neg h]
    · rw [if_neg hj, if_neg (by omega)]
theorem whenAm_put (m : Mou) (p ws : List Int) (k i : Nat) (h : whenI m p ws k i < 0 ∧ setsAt m p ws i k = true) : (ints (whenAm m p ws k i)).setIfInBounds i (.int .i64 k) = ints (whenAm m p ws k (i + 1)) := by
  have e : (whenAm m p ws k i).set i (k : Int) = whenAm m p ws k (i + 1) := by
    apply List.ext_getElem (by simp [whenAm])
    intro j h1 h2
    rw [List.getElem_set]
    have hj : j < p.length := by simpa [whenAm] using h2
    simp only [whenAm, List.getElem_map, List.getElem_range]
    by_cases he : i = j
    · subst he
      rw [if_pos rfl, if_pos (by omega), whenI_succ, if_pos h]
    · rw [if_neg he]
      by_cases hji : j < i
      · rw [if_pos hji, if_pos (by omega)]
      · rw [if_neg hji, if_neg (by omega)]
  rw [← e]
  unfold ints
  simp [List.map_set]
/-- The first i cells are -1. -/
def negTo (r i : Nat) : List Int := List.replicate i (-1) ++ List.replicate (r - i) 0
theorem negTo_len {r i : Nat} (h : i ≤ r) : (negTo r i).length = r := by simp [negTo]; omega
theorem negTo_put {r i : Nat} (h : i < r) : (ints (negTo r i)).setIfInBounds i (.int .i64 (-1)) = ints (negTo r (i + 1)) := by
  have e : (negTo r i).set i (-1) = negTo r (i + 1) := by
    unfold negTo
    rw [List.set_append, if_neg (by simp), List.length_replicate, Nat.sub_self]
    rw [show r - i = (r - (i + 1)) + 1 by omega, List.replicate_succ, List.set_cons_zero, List.replicate_succ', List.append_assoc]
    rfl
  rw [← e]
  unfold ints
  simp [List.map_set]
theorem negTo_all (m : Mou) (p ws : List Int) : negTo p.length p.length = whenTo m p ws 0 := by
  unfold negTo whenTo whenI
  apply List.ext_getElem (by simp)
  intro i h1 h2
  simp [firstTo]
theorem setsAt_at (m : Mou) (p ws : List Int) (i k : Nat) : setsAt m p ws i k = decide ((runL m.give p (ws.take k)).getD i 0 ≤ m.set) := rfl
theorem Bs.add {w wr w' : World} {l : List (Nat × Obj)} (h : Bs w l wr) (n : Nat) (hn : wr.heap.size = n) (hb : Below wr.heap.size wr w') (o : Obj) (ho : w'.heap[n]? = some o) : Bs w (l ++ [(n, o)]) w' := by
  subst hn
  have h' := h.call hb
  refine ⟨?_, ?_, ?_, h'.bel⟩
  · intro p hp
    rcases List.mem_append.1 hp with hp | hp
    · exact h'.get' p hp
    · simp only [List.mem_singleton] at hp
      subst hp
      exact ho
  · rw [List.map_append, List.pairwise_append]
    refine ⟨h.inc, by simp, ?_⟩
    intro a ha b hb
    simp only [List.mem_map] at ha hb
    obtain ⟨p, hp, rfl⟩ := ha
    obtain ⟨q, hq, rfl⟩ := hb
    simp only [List.mem_singleton] at hq
    subst hq
    exact block_lt (h.get' p hp)
  · intro p hp
    rcases List.mem_append.1 hp with hp | hp
    · exact h.ge p hp
    · simp only [List.mem_singleton] at hp
      subst hp
      exact h.bel.size
/-- A list of r ints, in a block that is not g. -/
def LV (g r : Nat) (w : World) (v : Value) (l : List Int) : Prop := ∃ b o c, v = .slice (some ⟨b, o, none⟩) r c ∧ b ≠ g ∧ b < w.heap.size ∧ ∀ i, i < r → w.cell? ⟨b, o + i, none⟩ = some (.int .i64 (l.getD i 0))
theorem LV.ints {g r : Nat} {w : World} {v : Value} {l : List Int} (h : LV g r w v l) (hl : l.length = r) (hr : r ≤ 1000) : IntsIn .i64 w.heap.size w v l := by
  obtain ⟨b, o, c, rfl, -, hb, hc⟩ := h
  exact ⟨some ⟨b, o, none⟩, c, by rw [hl], by omega, .inr ⟨b, o, rfl, hb, fun i hi => hc i (by omega)⟩⟩
theorem LV.call {g r : Nat} {w w' : World} {v : Value} {l : List Int} (h : LV g r w v l) (hb : Below w.heap.size w w') : LV g r w' v l := by
  obtain ⟨b, o, c, rfl, hg, hlt, hc⟩ := h
  exact ⟨b, o, c, rfl, hg, Nat.lt_of_lt_of_le hlt hb.size, fun i hi => (hb.cell (p := ⟨b, o + i, none⟩) hlt).trans (hc i hi)⟩
theorem LV.other {g r : Nat} {w w' : World} {v : Value} {l : List Int} (h : LV g r w v l) (hk : ∀ k, k ≠ g → w'.heap[k]? = w.heap[k]?) : LV g r w' v l := by
  obtain ⟨b, o, c, rfl, hg, hlt, hc⟩ := h
  refine ⟨b, o, c, rfl, hg, ?_, fun i hi => ?_⟩
  · have h2 := hk b hg
    rw [Array.getElem?_eq_getElem hlt] at h2
    exact block_lt h2
  rw [← hc i hi]
  simp only [World.cell?, hk b hg]
theorem LV.own {g r base : Nat} {w : World} {v : Value} {l : List Int} (h : OwnInts base w v l) (hl : l.length = r) (h1 : 1 ≤ r) (hg : ∀ b, base ≤ b → b < w.heap.size → b ≠ g) (hr : r ≤ 1000) : LV g r w v l := by
  have hi := h.ints (by omega)
  subst hl
  rcases h.2 with ⟨-, h0⟩ | ⟨b, cap, cur, rfl, hb, hcur, -⟩
  · omega
  · obtain ⟨a, c, e, -, hh⟩ := hi
    simp only [Value.slice.injEq] at e
    obtain ⟨rfl, -, rfl⟩ := e
    obtain ⟨b', o', e2, hlt, hc⟩ := hh.resolve_left (by intro h; rw [h] at h1; simp at h1)
    simp only [Option.some.injEq, Addr.mk.injEq, and_true] at e2
    obtain ⟨rfl, rfl⟩ := e2
    exact ⟨b, 0, cap, rfl, hg b hb hlt, hlt, hc⟩
set_option maxRecDepth 100000 in
set_option maxHeartbeats 16000000 in
theorem when_ref (m : Mou) (g1 : 1 ≤ m.give) (g5 : m.give ≤ 500) (pv wv : Value) (p ws : List Int) (w : World) (hp : IntsIn .i64 w.heap.size w pv p) (hw : IntsIn .i64 w.heap.size w wv ws) (hp1 : 1 ≤ p.length) (hp8 : p.length ≤ 8) (hfp : Fits2 0 2000 p) (hwl : ws.length ≤ 600) (hfw : Fits2 0 2000 ws) :
    Calls Try.prog 40 #[.agg #[.int .i64 m.rings, .int .i64 m.give, .int .i64 m.pl, .int .i64 m.ph, .int .i64 m.wl, .int .i64 m.wh, .int .i64 m.set, .int .i64 m.shrink, .int .i64 m.skin, .int .i64 m.fill, .int .i64 m.gap, .int .i64 m.deep], .agg #[pv, wv]] w (RetI (whenL m p ws) w) := by
  have C0 := Lib.hid (((Bs.nil w).push _ rfl (.cells #[.int .i64 m.rings, .int .i64 m.give, .int .i64 m.pl, .int .i64 m.ph, .int .i64 m.wl, .int .i64 m.wh, .int .i64 m.set, .int .i64 m.shrink, .int .i64 m.skin, .int .i64 m.fill, .int .i64 m.gap, .int .i64 m.deep] 25)).push (w.heap.size + 1) (by simp) (.cells #[pv, wv] 28))
  have HW := Lib.hid hw
  have HFP := Lib.hid hfp
  have HFW := Lib.hid hfw
  have HP := Lib.hid hp
  obtain ⟨pa, pc, rfl, -, hpc⟩ := hp
  obtain ⟨b, off, rfl, hbB, hpc⟩ := hpc.resolve_left (by intro h; rw [h] at hp1; simp at hp1)
  obtain ⟨wa, wc, rfl, -, hwc⟩ := hw
  have HWC := Lib.hid hwc
  obtain ⟨i0, hi0, hz0, hz1, hz2⟩ := info3'
  have c1 := C0.out.cell 1 rfl
  obtain ⟨r, hr⟩ : ∃ r, p.length = r := ⟨_, rfl⟩
  obtain ⟨N, hN⟩ : ∃ N, ws.length = N := ⟨_, rfl⟩
  have HR := Lib.hid hr
  have HN := Lib.hid hN
  rw [hr] at hp1 hp8 hpc c1 C0 ⊢
  rw [hN] at hwl HWC c1 C0 ⊢
  have HPC := Lib.hid hpc
  clear hpc hwc hr hN hfp hfw
  go_enter Try.func40, Try.ntmps40
  have HO : Hid ((((w.alloc (.cells #[.int .i64 m.rings, .int .i64 m.give, .int .i64 m.pl, .int .i64 m.ph, .int .i64 m.wl, .int .i64 m.wh, .int .i64 m.set, .int .i64 m.shrink, .int .i64 m.skin, .int .i64 m.fill, .int .i64 m.gap, .int .i64 m.deep] 25)).alloc (.cells #[.slice (some ⟨b, off, none⟩) r pc, .slice wa N wc] 28)).alloc (.cells #[] 3)).ownsRow (w.heap.size + 1 + 1) 3 1 (.slice (some ⟨w.heap.size + 1 + 1, 0, none⟩) 0 0) 0 []) := by
    have h := ownsRow_fresh ((w.alloc (.cells #[.int .i64 m.rings, .int .i64 m.give, .int .i64 m.pl, .int .i64 m.ph, .int .i64 m.wl, .int .i64 m.wh, .int .i64 m.set, .int .i64 m.shrink, .int .i64 m.skin, .int .i64 m.fill, .int .i64 m.gap, .int .i64 m.deep] 25)).alloc (.cells #[.slice (some ⟨b, off, none⟩) r pc, .slice wa N wc] 28))
    simp only [World.size_alloc] at h
    exact h
  have HNW : Hid (∀ j u, (p.map (Value.int .i64))[j]? = some u → (((w.alloc (.cells #[.int .i64 m.rings, .int .i64 m.give, .int .i64 m.pl, .int .i64 m.ph, .int .i64 m.wl, .int .i64 m.wh, .int .i64 m.set, .int .i64 m.shrink, .int .i64 m.skin, .int .i64 m.fill, .int .i64 m.gap, .int .i64 m.deep] 25)).alloc (.cells #[.slice (some ⟨b, off, none⟩) r pc, .slice wa N wc] 28)).alloc (.cells #[] 3)).cell? ((⟨b, off, none⟩ : Addr).add j) = some u) := fun j u hj => by
    rw [show (⟨b, off, none⟩ : Addr).add j = ⟨b, off + j, none⟩ from by unfold Addr.add; split <;> simp_all]
    have hjl : j < p.length := by
      by_cases h : j < p.length
      · exact h
      · rw [List.getElem?_eq_none (by simp; omega)] at hj; cases hj
    have hb0 := ((C0.out.alloc (.cells #[] 3)).bel.cell (p := ⟨b, off + j, none⟩) hbB).trans (HPC.out j (by rw [← HR.out]; exact hjl))
    rw [hb0]
    simp only [List.getElem?_map, List.getElem?_eq_getElem hjl, Option.map_some] at hj
    rw [← hj]
    simp [List.getD, hjl]
  go_wp2_with (first
    | (at_builtin; refine wpList_append_own _ rfl _ _ 26 rfl (w.heap.size + 1 + 1) 3 i0 (.int .i64 0) 1 8 Try.underlying26 hi0 hz0 hz1 hz2 rfl (by decide) _ _ _ rfl HO.out ⟨b, off, none⟩ r pc (p.map (.int .i64)) rfl (by rw [List.length_map, HR.out, Nat.mul_one]) HNW.out (by simp [Value.oneCell']) (by unfold maxLen; omega) (by omega) (by simp) ?_; intro v' w2 hown hgrow _; rw [Nat.zero_add] at hown; obtain ⟨a5, c5, rfl⟩ := ownsRow_slice hown; have HOWN := Lib.hid hown; have HGR := Lib.hid hgrow; clear hown hgrow; have hw2 : w.heap.size + 1 + 1 ≤ w2.heap.size := by have := HGR.out.size; simp at this; omega)
    | (at_make; refine wpList_make_full _ rfl _ _ 26 rfl (w.heap.size + 1 + 1) 3 i0 (.int .i64 0) 1 Try.underlying26 hi0 hz0 hz1 .i64 .i64 _ _ r rfl rfl rfl rfl (by rw [hz2]; omega) (by unfold maxLen; omega) hw2 ?_; intro w3 hown3 hgrow3))
  have hbw2 : Below (w.heap.size + 1 + 1) ((w.alloc (.cells #[.int .i64 m.rings, .int .i64 m.give, .int .i64 m.pl, .int .i64 m.ph, .int .i64 m.wl, .int .i64 m.wh, .int .i64 m.set, .int .i64 m.shrink, .int .i64 m.skin, .int .i64 m.fill, .int .i64 m.gap, .int .i64 m.deep] 25)).alloc (.cells #[.slice (some ⟨b, off, none⟩) r pc, .slice wa N wc] 28)) w2 := by
    have h0 := (Below.refl ((w.alloc (.cells #[.int .i64 m.rings, .int .i64 m.give, .int .i64 m.pl, .int .i64 m.ph, .int .i64 m.wl, .int .i64 m.wh, .int .i64 m.set, .int .i64 m.shrink, .int .i64 m.skin, .int .i64 m.fill, .int .i64 m.gap, .int .i64 m.deep] 25)).alloc (.cells #[.slice (some ⟨b, off, none⟩) r pc, .slice wa N wc] 28)).heap.size ((w.alloc (.cells #[.int .i64 m.rings, .int .i64 m.give, .int .i64 m.pl, .int .i64 m.ph, .int .i64 m.wl, .int .i64 m.wh, .int .i64 m.set, .int .i64 m.shrink, .int .i64 m.skin, .int .i64 m.fill, .int .i64 m.gap, .int .i64 m.deep] 25)).alloc (.cells #[.slice (some ⟨b, off, none⟩) r pc, .slice wa N wc] 28))).alloc (Nat.le_refl _) (.cells #[] 3)
    simp only [World.size_alloc] at h0
    exact h0.grown HGR.out (by simp) (fun k e => (World.ownsRow.lt HO.out k e).1)
  have hbw3 : Below w2.heap.size w2 w3 := (Below.refl _ _).grown hgrow3 (Nat.le_refl _) (fun k e => by cases e)
  have C2 : Bs w [(w.heap.size, .cells #[.int .i64 m.rings, .int .i64 m.give, .int .i64 m.pl, .int .i64 m.ph, .int .i64 m.wl, .int .i64 m.wh, .int .i64 m.set, .int .i64 m.shrink, .int .i64 m.skin, .int .i64 m.fill, .int .i64 m.gap, .int .i64 m.deep] 25), (w.heap.size + 1, .cells #[.slice (some ⟨b, off, none⟩) r pc, .slice wa N wc] 28)] w2 := C0.out.call (by simp only [World.size_alloc]; exact hbw2)
  have hrow3 := ownsRow_whole hown3
  have hz3 : (madeCells (Value.int .i64 0).cells (r * 1)).toList.toArray = ints (negTo r 0) := by
    unfold negTo madeCells ints
    simp
    apply Array.ext (by simp)
    intro i h1 h2
    simp [Value.cells, Nat.mod_one]
  rw [hz3] at hrow3
  have C3 : Hid (Bs w [(w.heap.size, .cells #[.int .i64 m.rings, .int .i64 m.give, .int .i64 m.pl, .int .i64 m.ph, .int .i64 m.wl, .int .i64 m.wh, .int .i64 m.set, .int .i64 m.shrink, .int .i64 m.skin, .int .i64 m.fill, .int .i64 m.gap, .int .i64 m.deep] 25), (w.heap.size + 1, .cells #[.slice (some ⟨b, off, none⟩) r pc, .slice wa N wc] 28), (w2.heap.size, .cells (ints (negTo r 0)) 3)] w3) := C2.add w2.heap.size rfl hbw3 _ hrow3
  have L3 : Hid (LV w2.heap.size r w3 (.slice a5 r c5) p) := by
    have h : OwnInts (w.heap.size + 1 + 1) w2 (.slice a5 r c5) p := by
      unfold OwnInts
      rw [HR.out]
      exact HOWN.out
    exact (LV.own h HR.out hp1 (fun b _ h2 h3 => by omega) (by omega)).call hbw3
  clear hbw2 hbw3 C2 hrow3 hz3 hown3 hgrow3 HOWN HGR HO HNW hw2 C0 c1
  generalize w2.heap.size = g at *
  go_loopw [7] (fun iv wi => ∃ i : Nat, iv = .int .i64 i ∧ i ≤ r ∧ Bs w [(w.heap.size, .cells #[.int .i64 m.rings, .int .i64 m.give, .int .i64 m.pl, .int .i64 m.ph, .int .i64 m.wl, .int .i64 m.wh, .int .i64 m.set, .int .i64 m.shrink, .int .i64 m.skin, .int .i64 m.fill, .int .i64 m.gap, .int .i64 m.deep] 25), (w.heap.size + 1, .cells #[.slice (some ⟨b, off, none⟩) r pc, .slice wa N wc] 28), (g, .cells (ints (negTo r i)) 3)] wi ∧ LV g r wi (.slice a5 r c5) p) (fun iv _ => r - (intOf iv).toNat)
  case atStart => exact ⟨0, rfl, by omega, C3.out, L3.out⟩
  case round =>
    obtain ⟨i, rfl, hi, hC, hL⟩ := hrel
    have CI := Lib.hid hC
    have LI := Lib.hid hL
    clear hC hL C3 L3
    by_cases hir : i < r
    · have HSZ : Hid ((ints (negTo r i)).size = r) := by unfold Hid; rw [ints_size, negTo_len hi]
      have HPT := Lib.hid (negTo_put hir)
      go_wp2_with (refine wpList_cell_bk rfl 3 _ _ rfl CI.out 2 g i _ _ rfl rfl (.int .i64 (-1)) rfl (by rw [HSZ.out]; exact hir) rfl info3 ?_; intro w9 hC9 hk9)
      refine ⟨⟨i + 1, by push_cast; rfl, by omega, ?_, LI.out.other hk9⟩, ?_⟩
      · rw [HPT.out] at hC9
        exact hC9
      · simp [intOf]
        omega
    obtain rfl : r = i := by omega
    have HZ : Hid (negTo r r = whenTo m p ws 0) := by
      have := negTo_all m p ws
      rw [HR.out] at this
      exact this
    rw [HZ.out] at CI
    clear HZ
    go_wp2_with fail
    go_loopw [5, 8] (fun lv kv wr => ∃ (k : Nat) (av : Option Addr) (cv : Nat), lv = .slice av r cv ∧ kv = .int .i64 k ∧ k ≤ N + 1 ∧ Bs w [(w.heap.size, .cells #[.int .i64 m.rings, .int .i64 m.give, .int .i64 m.pl, .int .i64 m.ph, .int .i64 m.wl, .int .i64 m.wh, .int .i64 m.set, .int .i64 m.shrink, .int .i64 m.skin, .int .i64 m.fill, .int .i64 m.gap, .int .i64 m.deep] 25), (w.heap.size + 1, .cells #[.slice (some ⟨b, off, none⟩) r pc, .slice wa N wc] 28), (g, .cells (ints (whenTo m p ws k)) 3)] wr ∧ LV g r wr (.slice av r cv) (runL m.give p (ws.take (k - 1)))) (fun _ kv _ => N + 1 - (intOf kv).toNat)
    case atStart => exact ⟨0, a5, c5, rfl, rfl, by omega, CI.out, LI.out⟩
    case round =>
      obtain ⟨k, av, cv, rfl, rfl, hk, hC, hL⟩ := hrel
      have CK := Lib.hid hC
      have LK := Lib.hid hL
      have c1 := CK.out.cell 1 rfl
      clear hC hL CI LI
      by_cases hkN : k < N + 1
      rotate_left
      · obtain rfl : k = N + 1 := by omega
        have hki : ¬ (((N + 1 : Nat) : Int) ≤ (N : Int)) := by omega
        have HALL : Hid (whenTo m p ws (N + 1) = whenL m p ws) := by
          have := whenTo_all m p ws
          rw [HN.out] at this
          exact this
        go_wp2_with fail
        go_ret
        have h := CK.out.get 2 rfl
        rw [HALL.out] at h
        exact ⟨_, rfl, intsIn_rowN h (by rw [← HALL.out, whenTo_len, HR.out]) (by omega), CK.out.bel⟩
      have hki : (k : Int) ≤ (N : Int) := by omega
      by_cases hk0 : k = 0
      · subst hk0
        have hkp : ¬ ((((0 : Nat) : Int)) > 0) := by omega
        go_wp2_with fail
        clear c1
        go_loopw [9] (fun iv wi => ∃ i : Nat, iv = .int .i64 i ∧ i ≤ r ∧ Bs w [(w.heap.size, .cells #[.int .i64 m.rings, .int .i64 m.give, .int .i64 m.pl, .int .i64 m.ph, .int .i64 m.wl, .int .i64 m.wh, .int .i64 m.set, .int .i64 m.shrink, .int .i64 m.skin, .int .i64 m.fill, .int .i64 m.gap, .int .i64 m.deep] 25), (w.heap.size + 1, .cells #[.slice (some ⟨b, off, none⟩) r pc, .slice wa N wc] 28), (g, .cells (ints (whenAm m p ws 0 i)) 3)] wi ∧ LV g r wi (.slice av r cv) (runL m.give p (ws.take 0))) (fun iv _ => r - (intOf iv).toNat)
        case atStart => exact ⟨0, rfl, by omega, by rw [whenAm_zero]; exact CK.out, LK.out⟩
        case round =>
          obtain ⟨i, rfl, hi, hC, hL⟩ := hrel
          have CI := Lib.hid hC
          have LI := Lib.hid hL
          by_cases hir : i < r
          · have hsz : (ints (whenAm m p ws 0 i)).size = r := by rw [ints_size, whenAm_len, HR.out]
            have cg : wr.cell? ⟨g, i, none⟩ = some (.int .i64 (whenI m p ws 0 i)) := by
              rw [hC.cell 2 rfl, ints_get _ _ (by rw [whenAm_len, HR.out]; exact hir), whenAm_at _ _ _ _ _ (by rw [HR.out]; exact hir)]
            obtain ⟨b5, o5, c5, e5, -, -, hcl⟩ := hL
            simp only [Value.slice.injEq, true_and] at e5
            obtain ⟨rfl, rfl⟩ := e5
            have cl := hcl i hir
            have c0 : wr.cell? ⟨w.heap.size, 6, none⟩ = some (.int .i64 m.set) := hC.cell 0 rfl 6
            have HSZ := Lib.hid hsz
            have hII : (i : Int) < (r : Int) := by omega
            clear hcl hsz hC
            have HX : Hid (setsAt m p ws i 0 = decide ((runL m.give p (ws.take 0)).getD i 0 ≤ m.set)) := rfl
            have HPUT := fun h => Lib.hid (whenAm_put m p ws 0 i h)
            have HKEEP := fun h => Lib.hid (whenAm_keep m p ws 0 i h)
            generalize (runL m.give p (ws.take 0)).getD i 0 = yy at *
            generalize whenI m p ws 0 i = xx at *
            by_cases hx : xx < 0
            · have hdx : decide (xx < 0) = true := decide_eq_true hx
              by_cases hy : yy ≤ m.set
              · have hdy : decide (yy ≤ m.set) = true := decide_eq_true hy
                have HPT := Lib.hid (HPUT ⟨hx, by rw [HX.out]; exact hdy⟩).out
                clear HPUT HKEEP
                go_wp2_with fail
                go_quiet (fail)
                simp only [Exit.then]
                go_wp2_with (refine wpList_cell_bk rfl 3 _ _ rfl (CI.out.drewN _) 2 g i _ _ rfl rfl (.int .i64 (0 : Nat)) rfl (by rw [HSZ.out]; exact hir) rfl info3 ?_; intro w9 hC9 hk9)
                refine ⟨⟨i + 1, by push_cast; rfl, by omega, ?_, (LI.out.call (below_drewN (Below.refl _ _) _)).other hk9⟩, ?_⟩
                · rw [HPT.out] at hC9
                  exact hC9
                · simp [intOf]
                  omega
              · have hdy : decide (yy ≤ m.set) = false := decide_eq_false hy
                have HPT := Lib.hid (HKEEP (by rintro ⟨-, h⟩; rw [HX.out, hdy] at h; cases h)).out
                clear HPUT HKEEP
                go_wp2_with fail
                go_quiet (fail)
                simp only [Exit.then]
                go_wp2_with fail
                refine ⟨⟨i + 1, by push_cast; rfl, by omega, by rw [HPT.out]; exact CI.out.drewN _, LI.out.call (below_drewN (Below.refl _ _) _)⟩, ?_⟩
                simp [intOf]
                omega
            · have hdx : decide (xx < 0) = false := decide_eq_false hx
              have HPT := Lib.hid (HKEEP (by rintro ⟨h, -⟩; exact hx h)).out
              clear HPUT HKEEP
              go_wp2_with fail
              go_quiet (fail)
              simp only [Exit.then]
              go_wp2_with fail
              refine ⟨⟨i + 1, by push_cast; rfl, by omega, by rw [HPT.out]; exact CI.out.drewN _, LI.out.call (below_drewN (Below.refl _ _) _)⟩, ?_⟩
              simp [intOf]
              omega
          · obtain rfl : r = i := by omega
            have HAL : Hid (whenAm m p ws 0 r = whenTo m p ws (0 + 1)) := by
              have := whenAm_all m p ws 0
              rw [HR.out] at this
              exact this
            go_wp2_with fail
            refine ⟨⟨0 + 1, _, _, rfl, by push_cast; rfl, by omega, ?_, ?_⟩, ?_⟩
            · rw [← HAL.out]
              exact CI.out
            · exact LI.out
            · simp [intOf]
      obtain ⟨q, rfl⟩ : ∃ q, k = q + 1 := ⟨k - 1, by omega⟩
      have hkp : (((q + 1 : Nat) : Int)) > 0 := by omega
      rw [Nat.add_sub_cancel] at LK
      obtain ⟨b6, o6, rfl, hb6, hc6⟩ := HWC.out.resolve_left (by intro h; have := HN.out; rw [h] at this; simp at this; omega)
      have cq : wr.cell? ⟨b6, o6 + q, none⟩ = some (.int .i64 (ws.getD q 0)) := (CK.out.bel.cell (p := ⟨b6, o6 + q, none⟩) hb6).trans (hc6 q (by omega))
      have hwb := HFW.out q (by rw [HN.out]; omega)
      have HRT : Hid (runL m.give p (ws.take (q + 1)) = nextL m.give (ws.getD q 0) (runL m.give p (ws.take q))) := runL_take m.give p ws q (by rw [HN.out]; omega)
      have HFR : Hid (Fits2 0 2000 (runL m.give p (ws.take q))) := runL_fits (by omega) g5 _ _ HFP.out (HFW.out.take q)
      have HCC := fun (w' : World) (h : IntsIn .i64 w'.heap.size w' (.slice av r cv) (runL m.give p (ws.take q))) => Lib.hid (nextR_any m g1 g5 (runL m.give p (ws.take q)) (by rw [runL_length, HR.out]; exact hp8) HFR.out (ws.getD q 0) hwb (.slice av r cv) w' h)
      have LKI := fun n : Nat => Lib.hid ((LK.out.call (below_drewN (Below.refl _ wr) n)).ints (by rw [runL_length, HR.out]) (by omega))
      have HWB := Lib.hid hwb
      have hqi : (((q + 1 : Nat) : Int)) - 1 = (q : Int) := by omega
      have hqN : (q : Int) < (N : Int) := by omega
      have hwq : IntKind.i64.wrap (q : Int) = (q : Int) := by rw [IntKind.wrap_i64]; omega
      have c0 := CK.out.cell 0 rfl
      rw [← HRT.out] at HCC
      clear hc6 hwb
      generalize ws.getD q 0 = wall at *
      go_wp2_with fail
      go_still_tail 8, (by kernel_rfl)
      change wpList _ _ _ _ _ (wr.drewN 1)
      go_wp2_with fail
      refine (HCC _ (LKI 1).out).out.mono ?_
      rintro e w9 ⟨v9, rfl, ho9, hb9⟩
      have L9 : Hid (LV g r w9 v9 (runL m.give p (ws.take (q + 1)))) := LV.own ho9 (by rw [runL_length, HR.out]) hp1 (fun b h1 _ h3 => by have := CK.out.lt 2 rfl; subst h3; have h4 : (wr.drewN 1).heap.size = wr.heap.size := rfl; omega) (by omega)
      have C9 : Hid (Bs w [(w.heap.size, .cells #[.int .i64 m.rings, .int .i64 m.give, .int .i64 m.pl, .int .i64 m.ph, .int .i64 m.wl, .int .i64 m.wh, .int .i64 m.set, .int .i64 m.shrink, .int .i64 m.skin, .int .i64 m.fill, .int .i64 m.gap, .int .i64 m.deep] 25), (w.heap.size + 1, .cells #[.slice (some ⟨b, off, none⟩) r pc, .slice (some ⟨b6, o6, none⟩) N wc] 28), (g, .cells (ints (whenTo m p ws (q + 1))) 3)] w9) := (CK.out.drewN 1).call hb9
      obtain ⟨av2, cv2, rfl⟩ : ∃ a c, v9 = .slice a r c := by
        obtain ⟨b', o', c', h, -⟩ := L9.out
        exact ⟨_, _, h⟩
      clear ho9 hb9 LKI HCC HFR HRT CK LK c0 c1 hwq cq
      go_wp2_with fail
      go_loopw [9] (fun iv wi => ∃ i : Nat, iv = .int .i64 i ∧ i ≤ r ∧ Bs w [(w.heap.size, .cells #[.int .i64 m.rings, .int .i64 m.give, .int .i64 m.pl, .int .i64 m.ph, .int .i64 m.wl, .int .i64 m.wh, .int .i64 m.set, .int .i64 m.shrink, .int .i64 m.skin, .int .i64 m.fill, .int .i64 m.gap, .int .i64 m.deep] 25), (w.heap.size + 1, .cells #[.slice (some ⟨b, off, none⟩) r pc, .slice (some ⟨b6, o6, none⟩) N wc] 28), (g, .cells (ints (whenAm m p ws (q + 1) i)) 3)] wi ∧ LV g r wi (.slice av2 r cv2) (runL m.give p (ws.take (q + 1)))) (fun iv _ => r - (intOf iv).toNat)
      case atStart => exact ⟨0, rfl, by omega, by rw [whenAm_zero]; exact C9.out, L9.out⟩
      case round =>
        obtain ⟨i, rfl, hi, hC, hL⟩ := hrel
        have CI := Lib.hid hC
        have LI := Lib.hid hL
        by_cases hir : i < r
        · have hsz : (ints (whenAm m p ws (q + 1) i)).size = r := by rw [ints_size, whenAm_len, HR.out]
          have cg : wr.cell? ⟨g, i, none⟩ = some (.int .i64 (whenI m p ws (q + 1) i)) := by
            rw [hC.cell 2 rfl, ints_get _ _ (by rw [whenAm_len, HR.out]; exact hir), whenAm_at _ _ _ _ _ (by rw [HR.out]; exact hir)]
          obtain ⟨b5, o5, c5, e5, -, -, hcl⟩ := hL
          simp only [Value.slice.injEq, true_and] at e5
          obtain ⟨rfl, rfl⟩ := e5
          have cl := hcl i hir
          have c0 : wr.cell? ⟨w.heap.size, 6, none⟩ = some (.int .i64 m.set) := hC.cell 0 rfl 6
          have HSZ := Lib.hid hsz
          have hII : (i : Int) < (r : Int) := by omega
          clear hcl hsz hC
          have HX : Hid (setsAt m p ws i (q + 1) = decide ((runL m.give p (ws.take (q + 1))).getD i 0 ≤ m.set)) := rfl
          have HPUT := fun h => Lib.hid (whenAm_put m p ws (q + 1) i h)
          have HKEEP := fun h => Lib.hid (whenAm_keep m p ws (q + 1) i h)
          generalize (runL m.give p (ws.take (q + 1))).getD i 0 = yy at *
          generalize whenI m p ws (q + 1) i = xx at *
          by_cases hx : xx < 0
          · have hdx : decide (xx < 0) = true := decide_eq_true hx
            by_cases hy : yy ≤ m.set
            · have hdy : decide (yy ≤ m.set) = true := decide_eq_true hy
              have HPT := Lib.hid (HPUT ⟨hx, by rw [HX.out]; exact hdy⟩).out
              clear HPUT HKEEP
              go_wp2_with fail
              go_quiet (fail)
              simp only [Exit.then]
              go_wp2_with (refine wpList_cell_bk rfl 3 _ _ rfl (CI.out.drewN _) 2 g i _ _ rfl rfl (.int .i64 (q + 1 : Nat)) rfl (by rw [HSZ.out]; exact hir) rfl info3 ?_; intro w9 hC9 hk9)
              refine ⟨⟨i + 1, by push_cast; rfl, by omega, ?_, (LI.out.call (below_drewN (Below.refl _ _) _)).other hk9⟩, ?_⟩
              · rw [HPT.out] at hC9
                exact hC9
              · simp [intOf]
                omega
            · have hdy : decide (yy ≤ m.set) = false := decide_eq_false hy
              have HPT := Lib.hid (HKEEP (by rintro ⟨-, h⟩; rw [HX.out, hdy] at h; cases h)).out
              clear HPUT HKEEP
              go_wp2_with fail
              go_quiet (fail)
              simp only [Exit.then]
              go_wp2_with fail
              refine ⟨⟨i + 1, by push_cast; rfl, by omega, by rw [HPT.out]; exact CI.out.drewN _, LI.out.call (below_drewN (Below.refl _ _) _)⟩, ?_⟩
              simp [intOf]
              omega
          · have hdx : decide (xx < 0) = false := decide_eq_false hx
            have HPT := Lib.hid (HKEEP (by rintro ⟨h, -⟩; exact hx h)).out
            clear HPUT HKEEP
            go_wp2_with fail
            go_quiet (fail)
            simp only [Exit.then]
            go_wp2_with fail
            refine ⟨⟨i + 1, by push_cast; rfl, by omega, by rw [HPT.out]; exact CI.out.drewN _, LI.out.call (below_drewN (Below.refl _ _) _)⟩, ?_⟩
            simp [intOf]
            omega
        · obtain rfl : r = i := by omega
          have HAL : Hid (whenAm m p ws (q + 1) r = whenTo m p ws (q + 1 + 1)) := by
            have := whenAm_all m p ws (q + 1)
            rw [HR.out] at this
            exact this
          go_wp2_with fail
          refine ⟨⟨q + 1 + 1, _, _, rfl, by push_cast; rfl, by omega, ?_, ?_⟩, ?_⟩
          · rw [← HAL.out]
            exact CI.out
          · exact LI.out
          · simp [intOf]
            omega
end Go.Proofs.Ytafdagjdpnaddaa
/- stearinref05.Same. -/
namespace Go.Proofs.Ytafdagjdpnaddaa
open Go.RowKit
theorem ownsRow.other {w w' : World} {base X : Nat} {v : Value} {n sz : Nat} {e : TypeId} {xs : List Value} (h : w.ownsRow base e sz v n xs) (hX : X < base) (hk : ∀ k, k ≠ X → w'.heap[k]? = w.heap[k]?) : w'.ownsRow base e sz v n xs := by
  refine ⟨h.1, ?_⟩
  rcases h.2 with h0 | ⟨g, cap, cur, rfl, h1, h2, h3⟩
  · exact .inl h0
  · exact .inr ⟨g, cap, cur, rfl, h1, (hk g (by omega)).trans h2, h3⟩
theorem LV.ke {g r : Nat} {W w : World} {v : Value} {l : List Int} (h : LV g r W v l) (hk : ∀ b, b < W.heap.size → b ≠ g → w.heap[b]? = W.heap[b]?) (hs : W.heap.size ≤ w.heap.size) : LV g r w v l := by
  obtain ⟨b, o, c, rfl, hg, hlt, hc⟩ := h
  exact ⟨b, o, c, rfl, hg, by omega, fun i hi => by rw [← hc i hi]; simp only [World.cell?, hk b hlt hg]⟩
/-- One cell is stored; all other blocks are kept, and the size. -/
theorem wpList_cell_bz {P : Program} {ops : Array Oper} {rest : List Oper} {o : Oper} {a : Act} {w0 w : World} {Q : Exit → Act → World → Prop} {l : List (Nat × Obj)} (hgd : o.guard = none) (ty : TypeId) (x y : Operand) (ho : o.op = .store ty x y) (H : Bs w0 l w) (i g j : Nat) (old : Array Value) (t : TypeId) (hi : l[i]? = some (g, .cells old t))
    (hx : a.eval x = .pointer (some ⟨g, j, none⟩)) (v : Value) (hy : a.eval y = v) (hj : j < old.size) (h1 : v.oneCell' = true) (hn : (P.info? ty).map (·.size) = some 1)
    (h : ∀ w', Bs w0 (l.set i (g, .cells (old.setIfInBounds j v) t)) w' → (∀ k, k ≠ g → w'.heap[k]? = w.heap[k]?) → w'.heap.size = w.heap.size → wpList P ops Q rest (a.put o.dst undef) w') : wpList P ops Q (o :: rest) a w :=
  wpList_plain hgd fun _ hK => by
    have hc : w.cell? ⟨g, j, none⟩ = some old[j] := by rw [H.cell i hi]; simp [hj]
    unfold Oper.wp execOp
    simp only [ho, hx, hy, Instr.storeAt, Instr.sureAddr, Sem.run_bind, Sem.run_pure, Result.andThen_ok, run_store_at w g j ty v _ h1 hc (H.free i hi j) hn]
    exact hK _ _ (h _ (H.setCell i hi j v) (fun k hk => heap_setCell_other _ _ _ _ hk) (by simp))
theorem info26 : (Try.prog.info? 26).map (·.size) = some 1 := by kernel_rfl
def RetT (p ws : List Int) (w : World) (e : Ending) (w' : World) : Prop := ∃ v1 v2, e = .returned (.agg #[v1, v2]) ∧ IntsIn .i64 w'.heap.size w' v1 p ∧ IntsIn .i64 w'.heap.size w' v2 ws ∧ Below w.heap.size w w'
/-- All blocks below base but g are as they were. -/
def KB (base g : Nat) (W w : World) : Prop := ∀ b, b < base → b ≠ g → w.heap[b]? = W.heap[b]?
set_option maxRecDepth 100000 in
set_option maxHeartbeats 16000000 in
theorem same_ref (m : Mou) (hm : Valid m) (hot : Bool) (N : Nat) (hN : N ≤ 600) (w : World) :
    Calls Try.prog 41 #[.agg #[.int .i64 m.rings, .int .i64 m.give, .int .i64 m.pl, .int .i64 m.ph, .int .i64 m.wl, .int .i64 m.wh, .int .i64 m.set, .int .i64 m.shrink, .int .i64 m.skin, .int .i64 m.fill, .int .i64 m.gap, .int .i64 m.deep], .bool hot, .int .i64 N] w (RetT (sameP m hot) (sameW m hot N) w) := by
  have C0 := Lib.hid (((Bs.nil w).push _ rfl (.cells #[.int .i64 m.rings, .int .i64 m.give, .int .i64 m.pl, .int .i64 m.ph, .int .i64 m.wl, .int .i64 m.wh, .int .i64 m.set, .int .i64 m.shrink, .int .i64 m.skin, .int .i64 m.fill, .int .i64 m.gap, .int .i64 m.deep] 25)).push (w.heap.size + 1) (by simp) (.cells #[.slice none 0 0, .slice none 0 0] 28))
  obtain ⟨r, hr⟩ : ∃ r : Nat, m.rings = r := ⟨m.rings.toNat, by have := hm.r1; omega⟩
  have hr8 : r ≤ 8 := by have := hm.r8; omega
  have hr1 : 1 ≤ r := by have := hm.r1; omega
  have c0 := C0.out.cell 0 rfl
  have HR := Lib.hid hr
  clear hr
  obtain ⟨i0, hi0, hz0, hz1, hz2⟩ := info3'
  go_enter Try.func41, Try.ntmps41
  cases hot
  · skip
    go_wp2_with fail
    go_quiet (fail)
    revert nq
    intro nq1
    simp only [Exit.then]
    go_wp2_with fail
    have CB := Lib.hid ((C0.out.drewN nq1).push (w.heap.size + 1 + 1) (by show ((w.alloc _).alloc _).heap.size = _; simp) (.cells #[.slice none 0 0, .slice none 0 0] 28))
    clear c0 C0
    go_loopw [10] (fun iv wr => ∃ (k : Nat) (lv : Value), iv = .int .i64 k ∧ k ≤ r ∧ Bs w [(w.heap.size, .cells #[.int .i64 m.rings, .int .i64 m.give, .int .i64 m.pl, .int .i64 m.ph, .int .i64 m.wl, .int .i64 m.wh, .int .i64 m.set, .int .i64 m.shrink, .int .i64 m.skin, .int .i64 m.fill, .int .i64 m.gap, .int .i64 m.deep] 25), (w.heap.size + 1, .cells #[.slice none 0 0, .slice none 0 0] 28), (w.heap.size + 1 + 1, .cells #[lv, .slice none 0 0] 28)] wr ∧ wr.ownsRow (w.heap.size + 1 + 1 + 1) 3 1 lv k ((List.replicate k m.pl).map (Value.int .i64))) (fun iv _ => r - (intOf iv).toNat)
    case atStart => exact ⟨0, .slice none 0 0, rfl, by omega, CB.out, World.ownsRow_nil _ _ 3 1⟩
    case round =>
      obtain ⟨k, lv, rfl, hk, hC, hO⟩ := hrel
      have CK := Lib.hid hC
      have OK := Lib.hid hO
      have c9 := hC.cell 2 rfl
      have hsz : w.heap.size + 1 + 1 < wr.heap.size := hC.lt 2 rfl
      have c00 : wr.cell? ⟨w.heap.size, 0, none⟩ = some (.int .i64 r) := by
        rw [hC.cell 0 rfl, ← HR.out]
        rfl
      clear hO hC CB
      by_cases hlt : k < r
      · have hki : (k : Int) < (r : Int) := by omega
        go_wp2_with (first
          | (at_builtin; refine wpList_append_own _ rfl _ _ 26 rfl (w.heap.size + 1 + 1 + 1) 3 i0 (.int .i64 0) 1 8 Try.underlying26 hi0 hz0 hz1 hz2 rfl (by decide) lv k _ rfl (OK.out.alloc _) ⟨_, 0, none⟩ 1 1 [.int .i64 m.pl] rfl rfl (cell_news _ _ _ _ (heap_alloc_new _ _)) (one_int _) (by unfold maxLen; omega) (by omega) (by simp; omega) ?_; intro v' w12 hown12 hgrow12 _; have hlt12 := World.ownsRow.lt OK.out; have hb12 : Below (w.heap.size + 1 + 1 + 1) wr w12 := ((Below.refl (w.heap.size + 1 + 1 + 1) wr).alloc (by omega) (.cells #[.int .i64 m.pl] 3)).grown hgrow12 (by simp; omega) (fun k e => (hlt12 k e).1); obtain ⟨av', cv', rfl⟩ := ownsRow_slice1 hown12; have C8 := CK.out.app hb12 (by simp; omega) (by omega); have OW := Lib.hid hown12; clear hown12 hgrow12 hlt12)
          | (refine wpList_cell_bz rfl 26 _ _ rfl C8 2 (w.heap.size + 1 + 1) 0 _ _ rfl rfl (.slice av' (k + 1) cv') rfl (by simp) rfl info26 ?_; intro w13 hC13 hk13 hs13))
        refine ⟨⟨k + 1, .slice av' (k + 1) cv', by push_cast; rfl, by omega, hC13, ?_⟩, ?_⟩
        · rw [List.replicate_succ', List.map_append]
          exact ownsRow.other OW.out (X := w.heap.size + 1 + 1) (by omega) hk13
        · simp [intOf]
          omega
      · obtain rfl : r = k := by omega
        have CE := Lib.hid CK.out
        have HI1 : Hid (LV (w.heap.size + 1 + 1) r wr lv (List.replicate r m.pl)) := LV.own (l := List.replicate r m.pl) (base := w.heap.size + 1 + 1 + 1) (by unfold OwnInts; rw [List.length_replicate]; exact OK.out) (by simp) hr1 (fun b h1 _ => by omega) (by omega)
        have HB1 := Lib.hid (World.ownsRow.lt OK.out)
        go_wp2_with fail
        clear c00 c9 OK CK
        generalize wr = W2 at *
        go_loopw [11] (fun iv wr => ∃ (k : Nat) (lu : Value), iv = .int .i64 k ∧ k ≤ N ∧ Bs w [(w.heap.size, .cells #[.int .i64 m.rings, .int .i64 m.give, .int .i64 m.pl, .int .i64 m.ph, .int .i64 m.wl, .int .i64 m.wh, .int .i64 m.set, .int .i64 m.shrink, .int .i64 m.skin, .int .i64 m.fill, .int .i64 m.gap, .int .i64 m.deep] 25), (w.heap.size + 1, .cells #[.slice none 0 0, .slice none 0 0] 28), (w.heap.size + 1 + 1, .cells #[lv, lu] 28)] wr ∧ wr.ownsRow (W2.heap.size) 3 1 lu k ((List.replicate k m.wl).map (Value.int .i64)) ∧ KB W2.heap.size (w.heap.size + 1 + 1) W2 wr ∧ W2.heap.size ≤ wr.heap.size) (fun iv _ => N - (intOf iv).toNat)
        case atStart => exact ⟨0, .slice none 0 0, rfl, by omega, CE.out, World.ownsRow_nil _ _ 3 1, fun b _ _ => rfl, Nat.le_refl _⟩
        case round =>
          obtain ⟨k, lu, rfl, hk, hC, hO, hKB, hS⟩ := hrel
          have CK := Lib.hid hC
          have OK := Lib.hid hO
          have c9 := hC.cell 2 rfl
          have hsz : w.heap.size + 1 + 1 < wr.heap.size := hC.lt 2 rfl
          have hs2 : W2.heap.size ≤ wr.heap.size := hS
          have HKB := Lib.hid hKB
          have HS := Lib.hid hS
          clear hKB hS
          clear hO hC CE
          by_cases hlt : k < N
          · have hki : (k : Int) < (N : Int) := by omega
            go_wp2_with (first
              | (at_builtin; refine wpList_append_own _ rfl _ _ 26 rfl (W2.heap.size) 3 i0 (.int .i64 0) 1 8 Try.underlying26 hi0 hz0 hz1 hz2 rfl (by decide) lu k _ rfl (OK.out.alloc _) ⟨_, 0, none⟩ 1 1 [.int .i64 m.wl] rfl rfl (cell_news _ _ _ _ (heap_alloc_new _ _)) (one_int _) (by unfold maxLen; omega) (by omega) (by simp; omega) ?_; intro v' w12 hown12 hgrow12 _; have hlt12 := World.ownsRow.lt OK.out; have hb12 : Below (W2.heap.size) wr w12 := ((Below.refl (W2.heap.size) wr).alloc (by omega) (.cells #[.int .i64 m.wl] 3)).grown hgrow12 (by simp; omega) (fun k e => (hlt12 k e).1); obtain ⟨av', cv', rfl⟩ := ownsRow_slice1 hown12; have C8 := CK.out.app hb12 (by simp; omega) (by omega); have OW := Lib.hid hown12; clear hown12 hgrow12 hlt12)
              | (refine wpList_cell_bz rfl 26 _ _ rfl C8 2 (w.heap.size + 1 + 1) 1 _ _ rfl rfl (.slice av' (k + 1) cv') rfl (by simp) rfl info26 ?_; intro w13 hC13 hk13 hs13))
            refine ⟨⟨k + 1, .slice av' (k + 1) cv', by push_cast; rfl, by omega, hC13, ?_, fun b hb hn => (hk13 b hn).trans ((hb12.block b hb).trans (HKB.out b hb hn)), by have := hb12.size; omega⟩, ?_⟩
            · rw [List.replicate_succ', List.map_append]
              exact ownsRow.other OW.out (X := w.heap.size + 1 + 1) (by omega) hk13
            · simp [intOf]
              omega
          · obtain rfl : N = k := by omega
            have CF := Lib.hid CK.out
            have HL2 : Hid (LV (w.heap.size + 1 + 1) r wr lv (List.replicate r m.pl)) := LV.ke HI1.out HKB.out hs2
            have HO2 : Hid (IntsIn .i64 wr.heap.size wr lu (List.replicate N m.wl)) := OwnInts.ints (base := W2.heap.size) (by unfold OwnInts; rw [List.length_replicate]; exact OK.out) (by simp; omega)
            have HNE := Lib.hid (World.ownsRow.lt OK.out)
            obtain ⟨a2, n2, rfl⟩ := ownsRow_slice OK.out
            obtain ⟨bl, ol, cl, rfl, hbl1, hbl2, hbl3⟩ := HL2.out
            have HC3 := Lib.hid hbl3
            clear hbl3
            go_wp2_with (first
              | refine wpList_load_row rfl 28 _ rfl _ rfl _ _ _ _ (CF.out.get 2 rfl) Try.underlying28 rfl info28 ?_
              | refine wpList_store_row rfl 28 _ _ rfl (w.heap.size + 1) #[.slice (some ⟨bl, ol, none⟩) r cl, .slice a2 N n2] rfl rfl 28 _ (CF.out.get 1 rfl) info28 rfl (by simp [Value.oneCell']) ?_)
            have hB1 := (HB1.out bl rfl).1
            have L3 : LV (w.heap.size + 1) r (wr.setRow (w.heap.size + 1) #[.slice (some ⟨bl, ol, none⟩) r cl, .slice a2 N n2]) (.slice (some ⟨bl, ol, none⟩) r cl) (List.replicate r m.pl) := LV.other (w := wr) ⟨bl, ol, cl, rfl, by omega, hbl2, HC3.out⟩ (fun k hk => setRow_other _ _ _ _ hk)
            have I1 := L3.ints (by simp) (by omega)
            have I2 : IntsIn .i64 (wr.setRow (w.heap.size + 1) #[.slice (some ⟨bl, ol, none⟩) r cl, .slice a2 N n2]).heap.size (wr.setRow (w.heap.size + 1) #[.slice (some ⟨bl, ol, none⟩) r cl, .slice a2 N n2]) (.slice a2 N n2) (List.replicate N m.wl) := OwnInts.ints (base := W2.heap.size) (by unfold OwnInts; rw [List.length_replicate]; exact ownsRow.setRow OK.out (by omega) _) (by simp; omega)
            have e1 : sameP m false = List.replicate r m.pl := by unfold sameP; rw [HR.out]; rfl
            have e2 : sameW m false N = List.replicate N m.wl := rfl
            rw [e1, e2]
            exact bodyPost_ret (v := .agg #[.slice (some ⟨bl, ol, none⟩) r cl, .slice a2 N n2]) (results_cell_row (fn := Try.f41) rfl _ _ _ _ _ _ _ rfl (setRow_heap _ _ _ _ _ _ (CF.out.get 1 rfl)) Try.underlying28 rfl info28) rfl ⟨_, _, rfl, I1, I2, below_setRow CF.out.bel (by omega) _⟩
  · skip
    go_wp2_with fail
    go_quiet (fail)
    revert nq
    intro nq1
    simp only [Exit.then]
    go_wp2_with fail
    go_quiet (fail)
    revert nq
    intro nq2
    simp only [Exit.then]
    go_wp2_with fail
    have CB := Lib.hid ((C0.out.drewN (nq1 + nq2)).push (w.heap.size + 1 + 1) (by show ((w.alloc _).alloc _).heap.size = _; simp) (.cells #[.slice none 0 0, .slice none 0 0] 28))
    clear c0 C0
    go_loopw [10] (fun iv wr => ∃ (k : Nat) (lv : Value), iv = .int .i64 k ∧ k ≤ r ∧ Bs w [(w.heap.size, .cells #[.int .i64 m.rings, .int .i64 m.give, .int .i64 m.pl, .int .i64 m.ph, .int .i64 m.wl, .int .i64 m.wh, .int .i64 m.set, .int .i64 m.shrink, .int .i64 m.skin, .int .i64 m.fill, .int .i64 m.gap, .int .i64 m.deep] 25), (w.heap.size + 1, .cells #[.slice none 0 0, .slice none 0 0] 28), (w.heap.size + 1 + 1, .cells #[lv, .slice none 0 0] 28)] wr ∧ wr.ownsRow (w.heap.size + 1 + 1 + 1) 3 1 lv k ((List.replicate k m.ph).map (Value.int .i64))) (fun iv _ => r - (intOf iv).toNat)
    case atStart => exact ⟨0, .slice none 0 0, rfl, by omega, CB.out, World.ownsRow_nil _ _ 3 1⟩
    case round =>
      obtain ⟨k, lv, rfl, hk, hC, hO⟩ := hrel
      have CK := Lib.hid hC
      have OK := Lib.hid hO
      have c9 := hC.cell 2 rfl
      have hsz : w.heap.size + 1 + 1 < wr.heap.size := hC.lt 2 rfl
      have c00 : wr.cell? ⟨w.heap.size, 0, none⟩ = some (.int .i64 r) := by
        rw [hC.cell 0 rfl, ← HR.out]
        rfl
      clear hO hC CB
      by_cases hlt : k < r
      · have hki : (k : Int) < (r : Int) := by omega
        go_wp2_with (first
          | (at_builtin; refine wpList_append_own _ rfl _ _ 26 rfl (w.heap.size + 1 + 1 + 1) 3 i0 (.int .i64 0) 1 8 Try.underlying26 hi0 hz0 hz1 hz2 rfl (by decide) lv k _ rfl (OK.out.alloc _) ⟨_, 0, none⟩ 1 1 [.int .i64 m.ph] rfl rfl (cell_news _ _ _ _ (heap_alloc_new _ _)) (one_int _) (by unfold maxLen; omega) (by omega) (by simp; omega) ?_; intro v' w12 hown12 hgrow12 _; have hlt12 := World.ownsRow.lt OK.out; have hb12 : Below (w.heap.size + 1 + 1 + 1) wr w12 := ((Below.refl (w.heap.size + 1 + 1 + 1) wr).alloc (by omega) (.cells #[.int .i64 m.ph] 3)).grown hgrow12 (by simp; omega) (fun k e => (hlt12 k e).1); obtain ⟨av', cv', rfl⟩ := ownsRow_slice1 hown12; have C8 := CK.out.app hb12 (by simp; omega) (by omega); have OW := Lib.hid hown12; clear hown12 hgrow12 hlt12)
          | (refine wpList_cell_bz rfl 26 _ _ rfl C8 2 (w.heap.size + 1 + 1) 0 _ _ rfl rfl (.slice av' (k + 1) cv') rfl (by simp) rfl info26 ?_; intro w13 hC13 hk13 hs13))
        refine ⟨⟨k + 1, .slice av' (k + 1) cv', by push_cast; rfl, by omega, hC13, ?_⟩, ?_⟩
        · rw [List.replicate_succ', List.map_append]
          exact ownsRow.other OW.out (X := w.heap.size + 1 + 1) (by omega) hk13
        · simp [intOf]
          omega
      · obtain rfl : r = k := by omega
        have CE := Lib.hid CK.out
        have HI1 : Hid (LV (w.heap.size + 1 + 1) r wr lv (List.replicate r m.ph)) := LV.own (l := List.replicate r m.ph) (base := w.heap.size + 1 + 1 + 1) (by unfold OwnInts; rw [List.length_replicate]; exact OK.out) (by simp) hr1 (fun b h1 _ => by omega) (by omega)
        have HB1 := Lib.hid (World.ownsRow.lt OK.out)
        go_wp2_with fail
        clear c00 c9 OK CK
        generalize wr = W2 at *
        go_loopw [11] (fun iv wr => ∃ (k : Nat) (lu : Value), iv = .int .i64 k ∧ k ≤ N ∧ Bs w [(w.heap.size, .cells #[.int .i64 m.rings, .int .i64 m.give, .int .i64 m.pl, .int .i64 m.ph, .int .i64 m.wl, .int .i64 m.wh, .int .i64 m.set, .int .i64 m.shrink, .int .i64 m.skin, .int .i64 m.fill, .int .i64 m.gap, .int .i64 m.deep] 25), (w.heap.size + 1, .cells #[.slice none 0 0, .slice none 0 0] 28), (w.heap.size + 1 + 1, .cells #[lv, lu] 28)] wr ∧ wr.ownsRow (W2.heap.size) 3 1 lu k ((List.replicate k m.wh).map (Value.int .i64)) ∧ KB W2.heap.size (w.heap.size + 1 + 1) W2 wr ∧ W2.heap.size ≤ wr.heap.size) (fun iv _ => N - (intOf iv).toNat)
        case atStart => exact ⟨0, .slice none 0 0, rfl, by omega, CE.out, World.ownsRow_nil _ _ 3 1, fun b _ _ => rfl, Nat.le_refl _⟩
        case round =>
          obtain ⟨k, lu, rfl, hk, hC, hO, hKB, hS⟩ := hrel
          have CK := Lib.hid hC
          have OK := Lib.hid hO
          have c9 := hC.cell 2 rfl
          have hsz : w.heap.size + 1 + 1 < wr.heap.size := hC.lt 2 rfl
          have hs2 : W2.heap.size ≤ wr.heap.size := hS
          have HKB := Lib.hid hKB
          have HS := Lib.hid hS
          clear hKB hS
          clear hO hC CE
          by_cases hlt : k < N
          · have hki : (k : Int) < (N : Int) := by omega
            go_wp2_with (first
              | (at_builtin; refine wpList_append_own _ rfl _ _ 26 rfl (W2.heap.size) 3 i0 (.int .i64 0) 1 8 Try.underlying26 hi0 hz0 hz1 hz2 rfl (by decide) lu k _ rfl (OK.out.alloc _) ⟨_, 0, none⟩ 1 1 [.int .i64 m.wh] rfl rfl (cell_news _ _ _ _ (heap_alloc_new _ _)) (one_int _) (by unfold maxLen; omega) (by omega) (by simp; omega) ?_; intro v' w12 hown12 hgrow12 _; have hlt12 := World.ownsRow.lt OK.out; have hb12 : Below (W2.heap.size) wr w12 := ((Below.refl (W2.heap.size) wr).alloc (by omega) (.cells #[.int .i64 m.wh] 3)).grown hgrow12 (by simp; omega) (fun k e => (hlt12 k e).1); obtain ⟨av', cv', rfl⟩ := ownsRow_slice1 hown12; have C8 := CK.out.app hb12 (by simp; omega) (by omega); have OW := Lib.hid hown12; clear hown12 hgrow12 hlt12)
              | (refine wpList_cell_bz rfl 26 _ _ rfl C8 2 (w.heap.size + 1 + 1) 1 _ _ rfl rfl (.slice av' (k + 1) cv') rfl (by simp) rfl info26 ?_; intro w13 hC13 hk13 hs13))
            refine ⟨⟨k + 1, .slice av' (k + 1) cv', by push_cast; rfl, by omega, hC13, ?_, fun b hb hn => (hk13 b hn).trans ((hb12.block b hb).trans (HKB.out b hb hn)), by have := hb12.size; omega⟩, ?_⟩
            · rw [List.replicate_succ', List.map_append]
              exact ownsRow.other OW.out (X := w.heap.size + 1 + 1) (by omega) hk13
            · simp [intOf]
              omega
          · obtain rfl : N = k := by omega
            have CF := Lib.hid CK.out
            have HL2 : Hid (LV (w.heap.size + 1 + 1) r wr lv (List.replicate r m.ph)) := LV.ke HI1.out HKB.out hs2
            have HO2 : Hid (IntsIn .i64 wr.heap.size wr lu (List.replicate N m.wh)) := OwnInts.ints (base := W2.heap.size) (by unfold OwnInts; rw [List.length_replicate]; exact OK.out) (by simp; omega)
            have HNE := Lib.hid (World.ownsRow.lt OK.out)
            obtain ⟨a2, n2, rfl⟩ := ownsRow_slice OK.out
            obtain ⟨bl, ol, cl, rfl, hbl1, hbl2, hbl3⟩ := HL2.out
            have HC3 := Lib.hid hbl3
            clear hbl3
            go_wp2_with (first
              | refine wpList_load_row rfl 28 _ rfl _ rfl _ _ _ _ (CF.out.get 2 rfl) Try.underlying28 rfl info28 ?_
              | refine wpList_store_row rfl 28 _ _ rfl (w.heap.size + 1) #[.slice (some ⟨bl, ol, none⟩) r cl, .slice a2 N n2] rfl rfl 28 _ (CF.out.get 1 rfl) info28 rfl (by simp [Value.oneCell']) ?_)
            have hB1 := (HB1.out bl rfl).1
            have L3 : LV (w.heap.size + 1) r (wr.setRow (w.heap.size + 1) #[.slice (some ⟨bl, ol, none⟩) r cl, .slice a2 N n2]) (.slice (some ⟨bl, ol, none⟩) r cl) (List.replicate r m.ph) := LV.other (w := wr) ⟨bl, ol, cl, rfl, by omega, hbl2, HC3.out⟩ (fun k hk => setRow_other _ _ _ _ hk)
            have I1 := L3.ints (by simp) (by omega)
            have I2 : IntsIn .i64 (wr.setRow (w.heap.size + 1) #[.slice (some ⟨bl, ol, none⟩) r cl, .slice a2 N n2]).heap.size (wr.setRow (w.heap.size + 1) #[.slice (some ⟨bl, ol, none⟩) r cl, .slice a2 N n2]) (.slice a2 N n2) (List.replicate N m.wh) := OwnInts.ints (base := W2.heap.size) (by unfold OwnInts; rw [List.length_replicate]; exact ownsRow.setRow OK.out (by omega) _) (by simp; omega)
            have e1 : sameP m true = List.replicate r m.ph := by unfold sameP; rw [HR.out]; rfl
            have e2 : sameW m true N = List.replicate N m.wh := rfl
            rw [e1, e2]
            exact bodyPost_ret (v := .agg #[.slice (some ⟨bl, ol, none⟩) r cl, .slice a2 N n2]) (results_cell_row (fn := Try.f41) rfl _ _ _ _ _ _ _ rfl (setRow_heap _ _ _ _ _ _ (CF.out.get 1 rfl)) Try.underlying28 rfl info28) rfl ⟨_, _, rfl, I1, I2, below_setRow CF.out.bel (by omega) _⟩

end Go.Proofs.Ytafdagjdpnaddaa
/- The helpers turn, among, inside. -/
namespace Go.Proofs.Ytafdagjdpnaddaa
open Go.RowKit
def turnV (l : List Int) (n : Nat) : Int := if l.length = 0 then 0 else l.getD (n % l.length) 0
def amongV (lo hi n : Int) : Int := lo + n % (hi - lo + 1)
theorem turnV_range {l : List Int} (h : ∀ x ∈ l, 0 ≤ x ∧ x ≤ 65535) (n : Nat) : 0 ≤ turnV l n ∧ turnV l n ≤ 65535 := by
  unfold turnV
  by_cases h0 : l.length = 0
  · rw [if_pos h0]; omega
  · rw [if_neg h0]
    refine h _ ?_
    have hlt := Nat.mod_lt n (show 0 < l.length by omega)
    simp [List.getD, hlt]
theorem amongV_range {lo hi n : Int} (h : lo ≤ hi) : lo ≤ amongV lo hi n ∧ amongV lo hi n ≤ hi := by
  unfold amongV
  have h1 := Int.emod_nonneg n (show hi - lo + 1 ≠ 0 by omega)
  have h2 := Int.emod_lt_of_pos n (show 0 < hi - lo + 1 by omega)
  omega
theorem inside_r (r : Bool) (n lo hi : Int) (h : within n lo hi = r) (w : World) : Calls Try.prog 39 #[.int .i64 n, .agg #[.int .i64 lo, .int .i64 hi]] w fun e w' => e = .returned (.bool r) ∧ Below w.heap.size w w' := by
  have HB := Lib.hid ((Below.refl w.heap.size w).alloc (Nat.le_refl _) (.cells #[.int .i64 lo, .int .i64 hi] 23))
  subst h
  unfold within
  go_enter Try.func39, Try.ntmps39
  by_cases h1 : lo ≤ n
  · have h1' : decide (lo ≤ n) = true := decide_eq_true h1
    by_cases h2 : n ≤ hi
    · have h2' : decide (n ≤ hi) = true := decide_eq_true h2
      go_wp2
      go_ret
      exact ⟨by simp [h1, h2], HB.out⟩
    · have h2' : decide (n ≤ hi) = false := decide_eq_false h2
      go_wp2
      go_ret
      exact ⟨by simp, HB.out⟩
  · have h1' : decide (lo ≤ n) = false := decide_eq_false h1
    go_wp2
    go_ret
    exact ⟨by simp, HB.out⟩
theorem turn_any (l : List Int) (v : Value) (n : Nat) (hn : n ≤ 600) (w : World) (hv : IntsIn .u16 w.heap.size w v l) (hr : ∀ x ∈ l, 0 ≤ x ∧ x ≤ 65535) : Calls Try.prog 47 #[v, .int .i64 n] w fun e w' => e = .returned (.int .i64 (turnV l n)) ∧ w = w' := by
  obtain ⟨a, c, rfl, hl, hc⟩ := hv
  have HR := Lib.hid (turnV_range hr n)
  by_cases h0 : l.length = 0
  · have HT : Hid (turnV l n = 0) := by unfold Hid turnV; rw [if_pos h0]
    rw [h0]
    clear hc hr
    go_enter Try.func47, Try.ntmps47
    go_wp2
    go_ret
    exact ⟨by rw [HT.out]; rfl, rfl⟩
  · obtain ⟨b, o, rfl, hb, hc⟩ := hc.resolve_left (by intro h; rw [h] at h0; exact h0 rfl)
    have hlt := Nat.mod_lt n (show 0 < l.length by omega)
    have hcell := hc (n % l.length) hlt
    have HT : Hid (turnV l n = l.getD (n % l.length) 0) := by unfold Hid turnV; rw [if_neg h0]
    have hx : 0 ≤ l.getD (n % l.length) 0 ∧ l.getD (n % l.length) 0 ≤ 65535 := by rw [← HT.out]; exact HR.out
    generalize l.getD (n % l.length) 0 = x at *
    obtain ⟨hx0, hx1⟩ := hx
    obtain ⟨L, hL⟩ : ∃ L, l.length = L := ⟨_, rfl⟩
    rw [hL] at hl h0 hlt hcell ⊢
    clear hc hL hr
    have hq : ((L : Int) == 0) = false := by simpa using h0
    have hm : ((n : Int) % (L : Int)) = ((n % L : Nat) : Int) := by simp
    have hm2 : ((n : Int).tmod (L : Int)) = ((n % L : Nat) : Int) := by rw [Int.tmod_eq_emod_of_nonneg (by omega)]; exact hm
    obtain ⟨q, hqq⟩ : ∃ q, n % L = q := ⟨_, rfl⟩
    rw [hqq] at hm hm2 hlt hcell
    clear hqq
    have hqL : (q : Int) < (L : Int) := by omega
    go_enter Try.func47, Try.ntmps47
    go_wp2
    go_ret
    exact ⟨by rw [HT.out]; rfl, rfl⟩
theorem among_any (lo hi n : Int) (h0 : 0 ≤ lo) (h1 : lo ≤ hi) (h2 : hi ≤ 2000) (hn0 : 0 ≤ n) (w : World) : Calls Try.prog 67 #[.agg #[.int .i64 lo, .int .i64 hi], .int .i64 n] w fun e w' => e = .returned (.int .i64 (amongV lo hi n)) ∧ Below w.heap.size w w' := by
  have HC := Lib.hid ((Bs.nil w).push _ rfl (.cells #[.int .i64 lo, .int .i64 hi] 23))
  have c0 := HC.out.cell 0 rfl
  have HA : Hid (amongV lo hi n = lo + n % (hi - lo + 1)) := rfl
  have hm2 : n.tmod (hi - lo + 1) = n % (hi - lo + 1) := Int.tmod_eq_emod_of_nonneg (by omega)
  have hb1 := Int.emod_nonneg n (show hi - lo + 1 ≠ 0 by omega)
  have hb2 := Int.emod_lt_of_pos n (show 0 < hi - lo + 1 by omega)
  have hne : (hi - lo + 1 == 0) = false := by simp; omega
  have hne2 : hi - lo + 1 ≠ 0 := by omega
  have w1 : IntKind.i64.wrap (hi - lo) = hi - lo := by rw [IntKind.wrap_i64]; omega
  have w2 : IntKind.i64.wrap (hi - lo + 1) = hi - lo + 1 := by rw [IntKind.wrap_i64]; omega
  have w3 : IntKind.i64.wrap (n % (hi - lo + 1)) = n % (hi - lo + 1) := by rw [IntKind.wrap_i64]; omega
  have w4 : IntKind.i64.wrap (lo + n % (hi - lo + 1)) = lo + n % (hi - lo + 1) := by rw [IntKind.wrap_i64]; omega
  clear hb1 hb2
  rw [HA.out]
  go_enter Try.func67, Try.ntmps67
  go_wp2_with fail
  go_quiet (fail)
  simp only [Exit.then]
  go_wp2
  go_ret
  exact ⟨rfl, (HC.out.drewN _).bel⟩
end Go.Proofs.Ytafdagjdpnaddaa
/- stearinlaw05.Truth. -/
namespace Go.Proofs.Ytafdagjdpnaddaa
open Go.RowKit
def mapTo (f : Nat → Int) (k : Nat) : List Int := (List.range k).map f
theorem mapTo_len (f : Nat → Int) (k : Nat) : (mapTo f k).length = k := by simp [mapTo]
theorem mapTo_succ (f : Nat → Int) (k : Nat) : mapTo f (k + 1) = mapTo f k ++ [f k] := by simp [mapTo, List.range_succ]
theorem mapTo_getD (f : Nat → Int) {k i : Nat} (h : i < k) : (mapTo f k).getD i 0 = f i := by simp [mapTo, List.getD, h]
def truthPl (m : Mou) (r : Nat) (yl : List Int) : List Int := mapTo (fun i => amongV m.pl m.ph (turnV yl i)) r
def truthWl (m : Mou) (n : Nat) (zl : List Int) : List Int := mapTo (fun i => amongV m.wl m.wh (turnV zl i)) n
/-- Amid a round that appends to a field of a block. -/
structure TrW (w : World) (l : List (Nat × Obj)) (l' : Value → List (Nat × Obj)) (W : World) (bs g k : Nat) (v : Value) (xs : List Value) (x : Value) (d9 d10 d12 : Bool) (yb ya : Value) (w' : World) : Prop where
  bs1 : d12 = false → Bs w l w'
  bs2 : d12 = true → Bs w (l' ya) w'
  own : d10 = false → w'.ownsRow bs 3 1 v k xs
  src : d9 = true → d10 = false → ∃ b, yb = .slice (some ⟨b, 0, none⟩) 1 1 ∧ w'.heap[b]? = some (.cells [x].toArray 3)
  new : d10 = true → w'.ownsRow bs 3 1 ya (k + 1) (xs ++ [x])
  kb : KB bs g W w'
  hs : bs ≤ w'.heap.size
section
variable {w : World} {l : List (Nat × Obj)} {l' : Value → List (Nat × Obj)} {W : World} {bs g k : Nat} {v : Value} {xs : List Value} {x : Value} {d9 d10 d12 : Bool} {yb ya : Value} {w' w'' : World}
theorem TrW.next (h : TrW w l l' W bs g k v xs x d9 d10 d12 yb ya w') (hb : Below w'.heap.size w' w'') : TrW w l l' W bs g k v xs x d9 d10 d12 yb ya w'' :=
  ⟨fun e => (h.bs1 e).call hb, fun e => (h.bs2 e).call hb, fun e => ownsRow.below (h.own e) hb, fun e1 e2 => by obtain ⟨b, h1, h2⟩ := h.src e1 e2; exact ⟨b, h1, block_keep h2 hb⟩, fun e => ownsRow.below (h.new e) hb,
    fun b h1 h2 => (hb.block b (Nat.lt_of_lt_of_le h1 h.hs)).trans (h.kb b h1 h2), Nat.le_trans h.hs hb.size⟩
theorem TrW.laid (h : TrW w l l' W bs g k v xs x d9 d10 d12 yb ya w') (_hd : d10 = false) {b : Nat} (hb : w'.heap[b]? = some (.cells [x].toArray 3)) : TrW w l l' W bs g k v xs x true d10 d12 (.slice (some ⟨b, 0, none⟩) 1 1) ya w' :=
  ⟨h.bs1, h.bs2, h.own, fun _ _ => ⟨b, rfl, hb⟩, h.new, h.kb, h.hs⟩
theorem TrW.got (h : TrW w l l' W bs g k v xs x d9 d10 d12 yb ya w') (hd : d12 = false) (hb : Below bs w' w'') (hl : ∀ p ∈ l, p.1 < bs) (h0 : w.heap.size ≤ bs) {v' : Value} (hn : w''.ownsRow bs 3 1 v' (k + 1) (xs ++ [x])) : TrW w l l' W bs g k v xs x d9 true d12 yb v' w'' :=
  ⟨fun e => (h.bs1 e).app hb hl h0, fun e => (by rw [hd] at e; cases e), fun e => (by cases e), fun _ e => (by cases e), fun _ => hn, fun b h1 h2 => (hb.block b h1).trans (h.kb b h1 h2), Nat.le_trans h.hs hb.size⟩
theorem TrW.put (h : TrW w l l' W bs g k v xs x d9 d10 d12 yb ya w') (hd : d10 = true) (_hd2 : d12 = false) (hg : g < bs) (_h0 : w.heap.size ≤ bs) (hB : Bs w (l' ya) w'') (hk : ∀ k, k ≠ g → w''.heap[k]? = w'.heap[k]?) (hsz : w''.heap.size = w'.heap.size) : TrW w l l' W bs g k v xs x d9 d10 true yb ya w'' :=
  ⟨fun e => (by cases e), fun _ => hB, fun e => (by rw [hd] at e; cases e), fun _ e => (by rw [hd] at e; cases e), fun e => ownsRow.other (h.new e) hg hk, fun b h1 h2 => (hk b h2).trans (h.kb b h1 h2), by rw [hsz]; exact h.hs⟩
end
set_option maxRecDepth 100000 in
set_option maxHeartbeats 16000000 in
theorem truth_any (m : Mou) (hm : Valid m) (N : Nat) (hN : N ≤ 600) (yv zv : Value) (yl zl : List Int) (w : World) (hy : IntsIn .u16 w.heap.size w yv yl) (hz : IntsIn .u16 w.heap.size w zv zl) (hyr : ∀ x ∈ yl, 0 ≤ x ∧ x ≤ 65535) (hzr : ∀ x ∈ zl, 0 ≤ x ∧ x ≤ 65535) :
    Calls Try.prog 38 #[.agg #[.int .i64 m.rings, .int .i64 m.give, .int .i64 m.pl, .int .i64 m.ph, .int .i64 m.wl, .int .i64 m.wh, .int .i64 m.set, .int .i64 m.shrink, .int .i64 m.skin, .int .i64 m.fill, .int .i64 m.gap, .int .i64 m.deep], .int .i64 N, .agg #[yv, zv]] w (RetT (truthPl m m.rings.toNat yl) (truthWl m N zl) w) := by
  have HY := Lib.hid hy
  have HZ := Lib.hid hz
  have HYR := Lib.hid hyr
  have HZR := Lib.hid hzr
  obtain ⟨ya, yc, rfl, -, -⟩ := hy
  obtain ⟨za, zc, rfl, -, -⟩ := hz
  obtain ⟨yn, hyn⟩ : ∃ n, yl.length = n := ⟨_, rfl⟩
  obtain ⟨zn, hzn⟩ : ∃ n, zl.length = n := ⟨_, rfl⟩
  rw [hyn] at HY ⊢
  rw [hzn] at HZ ⊢
  clear hyn hzn hyr hzr
  have C0 := Lib.hid ((((Bs.nil w).push _ rfl (.cells #[.int .i64 m.rings, .int .i64 m.give, .int .i64 m.pl, .int .i64 m.ph, .int .i64 m.wl, .int .i64 m.wh, .int .i64 m.set, .int .i64 m.shrink, .int .i64 m.skin, .int .i64 m.fill, .int .i64 m.gap, .int .i64 m.deep] 25)).push (w.heap.size + 1) (by simp) (.cells #[.slice ya yn yc, .slice za zn zc] 58)).push (w.heap.size + 1 + 1) (by simp) (.cells #[.slice none 0 0, .slice none 0 0] 28))
  obtain ⟨r, hr⟩ : ∃ r : Nat, m.rings = r := ⟨m.rings.toNat, by have := hm.r1; omega⟩
  have hr8 : r ≤ 8 := by have := hm.r8; omega
  have hr1 : 1 ≤ r := by have := hm.r1; omega
  have HR := Lib.hid hr
  have HRN : Hid (m.rings.toNat = r) := by unfold Hid; rw [hr, Int.toNat_natCast]
  have HM := Lib.hid hm
  clear hr hm
  obtain ⟨i0, hi0, hz0, hz1, hz2⟩ := info3'
  have CB : Hid (Bs w [(w.heap.size, .cells #[.int .i64 m.rings, .int .i64 m.give, .int .i64 m.pl, .int .i64 m.ph, .int .i64 m.wl, .int .i64 m.wh, .int .i64 m.set, .int .i64 m.shrink, .int .i64 m.skin, .int .i64 m.fill, .int .i64 m.gap, .int .i64 m.deep] 25), (w.heap.size + 1, .cells #[.slice ya yn yc, .slice za zn zc] 58), (w.heap.size + 1 + 1, .cells #[.slice none 0 0, .slice none 0 0] 28), (w.heap.size + 1 + 1 + 1, .cells #[.slice none 0 0, .slice none 0 0] 28)] _) := C0.out.push (w.heap.size + 1 + 1 + 1) (by simp) (.cells #[.slice none 0 0, .slice none 0 0] 28)
  have HB4 : Hid (w.heap.size + 1 + 1 + 1 + 1 ≤ ((((w.alloc (.cells #[.int .i64 m.rings, .int .i64 m.give, .int .i64 m.pl, .int .i64 m.ph, .int .i64 m.wl, .int .i64 m.wh, .int .i64 m.set, .int .i64 m.shrink, .int .i64 m.skin, .int .i64 m.fill, .int .i64 m.gap, .int .i64 m.deep] 25)).alloc (.cells #[.slice ya yn yc, .slice za zn zc] 58)).alloc (.cells #[.slice none 0 0, .slice none 0 0] 28)).alloc (.cells #[.slice none 0 0, .slice none 0 0] 28)).heap.size) := by unfold Hid; simp
  clear C0
  go_enter Try.func38, Try.ntmps38
  go_wp2_with fail
  generalize (((w.alloc (.cells #[.int .i64 m.rings, .int .i64 m.give, .int .i64 m.pl, .int .i64 m.ph, .int .i64 m.wl, .int .i64 m.wh, .int .i64 m.set, .int .i64 m.shrink, .int .i64 m.skin, .int .i64 m.fill, .int .i64 m.gap, .int .i64 m.deep] 25)).alloc (.cells #[.slice ya yn yc, .slice za zn zc] 58)).alloc (.cells #[.slice none 0 0, .slice none 0 0] 28)).alloc (.cells #[.slice none 0 0, .slice none 0 0] 28) = W1 at *
  go_loopw [8] (fun iv wr => ∃ (k : Nat) (a8 : Option Addr) (c8 : Nat), iv = .int .i64 k ∧ k ≤ r ∧ Bs w [(w.heap.size, .cells #[.int .i64 m.rings, .int .i64 m.give, .int .i64 m.pl, .int .i64 m.ph, .int .i64 m.wl, .int .i64 m.wh, .int .i64 m.set, .int .i64 m.shrink, .int .i64 m.skin, .int .i64 m.fill, .int .i64 m.gap, .int .i64 m.deep] 25), (w.heap.size + 1, .cells #[.slice ya yn yc, .slice za zn zc] 58), (w.heap.size + 1 + 1, .cells #[.slice none 0 0, .slice none 0 0] 28), (w.heap.size + 1 + 1 + 1, .cells #[.slice a8 k c8, .slice none 0 0] 28)] wr ∧ wr.ownsRow (w.heap.size + 1 + 1 + 1 + 1) 3 1 (.slice a8 k c8) k ((mapTo (fun i => amongV m.pl m.ph (turnV yl i)) k).map (Value.int .i64)) ∧ KB (w.heap.size + 1 + 1 + 1 + 1) (w.heap.size + 1 + 1 + 1) W1 wr ∧ w.heap.size + 1 + 1 + 1 + 1 ≤ wr.heap.size) (fun iv _ => r - (intOf iv).toNat)
  case atStart => exact ⟨0, none, 0, rfl, by omega, CB.out, World.ownsRow_nil _ _ 3 1, fun _ _ _ => rfl, by exact HB4.out⟩
  case round =>
    obtain ⟨k, a8, c8, rfl, hk, hC, hO, hKB, hS⟩ := hrel
    have CK := Lib.hid hC
    have OK := Lib.hid hO
    have HKB := Lib.hid hKB
    have HS := Lib.hid hS
    have c00 : wr.cell? ⟨w.heap.size, 0, none⟩ = some (.int .i64 r) := by
      rw [hC.cell 0 rfl, ← HR.out]
      rfl
    clear hO hC CB hKB hS
    by_cases hlt : k < r
    · have hki : (k : Int) < (r : Int) := by omega
      go_wp2_with fail
      clear c00
      refine wp_region_inv1 (by kernel_rfl) (by kernel_rfl) [25, 26] (fun D y w' => TrW w [(w.heap.size, .cells #[.int .i64 m.rings, .int .i64 m.give, .int .i64 m.pl, .int .i64 m.ph, .int .i64 m.wl, .int .i64 m.wh, .int .i64 m.set, .int .i64 m.shrink, .int .i64 m.skin, .int .i64 m.fill, .int .i64 m.gap, .int .i64 m.deep] 25), (w.heap.size + 1, .cells #[.slice ya yn yc, .slice za zn zc] 58), (w.heap.size + 1 + 1, .cells #[.slice none 0 0, .slice none 0 0] 28), (w.heap.size + 1 + 1 + 1, .cells #[.slice a8 k c8, .slice none 0 0] 28)] (fun v => [(w.heap.size, .cells #[.int .i64 m.rings, .int .i64 m.give, .int .i64 m.pl, .int .i64 m.ph, .int .i64 m.wl, .int .i64 m.wh, .int .i64 m.set, .int .i64 m.shrink, .int .i64 m.skin, .int .i64 m.fill, .int .i64 m.gap, .int .i64 m.deep] 25), (w.heap.size + 1, .cells #[.slice ya yn yc, .slice za zn zc] 58), (w.heap.size + 1 + 1, .cells #[.slice none 0 0, .slice none 0 0] 28), (w.heap.size + 1 + 1 + 1, .cells #[v, .slice none 0 0] 28)]) W1 (w.heap.size + 1 + 1 + 1 + 1) (w.heap.size + 1 + 1 + 1) k (.slice a8 k c8) ((mapTo (fun i => amongV m.pl m.ph (turnV yl i)) k).map (Value.int .i64)) (.int .i64 (amongV m.pl m.ph (turnV yl k))) (D 9) (D 10) (D 12) (y 25) (y 26) w') ?_ ?F0 ?hF0 ?_
      · exact ⟨fun _ => CK.out.drew, fun h => (by cases h), fun _ => ownsRow.below OK.out (Below.refl _ _).drew, fun h => (by cases h), fun h => (by cases h), HKB.out, HS.out⟩
      case hF0 =>
        intro y
        simp only [fill, List.foldl, Act.put, List.setIfInBounds_toArray, List.set]
        exact rfl
      apply obl_det
      case hrun =>
        intro D y wz hW hD R hR
        have HRR := Lib.hid hR
        clear hR
        have HW := Lib.hid hW
        clear hW hD
        go_wp2
        exact HRR.out _ HW.out
      case hnp => rfl
      case hv => first | exact ⟨_, fun _ => rfl⟩ | exact ⟨undef, fun _ => rfl⟩
      apply obl_det
      case hrun =>
        intro D y wz hW hD R hR
        have HRR := Lib.hid hR
        clear hR
        have HW := Lib.hid hW
        have h12 : D 12 = false := hD.post _ 12 rfl (by kernel_rfl)
        have c7 := (hW.bs1 h12).cell 3 rfl
        clear hW hD
        go_wp2
        exact HRR.out _ HW.out
      case hnp => rfl
      case hv => first | exact ⟨_, fun _ => rfl⟩ | exact ⟨undef, fun _ => rfl⟩
      apply obl_det
      case hrun =>
        intro D y wz hW hD R hR
        have HRR := Lib.hid hR
        clear hR
        have HW := Lib.hid hW
        clear hW hD
        go_wp2
        exact HRR.out _ HW.out
      case hnp => rfl
      case hv => first | exact ⟨_, fun _ => rfl⟩ | exact ⟨undef, fun _ => rfl⟩
      apply obl_det
      case hrun =>
        intro D y wz hW hD R hR
        have HRR := Lib.hid hR
        clear hR
        have HW := Lib.hid hW
        have h12 : D 12 = false := hD.post _ 12 rfl (by kernel_rfl)
        have c0 := (hW.bs1 h12).cell 0 rfl
        clear hW hD
        go_wp2
        exact HRR.out _ HW.out
      case hnp => rfl
      case hv => first | exact ⟨_, fun _ => rfl⟩ | exact ⟨undef, fun _ => rfl⟩
      apply obl_det
      case hrun =>
        intro D y wz hW hD R hR
        have HRR := Lib.hid hR
        clear hR
        have HW := Lib.hid hW
        clear hW hD
        go_wp2
        exact HRR.out _ HW.out
      case hnp => rfl
      case hv => first | exact ⟨_, fun _ => rfl⟩ | exact ⟨undef, fun _ => rfl⟩
      apply obl_det
      case hrun =>
        intro D y wz hW hD R hR
        have HRR := Lib.hid hR
        clear hR
        have HW := Lib.hid hW
        have h12 : D 12 = false := hD.post _ 12 rfl (by kernel_rfl)
        have c1 := (hW.bs1 h12).cell 1 rfl
        clear hW hD
        go_wp2
        exact HRR.out _ HW.out
      case hnp => rfl
      case hv => first | exact ⟨_, fun _ => rfl⟩ | exact ⟨undef, fun _ => rfl⟩
      apply obl_det
      case hrun =>
        intro D y wz hW hD R hR
        have HRR := Lib.hid hR
        clear hR
        have HW := Lib.hid hW
        clear hW hD
        go_wp2
        exact HRR.out _ HW.out
      case hnp => rfl
      case hv => first | exact ⟨_, fun _ => rfl⟩ | exact ⟨undef, fun _ => rfl⟩
      apply obl_det
      case hrun =>
        intro D y wz hW hD R hR
        have HRR := Lib.hid hR
        clear hR
        have HW := Lib.hid hW
        have h12 : D 12 = false := hD.post _ 12 rfl (by kernel_rfl)
        have HYW := Lib.hid ((HY.out.below (hW.bs1 h12).bel).mono (hW.bs1 h12).bel.size)
        clear hW hD
        go_wp2_with fail
        refine (turn_any yl (.slice ya yn yc) k (by omega) wz (HYW.out) HYR.out).mono ?_
        rintro e w' ⟨rfl, rfl⟩
        go_wp2_with fail
        exact HRR.out _ HW.out
      case hnp => rfl
      case hv => first | exact ⟨_, fun _ => rfl⟩ | exact ⟨undef, fun _ => rfl⟩
      apply obl_det
      case hrun =>
        intro D y wz hW hD R hR
        have HRR := Lib.hid hR
        clear hR
        have HW := Lib.hid hW
        have hm0 := HM.out.p0
        have hm1 := HM.out.pp
        have hm2 := HM.out.p2
        have hm3 := HM.out.w0
        have hm4 := HM.out.ww
        have hm5 := HM.out.w2
        have htr := (turnV_range HYR.out k).1
        clear hW hD
        go_wp2_with fail
        refine (among_any m.pl m.ph _ (by omega) (by omega) (by omega) (by omega) wz).mono ?_
        rintro e w' ⟨rfl, hb⟩
        have HW2 := Lib.hid (HW.out.next hb)
        clear hb
        go_wp2_with fail
        exact HRR.out _ HW2.out
      case hnp => rfl
      case hv => first | exact ⟨_, fun _ => rfl⟩ | exact ⟨undef, fun _ => rfl⟩
      apply obl_priv 25
      case hd => rfl
      case hp => rfl
      case hrun =>
        intro D y wz hW hD R hR
        have HRR := Lib.hid hR
        clear hR
        have h12 : D 12 = false := hD.post _ 12 rfl (by kernel_rfl)
        have h10 : D 10 = false := hD.post _ 10 rfl (by kernel_rfl)
        have HW := Lib.hid hW
        have H10 := Lib.hid h10
        have H12 := Lib.hid h12
        clear hW hD h10 h12
        go_wp2_with fail
        refine HRR.out _ _ ?_
        show TrW w [(w.heap.size, .cells #[.int .i64 m.rings, .int .i64 m.give, .int .i64 m.pl, .int .i64 m.ph, .int .i64 m.wl, .int .i64 m.wh, .int .i64 m.set, .int .i64 m.shrink, .int .i64 m.skin, .int .i64 m.fill, .int .i64 m.gap, .int .i64 m.deep] 25), (w.heap.size + 1, .cells #[.slice ya yn yc, .slice za zn zc] 58), (w.heap.size + 1 + 1, .cells #[.slice none 0 0, .slice none 0 0] 28), (w.heap.size + 1 + 1 + 1, .cells #[.slice a8 k c8, .slice none 0 0] 28)] (fun v => [(w.heap.size, .cells #[.int .i64 m.rings, .int .i64 m.give, .int .i64 m.pl, .int .i64 m.ph, .int .i64 m.wl, .int .i64 m.wh, .int .i64 m.set, .int .i64 m.shrink, .int .i64 m.skin, .int .i64 m.fill, .int .i64 m.gap, .int .i64 m.deep] 25), (w.heap.size + 1, .cells #[.slice ya yn yc, .slice za zn zc] 58), (w.heap.size + 1 + 1, .cells #[.slice none 0 0, .slice none 0 0] 28), (w.heap.size + 1 + 1 + 1, .cells #[v, .slice none 0 0] 28)]) W1 (w.heap.size + 1 + 1 + 1 + 1) (w.heap.size + 1 + 1 + 1) k (.slice a8 k c8) ((mapTo (fun i => amongV m.pl m.ph (turnV yl i)) k).map (Value.int .i64)) (.int .i64 (amongV m.pl m.ph (turnV yl k))) true (D 10) (D 12) (.slice (some ⟨wz.heap.size, 0, none⟩) 1 1) (y 26) _
        exact (HW.out.next ((Below.refl _ _).alloc (Nat.le_refl _) _)).laid H10.out (heap_alloc_new _ _)
      apply obl_priv 26
      case hd => rfl
      case hp => rfl
      case hrun =>
        intro D y wz hW hD R hR
        have HRR := Lib.hid hR
        clear hR
        have h12 : D 12 = false := hD.post _ 12 rfl (by kernel_rfl)
        have h10 : D 10 = false := hD.not
        have h9 : D 9 = true := hD.pre _ 9 rfl (by kernel_rfl)
        obtain ⟨b9, e9, hb9⟩ := hW.src h9 h10
        have ho := hW.own h10
        have hs := hW.hs
        have HW := Lib.hid hW
        have H12 := Lib.hid h12
        have HB9 := Lib.hid hb9
        have E9 := Lib.hid e9
        clear hW hD h10 h12 h9 hb9 e9
        refine wpList_append_own _ rfl _ _ 26 rfl (w.heap.size + 1 + 1 + 1 + 1) 3 i0 (.int .i64 0) 1 8 Try.underlying26 hi0 hz0 hz1 hz2 rfl (by decide) _ _ _ rfl ho ⟨b9, 0, none⟩ 1 1 [.int .i64 (amongV m.pl m.ph (turnV yl k))] E9.out rfl (cell_news _ _ _ _ HB9.out) (one_int _) (by unfold maxLen; omega) (by omega) hs ?_
        intro v' w12 hown12 hgrow12 _
        have hlt12 := World.ownsRow.lt ho
        have hb12 : Below (w.heap.size + 1 + 1 + 1 + 1) wz w12 := (Below.refl (w.heap.size + 1 + 1 + 1 + 1) wz).grown hgrow12 hs (fun k e => (hlt12 k e).1)
        have HN := Lib.hid (HW.out.got H12.out hb12 (by simp; omega) (by omega) hown12)
        clear hown12 hgrow12 hlt12 hb12 ho
        go_wp2
        refine HRR.out v' _ ?_
        exact HN.out
      apply obl_det
      case hrun =>
        intro D y wz hW hD R hR
        have HRR := Lib.hid hR
        clear hR
        have HW := Lib.hid hW
        clear hW hD
        go_wp2
        exact HRR.out _ HW.out
      case hnp => rfl
      case hv => first | exact ⟨_, fun _ => rfl⟩ | exact ⟨undef, fun _ => rfl⟩
      apply obl_det
      case hrun =>
        intro D y wz hW hD R hR
        have HRR := Lib.hid hR
        clear hR
        have HW := Lib.hid hW
        have h12 : D 12 = false := hD.not
        have h10 : D 10 = true := hD.pre _ 10 rfl (by kernel_rfl)
        have H10 := Lib.hid h10
        have H12 := Lib.hid h12
        have H1c : Hid ((y 26).oneCell' = true) := by obtain ⟨a, c, e⟩ := ownsRow_slice (hW.new h10); unfold Hid; rw [e]; rfl
        clear h10 h12
        clear hW hD
        refine wpList_cell_bz rfl 26 _ _ rfl (HW.out.bs1 H12.out) 3 (w.heap.size + 1 + 1 + 1) 0 _ _ rfl rfl (y 26) rfl (by simp) H1c.out info26 ?_
        intro w13 hC13 hk13 hs13
        have HN := Lib.hid (HW.out.put H10.out H12.out (by omega) (by omega) hC13 hk13 hs13)
        clear hC13 hk13 hs13
        go_wp2
        exact HRR.out _ HN.out
      case hnp => rfl
      case hv => first | exact ⟨_, fun _ => rfl⟩ | exact ⟨undef, fun _ => rfl⟩
      apply obl_nil
      intro D y w8 hall hW
      have d9 := hall 9 (by decide)
      have d10 := hall 10 (by decide)
      have d12 := hall 12 (by decide)
      have HN := Lib.hid (hW.new d10)
      have HC8 := Lib.hid (hW.bs2 d12)
      have HKB := Lib.hid hW.kb
      have HS := Lib.hid hW.hs
      clear hW hall d9 d10 d12
      generalize y 26 = y' at *
      obtain ⟨a9, c9, rfl⟩ := ownsRow_slice1 HN.out
      clear CK OK
      go_wp2_with fail
      refine ⟨⟨k + 1, a9, c9, by push_cast; rfl, by omega, HC8.out, ?_, HKB.out, HS.out⟩, ?_⟩
      · rw [mapTo_succ, List.map_append]
        exact HN.out
      · simp [intOf]
        omega
    · obtain rfl : r = k := by omega
      have CE0 := Lib.hid CK.out
      have HB1 := Lib.hid (World.ownsRow.lt OK.out)
      have HI1 : Hid (LV (w.heap.size + 1 + 1 + 1) r wr (.slice a8 r c8) (truthPl m r yl)) := LV.own (l := truthPl m r yl) (base := w.heap.size + 1 + 1 + 1 + 1) (by unfold OwnInts; rw [truthPl, mapTo_len]; exact OK.out) (mapTo_len _ _) hr1 (fun b h1 _ => by omega) (by omega)
      have HS4 := HS.out
      go_wp2_with fail
      clear c00 OK CK HKB
      generalize wr = W2 at *
      generalize a8 = av1 at *
      generalize c8 = cv1 at *
      have CE := Lib.hid CE0.out
      clear CE0
      go_loopw [9] (fun iv wr => ∃ (k : Nat) (a8 : Option Addr) (c8 : Nat), iv = .int .i64 k ∧ k ≤ N ∧ Bs w [(w.heap.size, .cells #[.int .i64 m.rings, .int .i64 m.give, .int .i64 m.pl, .int .i64 m.ph, .int .i64 m.wl, .int .i64 m.wh, .int .i64 m.set, .int .i64 m.shrink, .int .i64 m.skin, .int .i64 m.fill, .int .i64 m.gap, .int .i64 m.deep] 25), (w.heap.size + 1, .cells #[.slice ya yn yc, .slice za zn zc] 58), (w.heap.size + 1 + 1, .cells #[.slice none 0 0, .slice none 0 0] 28), (w.heap.size + 1 + 1 + 1, .cells #[.slice av1 r cv1, .slice a8 k c8] 28)] wr ∧ wr.ownsRow (W2.heap.size) 3 1 (.slice a8 k c8) k ((mapTo (fun i => amongV m.wl m.wh (turnV zl i)) k).map (Value.int .i64)) ∧ KB (W2.heap.size) (w.heap.size + 1 + 1 + 1) W2 wr ∧ W2.heap.size ≤ wr.heap.size) (fun iv _ => N - (intOf iv).toNat)
      case atStart => exact ⟨0, none, 0, rfl, by omega, CE.out, World.ownsRow_nil _ _ 3 1, fun _ _ _ => rfl, by exact Nat.le_refl _⟩
      case round =>
        obtain ⟨k, a8, c8, rfl, hk, hC, hO, hKB, hS⟩ := hrel
        have CK := Lib.hid hC
        have OK := Lib.hid hO
        have HKB := Lib.hid hKB
        have HS := Lib.hid hS
        have c00 : wr.cell? ⟨w.heap.size, 0, none⟩ = some (.int .i64 r) := by
          rw [hC.cell 0 rfl, ← HR.out]
          rfl
        clear hO hC CE hKB hS
        by_cases hlt : k < N
        · have hki : (k : Int) < (N : Int) := by omega
          go_wp2_with fail
          clear c00
          refine wp_region_inv1 (by kernel_rfl) (by kernel_rfl) [42, 43] (fun D y w' => TrW w [(w.heap.size, .cells #[.int .i64 m.rings, .int .i64 m.give, .int .i64 m.pl, .int .i64 m.ph, .int .i64 m.wl, .int .i64 m.wh, .int .i64 m.set, .int .i64 m.shrink, .int .i64 m.skin, .int .i64 m.fill, .int .i64 m.gap, .int .i64 m.deep] 25), (w.heap.size + 1, .cells #[.slice ya yn yc, .slice za zn zc] 58), (w.heap.size + 1 + 1, .cells #[.slice none 0 0, .slice none 0 0] 28), (w.heap.size + 1 + 1 + 1, .cells #[.slice av1 r cv1, .slice a8 k c8] 28)] (fun v => [(w.heap.size, .cells #[.int .i64 m.rings, .int .i64 m.give, .int .i64 m.pl, .int .i64 m.ph, .int .i64 m.wl, .int .i64 m.wh, .int .i64 m.set, .int .i64 m.shrink, .int .i64 m.skin, .int .i64 m.fill, .int .i64 m.gap, .int .i64 m.deep] 25), (w.heap.size + 1, .cells #[.slice ya yn yc, .slice za zn zc] 58), (w.heap.size + 1 + 1, .cells #[.slice none 0 0, .slice none 0 0] 28), (w.heap.size + 1 + 1 + 1, .cells #[.slice av1 r cv1, v] 28)]) W2 (W2.heap.size) (w.heap.size + 1 + 1 + 1) k (.slice a8 k c8) ((mapTo (fun i => amongV m.wl m.wh (turnV zl i)) k).map (Value.int .i64)) (.int .i64 (amongV m.wl m.wh (turnV zl k))) (D 9) (D 10) (D 12) (y 42) (y 43) w') ?_ ?F1 ?hF1 ?_
          · exact ⟨fun _ => CK.out.drew, fun h => (by cases h), fun _ => ownsRow.below OK.out (Below.refl _ _).drew, fun h => (by cases h), fun h => (by cases h), HKB.out, HS.out⟩
          case hF1 =>
            intro y
            simp only [fill, List.foldl, Act.put, List.setIfInBounds_toArray, List.set]
            exact rfl
          apply obl_det
          case hrun =>
            intro D y wz hW hD R hR
            have HRR := Lib.hid hR
            clear hR
            have HW := Lib.hid hW
            clear hW hD
            go_wp2
            exact HRR.out _ HW.out
          case hnp => rfl
          case hv => first | exact ⟨_, fun _ => rfl⟩ | exact ⟨undef, fun _ => rfl⟩
          apply obl_det
          case hrun =>
            intro D y wz hW hD R hR
            have HRR := Lib.hid hR
            clear hR
            have HW := Lib.hid hW
            have h12 : D 12 = false := hD.post _ 12 rfl (by kernel_rfl)
            have c7 := (hW.bs1 h12).cell 3 rfl
            clear hW hD
            go_wp2
            exact HRR.out _ HW.out
          case hnp => rfl
          case hv => first | exact ⟨_, fun _ => rfl⟩ | exact ⟨undef, fun _ => rfl⟩
          apply obl_det
          case hrun =>
            intro D y wz hW hD R hR
            have HRR := Lib.hid hR
            clear hR
            have HW := Lib.hid hW
            clear hW hD
            go_wp2
            exact HRR.out _ HW.out
          case hnp => rfl
          case hv => first | exact ⟨_, fun _ => rfl⟩ | exact ⟨undef, fun _ => rfl⟩
          apply obl_det
          case hrun =>
            intro D y wz hW hD R hR
            have HRR := Lib.hid hR
            clear hR
            have HW := Lib.hid hW
            have h12 : D 12 = false := hD.post _ 12 rfl (by kernel_rfl)
            have c0 := (hW.bs1 h12).cell 0 rfl
            clear hW hD
            go_wp2
            exact HRR.out _ HW.out
          case hnp => rfl
          case hv => first | exact ⟨_, fun _ => rfl⟩ | exact ⟨undef, fun _ => rfl⟩
          apply obl_det
          case hrun =>
            intro D y wz hW hD R hR
            have HRR := Lib.hid hR
            clear hR
            have HW := Lib.hid hW
            clear hW hD
            go_wp2
            exact HRR.out _ HW.out
          case hnp => rfl
          case hv => first | exact ⟨_, fun _ => rfl⟩ | exact ⟨undef, fun _ => rfl⟩
          apply obl_det
          case hrun =>
            intro D y wz hW hD R hR
            have HRR := Lib.hid hR
            clear hR
            have HW := Lib.hid hW
            have h12 : D 12 = false := hD.post _ 12 rfl (by kernel_rfl)
            have c1 := (hW.bs1 h12).cell 1 rfl
            clear hW hD
            go_wp2
            exact HRR.out _ HW.out
          case hnp => rfl
          case hv => first | exact ⟨_, fun _ => rfl⟩ | exact ⟨undef, fun _ => rfl⟩
          apply obl_det
          case hrun =>
            intro D y wz hW hD R hR
            have HRR := Lib.hid hR
            clear hR
            have HW := Lib.hid hW
            clear hW hD
            go_wp2
            exact HRR.out _ HW.out
          case hnp => rfl
          case hv => first | exact ⟨_, fun _ => rfl⟩ | exact ⟨undef, fun _ => rfl⟩
          apply obl_det
          case hrun =>
            intro D y wz hW hD R hR
            have HRR := Lib.hid hR
            clear hR
            have HW := Lib.hid hW
            have h12 : D 12 = false := hD.post _ 12 rfl (by kernel_rfl)
            have HYW := Lib.hid ((HZ.out.below (hW.bs1 h12).bel).mono (hW.bs1 h12).bel.size)
            clear hW hD
            go_wp2_with fail
            refine (turn_any zl (.slice za zn zc) k (by omega) wz (HYW.out) HZR.out).mono ?_
            rintro e w' ⟨rfl, rfl⟩
            go_wp2_with fail
            exact HRR.out _ HW.out
          case hnp => rfl
          case hv => first | exact ⟨_, fun _ => rfl⟩ | exact ⟨undef, fun _ => rfl⟩
          apply obl_det
          case hrun =>
            intro D y wz hW hD R hR
            have HRR := Lib.hid hR
            clear hR
            have HW := Lib.hid hW
            have hm0 := HM.out.p0
            have hm1 := HM.out.pp
            have hm2 := HM.out.p2
            have hm3 := HM.out.w0
            have hm4 := HM.out.ww
            have hm5 := HM.out.w2
            have htr := (turnV_range HZR.out k).1
            clear hW hD
            go_wp2_with fail
            refine (among_any m.wl m.wh _ (by omega) (by omega) (by omega) (by omega) wz).mono ?_
            rintro e w' ⟨rfl, hb⟩
            have HW2 := Lib.hid (HW.out.next hb)
            clear hb
            go_wp2_with fail
            exact HRR.out _ HW2.out
          case hnp => rfl
          case hv => first | exact ⟨_, fun _ => rfl⟩ | exact ⟨undef, fun _ => rfl⟩
          apply obl_priv 42
          case hd => rfl
          case hp => rfl
          case hrun =>
            intro D y wz hW hD R hR
            have HRR := Lib.hid hR
            clear hR
            have h12 : D 12 = false := hD.post _ 12 rfl (by kernel_rfl)
            have h10 : D 10 = false := hD.post _ 10 rfl (by kernel_rfl)
            have HW := Lib.hid hW
            have H10 := Lib.hid h10
            have H12 := Lib.hid h12
            clear hW hD h10 h12
            go_wp2_with fail
            refine HRR.out _ _ ?_
            show TrW w [(w.heap.size, .cells #[.int .i64 m.rings, .int .i64 m.give, .int .i64 m.pl, .int .i64 m.ph, .int .i64 m.wl, .int .i64 m.wh, .int .i64 m.set, .int .i64 m.shrink, .int .i64 m.skin, .int .i64 m.fill, .int .i64 m.gap, .int .i64 m.deep] 25), (w.heap.size + 1, .cells #[.slice ya yn yc, .slice za zn zc] 58), (w.heap.size + 1 + 1, .cells #[.slice none 0 0, .slice none 0 0] 28), (w.heap.size + 1 + 1 + 1, .cells #[.slice av1 r cv1, .slice a8 k c8] 28)] (fun v => [(w.heap.size, .cells #[.int .i64 m.rings, .int .i64 m.give, .int .i64 m.pl, .int .i64 m.ph, .int .i64 m.wl, .int .i64 m.wh, .int .i64 m.set, .int .i64 m.shrink, .int .i64 m.skin, .int .i64 m.fill, .int .i64 m.gap, .int .i64 m.deep] 25), (w.heap.size + 1, .cells #[.slice ya yn yc, .slice za zn zc] 58), (w.heap.size + 1 + 1, .cells #[.slice none 0 0, .slice none 0 0] 28), (w.heap.size + 1 + 1 + 1, .cells #[.slice av1 r cv1, v] 28)]) W2 (W2.heap.size) (w.heap.size + 1 + 1 + 1) k (.slice a8 k c8) ((mapTo (fun i => amongV m.wl m.wh (turnV zl i)) k).map (Value.int .i64)) (.int .i64 (amongV m.wl m.wh (turnV zl k))) true (D 10) (D 12) (.slice (some ⟨wz.heap.size, 0, none⟩) 1 1) (y 43) _
            exact (HW.out.next ((Below.refl _ _).alloc (Nat.le_refl _) _)).laid H10.out (heap_alloc_new _ _)
          apply obl_priv 43
          case hd => rfl
          case hp => rfl
          case hrun =>
            intro D y wz hW hD R hR
            have HRR := Lib.hid hR
            clear hR
            have h12 : D 12 = false := hD.post _ 12 rfl (by kernel_rfl)
            have h10 : D 10 = false := hD.not
            have h9 : D 9 = true := hD.pre _ 9 rfl (by kernel_rfl)
            obtain ⟨b9, e9, hb9⟩ := hW.src h9 h10
            have ho := hW.own h10
            have hs := hW.hs
            have HW := Lib.hid hW
            have H12 := Lib.hid h12
            have HB9 := Lib.hid hb9
            have E9 := Lib.hid e9
            clear hW hD h10 h12 h9 hb9 e9
            refine wpList_append_own _ rfl _ _ 26 rfl (W2.heap.size) 3 i0 (.int .i64 0) 1 8 Try.underlying26 hi0 hz0 hz1 hz2 rfl (by decide) _ _ _ rfl ho ⟨b9, 0, none⟩ 1 1 [.int .i64 (amongV m.wl m.wh (turnV zl k))] E9.out rfl (cell_news _ _ _ _ HB9.out) (one_int _) (by unfold maxLen; omega) (by omega) hs ?_
            intro v' w12 hown12 hgrow12 _
            have hlt12 := World.ownsRow.lt ho
            have hb12 : Below (W2.heap.size) wz w12 := (Below.refl (W2.heap.size) wz).grown hgrow12 hs (fun k e => (hlt12 k e).1)
            have HN := Lib.hid (HW.out.got H12.out hb12 (by simp; omega) (by omega) hown12)
            clear hown12 hgrow12 hlt12 hb12 ho
            go_wp2
            refine HRR.out v' _ ?_
            exact HN.out
          apply obl_det
          case hrun =>
            intro D y wz hW hD R hR
            have HRR := Lib.hid hR
            clear hR
            have HW := Lib.hid hW
            clear hW hD
            go_wp2
            exact HRR.out _ HW.out
          case hnp => rfl
          case hv => first | exact ⟨_, fun _ => rfl⟩ | exact ⟨undef, fun _ => rfl⟩
          apply obl_det
          case hrun =>
            intro D y wz hW hD R hR
            have HRR := Lib.hid hR
            clear hR
            have HW := Lib.hid hW
            have h12 : D 12 = false := hD.not
            have h10 : D 10 = true := hD.pre _ 10 rfl (by kernel_rfl)
            have H10 := Lib.hid h10
            have H12 := Lib.hid h12
            have H1c : Hid ((y 43).oneCell' = true) := by obtain ⟨a, c, e⟩ := ownsRow_slice (hW.new h10); unfold Hid; rw [e]; rfl
            clear h10 h12
            clear hW hD
            refine wpList_cell_bz rfl 26 _ _ rfl (HW.out.bs1 H12.out) 3 (w.heap.size + 1 + 1 + 1) 1 _ _ rfl rfl (y 43) rfl (by simp) H1c.out info26 ?_
            intro w13 hC13 hk13 hs13
            have HN := Lib.hid (HW.out.put H10.out H12.out (by omega) (by omega) hC13 hk13 hs13)
            clear hC13 hk13 hs13
            go_wp2
            exact HRR.out _ HN.out
          case hnp => rfl
          case hv => first | exact ⟨_, fun _ => rfl⟩ | exact ⟨undef, fun _ => rfl⟩
          apply obl_nil
          intro D y w8 hall hW
          have d9 := hall 9 (by decide)
          have d10 := hall 10 (by decide)
          have d12 := hall 12 (by decide)
          have HN := Lib.hid (hW.new d10)
          have HC8 := Lib.hid (hW.bs2 d12)
          have HKB := Lib.hid hW.kb
          have HS := Lib.hid hW.hs
          clear hW hall d9 d10 d12
          generalize y 43 = y' at *
          obtain ⟨a9, c9, rfl⟩ := ownsRow_slice1 HN.out
          clear CK OK
          go_wp2_with fail
          refine ⟨⟨k + 1, a9, c9, by push_cast; rfl, by omega, HC8.out, ?_, HKB.out, HS.out⟩, ?_⟩
          · rw [mapTo_succ, List.map_append]
            exact HN.out
          · simp [intOf]
            omega
        · obtain rfl : N = k := by omega
          have HL2 : Hid (LV (w.heap.size + 1 + 1 + 1) r wr (.slice av1 r cv1) (truthPl m r yl)) := LV.ke HI1.out HKB.out HS.out
          have hlen : (truthWl m N zl).length = N := mapTo_len _ _
          have HNE := Lib.hid (World.ownsRow.lt OK.out)
          obtain ⟨bl, ol, cl, e0, hbl1, hbl2, hbl3⟩ := HL2.out
          simp only [Value.slice.injEq, true_and] at e0
          obtain ⟨rfl, rfl⟩ := e0
          have HC3 := Lib.hid hbl3
          have HLEN := Lib.hid hlen
          clear hbl3 hlen
          go_wp2_with (first
            | refine wpList_load_row rfl 28 _ rfl _ rfl _ _ _ _ (CK.out.get 3 rfl) Try.underlying28 rfl info28 ?_
            | refine wpList_store_row rfl 28 _ _ rfl (w.heap.size + 1 + 1) #[.slice (some ⟨bl, ol, none⟩) r cv1, .slice a8 N c8] rfl rfl 28 _ (CK.out.get 2 rfl) info28 rfl (by simp [Value.oneCell']) ?_)
          have hB1 := (HB1.out bl rfl).1
          have L3 : LV (w.heap.size + 1 + 1) r (wr.setRow (w.heap.size + 1 + 1) #[.slice (some ⟨bl, ol, none⟩) r cv1, .slice a8 N c8]) (.slice (some ⟨bl, ol, none⟩) r cv1) (truthPl m r yl) := LV.other (w := wr) ⟨bl, ol, cv1, rfl, by omega, hbl2, HC3.out⟩ (fun k hk => setRow_other _ _ _ _ hk)
          have I1 := L3.ints (mapTo_len _ _) (by omega)
          have I2 : IntsIn .i64 (wr.setRow (w.heap.size + 1 + 1) #[.slice (some ⟨bl, ol, none⟩) r cv1, .slice a8 N c8]).heap.size (wr.setRow (w.heap.size + 1 + 1) #[.slice (some ⟨bl, ol, none⟩) r cv1, .slice a8 N c8]) (.slice a8 N c8) (truthWl m N zl) := OwnInts.ints (base := W2.heap.size) (by unfold OwnInts; rw [HLEN.out]; exact ownsRow.setRow OK.out (by omega) _) (by rw [HLEN.out]; omega)
          exact bodyPost_ret (v := .agg #[.slice (some ⟨bl, ol, none⟩) r cv1, .slice a8 N c8]) (results_cell_row (fn := Try.f38) rfl _ _ _ _ _ _ _ rfl (setRow_heap _ _ _ _ _ _ (CK.out.get 2 rfl)) Try.underlying28 rfl info28) rfl ⟨_, _, rfl, by rw [HRN.out]; exact I1, I2, below_setRow CK.out.bel (by omega) _⟩

end Go.Proofs.Ytafdagjdpnaddaa
/- Plain: wider ranges; the hollow when rings set earlier. -/
namespace Go.Proofs.Ytafdagjdpnaddaa
/-- The earlier rings set, the less deep is the hollow. -/
theorem hol_mono {m : Mou} (hm : Valid m) {a b : List Int} (h : NoLater a b) (hl : (b.length : Int) = m.rings) (plan : List Int) : holV m a plan ≤ holV m b plan := by
  unfold holV pourL
  rw [h.1]
  have := pourF_le (F := fall m b) (G := fall m a) (fill := m.fill) (a := plan) (b := plan) (p := 0) (q := 0) (Int.le_refl _) rfl (fun i _ => fall_mono hm h hl _)
  omega
/-- A mould with wider Pour and Wall. -/
def wideM (m : Mou) (pl ph wl wh : Int) : Mou := { m with pl := pl, ph := ph, wl := wl, wh := wh }
structure Wider (m : Mou) (pl ph wl wh : Int) : Prop where
  p0 : 0 ≤ pl
  p1 : pl ≤ m.pl
  p2 : m.ph ≤ ph
  p3 : ph ≤ 2000
  w0 : 0 ≤ wl
  w1 : wl ≤ m.wl
  w2 : m.wh ≤ wh
  w3 : wh ≤ 2000
section
variable {m : Mou} {pl ph wl wh : Int}
theorem Wider.valid (h : Wider m pl ph wl wh) (hm : Valid m) : Valid (wideM m pl ph wl wh) := by
  obtain ⟨a1, a2, a3, a4, a5, a6, a7, a8, a9, b1, b2, b3, b4, b5, b6, b7, b8, b9, c1, c2, c3, c4⟩ := hm
  obtain ⟨d1, d2, d3, d4, d5, d6, d7, d8⟩ := h
  constructor <;> simp only [wideM] <;> omega
theorem leL_repl {x y : Int} (h : x ≤ y) (n : Nat) : LeL (List.replicate n x) (List.replicate n y) := ⟨by simp, fun i hi => by
  rw [List.length_replicate] at hi
  simpa [List.getD, hi] using h⟩
theorem Wider.cold (h : Wider m pl ph wl wh) (n : Nat) : LeL (sameP (wideM m pl ph wl wh) false) (sameP m false) ∧ LeL (sameW (wideM m pl ph wl wh) false n) (sameW m false n) :=
  ⟨leL_repl h.p1 _, leL_repl h.w1 _⟩
theorem Wider.hot (h : Wider m pl ph wl wh) (n : Nat) : LeL (sameP m true) (sameP (wideM m pl ph wl wh) true) ∧ LeL (sameW m true n) (sameW (wideM m pl ph wl wh) true n) :=
  ⟨leL_repl h.p2 _, leL_repl h.w2 _⟩
theorem Wider.warmC (h : Wider m pl ph wl wh) (hm : Valid m) (n : Nat) : LeL (warmL (wideM m pl ph wl wh) false n) (warmL m false n) :=
  runL_mono (g := m.give) (by have := hm.g1; omega) hm.g5 _ _ _ _ (h.cold n).1 (h.cold n).2
theorem Wider.warmH (h : Wider m pl ph wl wh) (hm : Valid m) (n : Nat) : LeL (warmL m true n) (warmL (wideM m pl ph wl wh) true n) :=
  runL_mono (g := m.give) (by have := hm.g1; omega) hm.g5 _ _ _ _ (h.hot n).1 (h.hot n).2
theorem Wider.endsC (h : Wider m pl ph wl wh) (hm : Valid m) : NoLater (endsL (wideM m pl ph wl wh) false) (endsL m false) := whenL_mono hm (h.cold 600).1 (h.cold 600).2
theorem Wider.endsH (h : Wider m pl ph wl wh) (hm : Valid m) : NoLater (endsL m true) (endsL (wideM m pl ph wl wh) true) := whenL_mono hm (h.hot 600).1 (h.hot 600).2
theorem warmL_len (m : Mou) (hot : Bool) (n : Nat) : (warmL m hot n).length = m.rings.toNat := by unfold warmL; rw [runL_length]; simp [sameP]
theorem zip_getD : ∀ {a b : List Int} {i : Nat}, i < a.length → i < b.length → (a.zip b).getD i (0, 0) = (a.getD i 0, b.getD i 0)
  | [], _, _, h, _ => by simp at h
  | _ :: _, [], _, _, h => by simp at h
  | x :: a, y :: b, 0, _, _ => by simp
  | x :: a, y :: b, i + 1, h1, h2 => by
    simp only [List.zip_cons_cons, List.getD_cons_succ]
    exact zip_getD (by simpa using h1) (by simpa using h2)
theorem poursB_iff {when plan : List Int} : poursB m when plan = true ↔ ∀ t ∈ plan, (skinN when t : Int) ≤ m.skin := by simp [poursB]
/-- What can be poured where rings set earlier, can be poured where they set later. -/
theorem pours_later {a b plan : List Int} (h : NoLater a b) (hp : poursB m a plan = true) : poursB m b plan = true :=
  poursB_iff.2 fun t ht => by have h1 := poursB_iff.1 hp t ht; have h2 := skin_mono h t; omega
theorem never_later {a b : List Int} (h : NoLater a b) (hb : neverB b = false) : neverB a = false := by
  unfold neverB at hb ⊢
  rw [List.any_eq_false] at hb ⊢
  intro x hx
  obtain ⟨i, hi, he⟩ := List.mem_iff_getElem.1 hx
  have hib : i < b.length := by rw [← h.1]; exact hi
  have := hb _ (List.getElem_mem hib)
  have h2 := (h.2 i hi).2
  simp only [List.getD_eq_getElem?_getD, List.getElem?_eq_getElem hi, List.getElem?_eq_getElem hib, Option.getD_some] at h2
  simp only [decide_eq_true_eq] at this ⊢
  rw [he] at h2
  omega
theorem Wider.hollowE (h : Wider m pl ph wl wh) (hm : Valid m) {plan : List Int} (hE : hollowE (wideM m pl ph wl wh) plan = 0) : hollowE m plan = 0 := by
  unfold Go.Proofs.Ytafdagjdpnaddaa.hollowE at hE ⊢
  rw [check_of_valid (h.valid hm), if_neg (by simp)] at hE
  rw [check_of_valid hm, if_neg (by simp)]
  have hp : planE (wideM m pl ph wl wh) plan = planE m plan := rfl
  rw [hp] at hE
  by_cases h1 : planE m plan ≠ 0
  · rw [if_pos h1] at hE; exact absurd hE h1
  rw [if_neg h1] at hE ⊢
  cases h2 : neverB (endsL (wideM m pl ph wl wh) true) with
  | true => rw [h2] at hE; simp at hE
  | false =>
    rw [never_later (h.endsH hm) h2]
    rw [h2] at hE
    cases h3 : poursB (wideM m pl ph wl wh) (endsL (wideM m pl ph wl wh) false) plan with
    | false => rw [h3] at hE; simp at hE
    | true =>
      have h4 : poursB m (endsL (wideM m pl ph wl wh) false) plan = true := h3
      rw [pours_later (h.endsC hm) h4]
      simp
theorem endsL_lenI (hm : Valid m) (hot : Bool) : ((endsL m hot).length : Int) = m.rings := by
  rw [endsL_length]
  have := hm.r1
  omega
theorem allTo_wide (pl ph wl wh : Int) : ∀ k, allTo (wideM m pl ph wl wh) k = allTo m k
  | 0 => rfl
  | k + 1 => by simp only [allTo]; rw [allTo_wide pl ph wl wh k]; rfl
theorem fallTo_wide (pl ph wl wh : Int) (when : List Int) (t : Int) : ∀ k, fallTo (wideM m pl ph wl wh) when t k = fallTo m when t k
  | 0 => rfl
  | k + 1 => by simp only [fallTo]; rw [fallTo_wide pl ph wl wh when t k]; rfl
theorem holV_wide (pl ph wl wh : Int) (when plan : List Int) : holV (wideM m pl ph wl wh) when plan = holV m when plan := by
  have : fall (wideM m pl ph wl wh) when = fall m when := funext fun t => fallTo_wide pl ph wl wh when t _
  unfold holV
  rw [allTo_wide, this]
  rfl
theorem Wider.holC (h : Wider m pl ph wl wh) (hm : Valid m) (plan : List Int) : holV (wideM m pl ph wl wh) (endsL (wideM m pl ph wl wh) false) plan ≤ holV m (endsL m false) plan := by
  rw [holV_wide]
  exact hol_mono hm (h.endsC hm) (endsL_lenI hm false) plan
theorem Wider.holH (h : Wider m pl ph wl wh) (hm : Valid m) (plan : List Int) : holV m (endsL m true) plan ≤ holV (wideM m pl ph wl wh) (endsL (wideM m pl ph wl wh) true) plan := by
  rw [holV_wide]
  exact hol_mono hm (h.endsH hm) (endsL_lenI (h.valid hm) true) plan
theorem wider_of (hm : Valid m) {a b c d : Int} (ha : 0 ≤ a) (hb : 0 ≤ b) (hc : 0 ≤ c) (hd : 0 ≤ d) : Wider m (max 0 (m.pl - a)) (min 2000 (m.ph + b)) (max 0 (m.wl - c)) (min 2000 (m.wh + d)) := by
  have := hm.p0
  have := hm.p2
  have := hm.w0
  have := hm.w2
  constructor <;> omega
end
end Go.Proofs.Ytafdagjdpnaddaa
/- Plain: no sound plan has fewer toppings than Fewest says. -/
namespace Go.Proofs.Ytafdagjdpnaddaa
theorem hollowE_ok {m : Mou} {plan : List Int} (h : hollowE m plan = 0) : checkE m = 0 ∧ PlanOk m plan ∧ neverB (endsL m true) = false ∧ poursB m (endsL m false) plan = true := by
  unfold hollowE at h
  by_cases h1 : checkE m ≠ 0
  · rw [if_pos h1] at h; exact absurd h h1
  rw [if_neg h1] at h
  by_cases h2 : planE m plan ≠ 0
  · rw [if_pos h2] at h; exact absurd h h2
  rw [if_neg h2] at h
  cases h3 : neverB (endsL m true) with
  | true => rw [h3] at h; simp at h
  | false =>
    rw [h3] at h
    cases h4 : poursB m (endsL m false) plan with
    | false => rw [h4] at h; simp at h
    | true => exact ⟨by simpa using h1, plan_ok.1 (by simpa using h2), rfl, rfl⟩
theorem getD_mem {l : List Int} {i : Nat} (h : i < l.length) : l.getD i 0 ∈ l := by
  simp [List.getD, h]
/-- The latest plan of as many toppings is nowhere earlier. -/
theorem late_ge {m : Mou} (hm : Valid m) {plan : List Int} (hp : PlanOk m plan) {first : List Int} (hq : poursB m first plan = true) {i : Nat} (hi : i < plan.length) :
    plan.getD i 0 ≤ lastM m first - ((plan.length : Int) - 1 - i) * m.gap := by
  have hl : plan.getD (plan.length - 1) 0 ≤ lastM m first := by
    have hr := hp.r0 (plan.length - 1) (by omega)
    have hs := poursB_iff.1 hq _ (getD_mem (show plan.length - 1 < plan.length by omega))
    have := downTo_ge (p := pourAt m first) (N := 601) (k := (plan.getD (plan.length - 1) 0).toNat) (by omega) (by
      unfold pourAt
      rw [decide_eq_true_eq, Int.toNat_of_nonneg hr.1]
      exact hs)
    unfold lastM
    omega
  by_cases he : i = plan.length - 1
  · subst he
    rw [show ((plan.length : Int) - 1 - ((plan.length - 1 : Nat) : Int)) = 0 by omega]
    omega
  · have := hp.lt hm (i := i) (j := plan.length - 1) (by omega) (by omega)
    rw [show (((plan.length - 1 - i : Nat)) : Int) = (plan.length : Int) - 1 - i by omega, Int.mul_comm] at this
    omega
theorem late_hol {m : Mou} (hm : Valid m) {plan : List Int} (hp : PlanOk m plan) {first last : List Int} (hq : poursB m first plan = true) (hl : (last.length : Int) = m.rings) : holV m last (lateP (lastM m first) m.gap plan.length) ≤ holV m last plan := by
  unfold holV pourL
  have := pourF_le (F := fall m last) (G := fall m last) (fill := m.fill) (a := plan) (b := lateP (lastM m first) m.gap plan.length) (p := 0) (q := 0) (Int.le_refl _) (lateP_length _ _ _).symm (fun i hi => by
    rw [lateP_getD _ _ _ _ hi]
    exact fall_grows hm hl (late_ge hm hp hq hi))
  omega
theorem sound_few {m : Mou} (hm : Valid m) {plan : List Int} (hE : hollowE m plan = 0) (hd : holV m (endsL m true) plan ≤ m.deep) :
    ∃ n : Nat, fewV m = (lateP (lastM m (endsL m false)) m.gap n, 0) ∧ n ≤ plan.length ∧ (n = plan.length → 0 < n → plan.getD (n - 1) 0 ≤ (lateP (lastM m (endsL m false)) m.gap n).getD (n - 1) 0) := by
  obtain ⟨hc, hp, hn, hq⟩ := hollowE_ok hE
  have hb : fewB m (endsL m false) (endsL m true) plan.length = true := by
    unfold fewB
    have h1 := late_hol (last := endsL m true) hm hp hq (endsL_lenI hm true)
    rw [Bool.and_eq_true, Bool.or_eq_true, decide_eq_true_eq, decide_eq_true_eq, decide_eq_true_eq]
    refine ⟨?_, by omega⟩
    by_cases h0 : plan.length = 0
    · exact .inl h0
    · have := late_ge hm hp hq (i := 0) (by omega)
      have := (hp.r0 0 (by omega)).1
      right
      rename_i q1
      have e : ((plan.length : Int) - 1 - ((0 : Nat) : Int)) = (plan.length : Int) - 1 := by omega
      rw [e] at q1
      omega
  have hl := hp.len
  obtain ⟨h1, h2⟩ := firstTo_of (p := fewB m (endsL m false) (endsL m true)) (N := 41) (by omega) hb
  obtain ⟨n, hfn⟩ : ∃ n : Nat, fewN m (endsL m false) (endsL m true) = n := ⟨(fewN m (endsL m false) (endsL m true)).toNat, by unfold fewN; omega⟩
  refine ⟨n, fewV_is hc hn hfn, by unfold fewN at hfn; omega, fun he h0 => ?_⟩
  rw [lateP_getD _ _ _ _ (by omega)]
  have := late_ge hm hp hq (i := n - 1) (by omega)
  rw [he] at this ⊢
  exact this
theorem fewE_cases {m : Mou} (h : checkE m = 0) : (fewV m).2 = 0 ∨ fewV m = ([], 9) := by
  by_cases hn : neverB (endsL m true) = true
  · exact .inr (fewV_never h hn)
  · have hn' : neverB (endsL m true) = false := by simpa using hn
    by_cases hf : fewN m (endsL m false) (endsL m true) < 0
    · exact .inr (fewV_no h hn' hf)
    · have := fewV_is h hn' (n := (fewN m (endsL m false) (endsL m true)).toNat) (by omega)
      rw [this]
      exact .inl rfl
end Go.Proofs.Ytafdagjdpnaddaa
/- Plain: minutes one by one. -/
namespace Go.Proofs.Ytafdagjdpnaddaa
/-- What rings shrink that set just in minute n, of the first k. -/
def riseTo (m : Mou) (when : List Int) (n : Int) : Nat → Int
  | 0 => 0
  | k + 1 => riseTo m when n k + if when.getD k 0 = n then shrI m k else 0
theorem fallTo_rise (m : Mou) (when : List Int) {n : Int} (hn : 0 ≤ n) : ∀ k, fallTo m when n k = fallTo m when (n - 1) k + riseTo m when n k
  | 0 => rfl
  | k + 1 => by
    simp only [fallTo, riseTo]
    rw [fallTo_rise m when hn k]
    generalize when.getD k 0 = x
    by_cases h1 : skinB n x = true
    · rw [if_pos h1]
      simp only [skinB, Bool.and_eq_true, decide_eq_true_eq] at h1
      by_cases h2 : x = n
      · rw [if_pos h2, if_neg (by simp only [skinB, Bool.and_eq_true, decide_eq_true_eq]; omega)]
        omega
      · rw [if_neg h2, if_pos (by simp only [skinB, Bool.and_eq_true, decide_eq_true_eq]; omega)]
        omega
    · rw [if_neg h1]
      simp only [skinB, Bool.and_eq_true, decide_eq_true_eq] at h1
      rw [if_neg (by simp only [skinB, Bool.and_eq_true, decide_eq_true_eq]; omega), if_neg (by omega)]
      omega
theorem riseTo_bound {m : Mou} (hm : Valid m) (when : List Int) (n : Int) : ∀ k : Nat, (k : Int) ≤ m.rings → 0 ≤ riseTo m when n k ∧ riseTo m when n k ≤ allTo m k
  | 0, _ => by simp [riseTo, allTo]
  | k + 1, h => by
    have ih := riseTo_bound hm when n k (by omega)
    have := shrI_nonneg hm (i := k) (by omega)
    simp only [riseTo, allTo]
    split <;> omega
/-- Toppings before minute n, and of the first k those in it. -/
def upTo (plan : List Int) (n : Int) (k : Nat) : List Int := plan.filter (fun t => decide (t < n)) ++ (plan.take k).filter (fun t => decide (t = n))
theorem upTo_zero (plan : List Int) (n : Int) : upTo plan n 0 = plan.filter (fun t => decide (t < n)) := by simp [upTo]
theorem upTo_hit {plan : List Int} {n : Int} {k : Nat} (hk : k < plan.length) (h : plan.getD k 0 = n) : upTo plan n (k + 1) = upTo plan n k ++ [n] := by
  unfold upTo
  rw [List.take_succ_eq_append_getElem hk, List.filter_append]
  have e : plan[k] = n := by simpa [List.getD, hk] using h
  simp [e]
theorem upTo_miss {plan : List Int} {n : Int} {k : Nat} (hk : k < plan.length) (h : plan.getD k 0 ≠ n) : upTo plan n (k + 1) = upTo plan n k := by
  unfold upTo
  rw [List.take_succ_eq_append_getElem hk, List.filter_append]
  have e : plan[k] ≠ n := by simpa [List.getD, hk] using h
  simp [e]
theorem filter_split (n : Int) : ∀ {l : List Int}, l.Pairwise (· ≤ ·) → l.filter (fun t => decide (t < n)) ++ l.filter (fun t => decide (t = n)) = l.filter (fun t => decide (t < n + 1))
  | [], _ => rfl
  | x :: l, h => by
    obtain ⟨h1, h2⟩ := List.pairwise_cons.1 h
    have ih := filter_split n h2
    by_cases hx : x < n
    · rw [List.filter_cons_of_pos (by simpa using hx), List.filter_cons_of_neg (by simp; omega), List.filter_cons_of_pos (by simp; omega), List.cons_append, ih]
    · have hnil : l.filter (fun t => decide (t < n)) = [] := by
        rw [List.filter_eq_nil_iff]
        intro t ht
        have := h1 t ht
        simp
        omega
      rw [hnil, List.nil_append] at ih
      by_cases he : x = n
      · rw [List.filter_cons_of_neg (by simpa using hx), hnil, List.nil_append, List.filter_cons_of_pos (by simpa using he), List.filter_cons_of_pos (by simp; omega), ih]
      · rw [List.filter_cons_of_neg (by simpa using hx), hnil, List.nil_append, List.filter_cons_of_neg (by simpa using he), List.filter_cons_of_neg (by simp; omega), ih]
theorem order_pairwise {l : List Int} (h : ∀ i j, i < j → j < l.length → l.getD i 0 ≤ l.getD j 0) : l.Pairwise (· ≤ ·) := by
  rw [List.pairwise_iff_getElem]
  intro i j hi hj hij
  have := h i j hij hj
  simpa [List.getD, hi, hj] using this
theorem upTo_all {plan : List Int} (h : plan.Pairwise (· ≤ ·)) (n : Int) : upTo plan n plan.length = upTo plan (n + 1) 0 := by
  rw [upTo_zero]
  unfold upTo
  rw [List.take_of_length_le (Nat.le_refl _)]
  exact filter_split n h
theorem upTo_end {plan : List Int} (h : ∀ t ∈ plan, t ≤ 600) : upTo plan 601 0 = plan := by
  rw [upTo_zero, List.filter_eq_self]
  intro t ht
  have := h t ht
  simp
  omega
theorem upTo_start {plan : List Int} (h : ∀ t ∈ plan, 0 ≤ t) : upTo plan 0 0 = [] := by
  rw [upTo_zero, List.filter_eq_nil_iff]
  intro t ht
  have := h t ht
  simp
  omega
/-- What has been poured. -/
def pourU (m : Mou) (when plan : List Int) (n : Int) (k : Nat) : Int := pourL (fall m when) m.fill (upTo plan n k)
theorem pourU_hit {m : Mou} {when plan : List Int} {n : Int} {k : Nat} (hk : k < plan.length) (h : plan.getD k 0 = n) : pourU m when plan n (k + 1) = pourU m when plan n k + min m.fill (fall m when n - pourU m when plan n k) := by
  unfold pourU
  rw [upTo_hit hk h]
  unfold pourL
  rw [pourF_append]
  show min (_ + m.fill) (fall m when n) = _
  omega
theorem pourU_bound {m : Mou} (hm : Valid m) {when : List Int} (hl : (when.length : Int) = m.rings) (plan : List Int) (n : Int) (k : Nat) : 0 ≤ pourU m when plan n k ∧ pourU m when plan n k ≤ 24000 := by
  have hA := allTo_bound hm when.length (by omega)
  have h8 := hm.r8
  unfold pourU pourL
  refine ⟨pourF_nonneg (by have := hm.f1; omega) (Int.le_refl _) (fun t _ => fall_nonneg hm hl t), pourF_step (by omega) (fun t _ => ?_)⟩
  have := fall_le hm hl t
  omega
theorem fall_bound {m : Mou} (hm : Valid m) {when : List Int} (hl : (when.length : Int) = m.rings) (n : Int) : 0 ≤ fall m when n ∧ fall m when n ≤ 24000 := by
  have hA := allTo_bound hm when.length (by omega)
  have h8 := hm.r8
  have := fall_le hm hl n
  have := fall_nonneg hm hl n
  omega
theorem fallB0 (m : Mou) {when : List Int} : fall m when (-1) = 0 := by
  unfold fall
  generalize when.length = k
  induction k with
  | zero => rfl
  | succ k ih =>
    simp only [fallTo]
    rw [ih, if_neg (by simp only [skinB, Bool.and_eq_true, decide_eq_true_eq]; omega)]
    rfl
theorem fall600 (m : Mou) {when : List Int} (h : ∀ i, i < when.length → 0 ≤ when.getD i 0 ∧ when.getD i 0 ≤ 600) : fall m when 600 = allTo m when.length :=
  fallTo_all _ (fun i hi => by have := h i hi; simp only [skinB, Bool.and_eq_true, decide_eq_true_eq]; omega)
end Go.Proofs.Ytafdagjdpnaddaa
/- stearinref05.End. -/
namespace Go.Proofs.Ytafdagjdpnaddaa
open Go.RowKit
set_option maxRecDepth 100000 in
set_option maxHeartbeats 16000000 in
theorem end_ref (m : Mou) (hm : Valid m) (when plan : List Int) (hwl : (when.length : Int) = m.rings) (hp : InOrder plan) (hpl : plan.length ≤ 40) (vw vp : Value) (w : World) (hvw : IntsIn .i64 w.heap.size w vw when) (hvp : IntsIn .i64 w.heap.size w vp plan) :
    Calls Try.prog 44 #[.agg #[.int .i64 m.rings, .int .i64 m.give, .int .i64 m.pl, .int .i64 m.ph, .int .i64 m.wl, .int .i64 m.wh, .int .i64 m.set, .int .i64 m.shrink, .int .i64 m.skin, .int .i64 m.fill, .int .i64 m.gap, .int .i64 m.deep], vw, vp] w fun e w' => e = .returned (.tuple #[.int .i64 (fall m when 600 - pourL (fall m when) m.fill plan), .int .i64 (pourL (fall m when) m.fill plan)]) ∧ Below w.heap.size w w' := by
  have C0 : Hid (Bs w [(w.heap.size, .cells #[.int .i64 m.rings, .int .i64 m.give, .int .i64 m.pl, .int .i64 m.ph, .int .i64 m.wl, .int .i64 m.wh, .int .i64 m.set, .int .i64 m.shrink, .int .i64 m.skin, .int .i64 m.fill, .int .i64 m.gap, .int .i64 m.deep] 25)] _) := (Bs.nil w).push _ rfl (.cells #[.int .i64 m.rings, .int .i64 m.give, .int .i64 m.pl, .int .i64 m.ph, .int .i64 m.wl, .int .i64 m.wh, .int .i64 m.set, .int .i64 m.shrink, .int .i64 m.skin, .int .i64 m.fill, .int .i64 m.gap, .int .i64 m.deep] 25)
  have HM := Lib.hid hm
  have HWL := Lib.hid hwl
  have HPW : Hid (plan.Pairwise (· ≤ ·)) := order_pairwise hp.up
  have HP6 : Hid (∀ t ∈ plan, 0 ≤ t ∧ t ≤ 600) := fun t ht => by
    obtain ⟨i, hi, rfl⟩ := List.mem_iff_getElem.1 ht
    have := hp.ends i hi
    simpa [List.getD, hi] using this
  obtain ⟨aw, cw, rfl, -, hcw⟩ := hvw
  obtain ⟨ap, cp, rfl, -, hcp⟩ := hvp
  have HCW := Lib.hid hcw
  have HCP := Lib.hid hcp
  obtain ⟨r, hr⟩ : ∃ r, when.length = r := ⟨_, rfl⟩
  obtain ⟨L, hL⟩ : ∃ L, plan.length = L := ⟨_, rfl⟩
  have HR := Lib.hid hr
  have HL := Lib.hid hL
  rw [hr] at HCW ⊢
  rw [hL] at HCP hpl ⊢
  have hr8 : r ≤ 8 := by have := hm.r8; omega
  have hf1 := hm.f1
  have hf2 := hm.f2
  clear hcw hcp hr hL hwl hm hp
  go_enter Try.func44, Try.ntmps44
  go_wp2_with fail
  go_loopw [8, 9, 10] (fun hv pv nv wr => ∃ (n : Nat) (h p : Int), hv = .int .i64 h ∧ pv = .int .i64 p ∧ nv = .int .i64 n ∧ n ≤ 601 ∧ h = fall m when ((n : Int) - 1) - pourU m when plan n 0 ∧ p = pourU m when plan n 0 ∧ Bs w [(w.heap.size, .cells #[.int .i64 m.rings, .int .i64 m.give, .int .i64 m.pl, .int .i64 m.ph, .int .i64 m.wl, .int .i64 m.wh, .int .i64 m.set, .int .i64 m.shrink, .int .i64 m.skin, .int .i64 m.fill, .int .i64 m.gap, .int .i64 m.deep] 25)] wr) (fun _ _ nv _ => 601 - (intOf nv).toNat)
  case atStart =>
    refine ⟨0, 0, 0, rfl, rfl, rfl, by omega, ?_, ?_, C0.out⟩
    · have e : ((0 : Nat) : Int) - 1 = -1 := rfl
      rw [e, fallB0]
      unfold pourU
      rw [show ((0 : Nat) : Int) = 0 from rfl, upTo_start (fun t ht => (HP6.out t ht).1)]
      rfl
    · unfold pourU
      rw [show ((0 : Nat) : Int) = 0 from rfl, upTo_start (fun t ht => (HP6.out t ht).1)]
      rfl
  case round =>
    obtain ⟨n, h, p, rfl, rfl, rfl, hn, hh, hpp, hC⟩ := hrel
    have hb1 := fall_bound HM.out HWL.out ((n : Int) - 1)
    have hb2 := pourU_bound HM.out HWL.out plan n 0
    have hhb : -24000 ≤ h ∧ h ≤ 24000 := by omega
    have hpb : 0 ≤ p ∧ p ≤ 24000 := by omega
    obtain ⟨hh0, hh1⟩ := hhb
    obtain ⟨hp0, hp1⟩ := hpb
    have HH := Lib.hid hh
    have HP := Lib.hid hpp
    have CN := Lib.hid hC
    clear hb1 hb2 hh hpp hC C0
    by_cases hlt : n < 601
    rotate_left
    · obtain rfl : n = 601 := by omega
      have hki : ¬ (((601 : Nat) : Int) ≤ 600) := by omega
      have e1 : h = fall m when 600 - pourL (fall m when) m.fill plan := by
        have e := HH.out
        unfold pourU at e
        rw [show ((601 : Nat) : Int) = 601 from rfl, upTo_end (fun t ht => (HP6.out t ht).2)] at e
        exact e
      have e2 : p = pourL (fall m when) m.fill plan := by
        have e := HP.out
        unfold pourU at e
        rw [show ((601 : Nat) : Int) = 601 from rfl, upTo_end (fun t ht => (HP6.out t ht).2)] at e
        exact e
      have E1 := Lib.hid e1
      have E2 := Lib.hid e2
      clear e1 e2
      go_wp2_with fail
      rw [← E1.out, ← E2.out]
      refine bodyPost_ret (v := .tuple #[.int .i64 h, .int .i64 p]) ?_ rfl ⟨rfl, CN.out.bel⟩
      rw [results_tmp2 (fn := Try.f44) rfl]
      go_simp
    have hki : (n : Int) ≤ 600 := by omega
    go_wp2_with fail
    go_loopw [8, 11] (fun hv iv wi => ∃ (i : Nat) (h' : Int), hv = .int .i64 h' ∧ iv = .int .i64 i ∧ i ≤ r ∧ h' = h + riseTo m when n i ∧ Bs w [(w.heap.size, .cells #[.int .i64 m.rings, .int .i64 m.give, .int .i64 m.pl, .int .i64 m.ph, .int .i64 m.wl, .int .i64 m.wh, .int .i64 m.set, .int .i64 m.shrink, .int .i64 m.skin, .int .i64 m.fill, .int .i64 m.gap, .int .i64 m.deep] 25)] wi) (fun _ iv _ => r - (intOf iv).toNat)
    case atStart => exact ⟨0, h, rfl, rfl, by omega, by simp [riseTo], CN.out⟩
    case round =>
      obtain ⟨i, h', rfl, rfl, hi, hh', hC⟩ := hrel
      have CI := Lib.hid hC
      have hA := allTo_bound HM.out i (by have := HWL.out; have := HR.out; omega)
      have hB := riseTo_bound HM.out when n i (by have := HWL.out; have := HR.out; omega)
      have hb0 : -24000 ≤ h' := by omega
      have hb1 : h' ≤ 48000 := by omega
      have HH' := Lib.hid hh'
      clear hh' hC hA hB CN
      by_cases hir : i < r
      · have hri : (i : Int) < m.rings := by have := HWL.out; have := HR.out; omega
        obtain ⟨b, o, rfl, hbb, hc⟩ := HCW.out.resolve_left (by intro h; have := HR.out; rw [h] at this; simp at this; omega)
        have ck : wr.cell? ⟨b, o + i, none⟩ = some (.int .i64 (when.getD i 0)) := (CI.out.bel.cell (p := ⟨b, o + i, none⟩) hbb).trans (hc i hir)
        have HS := fun w => Lib.hid (shr_any m HM.out i hri w)
        have hs0 := shrI_nonneg HM.out hri
        have hs1 := shrI_le HM.out i hri
        have HRI : Hid (riseTo m when n (i + 1) = riseTo m when n i + if when.getD i 0 = (n : Int) then shrI m i else 0) := rfl
        have hii : (i : Int) < (r : Int) := by omega
        clear hc
        generalize when.getD i 0 = x at *
        generalize shrI m i = sh at *
        by_cases hx : x = (n : Int)
        · have HX := Lib.hid hx
          have hq : (x == (n : Int)) = true := by simpa using hx
          clear hx
          go_wp2_with (refine wpList_load_bs rfl 25 _ rfl CI.out 0 w.heap.size #[.int .i64 m.rings, .int .i64 m.give, .int .i64 m.pl, .int .i64 m.ph, .int .i64 m.wl, .int .i64 m.wh, .int .i64 m.set, .int .i64 m.shrink, .int .i64 m.skin, .int .i64 m.fill, .int .i64 m.gap, .int .i64 m.deep] 25 rfl rfl _ Try.underlying25 rfl info25 ?_)
          refine (HS _).out.mono ?_
          rintro e w9 ⟨rfl, hb⟩
          have C9 := Lib.hid (CI.out.call hb)
          clear hb
          go_wp2_with fail
          refine ⟨⟨i + 1, h' + sh, rfl, by push_cast; rfl, by omega, ?_, C9.out⟩, ?_⟩
          · rw [HRI.out, if_pos HX.out, HH'.out]
            omega
          · simp [intOf]
            omega
        · have hq : (x == (n : Int)) = false := by simpa using hx
          have HX := Lib.hid hx
          clear hx
          go_wp2_with fail
          refine ⟨⟨i + 1, h', rfl, by push_cast; rfl, by omega, ?_, CI.out⟩, ?_⟩
          · rw [HRI.out, if_neg HX.out, HH'.out]
            omega
          · simp [intOf]
            omega
      · obtain rfl : r = i := by omega
        have HF : Hid (h' = fall m when n - pourU m when plan n 0) := by
          have h1 := HH'.out
          have h2 := HH.out
          have h3 : fall m when n = fall m when ((n : Int) - 1) + riseTo m when n r := by
            unfold fall
            rw [HR.out]
            exact fallTo_rise m when (by omega) r
          unfold Hid
          omega
        clear HH HH' hb0 hb1
        have hb1 := fall_bound HM.out HWL.out (n : Int)
        have hb2 := pourU_bound HM.out HWL.out plan n 0
        have hf := HF.out
        have hb3 : -24000 ≤ h' := by omega
        have hb4 : h' ≤ 24000 := by omega
        clear hb1 hb2 hf
        go_wp2_with fail
        clear hh0 hh1
        go_loopw [8, 9, 12] (fun hv pv kv wi => ∃ (k : Nat) (h2 p2 : Int), hv = .int .i64 h2 ∧ pv = .int .i64 p2 ∧ kv = .int .i64 k ∧ k ≤ L ∧ h2 = fall m when n - pourU m when plan n k ∧ p2 = pourU m when plan n k ∧ Bs w [(w.heap.size, .cells #[.int .i64 m.rings, .int .i64 m.give, .int .i64 m.pl, .int .i64 m.ph, .int .i64 m.wl, .int .i64 m.wh, .int .i64 m.set, .int .i64 m.shrink, .int .i64 m.skin, .int .i64 m.fill, .int .i64 m.gap, .int .i64 m.deep] 25)] wi) (fun _ _ kv _ => L - (intOf kv).toNat)
        case atStart => exact ⟨0, h', p, rfl, rfl, rfl, by omega, HF.out, HP.out, CI.out⟩
        case round =>
          obtain ⟨k, h2, p2, rfl, rfl, rfl, hk, hh2, hp2, hC⟩ := hrel
          have CK := Lib.hid hC
          have hb1 := fall_bound HM.out HWL.out (n : Int)
          have hb2 := pourU_bound HM.out HWL.out plan n k
          have hq0 : -24000 ≤ h2 := by omega
          have hq1 : h2 ≤ 24000 := by omega
          have hq2 : 0 ≤ p2 := by omega
          have hq3 : p2 ≤ 24000 := by omega
          have HH2 := Lib.hid hh2
          have HP2 := Lib.hid hp2
          clear hh2 hp2 hC hb1 hb2 CI
          by_cases hkL : k < L
          · obtain ⟨b, o, rfl, hbb, hc⟩ := HCP.out.resolve_left (by intro h; have := HL.out; rw [h] at this; simp at this; omega)
            have ck : wr.cell? ⟨b, o + k, none⟩ = some (.int .i64 (plan.getD k 0)) := (CK.out.bel.cell (p := ⟨b, o + k, none⟩) hbb).trans (hc k hkL)
            have c0 := CK.out.cell 0 rfl
            have hii : (k : Int) < (L : Int) := by omega
            have HIT := fun h => Lib.hid (pourU_hit (m := m) (when := when) (plan := plan) (n := (n : Int)) (k := k) (by rw [HL.out]; exact hkL) h)
            have HMS := fun h => Lib.hid (upTo_miss (plan := plan) (n := (n : Int)) (k := k) (by rw [HL.out]; exact hkL) h)
            clear hc
            generalize plan.getD k 0 = x at *
            by_cases hx : x = (n : Int)
            · have HX := Lib.hid (HIT hx).out
              have hq : (x == (n : Int)) = true := by simpa using hx
              have hm0 : -24000 ≤ min m.fill h2 := by omega
              have hm1 : min m.fill h2 ≤ 24000 := by omega
              have HMN : Hid (min m.fill h2 = min m.fill (fall m when n - pourU m when plan n k)) := by unfold Hid; rw [← HH2.out]
              clear hx HIT HMS
              have hmf : min m.fill h2 ≤ h2 := by omega
              go_wp2_with fail
              refine ⟨⟨k + 1, h2 - min m.fill h2, p2 + min m.fill h2, rfl, rfl, by push_cast; rfl, by omega, ?_, ?_, CK.out⟩, ?_⟩
              · rw [HX.out, ← HMN.out, HH2.out]
                omega
              · rw [HX.out, ← HMN.out, HP2.out]
              · simp [intOf]
                omega
            · have hq : (x == (n : Int)) = false := by simpa using hx
              have HX := Lib.hid (HMS hx).out
              clear hx HIT HMS
              go_wp2_with fail
              refine ⟨⟨k + 1, h2, p2, rfl, rfl, by push_cast; rfl, by omega, ?_, ?_, CK.out⟩, ?_⟩
              · unfold pourU
                rw [HX.out]
                exact HH2.out
              · unfold pourU
                rw [HX.out]
                exact HP2.out
              · simp [intOf]
                omega
          · obtain rfl : L = k := by omega
            have HU : Hid (upTo plan n L = upTo plan (n + 1) 0) := by
              have := upTo_all HPW.out (n : Int)
              rw [HL.out] at this
              exact this
            go_wp2_with fail
            refine ⟨⟨n + 1, h2, p2, rfl, rfl, by push_cast; rfl, by omega, ?_, ?_, CK.out⟩, ?_⟩
            · have e : ((n + 1 : Nat) : Int) - 1 = n := by omega
              rw [e]
              have h1 := HH2.out
              unfold pourU at h1 ⊢
              rw [HU.out] at h1
              exact h1
            · have h1 := HP2.out
              unfold pourU at h1 ⊢
              rw [HU.out] at h1
              exact h1
            · simp [intOf]
              omega
end Go.Proofs.Ytafdagjdpnaddaa
/- Plain: truths between the coldest and the warmest one; the plan of Fewest. -/
namespace Go.Proofs.Ytafdagjdpnaddaa
theorem leL_map_lo {x : Int} {f : Nat → Int} (h : ∀ i, x ≤ f i) (n : Nat) : LeL (List.replicate n x) (mapTo f n) := ⟨by simp [mapTo], fun i hi => by
  rw [List.length_replicate] at hi
  rw [mapTo_getD f hi]
  simpa [List.getD, hi] using h i⟩
theorem leL_map_hi {x : Int} {f : Nat → Int} (h : ∀ i, f i ≤ x) (n : Nat) : LeL (mapTo f n) (List.replicate n x) := ⟨by simp [mapTo], fun i hi => by
  rw [mapTo_len] at hi
  rw [mapTo_getD f hi]
  simpa [List.getD, hi] using h i⟩
section
variable {m : Mou} (hm : Valid m) (yl zl : List Int) (n : Nat)
include hm
theorem truth_lo : LeL (sameP m false) (truthPl m m.rings.toNat yl) ∧ LeL (sameW m false n) (truthWl m n zl) :=
  ⟨leL_map_lo (fun _ => (amongV_range hm.pp).1) _, leL_map_lo (fun _ => (amongV_range hm.ww).1) _⟩
theorem truth_hi : LeL (truthPl m m.rings.toNat yl) (sameP m true) ∧ LeL (truthWl m n zl) (sameW m true n) :=
  ⟨leL_map_hi (fun _ => (amongV_range hm.pp).2) _, leL_map_hi (fun _ => (amongV_range hm.ww).2) _⟩
theorem truth_fitsP : Fits2 m.pl m.ph (truthPl m m.rings.toNat yl) := fun i hi => by
  rw [truthPl, mapTo_len] at hi
  rw [truthPl, mapTo_getD _ hi]
  exact amongV_range hm.pp
theorem truth_fitsW : Fits2 m.wl m.wh (truthWl m n zl) := fun i hi => by
  rw [truthWl, mapTo_len] at hi
  rw [truthWl, mapTo_getD _ hi]
  exact amongV_range hm.ww
def truthWhen (m : Mou) (yl zl : List Int) : List Int := whenL m (truthPl m m.rings.toNat yl) (truthWl m 600 zl)
theorem when_cold : NoLater (endsL m false) (truthWhen m yl zl) := whenL_mono hm (truth_lo hm yl zl 600).1 (truth_lo hm yl zl 600).2
theorem when_hot : NoLater (truthWhen m yl zl) (endsL m true) := whenL_mono hm (truth_hi hm yl zl 600).1 (truth_hi hm yl zl 600).2
end
theorem truthWhen_len (m : Mou) (yl zl : List Int) : (truthWhen m yl zl).length = m.rings.toNat := by
  rw [truthWhen, whenL_length, truthPl, mapTo_len]
theorem when_range (m : Mou) (p ws : List Int) (hw : ws.length ≤ 600) {i : Nat} (hi : i < p.length) : -1 ≤ (whenL m p ws).getD i 0 ∧ (whenL m p ws).getD i 0 ≤ 600 := by
  rw [whenL_getD _ _ _ _ hi]
  have := firstTo_bound (setsAt m p ws i) (ws.length + 1)
  unfold whenI
  omega
/-- Where all rings set in the warmest truth, they set in each one. -/
theorem sets_all {m : Mou} {a : List Int} (h : NoLater a (endsL m true)) (hn : neverB (endsL m true) = false) {i : Nat} (hi : i < a.length) : 0 ≤ a.getD i 0 := by
  have hl : a.length = m.rings.toNat := h.1.trans (endsL_length m true)
  have h1 := never_not hn (show i < m.rings.toNat by omega)
  rw [← endsL_getD m true (show i < m.rings.toNat by omega)] at h1
  exact ((h.2 i hi).2 h1).1
theorem hollow_is {m : Mou} {when : List Int} (h : ∀ i, i < when.length → 0 ≤ when.getD i 0 ∧ when.getD i 0 ≤ 600) (plan : List Int) : fall m when 600 - pourL (fall m when) m.fill plan = holV m when plan := by
  unfold holV
  rw [fall600 m h]
theorem few_ok {m : Mou} (h : (fewV m).2 = 0) : ∃ n : Nat, fewV m = (lateP (lastM m (endsL m false)) m.gap n, 0) ∧ PlanOk m (lateP (lastM m (endsL m false)) m.gap n) ∧ poursB m (endsL m false) (lateP (lastM m (endsL m false)) m.gap n) = true ∧ holV m (endsL m true) (lateP (lastM m (endsL m false)) m.gap n) ≤ m.deep ∧ checkE m = 0 ∧ neverB (endsL m true) = false := by
  by_cases hc : checkE m = 0
  rotate_left
  · rw [fewV_bad hc] at h; exact absurd h hc
  cases hn : neverB (endsL m true) with
  | true => rw [fewV_never hc hn] at h; simp at h
  | false =>
    by_cases hf : fewN m (endsL m false) (endsL m true) < 0
    · rw [fewV_no hc hn hf] at h; simp at h
    have hm := valid_of_check hc
    have hb := firstTo_bound (fewB m (endsL m false) (endsL m true)) 41
    have hp := (firstTo_pos (p := fewB m (endsL m false) (endsL m true)) (N := 41) (by unfold fewN at hf; omega)).1
    obtain ⟨n, hfn⟩ : ∃ n : Nat, fewN m (endsL m false) (endsL m true) = n := ⟨(fewN m (endsL m false) (endsL m true)).toNat, by omega⟩
    have hfn' := hfn
    unfold fewN at hfn'
    rw [hfn', Int.toNat_natCast] at hp
    unfold fewB at hp
    rw [Bool.and_eq_true, Bool.or_eq_true, decide_eq_true_eq, decide_eq_true_eq, decide_eq_true_eq] at hp
    have hlast : lastM m (endsL m false) ≤ 600 := by have := downTo_bound (pourAt m (endsL m false)) 601; unfold lastM; omega
    have hord := late_order hm hlast (n := n) (fun h0 => by have := hp.1; omega)
    refine ⟨n, fewV_is hc hn hfn, ⟨by rw [lateP_length]; omega, hord.ends, fun i hi => ?_⟩, poursB_iff.2 fun t ht => ?_, hp.2, hc, rfl⟩
    · rw [lateP_length] at hi
      rw [lateP_getD _ _ _ _ hi, lateP_getD _ _ _ _ (by omega)]
      have e : ((n : Int) - 1 - (i : Int)) = ((n : Int) - 1 - ((i + 1 : Nat) : Int)) + 1 := by omega
      rw [e, Int.add_mul]
      omega
    · obtain ⟨i, hi, he⟩ := List.mem_iff_getElem.1 ht
      have hil : i < n := by rwa [lateP_length] at hi
      have hg : (lateP (lastM m (endsL m false)) m.gap n).getD i 0 = t := by simp [List.getD, hi, he]
      have h0 := (hord.ends i hi).1
      rw [lateP_getD _ _ _ _ hil] at hg
      have hle : t ≤ lastM m (endsL m false) := by
        have := Int.mul_nonneg (show 0 ≤ (n : Int) - 1 - i by omega) (show 0 ≤ m.gap by have := hm.a1; omega)
        omega
      have ht0 : 0 ≤ t := by rw [lateP_getD _ _ _ _ hil, hg] at h0; exact h0
      have h1 := downTo_pos (p := pourAt m (endsL m false)) (N := 601) (by unfold lastM at hle; omega)
      unfold pourAt at h1
      rw [decide_eq_true_eq] at h1
      have h2 := skin_grows (when := endsL m false) hle
      have e : (((downTo (pourAt m (endsL m false)) 601).toNat : Nat) : Int) = lastM m (endsL m false) := by unfold lastM at hle ⊢; omega
      unfold pourAt at e
      rw [e] at h1
      omega
end Go.Proofs.Ytafdagjdpnaddaa
/- Amid the statement 'when := When(m, truth)'. -/
namespace Go.Proofs.Ytafdagjdpnaddaa
open Go.RowKit
theorem info58 : (Try.prog.info? 58).map (·.size) = some 2 := by kernel_rfl
/-- What holds amid the statement. -/
structure WhW (wb : World) (p ws wl : List Int) (d3 d4 d5 : Bool) (y3 y4 y5 : Value) (w : World) : Prop where
  bel : Below wb.heap.size wb w
  t : d3 = true → ∃ v1 v2, y3 = .agg #[v1, v2] ∧ IntsIn .i64 w.heap.size w v1 p ∧ IntsIn .i64 w.heap.size w v2 ws
  n : d4 = true → IntsIn .i64 w.heap.size w y4 wl
  a : d5 = true → y5 = y4
section
variable {wb w w' : World} {p ws wl : List Int} {d3 d4 d5 : Bool} {y3 y4 y5 x v1 v2 : Value}
theorem WhW.start (wb : World) : WhW wb p ws wl false false false y3 y4 y5 wb.drew := ⟨(Below.refl _ _).drew, fun h => (by cases h), fun h => (by cases h), fun h => (by cases h)⟩
theorem WhW.next (h : WhW wb p ws wl d3 d4 d5 y3 y4 y5 w) (hb : Below w.heap.size w w') : WhW wb p ws wl d3 d4 d5 y3 y4 y5 w' :=
  ⟨h.bel.trans (hb.mono h.bel.size), fun e => by obtain ⟨a, b, h1, h2, h3⟩ := h.t e; exact ⟨a, b, h1, h2.next hb, h3.next hb⟩, fun e => (h.n e).next hb, h.a⟩
theorem WhW.put3 (h : WhW wb p ws wl d3 d4 d5 y3 y4 y5 w) (h1 : IntsIn .i64 w.heap.size w v1 p) (h2 : IntsIn .i64 w.heap.size w v2 ws) : WhW wb p ws wl true d4 d5 (.agg #[v1, v2]) y4 y5 w := ⟨h.bel, fun _ => ⟨v1, v2, rfl, h1, h2⟩, h.n, h.a⟩
theorem WhW.put4 (h : WhW wb p ws wl d3 d4 d5 y3 y4 y5 w) (hd : d5 = false) (h1 : IntsIn .i64 w.heap.size w x wl) : WhW wb p ws wl d3 true d5 y3 x y5 w := ⟨h.bel, h.t, fun _ => h1, fun e => by rw [hd] at e; cases e⟩
theorem WhW.put5 (h : WhW wb p ws wl d3 d4 d5 y3 y4 y5 w) : WhW wb p ws wl d3 d4 true y3 y4 y4 w := ⟨h.bel, h.t, h.n, fun _ => rfl⟩
end
end Go.Proofs.Ytafdagjdpnaddaa
