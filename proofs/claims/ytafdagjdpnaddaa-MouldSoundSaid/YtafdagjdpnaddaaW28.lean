/- stearinref05.When. -/
import Derived.Test.YtafdagjdpnaddaaW5
import Derived.Test.YtafdagjdpnaddaaW24
import Derived.Test.YtafdagjdpnaddaaW15
import Derived.Test.YtafdagjdpnaddaaP4
import Derived.StillTailTactics
import Derived.BigQuiet
import Derived.Deep.Cut
namespace Go.Proofs.Ytafdagjdpnaddaa
open Go.RowKit
theorem ownsRow_whole {w : World} {base n sz g : Nat} {e : TypeId} {xs : List Value} (h : w.ownsRow base e sz (.slice (some ⟨g, 0, none⟩) n n) n xs) : w.heap[g]? = some (.cells xs.toArray e) := by
  rcases h.2 with ⟨h0, _⟩ | ⟨g', cap, cur, hv, _, hg, _, _, hc, ht⟩
  · cases h0
  · simp only [Value.slice.injEq, Option.some.injEq, Addr.mk.injEq, and_true] at hv
    obtain ⟨rfl, -, rfl⟩ := hv
    rw [hg, ← ht, List.take_of_length_le (by simp; omega)]
/-- When rings have set, up to minute k. -/
def whenTo (m : Mou) (p ws : List Int) (k : Nat) : List Int := (List.range p.length).map (whenI m p ws k)
theorem whenTo_len (m : Mou) (p ws : List Int) (k : Nat) : (whenTo m p ws k).length = p.length := by simp [whenTo]
theorem whenTo_all (m : Mou) (p ws : List Int) : whenTo m p ws (ws.length + 1) = whenL m p ws := rfl
/-- The first i rings have been asked in minute k. -/
def whenAm (m : Mou) (p ws : List Int) (k i : Nat) : List Int := (List.range p.length).map (fun j => if j < i then whenI m p ws (k + 1) j else whenI m p ws k j)
theorem whenAm_len (m : Mou) (p ws : List Int) (k i : Nat) : (whenAm m p ws k i).length = p.length := by simp [whenAm]
theorem whenAm_zero (m : Mou) (p ws : List Int) (k : Nat) : whenAm m p ws k 0 = whenTo m p ws k := by simp [whenAm, whenTo]
theorem whenAm_all (m : Mou) (p ws : List Int) (k : Nat) : whenAm m p ws k p.length = whenTo m p ws (k + 1) := by
  unfold whenAm whenTo
  apply List.map_congr_left
  intro j hj
  rw [if_pos (List.mem_range.1 hj)]
theorem whenAm_at (m : Mou) (p ws : List Int) (k i : Nat) (h : i < p.length) : (whenAm m p ws k i).getD i 0 = whenI m p ws k i := by
  simp [whenAm, List.getD, h]
theorem whenI_succ (m : Mou) (p ws : List Int) (k i : Nat) : whenI m p ws (k + 1) i = if whenI m p ws k i < 0 ∧ setsAt m p ws i k = true then (k : Int) else whenI m p ws k i := rfl
theorem whenAm_keep (m : Mou) (p ws : List Int) (k i : Nat) (h : ¬ (whenI m p ws k i < 0 ∧ setsAt m p ws i k = true)) : whenAm m p ws k (i + 1) = whenAm m p ws k i := by
  unfold whenAm
  apply List.map_congr_left
  intro j _
  by_cases hj : j < i
  · rw [if_pos hj, if_pos (by omega)]
  · by_cases he : j = i
    · subst he
      rw [if_pos (by omega), if_neg hj, whenI_succ, if_neg h]
    · rw [if_neg hj, if_neg (by omega)]
theorem whenAm_put (m : Mou) (p ws : List Int) (k i : Nat) (h : whenI m p ws k i < 0 ∧ setsAt m p ws i k = true) : (ints (whenAm m p ws k i)).setIfInBounds i (.int .i64 k) = ints (whenAm m p ws k (i + 1)) := by
  have e : (whenAm m p ws k i).set i (k : Int) = whenAm m p ws k (i + 1) := by
    apply List.ext_getElem (by simp [whenAm])
    intro j h1 h2
    rw [List.getElem_set]
    have hj : j < p.length := by simpa [whenAm] using h2
    simp only [whenAm, List.getElem_map, List.getElem_range]
    by_cases he : i = j
    · subst he
      rw [if_pos rfl, if_pos (by omega), whenI_succ, if_pos h]
    · rw [if_neg he]
      by_cases hji : j < i
      · rw [if_pos hji, if_pos (by omega)]
      · rw [if_neg hji, if_neg (by omega)]
  rw [← e]
  unfold ints
  simp [List.map_set]
/-- The first i cells are -1. -/
def negTo (r i : Nat) : List Int := List.replicate i (-1) ++ List.replicate (r - i) 0
theorem negTo_len {r i : Nat} (h : i ≤ r) : (negTo r i).length = r := by simp [negTo]; omega
theorem negTo_put {r i : Nat} (h : i < r) : (ints (negTo r i)).setIfInBounds i (.int .i64 (-1)) = ints (negTo r (i + 1)) := by
  have e : (negTo r i).set i (-1) = negTo r (i + 1) := by
    unfold negTo
    rw [List.set_append, if_neg (by simp), List.length_replicate, Nat.sub_self]
    rw [show r - i = (r - (i + 1)) + 1 by omega, List.replicate_succ, List.set_cons_zero, List.replicate_succ', List.append_assoc]
    rfl
  rw [← e]
  unfold ints
  simp [List.map_set]
theorem negTo_all (m : Mou) (p ws : List Int) : negTo p.length p.length = whenTo m p ws 0 := by
  unfold negTo whenTo whenI
  apply List.ext_getElem (by simp)
  intro i h1 h2
  simp [firstTo]
theorem setsAt_at (m : Mou) (p ws : List Int) (i k : Nat) : setsAt m p ws i k = decide ((runL m.give p (ws.take k)).getD i 0 ≤ m.set) := rfl
theorem Bs.add {w wr w' : World} {l : List (Nat × Obj)} (h : Bs w l wr) (n : Nat) (hn : wr.heap.size = n) (hb : Below wr.heap.size wr w') (o : Obj) (ho : w'.heap[n]? = some o) : Bs w (l ++ [(n, o)]) w' := by
  subst hn
  have h' := h.call hb
  refine ⟨?_, ?_, ?_, h'.bel⟩
  · intro p hp
    rcases List.mem_append.1 hp with hp | hp
    · exact h'.get' p hp
    · simp only [List.mem_singleton] at hp
      subst hp
      exact ho
  · rw [List.map_append, List.pairwise_append]
    refine ⟨h.inc, by simp, ?_⟩
    intro a ha b hb
    simp only [List.mem_map] at ha hb
    obtain ⟨p, hp, rfl⟩ := ha
    obtain ⟨q, hq, rfl⟩ := hb
    simp only [List.mem_singleton] at hq
    subst hq
    exact block_lt (h.get' p hp)
  · intro p hp
    rcases List.mem_append.1 hp with hp | hp
    · exact h.ge p hp
    · simp only [List.mem_singleton] at hp
      subst hp
      exact h.bel.size
/-- A list of r ints, in a block that is not g. -/
def LV (g r : Nat) (w : World) (v : Value) (l : List Int) : Prop := ∃ b o c, v = .slice (some ⟨b, o, none⟩) r c ∧ b ≠ g ∧ b < w.heap.size ∧ ∀ i, i < r → w.cell? ⟨b, o + i, none⟩ = some (.int .i64 (l.getD i 0))
theorem LV.ints {g r : Nat} {w : World} {v : Value} {l : List Int} (h : LV g r w v l) (hl : l.length = r) (hr : r ≤ 1000) : IntsIn .i64 w.heap.size w v l := by
  obtain ⟨b, o, c, rfl, -, hb, hc⟩ := h
  exact ⟨some ⟨b, o, none⟩, c, by rw [hl], by omega, .inr ⟨b, o, rfl, hb, fun i hi => hc i (by omega)⟩⟩
theorem LV.call {g r : Nat} {w w' : World} {v : Value} {l : List Int} (h : LV g r w v l) (hb : Below w.heap.size w w') : LV g r w' v l := by
  obtain ⟨b, o, c, rfl, hg, hlt, hc⟩ := h
  exact ⟨b, o, c, rfl, hg, Nat.lt_of_lt_of_le hlt hb.size, fun i hi => (hb.cell (p := ⟨b, o + i, none⟩) hlt).trans (hc i hi)⟩
theorem LV.other {g r : Nat} {w w' : World} {v : Value} {l : List Int} (h : LV g r w v l) (hk : ∀ k, k ≠ g → w'.heap[k]? = w.heap[k]?) : LV g r w' v l := by
  obtain ⟨b, o, c, rfl, hg, hlt, hc⟩ := h
  refine ⟨b, o, c, rfl, hg, ?_, fun i hi => ?_⟩
  · have h2 := hk b hg
    rw [Array.getElem?_eq_getElem hlt] at h2
    exact block_lt h2
  rw [← hc i hi]
  simp only [World.cell?, hk b hg]
theorem LV.own {g r base : Nat} {w : World} {v : Value} {l : List Int} (h : OwnInts base w v l) (hl : l.length = r) (h1 : 1 ≤ r) (hg : ∀ b, base ≤ b → b < w.heap.size → b ≠ g) (hr : r ≤ 1000) : LV g r w v l := by
  have hi := h.ints (by omega)
  subst hl
  rcases h.2 with ⟨-, h0⟩ | ⟨b, cap, cur, rfl, hb, hcur, -⟩
  · omega
  · obtain ⟨a, c, e, -, hh⟩ := hi
    simp only [Value.slice.injEq] at e
    obtain ⟨rfl, -, rfl⟩ := e
    obtain ⟨b', o', e2, hlt, hc⟩ := hh.resolve_left (by intro h; rw [h] at h1; simp at h1)
    simp only [Option.some.injEq, Addr.mk.injEq, and_true] at e2
    obtain ⟨rfl, rfl⟩ := e2
    exact ⟨b, 0, cap, rfl, hg b hb hlt, hlt, hc⟩
set_option maxRecDepth 100000 in
set_option maxHeartbeats 16000000 in
theorem when_ref (m : Mou) (g1 : 1 ≤ m.give) (g5 : m.give ≤ 500) (pv wv : Value) (p ws : List Int) (w : World) (hp : IntsIn .i64 w.heap.size w pv p) (hw : IntsIn .i64 w.heap.size w wv ws) (hp1 : 1 ≤ p.length) (hp8 : p.length ≤ 8) (hfp : Fits2 0 2000 p) (hwl : ws.length ≤ 600) (hfw : Fits2 0 2000 ws) :
    Calls Try.prog 40 #[.agg #[.int .i64 m.rings, .int .i64 m.give, .int .i64 m.pl, .int .i64 m.ph, .int .i64 m.wl, .int .i64 m.wh, .int .i64 m.set, .int .i64 m.shrink, .int .i64 m.skin, .int .i64 m.fill, .int .i64 m.gap, .int .i64 m.deep], .agg #[pv, wv]] w (RetI (whenL m p ws) w) := by
  have C0 := Lib.hid (((Bs.nil w).push _ rfl (.cells #[.int .i64 m.rings, .int .i64 m.give, .int .i64 m.pl, .int .i64 m.ph, .int .i64 m.wl, .int .i64 m.wh, .int .i64 m.set, .int .i64 m.shrink, .int .i64 m.skin, .int .i64 m.fill, .int .i64 m.gap, .int .i64 m.deep] 25)).push (w.heap.size + 1) (by simp) (.cells #[pv, wv] 28))
  have HW := Lib.hid hw
  have HFP := Lib.hid hfp
  have HFW := Lib.hid hfw
  have HP := Lib.hid hp
  obtain ⟨pa, pc, rfl, -, hpc⟩ := hp
  obtain ⟨b, off, rfl, hbB, hpc⟩ := hpc.resolve_left (by intro h; rw [h] at hp1; simp at hp1)
  obtain ⟨wa, wc, rfl, -, hwc⟩ := hw
  have HWC := Lib.hid hwc
  obtain ⟨i0, hi0, hz0, hz1, hz2⟩ := info3'
  have c1 := C0.out.cell 1 rfl
  obtain ⟨r, hr⟩ : ∃ r, p.length = r := ⟨_, rfl⟩
  obtain ⟨N, hN⟩ : ∃ N, ws.length = N := ⟨_, rfl⟩
  have HR := Lib.hid hr
  have HN := Lib.hid hN
  rw [hr] at hp1 hp8 hpc c1 C0 ⊢
  rw [hN] at hwl HWC c1 C0 ⊢
  have HPC := Lib.hid hpc
  clear hpc hwc hr hN hfp hfw
  go_enter Try.func40, Try.ntmps40
  have HO : Hid ((((w.alloc (.cells #[.int .i64 m.rings, .int .i64 m.give, .int .i64 m.pl, .int .i64 m.ph, .int .i64 m.wl, .int .i64 m.wh, .int .i64 m.set, .int .i64 m.shrink, .int .i64 m.skin, .int .i64 m.fill, .int .i64 m.gap, .int .i64 m.deep] 25)).alloc (.cells #[.slice (some ⟨b, off, none⟩) r pc, .slice wa N wc] 28)).alloc (.cells #[] 3)).ownsRow (w.heap.size + 1 + 1) 3 1 (.slice (some ⟨w.heap.size + 1 + 1, 0, none⟩) 0 0) 0 []) := by
    have h := ownsRow_fresh ((w.alloc (.cells #[.int .i64 m.rings, .int .i64 m.give, .int .i64 m.pl, .int .i64 m.ph, .int .i64 m.wl, .int .i64 m.wh, .int .i64 m.set, .int .i64 m.shrink, .int .i64 m.skin, .int .i64 m.fill, .int .i64 m.gap, .int .i64 m.deep] 25)).alloc (.cells #[.slice (some ⟨b, off, none⟩) r pc, .slice wa N wc] 28))
    simp only [World.size_alloc] at h
    exact h
  have HNW : Hid (∀ j u, (p.map (Value.int .i64))[j]? = some u → (((w.alloc (.cells #[.int .i64 m.rings, .int .i64 m.give, .int .i64 m.pl, .int .i64 m.ph, .int .i64 m.wl, .int .i64 m.wh, .int .i64 m.set, .int .i64 m.shrink, .int .i64 m.skin, .int .i64 m.fill, .int .i64 m.gap, .int .i64 m.deep] 25)).alloc (.cells #[.slice (some ⟨b, off, none⟩) r pc, .slice wa N wc] 28)).alloc (.cells #[] 3)).cell? ((⟨b, off, none⟩ : Addr).add j) = some u) := fun j u hj => by
    rw [show (⟨b, off, none⟩ : Addr).add j = ⟨b, off + j, none⟩ from by unfold Addr.add; split <;> simp_all]
    have hjl : j < p.length := by
      by_cases h : j < p.length
      · exact h
      · rw [List.getElem?_eq_none (by simp; omega)] at hj; cases hj
    have hb0 := ((C0.out.alloc (.cells #[] 3)).bel.cell (p := ⟨b, off + j, none⟩) hbB).trans (HPC.out j (by rw [← HR.out]; exact hjl))
    rw [hb0]
    simp only [List.getElem?_map, List.getElem?_eq_getElem hjl, Option.map_some] at hj
    rw [← hj]
    simp [List.getD, hjl]
  go_wp2_with (first
    | (at_builtin; refine wpList_append_own _ rfl _ _ 26 rfl (w.heap.size + 1 + 1) 3 i0 (.int .i64 0) 1 8 Try.underlying26 hi0 hz0 hz1 hz2 rfl (by decide) _ _ _ rfl HO.out ⟨b, off, none⟩ r pc (p.map (.int .i64)) rfl (by rw [List.length_map, HR.out, Nat.mul_one]) HNW.out (by simp [Value.oneCell']) (by unfold maxLen; omega) (by omega) (by simp) ?_; intro v' w2 hown hgrow _; rw [Nat.zero_add] at hown; obtain ⟨a5, c5, rfl⟩ := ownsRow_slice hown; have HOWN := Lib.hid hown; have HGR := Lib.hid hgrow; clear hown hgrow; have hw2 : w.heap.size + 1 + 1 ≤ w2.heap.size := by have := HGR.out.size; simp at this; omega)
    | (at_make; refine wpList_make_full _ rfl _ _ 26 rfl (w.heap.size + 1 + 1) 3 i0 (.int .i64 0) 1 Try.underlying26 hi0 hz0 hz1 .i64 .i64 _ _ r rfl rfl rfl rfl (by rw [hz2]; omega) (by unfold maxLen; omega) hw2 ?_; intro w3 hown3 hgrow3))
  have hbw2 : Below (w.heap.size + 1 + 1) ((w.alloc (.cells #[.int .i64 m.rings, .int .i64 m.give, .int .i64 m.pl, .int .i64 m.ph, .int .i64 m.wl, .int .i64 m.wh, .int .i64 m.set, .int .i64 m.shrink, .int .i64 m.skin, .int .i64 m.fill, .int .i64 m.gap, .int .i64 m.deep] 25)).alloc (.cells #[.slice (some ⟨b, off, none⟩) r pc, .slice wa N wc] 28)) w2 := by
    have h0 := (Below.refl ((w.alloc (.cells #[.int .i64 m.rings, .int .i64 m.give, .int .i64 m.pl, .int .i64 m.ph, .int .i64 m.wl, .int .i64 m.wh, .int .i64 m.set, .int .i64 m.shrink, .int .i64 m.skin, .int .i64 m.fill, .int .i64 m.gap, .int .i64 m.deep] 25)).alloc (.cells #[.slice (some ⟨b, off, none⟩) r pc, .slice wa N wc] 28)).heap.size ((w.alloc (.cells #[.int .i64 m.rings, .int .i64 m.give, .int .i64 m.pl, .int .i64 m.ph, .int .i64 m.wl, .int .i64 m.wh, .int .i64 m.set, .int .i64 m.shrink, .int .i64 m.skin, .int .i64 m.fill, .int .i64 m.gap, .int .i64 m.deep] 25)).alloc (.cells #[.slice (some ⟨b, off, none⟩) r pc, .slice wa N wc] 28))).alloc (Nat.le_refl _) (.cells #[] 3)
    simp only [World.size_alloc] at h0
    exact h0.grown HGR.out (by simp) (fun k e => (World.ownsRow.lt HO.out k e).1)
  have hbw3 : Below w2.heap.size w2 w3 := (Below.refl _ _).grown hgrow3 (Nat.le_refl _) (fun k e => by cases e)
  have C2 : Bs w [(w.heap.size, .cells #[.int .i64 m.rings, .int .i64 m.give, .int .i64 m.pl, .int .i64 m.ph, .int .i64 m.wl, .int .i64 m.wh, .int .i64 m.set, .int .i64 m.shrink, .int .i64 m.skin, .int .i64 m.fill, .int .i64 m.gap, .int .i64 m.deep] 25), (w.heap.size + 1, .cells #[.slice (some ⟨b, off, none⟩) r pc, .slice wa N wc] 28)] w2 := C0.out.call (by simp only [World.size_alloc]; exact hbw2)
  have hrow3 := ownsRow_whole hown3
  have hz3 : (madeCells (Value.int .i64 0).cells (r * 1)).toList.toArray = ints (negTo r 0) := by
    unfold negTo madeCells ints
    simp
    apply Array.ext (by simp)
    intro i h1 h2
    simp [Value.cells, Nat.mod_one]
  rw [hz3] at hrow3
  have C3 : Hid (Bs w [(w.heap.size, .cells #[.int .i64 m.rings, .int .i64 m.give, .int .i64 m.pl, .int .i64 m.ph, .int .i64 m.wl, .int .i64 m.wh, .int .i64 m.set, .int .i64 m.shrink, .int .i64 m.skin, .int .i64 m.fill, .int .i64 m.gap, .int .i64 m.deep] 25), (w.heap.size + 1, .cells #[.slice (some ⟨b, off, none⟩) r pc, .slice wa N wc] 28), (w2.heap.size, .cells (ints (negTo r 0)) 3)] w3) := C2.add w2.heap.size rfl hbw3 _ hrow3
  have L3 : Hid (LV w2.heap.size r w3 (.slice a5 r c5) p) := by
    have h : OwnInts (w.heap.size + 1 + 1) w2 (.slice a5 r c5) p := by
      unfold OwnInts
      rw [HR.out]
      exact HOWN.out
    exact (LV.own h HR.out hp1 (fun b _ h2 h3 => by omega) (by omega)).call hbw3
  clear hbw2 hbw3 C2 hrow3 hz3 hown3 hgrow3 HOWN HGR HO HNW hw2 C0 c1
  generalize w2.heap.size = g at *
  go_loopw [7] (fun iv wi => ∃ i : Nat, iv = .int .i64 i ∧ i ≤ r ∧ Bs w [(w.heap.size, .cells #[.int .i64 m.rings, .int .i64 m.give, .int .i64 m.pl, .int .i64 m.ph, .int .i64 m.wl, .int .i64 m.wh, .int .i64 m.set, .int .i64 m.shrink, .int .i64 m.skin, .int .i64 m.fill, .int .i64 m.gap, .int .i64 m.deep] 25), (w.heap.size + 1, .cells #[.slice (some ⟨b, off, none⟩) r pc, .slice wa N wc] 28), (g, .cells (ints (negTo r i)) 3)] wi ∧ LV g r wi (.slice a5 r c5) p) (fun iv _ => r - (intOf iv).toNat)
  case atStart => exact ⟨0, rfl, by omega, C3.out, L3.out⟩
  case round =>
    obtain ⟨i, rfl, hi, hC, hL⟩ := hrel
    have CI := Lib.hid hC
    have LI := Lib.hid hL
    clear hC hL C3 L3
    by_cases hir : i < r
    · have HSZ : Hid ((ints (negTo r i)).size = r) := by unfold Hid; rw [ints_size, negTo_len hi]
      have HPT := Lib.hid (negTo_put hir)
      go_wp2_with (refine wpList_cell_bk rfl 3 _ _ rfl CI.out 2 g i _ _ rfl rfl (.int .i64 (-1)) rfl (by rw [HSZ.out]; exact hir) rfl info3 ?_; intro w9 hC9 hk9)
      refine ⟨⟨i + 1, by push_cast; rfl, by omega, ?_, LI.out.other hk9⟩, ?_⟩
      · rw [HPT.out] at hC9
        exact hC9
      · simp [intOf]
        omega
    obtain rfl : r = i := by omega
    have HZ : Hid (negTo r r = whenTo m p ws 0) := by
      have := negTo_all m p ws
      rw [HR.out] at this
      exact this
    rw [HZ.out] at CI
    clear HZ
    go_wp2_with fail
    go_loopw [5, 8] (fun lv kv wr => ∃ (k : Nat) (av : Option Addr) (cv : Nat), lv = .slice av r cv ∧ kv = .int .i64 k ∧ k ≤ N + 1 ∧ Bs w [(w.heap.size, .cells #[.int .i64 m.rings, .int .i64 m.give, .int .i64 m.pl, .int .i64 m.ph, .int .i64 m.wl, .int .i64 m.wh, .int .i64 m.set, .int .i64 m.shrink, .int .i64 m.skin, .int .i64 m.fill, .int .i64 m.gap, .int .i64 m.deep] 25), (w.heap.size + 1, .cells #[.slice (some ⟨b, off, none⟩) r pc, .slice wa N wc] 28), (g, .cells (ints (whenTo m p ws k)) 3)] wr ∧ LV g r wr (.slice av r cv) (runL m.give p (ws.take (k - 1)))) (fun _ kv _ => N + 1 - (intOf kv).toNat)
    case atStart => exact ⟨0, a5, c5, rfl, rfl, by omega, CI.out, LI.out⟩
    case round =>
      obtain ⟨k, av, cv, rfl, rfl, hk, hC, hL⟩ := hrel
      have CK := Lib.hid hC
      have LK := Lib.hid hL
      have c1 := CK.out.cell 1 rfl
      clear hC hL CI LI
      by_cases hkN : k < N + 1
      rotate_left
      · obtain rfl : k = N + 1 := by omega
        have hki : ¬ (((N + 1 : Nat) : Int) ≤ (N : Int)) := by omega
        have HALL : Hid (whenTo m p ws (N + 1) = whenL m p ws) := by
          have := whenTo_all m p ws
          rw [HN.out] at this
          exact this
        go_wp2_with fail
        go_ret
        have h := CK.out.get 2 rfl
        rw [HALL.out] at h
        exact ⟨_, rfl, intsIn_rowN h (by rw [← HALL.out, whenTo_len, HR.out]) (by omega), CK.out.bel⟩
      have hki : (k : Int) ≤ (N : Int) := by omega
      by_cases hk0 : k = 0
      · subst hk0
        have hkp : ¬ ((((0 : Nat) : Int)) > 0) := by omega
        go_wp2_with fail
        clear c1
        go_loopw [9] (fun iv wi => ∃ i : Nat, iv = .int .i64 i ∧ i ≤ r ∧ Bs w [(w.heap.size, .cells #[.int .i64 m.rings, .int .i64 m.give, .int .i64 m.pl, .int .i64 m.ph, .int .i64 m.wl, .int .i64 m.wh, .int .i64 m.set, .int .i64 m.shrink, .int .i64 m.skin, .int .i64 m.fill, .int .i64 m.gap, .int .i64 m.deep] 25), (w.heap.size + 1, .cells #[.slice (some ⟨b, off, none⟩) r pc, .slice wa N wc] 28), (g, .cells (ints (whenAm m p ws 0 i)) 3)] wi ∧ LV g r wi (.slice av r cv) (runL m.give p (ws.take 0))) (fun iv _ => r - (intOf iv).toNat)
        case atStart => exact ⟨0, rfl, by omega, by rw [whenAm_zero]; exact CK.out, LK.out⟩
        case round =>
          obtain ⟨i, rfl, hi, hC, hL⟩ := hrel
          have CI := Lib.hid hC
          have LI := Lib.hid hL
          by_cases hir : i < r
          · have hsz : (ints (whenAm m p ws 0 i)).size = r := by rw [ints_size, whenAm_len, HR.out]
            have cg : wr.cell? ⟨g, i, none⟩ = some (.int .i64 (whenI m p ws 0 i)) := by
              rw [hC.cell 2 rfl, ints_get _ _ (by rw [whenAm_len, HR.out]; exact hir), whenAm_at _ _ _ _ _ (by rw [HR.out]; exact hir)]
            obtain ⟨b5, o5, c5, e5, -, -, hcl⟩ := hL
            simp only [Value.slice.injEq, true_and] at e5
            obtain ⟨rfl, rfl⟩ := e5
            have cl := hcl i hir
            have c0 : wr.cell? ⟨w.heap.size, 6, none⟩ = some (.int .i64 m.set) := hC.cell 0 rfl 6
            have HSZ := Lib.hid hsz
            have hII : (i : Int) < (r : Int) := by omega
            clear hcl hsz hC
            have HX : Hid (setsAt m p ws i 0 = decide ((runL m.give p (ws.take 0)).getD i 0 ≤ m.set)) := rfl
            have HPUT := fun h => Lib.hid (whenAm_put m p ws 0 i h)
            have HKEEP := fun h => Lib.hid (whenAm_keep m p ws 0 i h)
            generalize (runL m.give p (ws.take 0)).getD i 0 = yy at *
            generalize whenI m p ws 0 i = xx at *
            by_cases hx : xx < 0
            · have hdx : decide (xx < 0) = true := decide_eq_true hx
              by_cases hy : yy ≤ m.set
              · have hdy : decide (yy ≤ m.set) = true := decide_eq_true hy
                have HPT := Lib.hid (HPUT ⟨hx, by rw [HX.out]; exact hdy⟩).out
                clear HPUT HKEEP
                go_wp2_with fail
                go_quiet (fail)
                simp only [Exit.then]
                go_wp2_with (refine wpList_cell_bk rfl 3 _ _ rfl (CI.out.drewN _) 2 g i _ _ rfl rfl (.int .i64 (0 : Nat)) rfl (by rw [HSZ.out]; exact hir) rfl info3 ?_; intro w9 hC9 hk9)
                refine ⟨⟨i + 1, by push_cast; rfl, by omega, ?_, (LI.out.call (below_drewN (Below.refl _ _) _)).other hk9⟩, ?_⟩
                · rw [HPT.out] at hC9
                  exact hC9
                · simp [intOf]
                  omega
              · have hdy : decide (yy ≤ m.set) = false := decide_eq_false hy
                have HPT := Lib.hid (HKEEP (by rintro ⟨-, h⟩; rw [HX.out, hdy] at h; cases h)).out
                clear HPUT HKEEP
                go_wp2_with fail
                go_quiet (fail)
                simp only [Exit.then]
                go_wp2_with fail
                refine ⟨⟨i + 1, by push_cast; rfl, by omega, by rw [HPT.out]; exact CI.out.drewN _, LI.out.call (below_drewN (Below.refl _ _) _)⟩, ?_⟩
                simp [intOf]
                omega
            · have hdx : decide (xx < 0) = false := decide_eq_false hx
              have HPT := Lib.hid (HKEEP (by rintro ⟨h, -⟩; exact hx h)).out
              clear HPUT HKEEP
              go_wp2_with fail
              go_quiet (fail)
              simp only [Exit.then]
              go_wp2_with fail
              refine ⟨⟨i + 1, by push_cast; rfl, by omega, by rw [HPT.out]; exact CI.out.drewN _, LI.out.call (below_drewN (Below.refl _ _) _)⟩, ?_⟩
              simp [intOf]
              omega
          · obtain rfl : r = i := by omega
            have HAL : Hid (whenAm m p ws 0 r = whenTo m p ws (0 + 1)) := by
              have := whenAm_all m p ws 0
              rw [HR.out] at this
              exact this
            go_wp2_with fail
            refine ⟨⟨0 + 1, _, _, rfl, by push_cast; rfl, by omega, ?_, ?_⟩, ?_⟩
            · rw [← HAL.out]
              exact CI.out
            · exact LI.out
            · simp [intOf]
      obtain ⟨q, rfl⟩ : ∃ q, k = q + 1 := ⟨k - 1, by omega⟩
      have hkp : (((q + 1 : Nat) : Int)) > 0 := by omega
      rw [Nat.add_sub_cancel] at LK
      obtain ⟨b6, o6, rfl, hb6, hc6⟩ := HWC.out.resolve_left (by intro h; have := HN.out; rw [h] at this; simp at this; omega)
      have cq : wr.cell? ⟨b6, o6 + q, none⟩ = some (.int .i64 (ws.getD q 0)) := (CK.out.bel.cell (p := ⟨b6, o6 + q, none⟩) hb6).trans (hc6 q (by omega))
      have hwb := HFW.out q (by rw [HN.out]; omega)
      have HRT : Hid (runL m.give p (ws.take (q + 1)) = nextL m.give (ws.getD q 0) (runL m.give p (ws.take q))) := runL_take m.give p ws q (by rw [HN.out]; omega)
      have HFR : Hid (Fits2 0 2000 (runL m.give p (ws.take q))) := runL_fits (by omega) g5 _ _ HFP.out (HFW.out.take q)
      have HCC := fun (w' : World) (h : IntsIn .i64 w'.heap.size w' (.slice av r cv) (runL m.give p (ws.take q))) => Lib.hid (nextR_any m g1 g5 (runL m.give p (ws.take q)) (by rw [runL_length, HR.out]; exact hp8) HFR.out (ws.getD q 0) hwb (.slice av r cv) w' h)
      have LKI := fun n : Nat => Lib.hid ((LK.out.call (below_drewN (Below.refl _ wr) n)).ints (by rw [runL_length, HR.out]) (by omega))
      have HWB := Lib.hid hwb
      have hqi : (((q + 1 : Nat) : Int)) - 1 = (q : Int) := by omega
      have hqN : (q : Int) < (N : Int) := by omega
      have hwq : IntKind.i64.wrap (q : Int) = (q : Int) := by rw [IntKind.wrap_i64]; omega
      have c0 := CK.out.cell 0 rfl
      rw [← HRT.out] at HCC
      clear hc6 hwb
      generalize ws.getD q 0 = wall at *
      go_wp2_with fail
      go_still_tail 8, (by kernel_rfl)
      change wpList _ _ _ _ _ (wr.drewN 1)
      go_wp2_with fail
      refine (HCC _ (LKI 1).out).out.mono ?_
      rintro e w9 ⟨v9, rfl, ho9, hb9⟩
      have L9 : Hid (LV g r w9 v9 (runL m.give p (ws.take (q + 1)))) := LV.own ho9 (by rw [runL_length, HR.out]) hp1 (fun b h1 _ h3 => by have := CK.out.lt 2 rfl; subst h3; have h4 : (wr.drewN 1).heap.size = wr.heap.size := rfl; omega) (by omega)
      have C9 : Hid (Bs w [(w.heap.size, .cells #[.int .i64 m.rings, .int .i64 m.give, .int .i64 m.pl, .int .i64 m.ph, .int .i64 m.wl, .int .i64 m.wh, .int .i64 m.set, .int .i64 m.shrink, .int .i64 m.skin, .int .i64 m.fill, .int .i64 m.gap, .int .i64 m.deep] 25), (w.heap.size + 1, .cells #[.slice (some ⟨b, off, none⟩) r pc, .slice (some ⟨b6, o6, none⟩) N wc] 28), (g, .cells (ints (whenTo m p ws (q + 1))) 3)] w9) := (CK.out.drewN 1).call hb9
      obtain ⟨av2, cv2, rfl⟩ : ∃ a c, v9 = .slice a r c := by
        obtain ⟨b', o', c', h, -⟩ := L9.out
        exact ⟨_, _, h⟩
      clear ho9 hb9 LKI HCC HFR HRT CK LK c0 c1 hwq cq
      go_wp2_with fail
      go_loopw [9] (fun iv wi => ∃ i : Nat, iv = .int .i64 i ∧ i ≤ r ∧ Bs w [(w.heap.size, .cells #[.int .i64 m.rings, .int .i64 m.give, .int .i64 m.pl, .int .i64 m.ph, .int .i64 m.wl, .int .i64 m.wh, .int .i64 m.set, .int .i64 m.shrink, .int .i64 m.skin, .int .i64 m.fill, .int .i64 m.gap, .int .i64 m.deep] 25), (w.heap.size + 1, .cells #[.slice (some ⟨b, off, none⟩) r pc, .slice (some ⟨b6, o6, none⟩) N wc] 28), (g, .cells (ints (whenAm m p ws (q + 1) i)) 3)] wi ∧ LV g r wi (.slice av2 r cv2) (runL m.give p (ws.take (q + 1)))) (fun iv _ => r - (intOf iv).toNat)
      case atStart => exact ⟨0, rfl, by omega, by rw [whenAm_zero]; exact C9.out, L9.out⟩
      case round =>
        obtain ⟨i, rfl, hi, hC, hL⟩ := hrel
        have CI := Lib.hid hC
        have LI := Lib.hid hL
        by_cases hir : i < r
        · have hsz : (ints (whenAm m p ws (q + 1) i)).size = r := by rw [ints_size, whenAm_len, HR.out]
          have cg : wr.cell? ⟨g, i, none⟩ = some (.int .i64 (whenI m p ws (q + 1) i)) := by
            rw [hC.cell 2 rfl, ints_get _ _ (by rw [whenAm_len, HR.out]; exact hir), whenAm_at _ _ _ _ _ (by rw [HR.out]; exact hir)]
          obtain ⟨b5, o5, c5, e5, -, -, hcl⟩ := hL
          simp only [Value.slice.injEq, true_and] at e5
          obtain ⟨rfl, rfl⟩ := e5
          have cl := hcl i hir
          have c0 : wr.cell? ⟨w.heap.size, 6, none⟩ = some (.int .i64 m.set) := hC.cell 0 rfl 6
          have HSZ := Lib.hid hsz
          have hII : (i : Int) < (r : Int) := by omega
          clear hcl hsz hC
          have HX : Hid (setsAt m p ws i (q + 1) = decide ((runL m.give p (ws.take (q + 1))).getD i 0 ≤ m.set)) := rfl
          have HPUT := fun h => Lib.hid (whenAm_put m p ws (q + 1) i h)
          have HKEEP := fun h => Lib.hid (whenAm_keep m p ws (q + 1) i h)
          generalize (runL m.give p (ws.take (q + 1))).getD i 0 = yy at *
          generalize whenI m p ws (q + 1) i = xx at *
          by_cases hx : xx < 0
          · have hdx : decide (xx < 0) = true := decide_eq_true hx
            by_cases hy : yy ≤ m.set
            · have hdy : decide (yy ≤ m.set) = true := decide_eq_true hy
              have HPT := Lib.hid (HPUT ⟨hx, by rw [HX.out]; exact hdy⟩).out
              clear HPUT HKEEP
              go_wp2_with fail
              go_quiet (fail)
              simp only [Exit.then]
              go_wp2_with (refine wpList_cell_bk rfl 3 _ _ rfl (CI.out.drewN _) 2 g i _ _ rfl rfl (.int .i64 (q + 1 : Nat)) rfl (by rw [HSZ.out]; exact hir) rfl info3 ?_; intro w9 hC9 hk9)
              refine ⟨⟨i + 1, by push_cast; rfl, by omega, ?_, (LI.out.call (below_drewN (Below.refl _ _) _)).other hk9⟩, ?_⟩
              · rw [HPT.out] at hC9
                exact hC9
              · simp [intOf]
                omega
            · have hdy : decide (yy ≤ m.set) = false := decide_eq_false hy
              have HPT := Lib.hid (HKEEP (by rintro ⟨-, h⟩; rw [HX.out, hdy] at h; cases h)).out
              clear HPUT HKEEP
              go_wp2_with fail
              go_quiet (fail)
              simp only [Exit.then]
              go_wp2_with fail
              refine ⟨⟨i + 1, by push_cast; rfl, by omega, by rw [HPT.out]; exact CI.out.drewN _, LI.out.call (below_drewN (Below.refl _ _) _)⟩, ?_⟩
              simp [intOf]
              omega
          · have hdx : decide (xx < 0) = false := decide_eq_false hx
            have HPT := Lib.hid (HKEEP (by rintro ⟨h, -⟩; exact hx h)).out
            clear HPUT HKEEP
            go_wp2_with fail
            go_quiet (fail)
            simp only [Exit.then]
            go_wp2_with fail
            refine ⟨⟨i + 1, by push_cast; rfl, by omega, by rw [HPT.out]; exact CI.out.drewN _, LI.out.call (below_drewN (Below.refl _ _) _)⟩, ?_⟩
            simp [intOf]
            omega
        · obtain rfl : r = i := by omega
          have HAL : Hid (whenAm m p ws (q + 1) r = whenTo m p ws (q + 1 + 1)) := by
            have := whenAm_all m p ws (q + 1)
            rw [HR.out] at this
            exact this
          go_wp2_with fail
          refine ⟨⟨q + 1 + 1, _, _, rfl, by push_cast; rfl, by omega, ?_, ?_⟩, ?_⟩
          · rw [← HAL.out]
            exact CI.out
          · exact LI.out
          · simp [intOf]
            omega
end Go.Proofs.Ytafdagjdpnaddaa
