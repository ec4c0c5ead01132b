/- along: the iterator over the spans of a way. -/
import Derived.RangeFuncNested
import Derived.RangeFuncBound
import Derived.RangeFuncCalls
import Derived.RangeFuncLeaves
import Derived.Shelf.Abstract
import Derived.Shelf.RegionOpen
import Derived.WalkKit
import Derived.OwnWalkIn
import Derived.TacticsInMore
import Derived.LoopNIn
import Derived.LoopIn
import Derived.Test.YtddapabmfecidaaW15
namespace Go.Proofs.Ytddapabmfecidaa
open Go.RowKit Go.Shelf
attribute [local go_sem] Oper.semAt_some

/-- A day and a span of warmth that is in order. -/
abbrev DayW := { x : Nat × Int × Int // 0 ≤ x.2.1 ∧ x.2.1 ≤ x.2.2 ∧ x.2.2 ≤ 60 ∧ x.1 < 8 }
def dayW (d : Nat) (p : Int × Int) : DayW := if h : 0 ≤ p.1 ∧ p.1 ≤ p.2 ∧ p.2 ≤ 60 ∧ d < 8 then ⟨(d, p), h⟩ else ⟨(0, 0, 0), by simp⟩
def encD (x : DayW) : Array Value := #[.int .i64 (x.1.1 : Int), .agg #[.int .i64 x.1.2.1, .int .i64 x.1.2.2]]
theorem encD_dayW (d : Nat) (lo hi : Int) (h : 0 ≤ lo ∧ lo ≤ hi ∧ hi ≤ 60 ∧ d < 8) : encD (dayW d (lo, hi)) = #[.int .i64 d, .agg #[.int .i64 lo, .int .i64 hi]] := by
  unfold encD dayW; rw [dif_pos h]
/-- The days of a way, the first k. -/
def upD (s : Sea) (way : List Int) (k : Nat) : List DayW := (List.range k).map fun d => dayW d (s.at (way.getD d 0).toNat d)
theorem upD_succ (s : Sea) (way : List Int) (k : Nat) : upD s way (k + 1) = upD s way k ++ [dayW k (s.at (way.getD k 0).toNat k)] := by simp [upD, List.range_succ]
theorem upD_length (s : Sea) (way : List Int) (k : Nat) : (upD s way k).length = k := by simp [upD]
/-- What a round keeps. -/
def AlK (n₀ bs : Nat) (W W' : World) : Prop := Below n₀ W W' ∧ W'.heap[bs]? = W.heap[bs]?
theorem AlK.t {n₀ bs : Nat} {A B C : World} (h : AlK n₀ bs A B) (k : AlK n₀ bs B C) : AlK n₀ bs A C := ⟨h.1.trans k.1, k.2.trans h.2⟩
theorem AlK.b {n₀ bs : Nat} {w : World} (hn : n₀ ≤ w.heap.size) (hb : bs < w.heap.size) (W : World) (l : Nat) (o o' : Obj) (hl : w.heap.size ≤ l) (h : W.heap[l]? = some o) (h1 : o.isCells = false) (h2 : o.isWalk = false) : AlK n₀ bs W (W.putObj l o') :=
  ⟨belowK_b hn W l o o' hl h h1 h2, by
    have := (grownBy_putObj' W l o')
    exact Array.getElem?_setIfInBounds_ne (by omega)⟩

theorem along_any (s : Sea) (vs : Value) (a : Option Addr) (len c : Nat) (w : World) :
    Calls Try.prog 34 #[.agg #[.int .i64 s.bend, .int .i64 s.days, .int .i64 s.jump, .int .i64 s.times, .int .i64 s.move, vs], .slice a len c] w
      fun e w' => e = .returned (.func (.func 48) #[] #[.pointer (some ⟨w.heap.size + 1, 0, none⟩), .pointer (some ⟨w.heap.size, 0, none⟩)]) ∧
        w' = (w.alloc (.cells #[.int .i64 s.bend, .int .i64 s.days, .int .i64 s.jump, .int .i64 s.times, .int .i64 s.move, vs] 75)).alloc (.cells #[.slice a len c] 33) := by
  go_enter Try.func34, Try.ntmps34
  go_wp2_with fail
  go_ret
  exact ⟨rfl, rfl⟩

set_option maxRecDepth 100000 in
set_option maxHeartbeats 4000000 in
/-- along's closure. -/
theorem along1_in (F : Fence) (n : Nat) (h48 : F.fn 48) (hro : F.round = none) (hn : 1 ≤ n) (l bw bs n₀ : Nat) (s : Sea) (way : List Int) (vs wv : Value) (hg : Good s) (hwl : way.length ≤ s.len)
    (hw : ∀ d, d < way.length → 0 ≤ way.getD d 0 ∧ way.getD d 0 < s.stores.length) (J Jx : List DayW → World → Prop)
    (hY : ∀ pre x W, J pre W → pre.length < way.length → YieldAt F (n - 1) Try.prog l (encD x) W fun e W' =>
      (e = .returned (.bool true) ∧ J (pre ++ [x]) W' ∧ AlK n₀ bs W W') ∨ (e = .returned (.bool false) ∧ Jx (pre ++ [x]) W'))
    (W : World) (hbw : W.cell? ⟨bw, 0, none⟩ = some wv) (hbs : W.heap[bs]? = some (.cells #[.int .i64 s.bend, .int .i64 s.days, .int .i64 s.jump, .int .i64 s.times, .int .i64 s.move, vs] 75))
    (hV : StosIn n₀ W vs s.stores) (hW : IntsIn .i64 n₀ W wv way) (h0 : J [] W) :
    CallsIn F n Try.prog 48 #[.func (.yield l) #[] #[], .pointer (some ⟨bw, 0, none⟩), .pointer (some ⟨bs, 0, none⟩)] W fun e W' => (∃ v, e = .returned v) ∧
      ((∃ ys, ys = upD s way way.length ∧ J ys W') ∨ (∃ pre, (∃ k, k ≤ way.length ∧ pre = upD s way k) ∧ Jx pre W')) := by
  have HG := Lib.hid hg
  have HWY := Lib.hid hw
  have HY := Lib.hid hY
  have HV := Lib.hid hV
  have HWI := Lib.hid hW
  have HBS := Lib.hid hbs
  clear hg hw hY hV hbs
  obtain ⟨aw, cw, rfl, hwl15, hwv⟩ := hW
  clear hwv
  refine callsIn_of_wp Try.func48 rfl h48 ?_ hro
  simp only [Try.ntmps48, List.size_toArray, List.length_cons, List.length_nil, Nat.reduceAdd, Nat.reduceSub, Array.replicate_succ, Array.replicate_zero, List.push_toArray, List.append_toArray, List.nil_append, List.cons_append]
  gi_wp2
  gi_loopw [8] (fun i wr => ∃ k : Nat, k ≤ way.length ∧ i = .int .i64 k ∧ J (upD s way k) wr ∧ AlK n₀ bs W wr)
    (fun i _ => way.length - (intOf i).toNat)
  case atStart => exact ⟨0, Nat.zero_le _, rfl, h0, Below.refl _ _, rfl⟩
  case round =>
    obtain ⟨k, hk, rfl, hJs, hnx⟩ := hrel
    have HNX := Lib.hid hnx
    clear hnx
    by_cases hlt : k < way.length
    · obtain ⟨aw', cw', hvv, _, h⟩ := HWI.out.below HNX.out.1
      cases hvv
      obtain ⟨b, o, rfl, hbb, hc⟩ := h.resolve_left (by intro h; rw [h] at hlt; simp at hlt)
      have hck := hc k hlt
      have hkk := HWY.out k hlt
      clear hc h
      have HUP := Lib.hid (upD_succ s way k)
      obtain ⟨i, hi⟩ : ∃ i : Nat, way.getD k 0 = i := ⟨(way.getD k 0).toNat, by omega⟩
      have hiv : i < s.stores.length := by omega
      rw [hi] at hck
      have hkl : k < s.len := by omega
      have HSP := Lib.hid (HG.out.span i hiv k hkl)
      have hwk : k < (s.stores.getD i default).warm.length := by rw [HG.out.lens i hiv]; exact hkl
      obtain ⟨bs', os, c', rfl, hcc, hbsb, _, _, _, vw, hs2, hsw⟩ := (HV.out.below HNX.out.1).at hiv
      have hsp := HSP.out
      have hat0 : s.at i k = (s.stores.getD i default).warm.getD k (0, 0) := rfl
      generalize s.stores.getD i default = q at hsw hwk hsp hat0
      obtain ⟨bp, op, cp, rfl, hcp, hbp, hp0, hp1⟩ := hsw.at hwk
      generalize q.warm.getD k (0, 0) = p at hp0 hp1 hat0 hsp
      generalize q.warm.length = wlen at *
      obtain ⟨lo, hi'⟩ := p
      have hat : s.at i k = (lo, hi') := hat0
      have hok : 0 ≤ lo ∧ lo ≤ hi' ∧ hi' ≤ 60 ∧ k < 8 := by
        have h2 := HG.out.len.2
        simp only at hsp
        omega
      have HUP2 : Hid (upD s way (k + 1) = upD s way k ++ [dayW k (lo, hi')]) := by unfold Hid; rw [HUP.out, hi, Int.toNat_natCast, hat]
      have hYx := HY.out _ (dayW k (lo, hi')) wr hJs (by rw [upD_length]; exact hlt)
      rw [encD_dayW k lo hi' hok] at hYx
      obtain ⟨fn, tmps, assign, body, hy, hR⟩ := hYx
      have cs := fun i => cell_of_row wr _ i _ _ _ (HNX.out.2.trans HBS.out)
      clear hi hat hat0 hkk hok HSP hsp hsw
      gi_wp2
      refine hR.mono ?_
      rintro e W3 (⟨rfl, hJ3, hk3⟩ | ⟨rfl, hJx3⟩)
      · gi_wp2
        go_roundw
        case rel => exact ⟨k + 1, by omega, by simp, by rw [HUP2.out]; exact hJ3, HNX.out.t hk3⟩
        case measure => simp [intOf]; omega
      · gi_wp2
        refine bodyPost_ret (results_none rfl _ _ _) rfl ?_
        exact ⟨⟨_, rfl⟩, .inr ⟨_, ⟨k + 1, by omega, HUP2.out.symm⟩, hJx3⟩⟩
    · obtain rfl : k = way.length := by omega
      gi_wp2
      go_end0
      exact ⟨⟨_, rfl⟩, .inl ⟨_, rfl, hJs⟩⟩

theorem along_stops (F : Fence) (n : Nat) (h48 : F.fn 48) (hro : F.round = none) (hn : 1 ≤ n) (bw bs n₀ : Nat) (s : Sea) (way : List Int) (vs wv : Value) (hg : Good s) (hwl : way.length ≤ s.len)
    (hw : ∀ d, d < way.length → 0 ≤ way.getD d 0 ∧ way.getD d 0 < s.stores.length) (w : World) (hbwl : bw < w.heap.size) (hn₀ : n₀ ≤ w.heap.size) (hbw : w.cell? ⟨bw, 0, none⟩ = some wv)
    (hbs : w.heap[bs]? = some (.cells #[.int .i64 s.bend, .int .i64 s.days, .int .i64 s.jump, .int .i64 s.times, .int .i64 s.move, vs] 75)) (hV : StosIn n₀ w vs s.stores) (hW : IntsIn .i64 n₀ w wv way) :
    SeqStopsK F n Try.prog 48 #[.pointer (some ⟨bw, 0, none⟩), .pointer (some ⟨bs, 0, none⟩)] encD (AlK n₀ bs) (fun ys => ys = upD s way way.length) (fun pre => ∃ k, k ≤ way.length ∧ pre = upD s way k) way.length w := fun l J Jx W hWb _ _ hY h0 =>
  along1_in F n h48 hro hn l bw bs n₀ s way vs wv hg hwl hw J Jx hY W ((hWb.cell (p := ⟨bw, 0, none⟩) hbwl).trans hbw) (block_keep hbs hWb) (hV.below (hWb.mono hn₀)) (hW.below (hWb.mono hn₀)) h0
end Go.Proofs.Ytddapabmfecidaa
