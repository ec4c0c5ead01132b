/- along, for days of any type: the iterator over the spans of a way. -/
import Derived.Test.YtddapabmfecidaaW16
namespace Go.Proofs.Ytddapabmfecidaa
open Go.RowKit Go.Shelf
attribute [local go_sem] Oper.semAt_some

/-- The first k days. -/
def upA {α : Type} (day : Nat → α) (k : Nat) : List α := (List.range k).map day
theorem upA_succ {α : Type} (day : Nat → α) (k : Nat) : upA day (k + 1) = upA day k ++ [day k] := by simp [upA, List.range_succ]
theorem upA_length {α : Type} (day : Nat → α) (k : Nat) : (upA day k).length = k := by simp [upA]

set_option maxRecDepth 100000 in
set_option maxHeartbeats 4000000 in
/-- along's closure. -/
theorem along1A_in {α : Type} (encs : α → Array Value) (day : Nat → α) (F : Fence) (n : Nat) (h48 : F.fn 48) (hro : F.round = none) (hn : 1 ≤ n) (l bw bs n₀ : Nat) (s : Sea) (way : List Int) (vs wv : Value) (hg : Good s) (hwl : way.length ≤ s.len)
    (hw : ∀ d, d < way.length → 0 ≤ way.getD d 0 ∧ way.getD d 0 < s.stores.length) (hen : ∀ k, k < way.length → encs (day k) = #[.int .i64 k, .agg #[.int .i64 (s.at (way.getD k 0).toNat k).1, .int .i64 (s.at (way.getD k 0).toNat k).2]]) (J Jx : List α → World → Prop)
    (hY : ∀ pre x W, J pre W → pre.length < way.length → YieldAt F (n - 1) Try.prog l (encs x) W fun e W' =>
      (e = .returned (.bool true) ∧ J (pre ++ [x]) W' ∧ AlK n₀ bs W W') ∨ (e = .returned (.bool false) ∧ Jx (pre ++ [x]) W'))
    (W : World) (hbw : W.cell? ⟨bw, 0, none⟩ = some wv) (hbs : W.heap[bs]? = some (.cells #[.int .i64 s.bend, .int .i64 s.days, .int .i64 s.jump, .int .i64 s.times, .int .i64 s.move, vs] 75))
    (hV : StosIn n₀ W vs s.stores) (hW : IntsIn .i64 n₀ W wv way) (h0 : J [] W) :
    CallsIn F n Try.prog 48 #[.func (.yield l) #[] #[], .pointer (some ⟨bw, 0, none⟩), .pointer (some ⟨bs, 0, none⟩)] W fun e W' => (∃ v, e = .returned v) ∧
      ((∃ ys, ys = upA day way.length ∧ J ys W') ∨ (∃ pre, (∃ k, k ≤ way.length ∧ pre = upA day k) ∧ Jx pre W')) := by
  have HG := Lib.hid hg
  have HWY := Lib.hid hw
  have HY := Lib.hid hY
  have HV := Lib.hid hV
  have HWI := Lib.hid hW
  have HBS := Lib.hid hbs
  clear hg hw hY hV hbs
  obtain ⟨aw, cw, rfl, hwl15, hwv⟩ := hW
  clear hwv
  refine callsIn_of_wp Try.func48 rfl h48 ?_ hro
  simp only [Try.ntmps48, List.size_toArray, List.length_cons, List.length_nil, Nat.reduceAdd, Nat.reduceSub, Array.replicate_succ, Array.replicate_zero, List.push_toArray, List.append_toArray, List.nil_append, List.cons_append]
  gi_wp2
  gi_loopw [8] (fun i wr => ∃ k : Nat, k ≤ way.length ∧ i = .int .i64 k ∧ J (upA day k) wr ∧ AlK n₀ bs W wr)
    (fun i _ => way.length - (intOf i).toNat)
  case atStart => exact ⟨0, Nat.zero_le _, rfl, h0, Below.refl _ _, rfl⟩
  case round =>
    obtain ⟨k, hk, rfl, hJs, hnx⟩ := hrel
    have HNX := Lib.hid hnx
    clear hnx
    by_cases hlt : k < way.length
    · obtain ⟨aw', cw', hvv, _, h⟩ := HWI.out.below HNX.out.1
      cases hvv
      obtain ⟨b, o, rfl, hbb, hc⟩ := h.resolve_left (by intro h; rw [h] at hlt; simp at hlt)
      have hck := hc k hlt
      have hkk := HWY.out k hlt
      clear hc h
      have HUP := Lib.hid (upA_succ day k)
      obtain ⟨i, hi⟩ : ∃ i : Nat, way.getD k 0 = i := ⟨(way.getD k 0).toNat, by omega⟩
      have hiv : i < s.stores.length := by omega
      rw [hi] at hck
      have hkl : k < s.len := by omega
      have HSP := Lib.hid (HG.out.span i hiv k hkl)
      have hwk : k < (s.stores.getD i default).warm.length := by rw [HG.out.lens i hiv]; exact hkl
      obtain ⟨bs', os, c', rfl, hcc, hbsb, _, _, _, vw, hs2, hsw⟩ := (HV.out.below HNX.out.1).at hiv
      have hsp := HSP.out
      have hat0 : s.at i k = (s.stores.getD i default).warm.getD k (0, 0) := rfl
      generalize s.stores.getD i default = q at hsw hwk hsp hat0
      obtain ⟨bp, op, cp, rfl, hcp, hbp, hp0, hp1⟩ := hsw.at hwk
      generalize q.warm.getD k (0, 0) = p at hp0 hp1 hat0 hsp
      generalize q.warm.length = wlen at *
      obtain ⟨lo, hi'⟩ := p
      have hat : s.at i k = (lo, hi') := hat0
      have hok : 0 ≤ lo ∧ lo ≤ hi' ∧ hi' ≤ 60 ∧ k < 8 := by
        have h2 := HG.out.len.2
        simp only at hsp
        omega
      have HUP2 := HUP
      have hYx := HY.out _ (day k) wr hJs (by rw [upA_length]; exact hlt)
      rw [hen k hlt, hi, Int.toNat_natCast, hat] at hYx
      obtain ⟨fn, tmps, assign, body, hy, hR⟩ := hYx
      have cs := fun i => cell_of_row wr _ i _ _ _ (HNX.out.2.trans HBS.out)
      clear hi hat hat0 hkk hok HSP hsp hsw
      gi_wp2
      refine hR.mono ?_
      rintro e W3 (⟨rfl, hJ3, hk3⟩ | ⟨rfl, hJx3⟩)
      · gi_wp2
        go_roundw
        case rel => exact ⟨k + 1, by omega, by simp, by rw [HUP2.out]; exact hJ3, HNX.out.t hk3⟩
        case measure => simp [intOf]; omega
      · gi_wp2
        refine bodyPost_ret (results_none rfl _ _ _) rfl ?_
        exact ⟨⟨_, rfl⟩, .inr ⟨_, ⟨k + 1, by omega, HUP2.out.symm⟩, hJx3⟩⟩
    · obtain rfl : k = way.length := by omega
      gi_wp2
      go_end0
      exact ⟨⟨_, rfl⟩, .inl ⟨_, rfl, hJs⟩⟩

theorem alongA_stops {α : Type} (encs : α → Array Value) (day : Nat → α) (F : Fence) (n : Nat) (h48 : F.fn 48) (hro : F.round = none) (hn : 1 ≤ n) (bw bs n₀ : Nat) (s : Sea) (way : List Int) (vs wv : Value) (hg : Good s) (hwl : way.length ≤ s.len)
    (hw : ∀ d, d < way.length → 0 ≤ way.getD d 0 ∧ way.getD d 0 < s.stores.length) (hen : ∀ k, k < way.length → encs (day k) = #[.int .i64 k, .agg #[.int .i64 (s.at (way.getD k 0).toNat k).1, .int .i64 (s.at (way.getD k 0).toNat k).2]]) (w : World) (hbwl : bw < w.heap.size) (hn₀ : n₀ ≤ w.heap.size) (hbw : w.cell? ⟨bw, 0, none⟩ = some wv)
    (hbs : w.heap[bs]? = some (.cells #[.int .i64 s.bend, .int .i64 s.days, .int .i64 s.jump, .int .i64 s.times, .int .i64 s.move, vs] 75)) (hV : StosIn n₀ w vs s.stores) (hW : IntsIn .i64 n₀ w wv way) :
    SeqStopsK F n Try.prog 48 #[.pointer (some ⟨bw, 0, none⟩), .pointer (some ⟨bs, 0, none⟩)] encs (AlK n₀ bs) (fun ys => ys = upA day way.length) (fun pre => ∃ k, k ≤ way.length ∧ pre = upA day k) way.length w := fun l J Jx W hWb _ _ hY h0 =>
  along1A_in encs day F n h48 hro hn l bw bs n₀ s way vs wv hg hwl hw hen J Jx hY W ((hWb.cell (p := ⟨bw, 0, none⟩) hbwl).trans hbw) (block_keep hbs hWb) (hV.below (hWb.mono hn₀)) (hW.below (hWb.mono hn₀)) h0
end Go.Proofs.Ytddapabmfecidaa
