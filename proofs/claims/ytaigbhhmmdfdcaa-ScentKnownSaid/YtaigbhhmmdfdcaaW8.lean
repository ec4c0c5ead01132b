/- pour. -/
import Derived.Test.YtaigbhhmmdfdcaaW7
namespace Go.Proofs.Ytaigbhhmmdfdcaa
open Go.RowKit
/-- What a pour makes of the ranges. -/
def pourTo (m : Nat → Int × Int) (times : Int) (l : List (Int × Int)) (k : Nat) : Nat → Int × Int :=
  fun t => if t < k then ((m t).1 + times * (l.getD t (0, 0)).1, (m t).2 + times * (l.getD t (0, 0)).2) else m t
theorem pourTo_zero (m : Nat → Int × Int) (times : Int) (l : List (Int × Int)) : pourTo m times l 0 = m := by
  funext t; simp [pourTo]
theorem pourTo_at (m : Nat → Int × Int) (times : Int) (l : List (Int × Int)) (k : Nat) : pourTo m times l k k = m k := by simp [pourTo]
theorem pourTo_succ (m : Nat → Int × Int) (times : Int) (l : List (Int × Int)) (k : Nat) :
    upm (upm (pourTo m times l k) k ((m k).1 + times * (l.getD k (0, 0)).1, (m k).2)) k ((m k).1 + times * (l.getD k (0, 0)).1, (m k).2 + times * (l.getD k (0, 0)).2) = pourTo m times l (k + 1) := by
  funext t
  unfold upm pourTo
  by_cases h : t = k
  · subst h; simp
  · simp only [h, if_false]
    by_cases h2 : t < k
    · rw [if_pos h2, if_pos (by omega)]
    · rw [if_neg h2, if_neg (by omega)]
/-- What is poured fits. -/
def PourOk (m : Nat → Int × Int) (times : Int) (l : List (Int × Int)) : Prop :=
  ∀ t, t < l.length → 0 ≤ (m t).1 ∧ (m t).1 ≤ 100000000000000 ∧ 0 ≤ (m t).2 ∧ (m t).2 ≤ 100000000000000 ∧
    0 ≤ times * (l.getD t (0, 0)).1 ∧ times * (l.getD t (0, 0)).1 ≤ 100000000000000 ∧ 0 ≤ times * (l.getD t (0, 0)).2 ∧ times * (l.getD t (0, 0)).2 ≤ 100000000000000
/-- A slice of ranges that lies apart from a block. -/
def SpansBut (g : Nat) (w : World) (v : Value) (l : List (Int × Int)) : Prop :=
  ∃ a c, v = .slice a l.length c ∧ (l = [] ∨ ∃ b o, a = some ⟨b, o, none⟩ ∧ b < w.heap.size ∧ b ≠ g ∧ ∀ i, i < l.length → w.cell? ⟨b, o + i * 2, none⟩ = some (.int .i64 (l.getD i (0, 0)).1) ∧ w.cell? ⟨b, o + i * 2 + 1, none⟩ = some (.int .i64 (l.getD i (0, 0)).2))
theorem SlIn.but {B g : Nat} {w : World} {v : Value} {l : List (Int × Int)} (h : SpansIn B w v l) (hB : B ≤ g) (hw : B ≤ w.heap.size) : SpansBut g w v l := by
  obtain ⟨a, c, rfl, -, -, h⟩ := h
  refine ⟨a, c, rfl, ?_⟩
  rcases h with h | ⟨b, o, rfl, hb, h⟩
  · exact .inl h
  · exact .inr ⟨b, o, rfl, by omega, by omega, h⟩
set_option maxRecDepth 100000 in
set_option maxHeartbeats 4000000 in
/-- pour -/
theorem pour_any (x : BO) (g : Nat) (l : List (Int × Int)) (times : Int) (v : Value) (w : World) (hg : w.heap[g]? = some (.cells x.c 111)) (hl : l.length ≤ 5) (hok : PourOk x.mi times l) (hv : SpansBut g w v l) :
    Calls Try.prog 96 #[.pointer (some ⟨g, 0, none⟩), .int .i64 times, v] w
      fun e w' => (∃ v, e = .returned v) ∧ w'.heap[g]? = some (.cells ({ x with mi := pourTo x.mi times l l.length } : BO).c 111) ∧ But g w w' := by
  have HV := Lib.hid hv
  have HOK := Lib.hid hok
  have HG := Lib.hid hg
  have hglt := block_lt hg
  obtain ⟨a, c, rfl, -⟩ := hv
  clear hok hg
  obtain ⟨n, hn⟩ : ∃ n, l.length = n := ⟨_, rfl⟩
  have HN := Lib.hid hn
  rw [hn] at hl ⊢
  clear hn
  go_enter Try.func96, Try.ntmps96
  go_wp2_with fail
  go_loopw [16] (fun i wr => ∃ k : Nat, k ≤ n ∧ i = .int .i64 k ∧ wr.heap[g]? = some (.cells ({ x with mi := pourTo x.mi times l k } : BO).c 111) ∧ But g w wr) (fun i _ => n - (intOf i).toNat)
  case atStart => exact ⟨0, by omega, rfl, by rw [pourTo_zero]; exact HG.out, But.refl _ _⟩
  case round =>
    obtain ⟨k, hk, rfl, hgr, hbr⟩ := hrel
    have HGR := Lib.hid hgr
    have HBR := Lib.hid hbr
    clear hgr hbr
    by_cases hlt : k < n
    · have hnn := (HN.out : l.length = n)
      obtain ⟨a', c', he, hv⟩ := HV.out
      cases he
      obtain ⟨b, o, rfl, hb1, hb2, hc⟩ := hv.resolve_left (by intro h; rw [h] at hnn; simp at hnn; omega)
      have hc1 := (HBR.out.cell (o := o + k * 2) hb1 hb2).trans (hc k (by omega)).1
      have hc2 := (HBR.out.cell (o := o + k * 2 + 1) hb1 hb2).trans (hc k (by omega)).2
      obtain ⟨b1, b2, b3, b4, b5, b6, b7, b8⟩ := HOK.out k (by omega)
      have HS := Lib.hid (pourTo_succ x.mi times l k)
      have HA := Lib.hid (pourTo_at x.mi times l k)
      clear hc hnn hv
      generalize (l.getD k (0, 0)).1 = lo at *
      generalize (l.getD k (0, 0)).2 = hi at *
      have hsz := HBR.out.size
      have hne : Hid (wr.heap.size ≠ g) := by unfold Hid; omega
      have HL := Lib.hid (least_any { x with mi := pourTo x.mi times l k } g k (times * lo) ((x.mi k).1 + times * lo) (by omega) (wr.alloc (.cells #[.int .i64 lo, .int .i64 hi] 51)) (block_keep HGR.out ((Below.refl _ _).alloc (Nat.le_refl _) _)) (by simp only [HA.out]) (by omega) (by omega))
      go_wp2_with fail
      refine HL.out.mono ?_
      rintro e w1 ⟨⟨v1, rfl⟩, hg1, hb1⟩
      have hcx : w1.cell? ⟨wr.heap.size, 1, none⟩ = some (.int .i64 hi) := by
        rw [hb1.cell (by simp) hne.out, cell_of_row _ _ _ _ _ _ (heap_alloc_new wr _)]
        rfl
      have HG1 := Lib.hid hg1
      have HB1 := Lib.hid ((But.refl g wr).alloc (.cells #[.int .i64 lo, .int .i64 hi] 51) |>.trans hb1)
      clear hg1 hb1 hc1 hc2 HL
      have HL2 := Lib.hid (most_any _ g k (times * hi) ((x.mi k).2 + times * hi) (by omega) w1 HG1.out (by simp [upm, HA.out]) (by omega) (by omega))
      go_wp2_with fail
      refine HL2.out.mono ?_
      rintro e w2 ⟨⟨v2, rfl⟩, hg2, hb2⟩
      have HG2 := Lib.hid hg2
      have HB2 := Lib.hid (HBR.out.trans (HB1.out.trans hb2))
      clear hg2 hb2 hcx HL2
      go_wp2_with fail
      go_roundw
      case rel =>
        refine ⟨k + 1, by omega, by go_num, ?_, HB2.out⟩
        have := HG2.out
        simp only [HA.out] at this
        rw [← HS.out]
        simpa [upm] using this
      case measure => simp [intOf]; omega
    · obtain rfl : k = n := by omega
      go_wp2_with fail
      exact bodyPost_end (results_none rfl _ _ _) rfl ⟨⟨_, rfl⟩, HGR.out, HBR.out⟩
end Go.Proofs.Ytaigbhhmmdfdcaa
