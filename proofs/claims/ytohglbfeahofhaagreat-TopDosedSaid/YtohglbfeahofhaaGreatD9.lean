/- blend.Raise. -/
import Derived.Test.YtohglbfeahofhaaGreatD8
namespace Go.Proofs.YtohglbfeahofhaaGreat
open Go.RowKit
theorem BOk.cur {l : List BWax} (h : BOk l) {i : Nat} (hi : i < l.length) : CurOk (l.getD i default).curve := ⟨h.clen i hi, h.cpt i hi, h.cinc i hi⟩
set_option maxHeartbeats 4000000 in
theorem raise_none {l : List BWax} (hl : BOk l) (i : Nat) (hi : l.length ≤ i) (n : Int) (v : Value) (w : World) (hv : BWaxesIn w.heap.size w v l) :
    Calls Tryz.prog 15 #[v, .int .i64 i, .int .i64 n] w fun e w' => e = .returned (.tuple #[.int .i64 0, .int .i64 4]) ∧ Below w.heap.size w w' := by
  have HV := Lib.hid hv
  have HL := Lib.hid hl
  have HCK := fun w h => Lib.hid (bcheck_ok hl v w h)
  obtain ⟨a, cap, rfl, -, -⟩ := sl_shape hv
  have hn5 := hl.n5
  have hn1 := hl.n1
  obtain ⟨M, hM⟩ : ∃ M, (l.length : Int) - 1 = M := ⟨_, rfl⟩
  clear hv hl
  go_enter Tryz.func15, Tryz.ntmps15
  go_wp2_with fail
  refine (HCK _ HV.out).out.mono ?_
  rintro e w1 ⟨rfl, hb⟩
  have HB := Lib.hid hb
  clear hb HCK
  go_wp2_with fail
  refine (kout_row true 0 M [(i : Int)] 1 rfl (by simp) (by rw [outB_one]; unfold outOne; simp; omega) _ _ rfl _ (heap_alloc_new _ _)).mono ?_
  rintro e w2 ⟨rfl, hb⟩
  have HB := Lib.hid (HB.out.trans (((allocU w1 (.cells #[.int .i64 (i : Int)] 3)).trans (hb.mono (allocU w1 (.cells #[.int .i64 (i : Int)] 3)).size)).mono HB.out.size))
  clear hb hM
  go_wp2_with fail
  go_ret2
  exact ⟨rfl, HB.out⟩
set_option maxHeartbeats 4000000 in
theorem raise_ok {l : List BWax} (hl : BOk l) (i : Nat) (hi : i < l.length) (n : Int) (hn : 0 ≤ n ∧ n ≤ 20) (v : Value) (w : World) (hv : BWaxesIn w.heap.size w v l) :
    Calls Tryz.prog 15 #[v, .int .i64 i, .int .i64 n] w fun e w' => e = .returned (.tuple #[.int .i64 (addV (l.getD i default).curve n), .int .i64 0]) ∧ Below w.heap.size w w' := by
  obtain ⟨R, HR⟩ : ∃ z, Hid (addV (l.getD i default).curve n = z) := ⟨_, rfl⟩
  rw [HR.out]
  have HV := Lib.hid hv
  have HL := Lib.hid hl
  have HCK := fun w h => Lib.hid (bcheck_ok hl v w h)
  obtain ⟨a, cap, rfl, -, -⟩ := sl_shape hv
  have hn5 := hl.n5
  have hn1 := hl.n1
  obtain ⟨M, hM⟩ : ∃ M, (l.length : Int) - 1 = M := ⟨_, rfl⟩
  clear hv hl
  go_enter Tryz.func15, Tryz.ntmps15
  go_wp2_with fail
  refine (HCK _ HV.out).out.mono ?_
  rintro e w1 ⟨rfl, hb⟩
  have HB := Lib.hid hb
  clear hb HCK
  go_wp2_with fail
  refine (kout_row false 0 M [(i : Int)] 1 rfl (by simp) (by rw [outB_one]; rw [outOne_ff]; omega) _ _ rfl _ (heap_alloc_new _ _)).mono ?_
  rintro e w2 ⟨rfl, hb⟩
  have HB := Lib.hid (HB.out.trans (((allocU w1 (.cells #[.int .i64 (i : Int)] 3)).trans (hb.mono (allocU w1 (.cells #[.int .i64 (i : Int)] 3)).size)).mono HB.out.size))
  clear hb hM
  go_wp2_with fail
  refine (kout_row false 0 20 [n] 1 rfl (by simp) (by rw [outB_one, outOne_ff]; exact hn) _ _ rfl _ (heap_alloc_new _ _)).mono ?_
  rintro e w3 ⟨rfl, hb⟩
  have HB := Lib.hid (HB.out.trans (((allocU w2 (.cells #[.int .i64 n] 3)).trans (hb.mono (allocU w2 (.cells #[.int .i64 n] 3)).size)).mono HB.out.size))
  clear hb
  obtain ⟨b, o, rfl, hbl, -, -, -, -, -, -, -, cu, hx6, hcu⟩ := HV.out.at' hi
  have hy6 := (HB.out.cell (p := ⟨b, o + i * 7 + 6, none⟩) hbl).trans hx6
  have HAD : ∀ w, SpansIn w.heap.size w cu (l.getD i default).curve → Hid _ := fun w h => Lib.hid (by have h2 := add_ok (l.getD i default).curve (HL.out.cur hi) n hn cu w h; rw [HR.out] at h2; exact h2)
  have HCU := Lib.hid hcu
  have hii : (i : Int) < (l.length : Int) := by omega
  obtain ⟨ca, cq, rfl, -, -⟩ := sl_shape hcu
  clear hcu hx6 hbl hn
  generalize l.getD i default = x at *
  go_wp2_with fail
  refine (HAD _ ((HCU.out.below HB.out).mono HB.out.size)).out.mono ?_
  rintro e w4 ⟨rfl, hb⟩
  have HB := Lib.hid (HB.out.trans (hb.mono HB.out.size))
  clear hb
  go_wp2_with fail
  go_ret2
  exact ⟨rfl, HB.out⟩
end Go.Proofs.YtohglbfeahofhaaGreat
