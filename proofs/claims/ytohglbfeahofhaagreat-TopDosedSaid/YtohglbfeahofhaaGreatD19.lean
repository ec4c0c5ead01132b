/- blend.fitting: the closure that calls itself, at its levels; the iterator. -/
import Derived.Deep.Cut
import Derived.Deep.CutBlock
import Derived.Lib.MinMax
import Derived.Test.YtohglbfeahofhaaGreatD18
namespace Go.Proofs.YtohglbfeahofhaaGreat
open Go.RowKit
section
variable {n Bq lb wb lp pb : Nat} {G : Nat → Prop} {a : Option Addr} {cap : Nat} {W : World} {J Jx : List Rec → World → Prop}
set_option maxRecDepth 100000 in
set_option maxHeartbeats 16000000 in
theorem fill1_ok (X : FX n Bq lb wb lp pb G a cap W J Jx) (i : Nat) (hi : i < 2) (left : Int) (hl : left = 16 - (i : Int)) (pre : List Rec) (hpre : pre.length ≤ 40) (V : World) (hS : FSt Bq lb wb W.heap.size lp pb a cap W V) (hrow : ∃ b c, V.heap[W.heap.size + 1]? = some (.cells (ints [4 + (i : Int), b, c]) 3)) (hJ : J pre V) :
    Calls Tryz.prog 91 #[.int .i64 1, .int .i64 left, .pointer (some ⟨lb, 0, none⟩), .pointer (some ⟨(W.heap.size + 2), 0, none⟩), .pointer (some ⟨wb, 0, none⟩), .pointer (some ⟨W.heap.size, 0, none⟩), .pointer (some ⟨(W.heap.size + 3), 0, none⟩)] V (FPost Bq lb wb lp pb a cap W J Jx (fun x => ∃ b c, x = [4 + (i : Int), b, c]) (pre ++ innerTo i (17 - i))) := by
  have HX := Lib.hid X
  have HS0 := Lib.hid hS
  have HJ0 := Lib.hid hJ
  have HRW := Lib.hid hrow
  have HPL := Lib.hid hpre
  have HLF := Lib.hid hl
  have HI := Lib.hid hi
  have c_l := cell_of_row _ _ 0 _ _ _ HS0.out.l
  have c_w := cell_of_row _ _ 0 _ _ _ HS0.out.w
  have w_lo : V.cell? ⟨pb, 2, none⟩ = some (.int .i64 0) := (wish_cells HX.out.hp HS0.out.bel 1 (by decide)).1
  clear X hS hJ hrow hpre hl hi
  go_enter Tryz.func91, Tryz.ntmps91
  go_wp2_with fail
  clear c_l c_w w_lo
  go_loopw [10] (fun nv wr => ∃ k : Nat, nv = .int .i64 (k : Int) ∧ k ≤ (17 - i) ∧ J (pre ++ innerTo i k) wr ∧ FSt Bq lb wb W.heap.size lp pb a cap W wr ∧ ∃ b c, wr.heap[W.heap.size + 1]? = some (.cells (ints [4 + (i : Int), b, c]) 3)) (fun nv _ => (17 - i) - (intOf nv - 0).toNat)
  case atStart => exact ⟨0, rfl, by omega, by simpa [innerTo] using HJ0.out, HS0.out, HRW.out⟩
  case round =>
    clear HJ0 HS0 HRW
    obtain ⟨k, rfl, hk, hj, hs, hrow⟩ := hrel
    have HJ := Lib.hid hj
    have HS := Lib.hid hs
    obtain ⟨b, c, hrr⟩ := hrow
    have HR := Lib.hid hrr
    clear hj hs hrr
    have c_w := cell_of_row _ _ 0 _ _ _ HS.out.w
    have w_hi : wr.cell? ⟨pb, 3, none⟩ = some (.int .i64 20) := (wish_cells HX.out.hp HS.out.bel 1 (by decide)).2
    have c_r := cell_of_row _ _ 0 _ _ _ HS.out.r
    by_cases hkl : k < (17 - i)
    · have HK := Lib.hid hkl
      have hc1 : (k : Int) ≤ left := by have := HLF.out; have := HI.out; omega
      have hc2 : (k : Int) ≤ 20 := by have := HI.out; omega
      go_wp2_with (refine wpList_cell_but rfl 3 _ _ rfl (W.heap.size + 1) 1 _ _ HR.out rfl _ rfl (by simp [ints]) rfl info3s ?_; intro V1 hg hb1; have HR1 : Hid (V1.heap[W.heap.size + 1]? = some (.cells (ints [4 + (i : Int), (k : Int), c]) 3)) := hg; have HS1 := Lib.hid (HS.out.but HX.out.l HX.out.w HX.out.q hb1); have HJ1 := Lib.hid (HX.out.hj _ _ _ HJ.out hb1); clear hg hb1 c_w w_hi c_r HS HR HJ; have c_f := cell_of_row _ _ 0 _ _ _ HS1.out.f)
      refine (leaf_ok HX.out i k HI.out HK.out c _ (by have := HLF.out; have := HK.out; first | omega | (rw [wrapU (by omega)]; omega)) _ (by rw [List.length_append]; have := innerTo_len i k; have := HI.out; have := HK.out; have := HPL.out; omega) V1 HS1.out HR1.out HJ1.out).mono ?_
      rintro e V2 (⟨rfl, hs2, ⟨x, hx, hr2⟩, hj2⟩ | ⟨rfl, hj2⟩)
      · have HJ2 : Hid (J (pre ++ innerTo i (k + 1)) V2) := by
          rw [innerTo_succ i k, ← List.append_assoc]; exact hj2
        have HR2 : Hid (∃ b c, V2.heap[W.heap.size + 1]? = some (.cells (ints [4 + (i : Int), b, c]) 3)) := by
          obtain ⟨c2, rfl⟩ := hx
          exact ⟨_, _, hr2⟩
        have HS2 := Lib.hid hs2
        clear hs2 hx hr2 hj2 c_f HS1 HJ1 HR1
        go_wp2_with fail
        refine ⟨⟨k + 1, by push_cast; first | rfl | omega, by omega, HJ2.out, HS2.out, HR2.out⟩, ?_⟩
        simp [intOf]; omega
      · have HJ2 := Lib.hid hj2
        clear hj2 c_f HS1 HJ1 HR1
        go_wp2_with fail
        go_ret
        exact .inr ⟨rfl, HJ2.out⟩
    · have hkK : k = (17 - i) := by omega
      have hc1 : left < (k : Int) := by have := HLF.out; omega
      rw [hkK] at HJ
      clear hkK hkl hk
      go_wp2_with fail
      go_ret
      exact .inl ⟨rfl, HS.out, ⟨_, ⟨_, _, rfl⟩, HR.out⟩, HJ.out⟩
set_option maxRecDepth 100000 in
set_option maxHeartbeats 16000000 in
theorem fill0_ok (X : FX n Bq lb wb lp pb G a cap W J Jx) (left : Int) (hl : left = 20) (pre : List Rec) (hpre : pre.length = 0) (V : World) (hS : FSt Bq lb wb W.heap.size lp pb a cap W V) (hrow : ∃ a b c, V.heap[W.heap.size + 1]? = some (.cells (ints [a, b, c]) 3)) (hJ : J pre V) :
    Calls Tryz.prog 91 #[.int .i64 0, .int .i64 left, .pointer (some ⟨lb, 0, none⟩), .pointer (some ⟨(W.heap.size + 2), 0, none⟩), .pointer (some ⟨wb, 0, none⟩), .pointer (some ⟨W.heap.size, 0, none⟩), .pointer (some ⟨(W.heap.size + 3), 0, none⟩)] V (FPost Bq lb wb lp pb a cap W J Jx (fun _ => True) (pre ++ outerTo 2)) := by
  have HX := Lib.hid X
  have HS0 := Lib.hid hS
  have HJ0 := Lib.hid hJ
  have HRW := Lib.hid hrow
  have HPL := Lib.hid hpre
  have HLF := Lib.hid hl

  have c_l := cell_of_row _ _ 0 _ _ _ HS0.out.l
  have c_w := cell_of_row _ _ 0 _ _ _ HS0.out.w
  have w_lo : V.cell? ⟨pb, 0, none⟩ = some (.int .i64 4) := (wish_cells HX.out.hp HS0.out.bel 0 (by decide)).1
  clear X hS hJ hrow hpre hl
  go_enter Tryz.func91, Tryz.ntmps91
  go_wp2_with fail
  clear c_l c_w w_lo
  go_loopw [10] (fun nv wr => ∃ k : Nat, nv = .int .i64 (4 + (k : Int)) ∧ k ≤ 2 ∧ J (pre ++ outerTo k) wr ∧ FSt Bq lb wb W.heap.size lp pb a cap W wr ∧ ∃ a b c, wr.heap[W.heap.size + 1]? = some (.cells (ints [a, b, c]) 3)) (fun nv _ => 2 - (intOf nv - 4).toNat)
  case atStart => exact ⟨0, rfl, by omega, by simpa [outerTo] using HJ0.out, HS0.out, HRW.out⟩
  case round =>
    clear HJ0 HS0 HRW
    obtain ⟨k, rfl, hk, hj, hs, hrow⟩ := hrel
    have HJ := Lib.hid hj
    have HS := Lib.hid hs
    obtain ⟨a0, b, c, hrr⟩ := hrow
    have HR := Lib.hid hrr
    clear hj hs hrr
    have c_w := cell_of_row _ _ 0 _ _ _ HS.out.w
    have w_hi : wr.cell? ⟨pb, 1, none⟩ = some (.int .i64 5) := (wish_cells HX.out.hp HS.out.bel 0 (by decide)).2
    have c_r := cell_of_row _ _ 0 _ _ _ HS.out.r
    by_cases hkl : k < 2
    · have HK := Lib.hid hkl
      have hc1 : (4 + (k : Int)) ≤ left := by have := HLF.out; omega
      have hc2 : (4 + (k : Int)) ≤ 5 := by omega
      go_wp2_with (refine wpList_cell_but rfl 3 _ _ rfl (W.heap.size + 1) 0 _ _ HR.out rfl _ rfl (by simp [ints]) rfl info3s ?_; intro V1 hg hb1; have HR1 : Hid (V1.heap[W.heap.size + 1]? = some (.cells (ints [4 + (k : Int), b, c]) 3)) := hg; have HS1 := Lib.hid (HS.out.but HX.out.l HX.out.w HX.out.q hb1); have HJ1 := Lib.hid (HX.out.hj _ _ _ HJ.out hb1); clear hg hb1 c_w w_hi c_r HS HR HJ; have c_f := cell_of_row _ _ 0 _ _ _ HS1.out.f)
      refine (fill1_ok HX.out k HK.out _ (by have := HLF.out; have := HK.out; first | omega | (rw [wrapU (by omega)]; omega)) _ (by rw [List.length_append]; have := outerTo_len k; have := HK.out; have := HPL.out; omega) V1 HS1.out ⟨_, _, HR1.out⟩ HJ1.out).mono ?_
      rintro e V2 (⟨rfl, hs2, ⟨x, hx, hr2⟩, hj2⟩ | ⟨rfl, hj2⟩)
      · have HJ2 : Hid (J (pre ++ outerTo (k + 1)) V2) := by
          rw [outerTo_succ k, ← List.append_assoc]; exact hj2
        have HR2 : Hid (∃ a b c, V2.heap[W.heap.size + 1]? = some (.cells (ints [a, b, c]) 3)) := by
          obtain ⟨b2, c2, rfl⟩ := hx
          exact ⟨_, _, _, hr2⟩
        have HS2 := Lib.hid hs2
        clear hs2 hx hr2 hj2 c_f HS1 HJ1 HR1
        go_wp2_with fail
        refine ⟨⟨k + 1, by push_cast; rw [Value.int.injEq]; exact ⟨rfl, by omega⟩, by omega, HJ2.out, HS2.out, HR2.out⟩, ?_⟩
        simp [intOf]; omega
      · have HJ2 := Lib.hid hj2
        clear hj2 c_f HS1 HJ1 HR1
        go_wp2_with fail
        go_ret
        exact .inr ⟨rfl, HJ2.out⟩
    · have hkK : k = 2 := by omega
      have hc1 : (5 : Int) < (4 + (k : Int)) := by have := HLF.out; omega
      rw [hkK] at HJ
      clear hkK hkl hk
      go_wp2_with fail
      go_ret
      exact .inl ⟨rfl, HS.out, ⟨_, trivial, HR.out⟩, HJ.out⟩
end
end Go.Proofs.YtohglbfeahofhaaGreat
