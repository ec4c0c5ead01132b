/- The two troubles: bending and blooming, one day of each. -/
import Derived.Test.YtddapabmfecidaaW17
import Derived.BigQuiet
namespace Go.Proofs.Ytddapabmfecidaa
open Go.RowKit

def bendN (be x h : Int) : Int := if x < be then 0 else h + 1
theorem Keeps.drewN {w a : World} {X : Nat} (h : Keeps w a X) (n : Nat) : Keeps w (a.drewN n) X := ⟨h.os, h.tape, h.output, h.size, h.block⟩
theorem Keeps.start {w : World} {b : Nat} (_hb : b < w.heap.size) (v : Value) (o : Obj) : Keeps w ((w.setCell ⟨b, 0, none⟩ v).alloc o) b := ((Keeps.refl w b).setCell 0 _).below ((Below.refl _ _).alloc (Nat.le_refl _) _)

theorem bending_any (be d jm t h : Int) (l : List Int) (k : Nat) (hl : l.length = k + 1) (x : Int) (hx : l.getD k 0 = x) (wv : Value) (b : Nat) (w : World) (hv : IntsIn .i64 b w wv l)
    (hb : w.heap[b]? = some (.cells #[.int .i64 h] 84)) (h0 : 0 ≤ h) (h1 : h ≤ 1000) (r : Bool) (hr : (bendN be x h == d) = r) :
    Calls Try.prog 80 #[.pointer (some ⟨b, 0, none⟩), .agg #[.int .i64 be, .int .i64 d, .int .i64 jm, .int .i64 t], wv] w
      fun e w' => e = .returned (.bool r) ∧ w'.heap[b]? = some (.cells #[.int .i64 (bendN be x h)] 84) ∧ Keeps w w' b := by
  obtain ⟨a, c, rfl, hll, hlc⟩ := hv
  rw [hl] at hll hlc
  obtain ⟨ba, o, rfl, hba, hc⟩ := hlc.resolve_left (by rw [← List.length_eq_zero_iff]; omega)
  have hck := hc k (by omega)
  rw [hx] at hck
  clear hc hlc hx
  rw [hl]
  clear hl
  have HB := Lib.hid hb
  have hbl := block_lt hb
  have cb := cell_of_row w _ 0 _ _ _ hb
  have fb := frozen_of_row w _ 0 _ _ hb
  clear hb
  have HR := Lib.hid hr
  clear hr
  by_cases hlt : x < be
  · have HN : Hid (bendN be x h = 0) := by unfold Hid bendN; rw [if_pos hlt]
    rw [HN.out] at HR ⊢
    go_enter Try.func80, Try.ntmps80
    go_wp2_with fail
    refine wp_world (fun w1 => w1.heap[b]? = some (.cells #[.int .i64 (h + 1)] 84) ∧ w1.heap[w.heap.size]? = some (.cells #[.int .i64 be, .int .i64 d, .int .i64 jm, .int .i64 t] 28) ∧ w1.cell? ⟨ba, o + k, none⟩ = some (.int .i64 x) ∧ Keeps w w1 b) ?_ ?_
    · refine ⟨(Below.heap_alloc _ _ _ (by simpa [World.setCell] using hbl)).trans (setCell_row HB.out), by simpa [World.setCell] using heap_alloc_new (w.setCell ⟨b, 0, none⟩ (.int .i64 (h + 1))) (.cells #[.int .i64 be, .int .i64 d, .int .i64 jm, .int .i64 t] 28), ?_, Keeps.start hbl _ _⟩
      exact (World.cell?_alloc_past (w := w.setCell ⟨b, 0, none⟩ (.int .i64 (h + 1))) _ ba (o + k) (by simpa [World.setCell] using Nat.lt_trans hba hbl)).trans ((World.cell?_setCell_other w _ _ _ (by intro h; simp only [Addr.mk.injEq] at h; omega)).trans hck)
    rintro w1 ⟨hb1, hs1, hc1, hk1⟩
    have HK1 := Lib.hid hk1
    have HB1 := Lib.hid hb1
    have HS1 := Lib.hid hs1
    have cs := fun i => cell_of_row w1 _ i _ _ _ hs1
    clear hk1 hb1 hs1 cb fb hck
    go_quiet (fail)
    simp only [Exit.then]
    have HB2 : Hid ((w1.drewN nq).heap[b]? = some (.cells #[.int .i64 (h + 1)] 84)) := HB1.out
    have HS2 : Hid ((w1.drewN nq).heap[w.heap.size]? = some (.cells #[.int .i64 be, .int .i64 d, .int .i64 jm, .int .i64 t] 28)) := HS1.out
    have HK2 : Hid (Keeps w (w1.drewN nq) b) := HK1.out.drewN _
    clear HB1 HK1 HS1 cs hc1
    generalize w1.drewN nq = w2 at HB2 HS2 HK2 ⊢
    have cb := cell_of_row w2 _ 0 _ _ _ HB2.out
    have fb := frozen_of_row w2 _ 0 _ _ HB2.out
    go_wp2_with fail
    have HB3 := Lib.hid (setCell_row (u := .int .i64 0) HB2.out)
    have HS3 : Hid ((w2.setCell ⟨b, 0, none⟩ (.int .i64 0)).heap[w.heap.size]? = some (.cells #[.int .i64 be, .int .i64 d, .int .i64 jm, .int .i64 t] 28)) := (heap_setCell_other _ _ _ _ (show w.heap.size ≠ b by omega)).trans HS2.out
    have HK3 := Lib.hid (HK2.out.setCell 0 (.int .i64 0))
    clear HB2 HK2 HS2 cb fb
    generalize w2.setCell ⟨b, 0, none⟩ (.int .i64 0) = w3 at HB3 HS3 HK3 ⊢
    have cb := cell_of_row w3 _ 0 _ _ _ HB3.out
    have cs := fun i => cell_of_row w3 _ i _ _ _ HS3.out
    go_quiet (fail)
    simp only [Exit.then]
    go_wp2_with fail
    go_ret
    exact ⟨by rw [HR.out]; rfl, HB3.out, HK3.out.drewN _⟩
  · have HN : Hid (bendN be x h = h + 1) := by unfold Hid bendN; rw [if_neg hlt]
    rw [HN.out] at HR ⊢
    go_enter Try.func80, Try.ntmps80
    go_wp2_with fail
    refine wp_world (fun w1 => w1.heap[b]? = some (.cells #[.int .i64 (h + 1)] 84) ∧ w1.heap[w.heap.size]? = some (.cells #[.int .i64 be, .int .i64 d, .int .i64 jm, .int .i64 t] 28) ∧ w1.cell? ⟨ba, o + k, none⟩ = some (.int .i64 x) ∧ Keeps w w1 b) ?_ ?_
    · refine ⟨(Below.heap_alloc _ _ _ (by simpa [World.setCell] using hbl)).trans (setCell_row HB.out), by simpa [World.setCell] using heap_alloc_new (w.setCell ⟨b, 0, none⟩ (.int .i64 (h + 1))) (.cells #[.int .i64 be, .int .i64 d, .int .i64 jm, .int .i64 t] 28), ?_, Keeps.start hbl _ _⟩
      exact (World.cell?_alloc_past (w := w.setCell ⟨b, 0, none⟩ (.int .i64 (h + 1))) _ ba (o + k) (by simpa [World.setCell] using Nat.lt_trans hba hbl)).trans ((World.cell?_setCell_other w _ _ _ (by intro h; simp only [Addr.mk.injEq] at h; omega)).trans hck)
    rintro w1 ⟨hb1, hs1, hc1, hk1⟩
    have HK1 := Lib.hid hk1
    have HB1 := Lib.hid hb1
    have HS1 := Lib.hid hs1
    have cs := fun i => cell_of_row w1 _ i _ _ _ hs1
    clear hk1 hb1 hs1 cb fb hck
    go_quiet (fail)
    simp only [Exit.then]
    have HB2 : Hid ((w1.drewN nq).heap[b]? = some (.cells #[.int .i64 (h + 1)] 84)) := HB1.out
    have HS2 : Hid ((w1.drewN nq).heap[w.heap.size]? = some (.cells #[.int .i64 be, .int .i64 d, .int .i64 jm, .int .i64 t] 28)) := HS1.out
    have HK2 : Hid (Keeps w (w1.drewN nq) b) := HK1.out.drewN _
    clear HB1 HK1 HS1 cs hc1
    generalize w1.drewN nq = w2 at HB2 HS2 HK2 ⊢
    have cb := cell_of_row w2 _ 0 _ _ _ HB2.out
    have fb := frozen_of_row w2 _ 0 _ _ HB2.out
    go_wp2_with fail
    have HB3 := HB2
    have HS3 := HS2
    have HK3 := HK2
    clear HB2 HK2 HS2 cb fb
    obtain ⟨w3, rfl⟩ : ∃ w3, w3 = w2 := ⟨_, rfl⟩
    have cb := cell_of_row w3 _ 0 _ _ _ HB3.out
    have cs := fun i => cell_of_row w3 _ i _ _ _ HS3.out
    go_quiet (fail)
    simp only [Exit.then]
    go_wp2_with fail
    go_ret
    exact ⟨by rw [HR.out]; rfl, HB3.out, HK3.out.drewN _⟩

/-- blooming on the first day. -/
theorem blooming_first (be d jm t j : Int) (l : List Int) (hl : l.length = 1) (wv : Value) (b : Nat) (w : World) (hv : IntsIn .i64 b w wv l)
    (hb : w.heap[b]? = some (.cells #[.int .i64 j] 87)) :
    Calls Try.prog 81 #[.pointer (some ⟨b, 0, none⟩), .agg #[.int .i64 be, .int .i64 d, .int .i64 jm, .int .i64 t], wv] w
      fun e w' => e = .returned (.bool false) ∧ w'.heap[b]? = some (.cells #[.int .i64 j] 87) ∧ Keeps w w' b := by
  obtain ⟨a, c, rfl, hll, hlc⟩ := hv
  rw [hl] at hll hlc
  obtain ⟨ba, o, rfl, hba, hc⟩ := hlc.resolve_left (by rw [← List.length_eq_zero_iff]; omega)
  clear hc hlc
  rw [hl]
  clear hl
  have HB := Lib.hid hb
  have hbl := block_lt hb
  clear hb
  go_enter Try.func81, Try.ntmps81
  go_wp2_with fail
  go_quiet (fail)
  simp only [Exit.then]
  go_wp2_with fail
  go_ret
  exact ⟨rfl, (Below.heap_alloc _ _ _ hbl).trans HB.out, (Keeps.refl w b).below ((Below.refl _ _).alloc (Nat.le_refl _) _) |>.drewN _⟩
theorem cell_lt {w : World} {b o : Nat} {v : Value} (h : w.cell? ⟨b, o, none⟩ = some v) : b < w.heap.size := by
  by_cases hlt : b < w.heap.size
  · exact hlt
  · simp [World.cell?, hlt] at h
/-- blooming on a later day. -/
theorem blooming_later (be d jm t j : Int) (l : List Int) (k : Nat) (hl : l.length = k + 2) (y x : Int) (hy : l.getD k 0 = y) (hx : l.getD (k + 1) 0 = x) (wv : Value) (b : Nat) (w : World) (hv : IntsIn .i64 b w wv l)
    (hb : w.heap[b]? = some (.cells #[.int .i64 j] 87)) (h0 : 0 ≤ j) (h1 : j ≤ 1000) (hy0 : 0 ≤ y ∧ y ≤ 60) (hx0 : 0 ≤ x ∧ x ≤ 60) (q : Bool) (hq : jumpB jm y x = q) (r : Bool) (hr : (j + 1 == t) = r) :
    Calls Try.prog 81 #[.pointer (some ⟨b, 0, none⟩), .agg #[.int .i64 be, .int .i64 d, .int .i64 jm, .int .i64 t], wv] w
      fun e w' => e = .returned (.bool (q && r)) ∧ w'.heap[b]? = some (.cells #[.int .i64 (if q then j + 1 else j)] 87) ∧ Keeps w w' b := by
  obtain ⟨a, c, rfl, hll, hlc⟩ := hv
  rw [hl] at hll hlc
  obtain ⟨ba, o, rfl, hba, hc⟩ := hlc.resolve_left (by rw [← List.length_eq_zero_iff]; omega)
  have hck := hc k (by omega)
  have hck1 := hc (k + 1) (by omega)
  rw [hy] at hck
  rw [hx] at hck1
  clear hc hlc hx hy
  rw [hl]
  clear hl
  have HB := Lib.hid hb
  have hbl := block_lt hb
  clear hb
  have HR := Lib.hid hr
  clear hr
  have HQ := Lib.hid hq
  clear hq
  have hbb : ba < w.heap.size := by omega
  have hd : decide (((k + 2 : Nat) : Int) - 1 = 0) = false := by simp; omega
  cases q
  · go_enter Try.func81, Try.ntmps81
    go_wp2_with fail
    refine wp_region_inv0 (by kernel_rfl) (by kernel_rfl) (fun _ w' => w'.heap[b]? = some (.cells #[.int .i64 j] 87) ∧ w'.heap[w.heap.size]? = some (.cells #[.int .i64 be, .int .i64 d, .int .i64 jm, .int .i64 t] 28) ∧ w'.cell? ⟨ba, o + k, none⟩ = some (.int .i64 y) ∧ w'.cell? ⟨ba, o + (k + 1), none⟩ = some (.int .i64 x) ∧ Keeps w w' b) ?_ ?_
    · exact ⟨(Below.heap_alloc _ _ _ hbl).trans HB.out, heap_alloc_new _ _, (World.cell?_alloc_past (w := w) _ ba _ hbb).trans hck, (World.cell?_alloc_past (w := w) _ ba _ hbb).trans hck1, ((Keeps.refl w b).below ((Below.refl _ _).alloc (Nat.le_refl _) _)).drew⟩
    iterate 13
        (apply obl_det
         case hrun =>
           intro D y wz hW hD R hR
           have HRR := Lib.hid hR
           clear hR hD
           have HW := Lib.hid hW
           have cs := fun i => cell_of_row wz _ i _ _ _ hW.2.1
           have ck := hW.2.2.1
           have ck1 := hW.2.2.2.1
           clear hW
           go_wp2
           exact HRR.out _ HW.out
         case hnp => rfl
         case hv => first | exact ⟨_, fun _ => rfl⟩ | exact ⟨undef, fun _ => rfl⟩)
    apply obl_det
    case hrun =>
      intro D y' wz hW hD R hR
      have HRR := Lib.hid hR
      clear hR hD
      have HW := Lib.hid hW
      clear hW
      go_wp2_with (go_at_call 46; refine (jump_r false be d jm t y x HQ.out _ hy0.1 hy0.2 hx0.1 hx0.2).mono ?_; rintro e w' ⟨rfl, hbw⟩)
      exact HRR.out _ ⟨block_keep HW.out.1 hbw, block_keep HW.out.2.1 hbw, (hbw.cell (p := ⟨ba, o + k, none⟩) (cell_lt HW.out.2.2.1)).trans HW.out.2.2.1, (hbw.cell (p := ⟨ba, o + (k + 1), none⟩) (cell_lt HW.out.2.2.1)).trans HW.out.2.2.2.1, HW.out.2.2.2.2.below hbw⟩
    case hnp => rfl
    case hv => first | exact ⟨_, fun _ => rfl⟩ | exact ⟨undef, fun _ => rfl⟩
    iterate 2
        (apply obl_det
         case hrun =>
           intro D y wz hW hD R hR
           have HRR := Lib.hid hR
           clear hR hD
           have HW := Lib.hid hW
           have cs := fun i => cell_of_row wz _ i _ _ _ hW.2.1
           have ck := hW.2.2.1
           have ck1 := hW.2.2.2.1
           clear hW
           go_wp2
           exact HRR.out _ HW.out
         case hnp => rfl
         case hv => first | exact ⟨_, fun _ => rfl⟩ | exact ⟨undef, fun _ => rfl⟩)
    apply obl_nil
    intro D y' w8 hall hW
    have HW8 := Lib.hid hW
    clear hW hall
    simp only [Exit.then]
    go_wp2_with fail
    go_ret
    exact ⟨rfl, HW8.out.1, HW8.out.2.2.2.2⟩
  · go_enter Try.func81, Try.ntmps81
    go_wp2_with fail
    refine wp_region_inv0 (by kernel_rfl) (by kernel_rfl) (fun _ w' => w'.heap[b]? = some (.cells #[.int .i64 j] 87) ∧ w'.heap[w.heap.size]? = some (.cells #[.int .i64 be, .int .i64 d, .int .i64 jm, .int .i64 t] 28) ∧ w'.cell? ⟨ba, o + k, none⟩ = some (.int .i64 y) ∧ w'.cell? ⟨ba, o + (k + 1), none⟩ = some (.int .i64 x) ∧ Keeps w w' b) ?_ ?_
    · exact ⟨(Below.heap_alloc _ _ _ hbl).trans HB.out, heap_alloc_new _ _, (World.cell?_alloc_past (w := w) _ ba _ hbb).trans hck, (World.cell?_alloc_past (w := w) _ ba _ hbb).trans hck1, ((Keeps.refl w b).below ((Below.refl _ _).alloc (Nat.le_refl _) _)).drew⟩
    iterate 13
        (apply obl_det
         case hrun =>
           intro D y wz hW hD R hR
           have HRR := Lib.hid hR
           clear hR hD
           have HW := Lib.hid hW
           have cs := fun i => cell_of_row wz _ i _ _ _ hW.2.1
           have ck := hW.2.2.1
           have ck1 := hW.2.2.2.1
           clear hW
           go_wp2
           exact HRR.out _ HW.out
         case hnp => rfl
         case hv => first | exact ⟨_, fun _ => rfl⟩ | exact ⟨undef, fun _ => rfl⟩)
    apply obl_det
    case hrun =>
      intro D y' wz hW hD R hR
      have HRR := Lib.hid hR
      clear hR hD
      have HW := Lib.hid hW
      clear hW
      go_wp2_with (go_at_call 46; refine (jump_r true be d jm t y x HQ.out _ hy0.1 hy0.2 hx0.1 hx0.2).mono ?_; rintro e w' ⟨rfl, hbw⟩)
      exact HRR.out _ ⟨block_keep HW.out.1 hbw, block_keep HW.out.2.1 hbw, (hbw.cell (p := ⟨ba, o + k, none⟩) (cell_lt HW.out.2.2.1)).trans HW.out.2.2.1, (hbw.cell (p := ⟨ba, o + (k + 1), none⟩) (cell_lt HW.out.2.2.1)).trans HW.out.2.2.2.1, HW.out.2.2.2.2.below hbw⟩
    case hnp => rfl
    case hv => first | exact ⟨_, fun _ => rfl⟩ | exact ⟨undef, fun _ => rfl⟩
    iterate 2
        (apply obl_det
         case hrun =>
           intro D y wz hW hD R hR
           have HRR := Lib.hid hR
           clear hR hD
           have HW := Lib.hid hW
           have cs := fun i => cell_of_row wz _ i _ _ _ hW.2.1
           have ck := hW.2.2.1
           have ck1 := hW.2.2.2.1
           clear hW
           go_wp2
           exact HRR.out _ HW.out
         case hnp => rfl
         case hv => first | exact ⟨_, fun _ => rfl⟩ | exact ⟨undef, fun _ => rfl⟩)
    apply obl_nil
    intro D y' w8 hall hW
    have HW8 := Lib.hid hW
    clear hW hall
    simp only [Exit.then]
    have cb := cell_of_row w8 _ 0 _ _ _ HW8.out.1
    have fb := frozen_of_row w8 _ 0 _ _ HW8.out.1
    go_wp2_with fail
    have HB3 := Lib.hid (setCell_row (u := .int .i64 (j + 1)) HW8.out.1)
    have HS3 : Hid ((w8.setCell ⟨b, 0, none⟩ (.int .i64 (j + 1))).heap[w.heap.size]? = some (.cells #[.int .i64 be, .int .i64 d, .int .i64 jm, .int .i64 t] 28)) := (heap_setCell_other _ _ _ _ (show w.heap.size ≠ b by omega)).trans HW8.out.2.1
    have HK3 := Lib.hid (HW8.out.2.2.2.2.setCell 0 (.int .i64 (j + 1)))
    clear HW8 cb fb
    generalize w8.setCell ⟨b, 0, none⟩ (.int .i64 (j + 1)) = w3 at HB3 HS3 HK3 ⊢
    have cb := cell_of_row w3 _ 0 _ _ _ HB3.out
    have cs := fun i => cell_of_row w3 _ i _ _ _ HS3.out
    go_quiet (fail)
    simp only [Exit.then]
    go_wp2_with fail
    go_ret
    exact ⟨by rw [HR.out]; rfl, HB3.out, HK3.out.drewN _⟩
end Go.Proofs.Ytddapabmfecidaa
