/- The reference's checks of a store and of its days. -/
import Derived.Test.YtddapabmfecidaaW8
import Derived.Deep.QuietTactic
import Derived.BigQuiet
namespace Go.Proofs.Ytddapabmfecidaa
open Go.RowKit

def daysE (l : List Sto) (i : Nat) : Int :=
  if outB 1 8 [((l.getD i default).warm.length : Int)] || ((l.getD i default).warm.length != (l.getD 0 default).warm.length) then 3 else spansE (l.getD i default).warm

theorem inB_out (n lo hi : Int) : inB n lo hi = !outB lo hi [n] := by
  unfold inB outB outOne
  simp only [List.any_cons, List.any_nil, Bool.or_false]
  rw [Bool.eq_iff_iff]
  simp

set_option maxRecDepth 100000 in
set_option maxHeartbeats 4000000 in
/-- stearinref10.days, behind its first test. -/
theorem days_aux (x : List (Int × Int)) (av a0 : Option Addr) (n n0 cv c0 bb ob c len i : Nat) (be d jm t mv : Int) (w : World) (hw : SpansIn w.heap.size w (.slice av n cv) x)
    (hi : i < len) (hi2 : w.cell? ⟨bb, ob + i * 3 + 2, none⟩ = some (.slice av n cv)) (h0 : w.cell? ⟨bb, ob + 2, none⟩ = some (.slice a0 n0 c0)) (hbb : bb < w.heap.size) (hnl : n ≤ 1000000000000000) (hn : x.length = n) :
    Calls Try.prog 63 #[.agg #[.int .i64 be, .int .i64 d, .int .i64 jm, .int .i64 t, .int .i64 mv, .slice (some ⟨bb, ob, none⟩) len c], .int .i64 i] w
      fun e w' => e = .returned (.int .i64 (if outB 1 8 [(n : Int)] || (n != n0) then 3 else spansE x)) ∧ Below w.heap.size w w' := by
  obtain ⟨r2, hr2⟩ : ∃ r, inB (n : Int) 1 8 = r := ⟨_, rfl⟩
  obtain ⟨r3, hr3⟩ : ∃ r, (n != n0) = r := ⟨_, rfl⟩
  have ho : outB 1 8 [(n : Int)] = !r2 := by rw [← hr2, inB_out]; simp
  rw [ho, hr3]
  have HR2 := Lib.hid hr2
  have HR3 := Lib.hid hr3
  have HW := Lib.hid hw
  have HN := Lib.hid hn
  clear hr2 hr3 hw ho hn
  cases r2
  · go_enter Try.func63, Try.ntmps63
    go_wp2_with (go_at_call 44; refine (in_r _ _ _ _ _ HR2.out).mono ?_; rintro e w' ⟨rfl, rfl⟩)
    go_ret
    exact ⟨rfl, (Below.refl _ _).alloc (Nat.le_refl _) _⟩
  · cases r3
    rotate_left
    · have hne := Lib.hid (hne_cast HR3.out)
      go_enter Try.func63, Try.ntmps63
      go_wp2_with (go_at_call 44; refine (in_r _ _ _ _ _ HR2.out).mono ?_; rintro e w' ⟨rfl, rfl⟩; have hne' := hne.out)
      go_ret
      exact ⟨rfl, (Below.refl _ _).alloc (Nat.le_refl _) _⟩
    · have hne := Lib.hid (hne_cast HR3.out)
      go_enter Try.func63, Try.ntmps63
      go_wp2_with (go_at_call 44; refine (in_r _ _ _ _ _ HR2.out).mono ?_; rintro e w' ⟨rfl, rfl⟩; have hne' := hne.out)
      have HB0 := Lib.hid ((Below.refl w.heap.size w).alloc (Nat.le_refl _) (.cells #[.int .i64 be, .int .i64 d, .int .i64 jm, .int .i64 t, .int .i64 mv, .slice (some ⟨bb, ob, none⟩) len c] 31))
      clear hi2 h0 hne' hne
      go_loopw [6] (fun i wr => ∃ k : Nat, k ≤ n ∧ i = .int .i64 k ∧ Below w.heap.size w wr ∧ (findE (x.map spanE) 0).2 = (findE ((x.map spanE).drop k) k).2) (fun i _ => n - (intOf i).toNat)
      case atStart => exact ⟨0, by omega, rfl, HB0.out, rfl⟩
      case round =>
        obtain ⟨k, hk, rfl, hb, hf⟩ := hrel
        have HF := Lib.hid hf
        have HB := Lib.hid hb
        clear hf hb
        by_cases hlt : k < n
        · obtain ⟨b, o, c', hvv, _, hbB, hc1, hc2⟩ := (HW.out.below HB.out).at (i := k) (by rw [HN.out]; exact hlt)
          cases hvv
          have HD : Hid (findE ((x.map spanE).drop k) k = if spanE (x.getD k (0, 0)) = 0 then findE ((x.map spanE).drop (k + 1)) (k + 1) else (k, spanE (x.getD k (0, 0)))) := by
            unfold Hid
            have hl : k < x.length := by rw [HN.out]; exact hlt
            rw [findE_drop _ _ (by simpa using hl)]
            simp [List.getD, hl]
          generalize x.getD k (0, 0) = p at hc1 hc2 HD
          obtain ⟨lo, hi'⟩ := p
          simp only at hc1 hc2
          obtain ⟨q1, hq1⟩ : ∃ q, inB lo 0 60 = q := ⟨_, rfl⟩
          obtain ⟨q2, hq2⟩ : ∃ q, inB hi' 0 60 = q := ⟨_, rfl⟩
          have HS : Hid (spanE (lo, hi') = if !q1 || !q2 then 7 else if hi' < lo then 2 else 0) := by
            unfold Hid spanE; rw [← hq1, ← hq2, inB_out, inB_out]; simp [outB]
          have HQ1 := Lib.hid hq1
          have HQ2 := Lib.hid hq2
          clear hq1 hq2
          cases q1
          · go_wp2_with fail
            refine (in_r _ _ _ _ _ HQ1.out).mono ?_
            rintro e w' ⟨rfl, rfl⟩
            go_wp2_with fail
            go_ret
            exact ⟨ret_int (by unfold spansE; rw [HF.out, HD.out, HS.out]; rfl), HB.out⟩
          · cases q2
            · go_wp2_with fail
              refine (in_r _ _ _ _ _ HQ1.out).mono ?_
              rintro e w' ⟨rfl, rfl⟩
              go_wp2_with fail
              refine (in_r _ _ _ _ _ HQ2.out).mono ?_
              rintro e w' ⟨rfl, rfl⟩
              go_wp2_with fail
              go_ret
              exact ⟨ret_int (by unfold spansE; rw [HF.out, HD.out, HS.out]; rfl), HB.out⟩
            · by_cases hlh : hi' < lo
              · go_wp2_with fail
                refine (in_r _ _ _ _ _ HQ1.out).mono ?_
                rintro e w' ⟨rfl, rfl⟩
                go_wp2_with fail
                refine (in_r _ _ _ _ _ HQ2.out).mono ?_
                rintro e w' ⟨rfl, rfl⟩
                go_wp2_with fail
                go_quiet (fail)
                go_wp2_with fail
                go_ret
                exact ⟨ret_int (by unfold spansE; rw [HF.out, HD.out, HS.out]; simp [hlh]), below_drewN HB.out _⟩
              · go_wp2_with fail
                refine (in_r _ _ _ _ _ HQ1.out).mono ?_
                rintro e w' ⟨rfl, rfl⟩
                go_wp2_with fail
                refine (in_r _ _ _ _ _ HQ2.out).mono ?_
                rintro e w' ⟨rfl, rfl⟩
                go_wp2_with fail
                go_quiet (fail)
                go_wp2_with fail
                go_roundw
                case rel => exact ⟨k + 1, by omega, by go_num, below_drewN HB.out _, by rw [HF.out, HD.out, HS.out]; simp [hlh]⟩
                case measure => simp [intOf]; omega
        · have : k = n := by omega
          subst this
          have HZ : Hid (spansE x = 0) := by unfold Hid spansE; rw [HF.out, List.drop_of_length_le (by simp [HN.out])]; rfl
          go_wp2
          go_ret
          exact ⟨ret_int (by rw [HZ.out]), HB.out⟩

theorem days_any (l : List Sto) (vs : Value) (i : Nat) (be d jm t mv : Int) (w : World) (hv : StosIn w.heap.size w vs l) (hi : i < l.length) :
    Calls Try.prog 63 #[.agg #[.int .i64 be, .int .i64 d, .int .i64 jm, .int .i64 t, .int .i64 mv, vs], .int .i64 i] w fun e w' => e = .returned (.int .i64 (daysE l i)) ∧ Below w.heap.size w w' := by
  obtain ⟨b0, o0, c, rfl, hlc, hbb, _, _, _, vw0, h0, hw0⟩ := hv.at (i := 0) (by omega)
  obtain ⟨b1, o1, c1, he, _, _, _, _, _, vw, h1, hw⟩ := hv.at hi
  cases he
  obtain ⟨a0, c0, rfl, _, _, _⟩ := hw0
  have hw' := hw
  obtain ⟨av, cv, rfl, hnl, _, _⟩ := hw
  exact days_aux _ av a0 _ _ cv c0 b0 o0 c _ i be d jm t mv w hw' hi h1 (by simpa using h0) hbb hnl rfl

theorem drop_any (P : Sto → Bool) (l : List Sto) (i k : Nat) (hi : i ≤ l.length) (hk : k < i) : ((l.take i).drop k).any P = (P (l.getD k default) || ((l.take i).drop (k + 1)).any P) := by
  have h : k < (l.take i).length := by rw [List.length_take]; omega
  rw [List.drop_eq_getElem_cons h, List.any_cons]
  have : l.getD k default = l[k]'(by omega) := by simp [List.getD, show k < l.length by omega]
  rw [this, List.getElem_take]

set_option maxRecDepth 100000 in
set_option maxHeartbeats 4000000 in
/-- stearinref10.store -/
theorem refStore_any (l : List Sto) (vs : Value) (i : Nat) (be d jm t mv : Int) (w : World) (hv : StosIn w.heap.size w vs l) (hi : i < l.length) :
    Calls Try.prog 59 #[.agg #[.int .i64 be, .int .i64 d, .int .i64 jm, .int .i64 t, .int .i64 mv, vs], .int .i64 i] w fun e w' => e = .returned (.int .i64 (stoE l i)) ∧ Below w.heap.size w w' := by
  have HV := Lib.hid hv
  obtain ⟨bb, ob, c, rfl, hlc, hbb, hn1, hn2, hz, -⟩ := hv.at hi
  have hll := hv.len
  obtain ⟨x, hx⟩ : ∃ x, l.getD i default = x := ⟨_, rfl⟩
  rw [hx] at hn1 hn2 hz
  obtain ⟨nb, hn⟩ : ∃ n, nameB x.name = n := ⟨_, rfl⟩
  obtain ⟨r1, hr1⟩ : ∃ r1, inB x.rent 0 100000 = r1 := ⟨_, rfl⟩
  have HE : Hid (stoE l i = if nb then if (l.take i).any (nameIs x.name) then 5 else if !r1 then 7 else daysE l i else 6) := by
    unfold Hid stoE daysE; rw [hx, hn, ← hr1, inB_out, Bool.not_not]
  have HN := Lib.hid hn
  have HR1 := Lib.hid hr1
  have HX := Lib.hid hx
  have HB0 := Lib.hid ((Below.refl w.heap.size w).alloc (Nat.le_refl _) (.cells #[.int .i64 be, .int .i64 d, .int .i64 jm, .int .i64 t, .int .i64 mv, .slice (some ⟨bb, ob, none⟩) l.length c] 31))
  have HS0 := Lib.hid (heap_alloc_new w (.cells #[.int .i64 be, .int .i64 d, .int .i64 jm, .int .i64 t, .int .i64 mv, .slice (some ⟨bb, ob, none⟩) l.length c] 31))
  clear hv hx hn hr1
  cases nb
  · go_enter Try.func59, Try.ntmps59
    go_wp2_with (go_at_call 62; refine (refName_r _ _ _ hz HN.out).mono ?_; rintro e w' ⟨rfl, rfl⟩)
    go_ret
    exact ⟨ret_int HE.out.symm, HB0.out⟩
  · go_enter Try.func59, Try.ntmps59
    go_wp2_with (go_at_call 62; refine (refName_r _ _ _ hz HN.out).mono ?_; rintro e w' ⟨rfl, rfl⟩)
    go_loopw [5] (fun i' wr => ∃ k : Nat, k ≤ i ∧ i' = .int .i64 k ∧ Below w.heap.size w wr ∧ wr.heap[w.heap.size]? = some (.cells #[.int .i64 be, .int .i64 d, .int .i64 jm, .int .i64 t, .int .i64 mv, .slice (some ⟨bb, ob, none⟩) l.length c] 31) ∧ (l.take i).any (nameIs x.name) = ((l.take i).drop k).any (nameIs x.name)) (fun i' _ => i - (intOf i').toNat)
    case atStart => exact ⟨0, by omega, rfl, HB0.out, HS0.out, by simp⟩
    case round =>
      obtain ⟨k, hk, rfl, hb, hrow, hf⟩ := hrel
      have HF := Lib.hid hf
      have HB := Lib.hid hb
      have HROW := Lib.hid hrow
      have cs := fun i => cell_of_row wr _ i _ _ _ hrow
      have hn1' := (hb.cell (p := ⟨bb, _, none⟩) hbb).trans hn1
      have hn2' := (hb.cell (p := ⟨bb, _, none⟩) hbb).trans hn2
      have hsz := hb.size
      clear hf hb hrow
      by_cases hlt : k < i
      · obtain ⟨b', o', c', hvv, _, _, hk1, -⟩ := (HV.out.below HB.out).at (i := k) (by omega)
        cases hvv
        have HD := Lib.hid (drop_any (nameIs x.name) l i k (by omega) hlt)
        generalize l.getD k default = y at hk1 HD
        obtain ⟨r, hr⟩ : ∃ r, nameIs x.name y = r := ⟨_, rfl⟩
        have HR := Lib.hid hr
        have hkl : k < l.length := by omega
        unfold nameIs at hr
        cases r
        · go_wp2_with fail
          go_quiet (fail)
          go_wp2_with fail
          go_roundw
          case rel => exact ⟨k + 1, by omega, by go_num, below_drewN HB.out _, HROW.out, by rw [HF.out, HD.out, HR.out]; simp⟩
          case measure => simp [intOf]; omega
        · go_wp2_with fail
          go_quiet (fail)
          go_wp2_with fail
          go_ret
          exact ⟨ret_int (by rw [HE.out, HF.out, HD.out, HR.out]; rfl), below_drewN HB.out _⟩
      · have : k = i := by omega
        subst this
        have HQ : Hid ((l.take k).any (nameIs x.name) = false) := by unfold Hid; rw [HF.out, List.drop_of_length_le (by rw [List.length_take]; omega)]; rfl
        cases r1
        · go_wp2_with fail
          refine (in_r _ _ _ _ _ HR1.out).mono ?_
          rintro e w' ⟨rfl, rfl⟩
          go_wp2_with fail
          go_ret
          exact ⟨ret_int (by rw [HE.out, HQ.out]; rfl), HB.out⟩
        · go_wp2_with fail
          refine (in_r _ _ _ _ _ HR1.out).mono ?_
          rintro e w' ⟨rfl, rfl⟩
          go_wp2_with fail
          refine (days_any l _ k be d jm t mv _ ((HV.out.below HB.out).mono HB.out.size) hi).mono ?_
          rintro e w' ⟨rfl, hbw⟩
          go_wp2_with fail
          go_ret
          exact ⟨ret_int (by rw [HE.out, HQ.out]; rfl), HB.out.trans (hbw.mono HB.out.size)⟩
end Go.Proofs.Ytddapabmfecidaa
