/- sort.Search with Pale's test; what Pale's closure finds. -/
import Derived.Test.YtaigbhhmmdfdcaaW20
import Derived.Test.YtaigbhhmmdfdcaaP4
namespace Go.Proofs.Ytaigbhhmmdfdcaa
open Go.RowKit
theorem paleB_mono {fade micro wt shows : Int} (h : PaleOk fade micro wt shows) {i j : Nat} (hij : i ≤ j) (hi : paleB fade micro wt shows i = true) : paleB fade micro wt shows j = true := by
  unfold paleB at *
  have h1 := of_decide_eq_true hi
  refine decide_eq_true (Int.lt_of_le_of_lt ?_ h1)
  refine Int.mul_le_mul_of_nonneg_left ?_ h.m0
  have := Int.mul_le_mul_of_nonneg_left (show (i : Int) ≤ j by omega) h.f0
  omega
theorem paleB_late {fade micro wt shows : Int} (h : PaleOk fade micro wt shows) {i : Nat} (hi : 1000 ≤ i) : paleB fade micro wt shows i = paleB fade micro wt shows (1000 : Nat) := by
  have e : max 0 (1000 - fade * (i : Int)) = max 0 (1000 - fade * ((1000 : Nat) : Int)) := by
    by_cases hf : fade = 0
    · subst hf; rw [Int.zero_mul, Int.zero_mul]
    · have h1 := Int.mul_le_mul_of_nonneg_left (show (1000 : Int) ≤ (i : Int) by omega) h.f0
      have h0 := h.f0
      have h2 : (1000 : Int) ≤ fade * 1000 := by omega
      rw [show ((1000 : Nat) : Int) = 1000 from rfl]
      omega
  unfold paleB
  rw [e]
theorem low_next {fade micro wt shows : Int} (h : PaleOk fade micro wt shows) {m : Nat} (h1 : paleB fade micro wt shows m = false) : ∀ x : Nat, x < m + 1 → paleB fade micro wt shows x = false := by
  intro x hx
  cases hq : paleB fade micro wt shows x with
  | false => rfl
  | true =>
    have := paleB_mono h (show x ≤ m by omega) hq
    rw [h1] at this
    cases this
/-- The day that Search finds. -/
theorem pale_found {fade micro wt shows : Int} (h : PaleOk fade micro wt shows) {r : Nat} (hr : r ≤ 40001) (h0 : ∀ x : Nat, x < r → paleB fade micro wt shows x = false) (h1 : ∀ x : Nat, r ≤ x → x < 40001 → paleB fade micro wt shows x = true) : paleV fade micro wt shows = r := by
  unfold paleV
  by_cases hr2 : r < 1001
  · have := firstOf_some (f := fun d => paleB fade micro wt shows (d : Int)) (firstOf_none.2 h0) (h1 r (Nat.le_refl _) (by omega)) hr2
    rw [this]
  · have hn := firstOf_none (f := fun d => paleB fade micro wt shows (d : Int)) (n := 1001) |>.2 (fun x hx => h0 x (by omega))
    rw [hn]
    have h2 := h0 1000 (by omega)
    by_cases hr3 : r < 40001
    · have h3 := h1 r (Nat.le_refl _) hr3
      rw [paleB_late h (by omega), h2] at h3
      cases h3
    · have : r = 40001 := by omega
      subst this
      rfl
set_option maxRecDepth 100000 in
set_option maxHeartbeats 4000000 in
theorem search_any (b1 b2 b3 b4 gk : Nat) (nm : ByteArray) (kd lm wk fade micro wt shows : Int) (ho : PaleOk fade micro wt shows) (w : World) (h : PaleAt w b1 b2 b3 b4 gk nm kd lm wk fade micro wt shows) :
    Calls Try.prog 77 #[.int .i64 40001, .func (.func 78) #[] #[.pointer (some ⟨b1, 0, none⟩), .pointer (some ⟨b2, 0, none⟩), .pointer (some ⟨b3, 0, none⟩), .pointer (some ⟨b4, 0, none⟩)]] w
      fun e w' => e = .returned (.int .i64 (paleV fade micro wt shows)) ∧ Below w.heap.size w w' := by
  have HP := Lib.hid h
  have HO := Lib.hid ho
  clear h ho
  go_enter Try.func77, Try.ntmps77
  go_wp2_with fail
  go_loopw [5, 6] (fun iv jv wr => ∃ i j : Nat, iv = .int .i64 i ∧ jv = .int .i64 j ∧ i ≤ j ∧ j ≤ 40001 ∧ Below w.heap.size w wr ∧ (∀ x : Nat, x < i → paleB fade micro wt shows x = false) ∧ (∀ x : Nat, j ≤ x → x < 40001 → paleB fade micro wt shows x = true)) (fun iv jv _ => (intOf jv).toNat - (intOf iv).toNat)
  case atStart => exact ⟨0, 40001, rfl, rfl, by omega, by omega, Below.refl _ _, fun x hx => by omega, fun x h1 h2 => by omega⟩
  case round =>
    obtain ⟨i, j, rfl, rfl, hij, hj, hb, hlo, hhi⟩ := hrel
    have HB := Lib.hid hb
    have HLO := Lib.hid hlo
    have HHI := Lib.hid hhi
    clear hb hlo hhi
    by_cases hlt : i < j
    · obtain ⟨m, hm⟩ : ∃ m, m = (i + j) / 2 := ⟨_, rfl⟩
      have hm1 : i ≤ m := by omega
      have hm2 : m < j := by omega
      have hmi : ((i : Int) + j) / 2 = m := by omega
      have HT := Lib.hid (test78 b1 b2 b3 b4 gk nm kd lm wk fade micro wt shows HO.out m (by omega) wr (HP.out.call HB.out))
      obtain ⟨r, hr⟩ : ∃ r, paleB fade micro wt shows m = r := ⟨_, rfl⟩
      rw [hr] at HT
      have HR := Lib.hid hr
      clear hr
      have hd : decide ((i : Int) < (j : Int)) = true := decide_eq_true (by omega)
      have hwm : IntKind.i64.wrap (m : Int) = m := wrap_in (by omega) (by omega)
      go_wp2_with fail
      unfold Oper.wp execOp
      simp [go_sem, hmi, Act.put, Act.eval]
      apply_assumption
      refine wpList_plain rfl fun _ hK => ?_
      unfold Oper.wp execOp
      simp [go_sem, hwm, Act.put, Act.eval]
      refine hK _ _ ?_
      clear hK hm hmi hwm
      go_wp2_with fail
      refine HT.out.mono ?_
      rintro e w' ⟨rfl, hbw⟩
      have HB2 := Lib.hid (HB.out.trans (hbw.mono HB.out.size))
      clear hbw HT
      cases r
      · go_wp2_with fail
        go_roundw
        case rel => exact ⟨m + 1, j, by push_cast; rfl, rfl, by omega, hj, HB2.out, low_next HO.out HR.out, HHI.out⟩
        case measure => simp [intOf]; omega
      · go_wp2_with fail
        go_roundw
        case rel => exact ⟨i, m, rfl, rfl, by omega, by omega, HB2.out, HLO.out, fun x h1 h2 => paleB_mono HO.out h1 HR.out⟩
        case measure => simp [intOf]; omega
    · obtain rfl : i = j := by omega
      have HV := Lib.hid (pale_found HO.out hj HLO.out HHI.out)
      go_wp2_with fail
      go_ret
      exact ⟨ret_int HV.out.symm, HB.out⟩
end Go.Proofs.Ytaigbhhmmdfdcaa
