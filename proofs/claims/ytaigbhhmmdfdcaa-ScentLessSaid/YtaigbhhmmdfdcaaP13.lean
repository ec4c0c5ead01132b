/- What is left of a wick, and when a dye is pale, in any truth. -/
import Derived.Test.YtaigbhhmmdfdcaaP10
import Derived.Test.YtaigbhhmmdfdcaaY12
import Derived.Test.YtaigbhhmmdfdcaaY15
namespace Go.Proofs.Ytaigbhhmmdfdcaa
theorem paleV_spec {fade micro wt shows : Int} (h : PaleOk fade micro wt shows) : ∃ r : Nat, paleV fade micro wt shows = r ∧ r ≤ 40001 ∧ ∀ d : Nat, d ≤ 40000 → (paleB fade micro wt shows d = true ↔ r ≤ d) := by
  unfold paleV
  cases hf : firstOf (fun d => paleB fade micro wt shows (d : Int)) 1001 with
  | none =>
    have h0 := firstOf_none.1 hf
    refine ⟨40001, rfl, Nat.le_refl _, fun d hd => ⟨fun hp => ?_, fun hp => by omega⟩⟩
    by_cases h1 : d < 1001
    · have := h0 d h1
      rw [hp] at this
      cases this
    · rw [paleB_late h (by omega)] at hp
      have := h0 1000 (by omega)
      rw [hp] at this
      cases this
  | some r =>
    obtain ⟨h1, h2, h3⟩ := firstOf_spec hf
    refine ⟨r, rfl, by omega, fun d hd => ⟨fun hp => ?_, fun hp => paleB_mono h hp h2⟩⟩
    refine Nat.not_lt.1 fun hlt => ?_
    have := h3 d hlt
    rw [hp] at this
    cases this
theorem paleB_less {fade m1 m2 wt shows d : Int} (h : m1 ≤ m2) (hp : paleB fade m2 wt shows d = true) : paleB fade m1 wt shows d = true := by
  unfold paleB at *
  have h1 := of_decide_eq_true hp
  exact decide_eq_true (Int.lt_of_le_of_lt (Int.mul_le_mul_of_nonneg_right h (by omega)) h1)
/-- What the law says of the days. -/
theorem pale_days {fade m1 m m2 wt shows : Int} (h1 : PaleOk fade m1 wt shows) (h2 : PaleOk fade m2 wt shows) (ha : m1 ≤ m) (hb : m ≤ m2) (d : Nat) (hd : d ≤ 40000) :
    0 ≤ paleV fade m1 wt shows ∧ paleV fade m1 wt shows ≤ paleV fade m2 wt shows ∧ paleV fade m2 wt shows ≤ 40001 ∧
    (paleB fade m wt shows d = true → paleV fade m1 wt shows ≤ d) ∧ (paleB fade m wt shows d = false → (d : Int) < paleV fade m2 wt shows) := by
  obtain ⟨r1, e1, k1, q1⟩ := paleV_spec h1
  obtain ⟨r2, e2, k2, q2⟩ := paleV_spec h2
  rw [e1, e2]
  refine ⟨by omega, ?_, by omega, fun hp => ?_, fun hp => ?_⟩
  · by_cases hr : r2 ≤ 40000
    · have := (q1 r2 hr).1 (paleB_less (Int.le_trans ha hb) ((q2 r2 hr).2 (Nat.le_refl _)))
      omega
    · omega
  · have := (q1 d hd).1 (paleB_less ha hp)
    omega
  · refine Int.not_le.1 fun hle => ?_
    have := paleB_less hb ((q2 d hd).2 (by omega))
    rw [hp] at this
    cases this
theorem weakS_le {s : Shop} (hs : ShopOk s) {f g : Nat → Int} {n : Nat} (hn : n ≤ s.things.length) (h : ∀ t, t < n → f t ≤ g t) : weakS s f n ≤ weakS s g n :=
  dot_le fun i hi => Int.mul_le_mul_of_nonneg_left (h i hi) (hs.weak i (by omega)).1
/-- What the law says of what a wick has left. -/
theorem left_wick {w lo m hi : Int} (hw : 0 < w) (h0 : 0 ≤ lo) (h1 : lo ≤ m) (h2 : m ≤ hi) :
    0 ≤ max 0 (1000 * (1000 * w) - hi) / (1000 * w) ∧ (max 0 (1000 * (1000 * w) - lo) + 1000 * w - 1) / (1000 * w) ≤ 1000 ∧
    1000 * w * (max 0 (1000 * (1000 * w) - hi) / (1000 * w)) ≤ max 0 (1000000 * w - m) ∧
    max 0 (1000000 * w - m) ≤ 1000 * w * ((max 0 (1000 * (1000 * w) - lo) + 1000 * w - 1) / (1000 * w)) := by
  have hq : 0 < 1000 * w := by omega
  refine ⟨Int.ediv_nonneg (by omega) (by omega), ?_, ?_, ?_⟩
  · have : (max 0 (1000 * (1000 * w) - lo) + 1000 * w - 1) / (1000 * w) < 1001 := Int.ediv_lt_of_lt_mul hq (by omega)
    omega
  · have := Int.mul_ediv_self_le (x := max 0 (1000 * (1000 * w) - hi)) (k := 1000 * w) (by omega)
    omega
  · have := Int.lt_mul_ediv_self_add (x := max 0 (1000 * (1000 * w) - lo) + 1000 * w - 1) (k := 1000 * w) hq
    omega
theorem pull_get {s : Shop} {l : List Bat} (hz : batchesE s l = 0) {k : Nat} (hk : k < l.length) : (pullV s l).getD k (0, 0) = pullOf s (l.getD k default) ((rangesV s l).getD k []) := by
  unfold pullV
  rw [if_neg (by simp [hz]), mapr_get _ _ _ hk]
theorem pull_len {s : Shop} {l : List Bat} (hz : batchesE s l = 0) : (pullV s l).length = l.length := by
  unfold pullV
  rw [if_neg (by simp [hz])]
  simp
theorem pull_bad {s : Shop} {l : List Bat} (h : batchesE s l ≠ 0) : pullV s l = [] := by unfold pullV; rw [if_pos h]
/-- What the law on light needs of what is left. -/
theorem light_left {s : Shop} {l : List Bat} (hz : batchesE s l = 0) {k : Nat} (hk : k < l.length) {M : List Int} (hl : M.length = s.things.length) (hM : ∀ t, t < s.things.length → (micV s l k t).1 ≤ M.getD t 0 ∧ M.getD t 0 ≤ (micV s l k t).2) :
    (∀ t, t < M.length → 0 ≤ M.getD t 0 ∧ M.getD t 0 ≤ 2000000000000) ∧ (0 < weightV (l.getD k default) ∧ weightV (l.getD k default) ≤ 1200000) ∧
    (0 ≤ weakS s (fun t => M.getD t 0) M.length ∧ weakS s (fun t => M.getD t 0) M.length ≤ 1000000000000000) ∧
    0 ≤ ((pullV s l).getD k (0, 0)).1 ∧ ((pullV s l).getD k (0, 0)).2 ≤ 1000 ∧
    1000 * weightV (l.getD k default) * ((pullV s l).getD k (0, 0)).1 ≤ max 0 (1000000 * weightV (l.getD k default) - weakS s (fun t => M.getD t 0) M.length) ∧
    max 0 (1000000 * weightV (l.getD k default) - weakS s (fun t => M.getD t 0) M.length) ≤ 1000 * weightV (l.getD k default) * ((pullV s l).getD k (0, 0)).2 := by
  have hg := all_good hz
  have hw := hg.pre.pos hg.sh hg.n6 (Nat.le_refl _) hk
  have hmb : ∀ t, t < M.length → 0 ≤ M.getD t 0 ∧ M.getD t 0 ≤ 2000000000000 := fun t ht => by
    have h1 := hM t (by omega)
    have h2 := mic_ok hg.sh hg.n6 (k := k) (fun j hj => hg.pre j (by omega)) hk t
    omega
  refine ⟨hmb, hw, weakS_bound hg.sh _ (by omega) hmb, ?_⟩
  rw [pull_get hz hk]
  unfold pullOf
  rw [hl]
  refine left_wick hw.1 (weakS_bound hg.sh _ (Nat.le_refl _) fun t ht => ?_).1 (weakS_le hg.sh (Nat.le_refl _) fun t ht => (hM t ht).1) (weakS_le hg.sh (Nat.le_refl _) fun t ht => (hM t ht).2)
  have h2 := mic_ok hg.sh hg.n6 (k := k) (fun j hj => hg.pre j (by omega)) hk t
  unfold micV at h2
  omega
/-- What Pale returns, of valid arguments. -/
theorem pale_val {s : Shop} {l : List Bat} (hz : batchesE s l = 0) {d : Nat} (hd : d < s.things.length) {shows : Int} (hs : 0 ≤ shows ∧ shows ≤ 1000000) :
    ((s.things.getD d default).kind ≠ 1 → paleVV s l d shows = (0, 0, 2)) ∧
    ((s.things.getD d default).kind = 1 → paleVV s l d shows = (paleV (s.things.getD d default).fade (micV s l (l.length - 1) d).1 (weightV (l.getD (l.length - 1) default)) shows, paleV (s.things.getD d default).fade (micV s l (l.length - 1) d).2 (weightV (l.getD (l.length - 1) default)) shows, 0)) := by
  have h1 : outOne 0 ((s.things.length : Int) - 1) (d : Int) = false := outOne_false.2 (by omega)
  have h2 : outOne 0 1000000 shows = false := outOne_false.2 hs
  constructor
  · intro hk
    have e : paleE s l d shows = 2 := by
      unfold paleE
      rw [if_neg (by simp [hz]), h1, Int.toNat_natCast, if_neg (by simp), if_pos hk]
    rw [paleVV_bad (by rw [e]; decide), e]
  · intro hk
    have e : paleE s l d shows = 0 := by
      unfold paleE
      rw [if_neg (by simp [hz]), h1, Int.toNat_natCast, if_neg (by simp), if_neg (fun h => h hk), h2]
      rfl
    rw [paleVV_good e, Int.toNat_natCast]
end Go.Proofs.Ytaigbhhmmdfdcaa
