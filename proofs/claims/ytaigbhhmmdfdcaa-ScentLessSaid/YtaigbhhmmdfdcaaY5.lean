/- stearinref07.Batches. -/
import Derived.Test.YtaigbhhmmdfdcaaY4
namespace Go.Proofs.Ytaigbhhmmdfdcaa
open Go.RowKit
theorem batchEs_at (s : Shop) (l : List Bat) {k : Nat} (hk : k < l.length) : (batchEs s l).getD k 0 = batchE s l k := by simp [batchEs, List.getD, hk]
theorem findE_prefix (es : List Int) : ∀ (k : Nat) (_ : k < es.length) (_ : ∀ j, j < k → es.getD j 0 = 0) (_ : es.getD k 0 ≠ 0) (i : Int), (findE es i).2 = es.getD k 0 := by
  intro k
  induction k generalizing es with
  | zero =>
    intro hk _ hne i
    cases es with
    | nil => simp at hk
    | cons e es =>
      have : e ≠ 0 := by simpa using hne
      simp [findE, this]
  | succ k ih =>
    intro hk h0 hne i
    cases es with
    | nil => simp at hk
    | cons e es =>
      have : e = 0 := by simpa using h0 0 (by omega)
      subst this
      simp only [findE, if_true]
      have := ih es (by simpa using hk) (fun j hj => by simpa using h0 (j + 1) (by omega)) (by simpa using hne) (i + 1)
      rw [this]; simp
theorem batches_first {s : Shop} {l : List Bat} {k : Nat} (hk : k < l.length) (hp : Prefix s l k) (h : batchE s l k ≠ 0) : (findE (batchEs s l) 0).2 = batchE s l k := by
  have := findE_prefix (batchEs s l) k (by simpa [batchEs] using hk) (fun j hj => by rw [batchEs_at s l (by omega)]; exact hp j hj) (by rw [batchEs_at s l hk]; exact h) 0
  rw [this, batchEs_at s l hk]
theorem batches_none {s : Shop} {l : List Bat} (hp : Prefix s l l.length) : (findE (batchEs s l) 0).2 = 0 := map_range_zero.2 hp
set_option maxRecDepth 100000 in
set_option maxHeartbeats 8000000 in
/-- Batches -/
theorem batches_ref (s : Shop) (l : List Bat) (vt vl v : Value) (w : World) (hv : ShopAt w.heap.size w vt vl s) (hl' : BatsIn w.heap.size w v l) :
    Calls Try.prog 39 #[.agg #[vt, vl], v] w fun e w' => e = .returned (.int .i64 (batchesE s l)) ∧ Below w.heap.size w w' := by
  have HS := Lib.hid hv
  have HL := Lib.hid hl'
  obtain ⟨ta, tc, rfl, -, htl⟩ := sl_shape hv.1
  obtain ⟨la, lc, rfl, -, hll⟩ := sl_shape hv.2
  obtain ⟨a, c, rfl, hc, hlen⟩ := sl_shape hl'
  clear hv hl'
  have C0 : Hid (Bs w [(w.heap.size, .cells #[.slice ta s.things.length tc, .slice la s.lots.length lc] 25)] _) := (Bs.nil w).push _ rfl (.cells #[.slice ta s.things.length tc, .slice la s.lots.length lc] 25)
  have HC := fun w h => Lib.hid (check_ref s (.slice ta s.things.length tc) (.slice la s.lots.length lc) w h)
  unfold Ret3 at HC
  have HNL : Hid (checkE s = 0 → s.lots.length ≤ 6) := fun h => (shop_ok h).nl6
  have HE : Hid (batchesE s l = if checkE s ≠ 0 then checkE s else if inB l.length 1 6 = false then 3 else (findE (batchEs s l) 0).2) := by
    unfold Hid batchesE
    rw [inB_out]
    cases outOne 1 6 (l.length : Int) <;> simp
  generalize batchesE s l = E at *
  unfold checkE at HE HNL
  generalize checkV s = Q at *
  obtain ⟨p1, p2, ce⟩ := Q
  simp only at HC HE HNL
  have HF1 : Hid (∀ k, k < l.length → Prefix s l k → batchE s l k ≠ 0 → (findE (batchEs s l) 0).2 = batchE s l k) := fun k hk hp h => batches_first hk hp h
  have HF2 : Hid (∀ k, k = l.length → Prefix s l k → (findE (batchEs s l) 0).2 = 0) := fun k hk hp => by subst hk; exact batches_none hp
  generalize (findE (batchEs s l) 0).2 = F at *
  generalize hn : l.length = n at *
  have HN := Lib.hid hn
  clear hn
  obtain ⟨r, hr⟩ : ∃ r, inB (n : Int) 1 6 = r := ⟨_, rfl⟩
  rw [hr] at HE
  have HR := Lib.hid hr
  have HN6 : Hid (r = true → n ≤ 6) := fun h => by rw [h] at hr; unfold inB at hr; simp at hr; omega
  clear hr
  have hc0 := C0.out.cell 0 rfl 0
  have hc1 := C0.out.cell 0 rfl 1
  go_enter Try.func39, Try.ntmps39
  go_wp2_with fail
  refine ((HC _ ((HS.out.below C0.out.bel).mono C0.out.bel.size)).out).mono ?_
  rintro e w1 ⟨rfl, hb⟩
  have C1 := Lib.hid (C0.out.call hb)
  clear hb C0 hc0 hc1
  by_cases hce : ce = 0
  case neg =>
    have hq : (ce == 0) = false := by simpa using hce
    have HNE := Lib.hid hce
    clear hce
    go_wp2_with fail
    go_loopw [7, 8] (fun ev iv wr => ev = .int .i64 (ce) ∧ iv = .int .i64 0 ∧ w1 = wr) (fun _ _ _ => 0)
    case atStart => exact ⟨rfl, rfl, rfl⟩
    case round =>
      obtain ⟨rfl, rfl, rfl⟩ := hrel
      by_cases hk0 : 0 < n
      · have hk0' : (0 : Int) < (n : Int) := by omega
        go_wp2_with fail
        go_ret
        exact ⟨ret_int (by rw [HE.out, if_pos HNE.out]), C1.out.bel⟩
      · have hk0' : (n : Int) ≤ 0 := by omega
        go_wp2_with fail
        go_ret
        exact ⟨ret_int (by rw [HE.out, if_pos HNE.out]), C1.out.bel⟩
  subst hce
  rw [if_neg (by simp)] at HE
  go_wp2_with fail
  refine (in_r r _ _ _ _ HR.out).mono ?_
  rintro e w' ⟨rfl, rfl⟩
  cases r
  · go_wp2_with fail
    go_loopw [7, 8] (fun ev iv wr => ev = .int .i64 (3) ∧ iv = .int .i64 0 ∧ w1 = wr) (fun _ _ _ => 0)
    case atStart => exact ⟨rfl, rfl, rfl⟩
    case round =>
      obtain ⟨rfl, rfl, rfl⟩ := hrel
      by_cases hk0 : 0 < n
      · have hk0' : (0 : Int) < (n : Int) := by omega
        go_wp2_with fail
        go_ret
        exact ⟨ret_int (by rw [HE.out, if_pos (by simp)]), C1.out.bel⟩
      · have hk0' : (n : Int) ≤ 0 := by omega
        go_wp2_with fail
        go_ret
        exact ⟨ret_int (by rw [HE.out, if_pos (by simp)]), C1.out.bel⟩
  rw [if_neg (by simp)] at HE
  have hn6 := HN6.out rfl
  have hnl6 := HNL.out (by simp)
  have HNL6 := Lib.hid hnl6
  clear hnl6 HN6 HNL
  go_wp2_with fail
  go_loopw [7, 8] (fun ev iv wr => ∃ (k : Nat) (e : Int), ev = .int .i64 e ∧ iv = .int .i64 k ∧ k ≤ n ∧ ((e = 0 ∧ Prefix s l k) ∨ (e ≠ 0 ∧ F = e)) ∧ Below w1.heap.size w1 wr) (fun _ iv _ => n - (intOf iv).toNat)
  case atStart => exact ⟨0, 0, rfl, rfl, by omega, .inl ⟨rfl, fun j hj => by omega⟩, Below.refl _ _⟩
  case round =>
    obtain ⟨k, e, rfl, rfl, hk, hor, hb⟩ := hrel
    have HB := Lib.hid hb
    clear hb
    rcases hor with ⟨rfl, hp⟩ | ⟨hne, hF⟩
    · have HP := Lib.hid hp
      clear hp
      by_cases hkn : k < n
      · have C2 := Lib.hid (C1.out.call HB.out)
        have hc0 := C2.out.cell 0 rfl 0
        have hc1 := C2.out.cell 0 rfl 1
        have HX := Lib.hid (one_ref s l k (.slice ta s.things.length tc) (.slice la s.lots.length lc) (.slice a n c) wr ((HS.out.below C2.out.bel).mono C2.out.bel.size) ((HL.out.below C2.out.bel).mono C2.out.bel.size) (by rw [HN.out]; exact hkn) (by rw [HN.out]; exact hn6) HNL6.out HP.out)
        have HF1 := Lib.hid (HF1.out k hkn HP.out)
        have HPS : Hid (batchE s l k = 0 → Prefix s l (k + 1)) := fun h j hj => by
          by_cases hjk : j = k
          · subst hjk; exact h
          · exact HP.out j (by omega)
        generalize batchE s l k = BE at *
        go_wp2_with fail
        refine HX.out.mono ?_
        rintro e w2 ⟨rfl, hb⟩
        have HB2 := Lib.hid (HB.out.trans (hb.mono HB.out.size))
        clear hb hc0 hc1
        go_wp2_with fail
        refine ⟨⟨k + 1, BE, rfl, by push_cast; rfl, by omega, ?_, HB2.out⟩, ?_⟩
        · by_cases h : BE = 0
          · exact .inl ⟨h, HPS.out h⟩
          · exact .inr ⟨h, HF1.out h⟩
        · simp [intOf]; omega
      · obtain rfl : k = n := by omega
        have HZ := Lib.hid (HF2.out k rfl HP.out)
        go_wp2_with fail
        go_ret
        exact ⟨ret_int (by rw [HE.out, HZ.out]), C1.out.bel.trans (HB.out.mono C1.out.bel.size)⟩
    · have hq : (e == 0) = false := by simpa using hne
      have HEF := Lib.hid hF
      clear hF hne
      by_cases hkn : k < n
      · go_wp2_with fail
        go_ret
        exact ⟨ret_int (by rw [HE.out, HEF.out]), C1.out.bel.trans (HB.out.mono C1.out.bel.size)⟩
      · go_wp2_with fail
        go_ret
        exact ⟨ret_int (by rw [HE.out, HEF.out]), C1.out.bel.trans (HB.out.mono C1.out.bel.size)⟩
end Go.Proofs.Ytaigbhhmmdfdcaa
