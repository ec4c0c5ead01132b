/- stearinref07: Taken, one, Batches. -/
import Derived.Test.YtaigbhhmmdfdcaaY3
namespace Go.Proofs.Ytaigbhhmmdfdcaa
open Go.RowKit
theorem takenV_succ (l : List Bat) (i k : Nat) : takenV l i (k + 1) = takenV l i k + (l.getD k default).back.getD i 0 := rfl
set_option maxHeartbeats 4000000 in
/-- Taken -/
theorem taken_ref (l : List Bat) (i many : Nat) (v : Value) (w : World) (hv : BatsIn w.heap.size w v l) (hm : many ≤ l.length) (h6 : many ≤ 6) (hb : ∀ j, j < many → ∀ t, 0 ≤ (l.getD j default).back.getD t 0 ∧ (l.getD j default).back.getD t 0 ≤ 100000) :
    Calls Try.prog 68 #[v, .int .i64 i, .int .i64 many] w fun e w' => e = .returned (.int .i64 (takenV l i many)) ∧ w = w' := by
  have HV := Lib.hid hv
  have HB := Lib.hid hb
  obtain ⟨a, c, rfl, hc, -⟩ := sl_shape hv
  have HK : Hid (∀ k, k ≤ many → 0 ≤ takenV l i k ∧ takenV l i k ≤ 600000) := fun k hk => by
    have := dot_bound (fun k => (l.getD k default).back.getD i 0) 100000 k (fun j hj => hb j (by omega) i)
    unfold takenV
    omega
  clear hv hb
  go_enter Try.func68, Try.ntmps68
  go_wp2_with fail
  go_loopw [7, 8] (fun nv iv wr => ∃ k : Nat, nv = .int .i64 (takenV l i k) ∧ iv = .int .i64 k ∧ k ≤ many ∧ w = wr) (fun _ iv _ => many - (intOf iv).toNat)
  case atStart => exact ⟨0, rfl, rfl, by omega, rfl⟩
  case round =>
    obtain ⟨k, rfl, rfl, hk, rfl⟩ := hrel
    by_cases hlt : k < many
    · obtain ⟨b, o, rfl, hbb, vg, vb, va, hc1, hc2, hc3, -, hbk, -⟩ := HV.out.at' (i := k) (by omega)
      obtain ⟨a2, c2, rfl, hl2, hbk⟩ := hbk
      have hs := HK.out k hk
      have hx := HB.out k hlt i
      have HS := Lib.hid (takenV_succ l i k)
      have hki : (k : Int) < (l.length : Int) := by omega
      have hc2 : w.cell? ⟨b, o + k * 3 + 1, none⟩ = _ := hc2
      clear hc1 hc3
      by_cases hin : i < (l.getD k default).back.length
      · obtain ⟨b2, o2, rfl, -, hcc⟩ := hbk.resolve_left (by intro h; rw [h] at hin; simp at hin)
        have h2 := hcc i hin
        clear hcc
        generalize (l.getD k default).back.getD i 0 = x at *
        generalize (l.getD k default).back.length = n2 at *
        generalize takenV l i k = S at *
        go_wp2_with fail
        refine ⟨⟨k + 1, ?_, by push_cast; rfl, by omega, trivial⟩, ?_⟩
        · rw [HS.out]
        · simp [intOf]; omega
      · have e : (l.getD k default).back.getD i 0 = 0 := by rw [List.getD_eq_getElem?_getD, List.getElem?_eq_none (by omega)]; rfl
        rw [e] at HS
        clear hbk hx
        generalize (l.getD k default).back.length = n2 at *
        generalize takenV l i k = S at *
        go_wp2_with fail
        refine ⟨⟨k + 1, ?_, by push_cast; rfl, by omega, trivial⟩, ?_⟩
        · rw [HS.out]; simp
        · simp [intOf]; omega
    · obtain rfl : many = k := by omega
      go_wp2_with fail
      go_ret
      exact ⟨rfl, rfl⟩
theorem gramsOk_of {l : List Int} (h : outB 0 100000 l = false) (hl : l.length ≤ 6) : GramsOk l := ⟨hl, ints_all (by omega) h⟩
theorem BatOk0.gramsOk {s : Shop} (hs : s.lots.length ≤ 6) {l : List Bat} {k : Nat} (h : BatOk0 s l k) (hk : k ≤ 6) : GramsOk (l.getD k default).grams ∧ GramsOk (l.getD k default).back :=
  ⟨⟨by rw [h.glen]; exact hs, h.gram⟩, ⟨Nat.le_trans h.blen hk, h.back⟩⟩
theorem overB_succ (l : List Bat) (k i : Nat) : overB l k (i + 1) = (overB l k i || decide (weightV (l.getD i default) < takenV l i (k + 1))) := by
  unfold overB; rw [List.range_succ, List.any_append]; simp
theorem batchE_cases (s : Shop) (l : List Bat) (k : Nat) : batchE s l k = if (l.getD k default).grams.length ≠ s.lots.length ∨ k < (l.getD k default).back.length ∨ (l.getD k default).added.length ≠ s.things.length then 3
    else if outB 0 100000 (l.getD k default).grams = true ∨ outB 0 100000 (l.getD k default).back = true then 7
    else if spansE 10000000 (l.getD k default).added ≠ 0 then spansE 10000000 (l.getD k default).added else if weightV (l.getD k default) = 0 then 8 else if overB l k k then 9 else 0 := by
  unfold batchE batchE0
  simp only [Bool.or_eq_true]
  split
  · simp
  · split
    · simp
    · rfl
set_option maxRecDepth 100000 in
set_option maxHeartbeats 16000000 in
/-- one -/
theorem one_ref (s : Shop) (l : List Bat) (k : Nat) (vt vl v : Value) (w : World) (hv : ShopAt w.heap.size w vt vl s) (hl' : BatsIn w.heap.size w v l) (hk : k < l.length) (h6 : l.length ≤ 6) (hn6 : s.lots.length ≤ 6) (hp : Prefix s l k) :
    Calls Try.prog 80 #[.agg #[vt, vl], v, .int .i64 k] w fun e w' => e = .returned (.int .i64 (batchE s l k)) ∧ Below w.heap.size w w' := by
  have HV := Lib.hid hl'
  obtain ⟨ta, tc, rfl, -, htl⟩ := sl_shape hv.1
  obtain ⟨la, lc, rfl, -, hll⟩ := sl_shape hv.2
  obtain ⟨a, c, rfl, hc, -⟩ := sl_shape hl'
  have HP := Lib.hid hp
  have HGO2 : Hid (∀ i, i < k → GramsOk (l.getD i default).grams ∧ GramsOk (l.getD i default).back) := fun i hi => (bat_ok0 (batchE_zero (hp i hi)).1).gramsOk hn6 (by omega)
  have HE := Lib.hid (batchE_cases s l k)
  obtain ⟨b, o, he, hbb, vg, vb, va, hc1, hc2, hc3, hat⟩ := hl'.at' hk
  have hc1 : w.cell? ⟨b, o + k * 3, none⟩ = some vg := hc1
  have hc2 : w.cell? ⟨b, o + k * 3 + 1, none⟩ = some vb := hc2
  have hc3 : w.cell? ⟨b, o + k * 3 + 2, none⟩ = some va := hc3
  cases he
  clear hv hl' hp
  generalize hE : batchE s l k = E at *
  clear hE
  have HAT := Lib.hid hat
  have HW := fun w => Lib.hid (weight_ref (l.getD k default) vg vb va w)
  have HT := fun i w => Lib.hid (taken_ref l i (k + 1) (.slice (some ⟨b, o, none⟩) l.length c) w)
  have HWI := fun i vg vb va w => Lib.hid (weight_ref (l.getD i default) vg vb va w)
  have HG1 := fun r w => Lib.hid (grams_ref r (l.getD k default).grams vg w)
  have HG2 := fun r w => Lib.hid (grams_ref r (l.getD k default).back vb w)
  have HSP := fun w => Lib.hid (spans_ref (l.getD k default).added 10000000 va w)
  have HOS := fun i => Lib.hid (overB_succ l k i)
  have HGO : Hid (outB 0 100000 (l.getD k default).grams = false → outB 0 100000 (l.getD k default).back = false → (l.getD k default).grams.length = s.lots.length → (l.getD k default).back.length ≤ k → GramsOk (l.getD k default).grams ∧ GramsOk (l.getD k default).back) := fun h1 h2 h3 h4 => ⟨gramsOk_of h1 (by omega), gramsOk_of h2 (by omega)⟩
  obtain ⟨a1, c1, rfl, -⟩ := hat.1
  obtain ⟨a2, c2, rfl, -⟩ := hat.2.1
  obtain ⟨a3, c3, rfl, -⟩ := sl_shape hat.2.2
  clear hat
  generalize spansE 10000000 (l.getD k default).added = SE at *
  generalize weightV (l.getD k default) = WT at *
  generalize outB 0 100000 (l.getD k default).grams = r1 at *
  generalize outB 0 100000 (l.getD k default).back = r2 at *
  generalize (l.getD k default).grams.length = ng at *
  generalize (l.getD k default).back.length = nb at *
  generalize (l.getD k default).added.length = na at *
  have C0 : Hid (Bs w [(w.heap.size, .cells #[.slice ta s.things.length tc, .slice la s.lots.length lc] 25), (w.heap.size + 1, .cells #[.slice a1 ng c1, .slice a2 nb c2, .slice a3 na c3] 75)] _) := ((Bs.nil w).push _ rfl (.cells #[.slice ta s.things.length tc, .slice la s.lots.length lc] 25)).push (w.heap.size + 1) (by simp) (.cells #[.slice a1 ng c1, .slice a2 nb c2, .slice a3 na c3] 75)
  generalize s.things.length = nt at *
  generalize s.lots.length = nl at *
  have hki : (k : Int) < (l.length : Int) := by omega
  go_enter Try.func80, Try.ntmps80
  by_cases h1 : ng = nl
  case neg =>
    have q1 : ((ng : Int) != (nl : Int)) = true := by simp; omega
    have HN := Lib.hid h1
    clear h1
    go_wp2_with fail
    go_ret
    exact ⟨ret_int (by rw [HE.out, if_pos (.inl HN.out)]), C0.out.bel⟩
  subst h1
  have q1 : ((ng : Int) != (ng : Int)) = false := by simp
  by_cases h2 : k < nb
  · have HN := Lib.hid h2
    have q2 : (k : Int) < (nb : Int) := by omega
    clear h2
    go_wp2_with fail
    go_ret
    exact ⟨ret_int (by rw [HE.out, if_pos (.inr (.inl HN.out))]), C0.out.bel⟩
  have q2 : (nb : Int) ≤ (k : Int) := by omega
  by_cases h3 : na = nt
  case neg =>
    have q3 : ((na : Int) != (nt : Int)) = true := by simp; omega
    have HN := Lib.hid h3
    clear h3
    go_wp2_with fail
    go_ret
    exact ⟨ret_int (by rw [HE.out, if_pos (.inr (.inr HN.out))]), C0.out.bel⟩
  subst h3
  have q3 : ((na : Int) != (na : Int)) = false := by simp
  rw [if_neg (by simp; omega)] at HE
  have hnb : nb ≤ k := by omega
  have HNB := Lib.hid hnb
  clear h2 hnb
  go_wp2_with fail
  clear q1 q2 q3
  refine ((HSP _).out ((HAT.out.2.2.below C0.out.bel).mono C0.out.bel.size)).mono ?_
  rintro e w1 ⟨rfl, hb⟩
  have C1 := Lib.hid (C0.out.call hb)
  clear hb C0 hc1 hc2 hc3
  have hc0 := C1.out.cell 1 rfl 0
  have hc1 := C1.out.cell 1 rfl 1
  have hc2 := C1.out.cell 1 rfl 2
  go_wp2_with fail
  refine ((HG1 r1 _).out ((HAT.out.1.below C1.out.bel).mono C1.out.bel.size) rfl).mono ?_
  rintro e w' ⟨rfl, rfl⟩
  cases r1
  case true =>
    clear hc2
    go_wp2_with fail
    go_loopw [8, 9] (fun ev iv wr => ev = .int .i64 (7) ∧ iv = .int .i64 0 ∧ w1 = wr) (fun _ _ _ => 0)
    case atStart => exact ⟨rfl, rfl, rfl⟩
    case round =>
      obtain ⟨rfl, rfl, rfl⟩ := hrel
      by_cases hk0 : 0 < k
      · have hk0' : (0 : Int) < (k : Int) := by omega
        go_wp2_with fail
        go_ret
        exact ⟨ret_int (by rw [HE.out, if_pos (by simp)]), C1.out.bel⟩
      · have hk0' : (k : Int) ≤ 0 := by omega
        go_wp2_with fail
        go_ret
        exact ⟨ret_int (by rw [HE.out, if_pos (by simp)]), C1.out.bel⟩
  go_wp2_with fail
  refine ((HG2 r2 _).out ((HAT.out.2.1.below C1.out.bel).mono C1.out.bel.size) rfl).mono ?_
  rintro e w' ⟨rfl, rfl⟩
  cases r2
  case true =>
    clear hc2
    go_wp2_with fail
    go_loopw [8, 9] (fun ev iv wr => ev = .int .i64 (7) ∧ iv = .int .i64 0 ∧ w1 = wr) (fun _ _ _ => 0)
    case atStart => exact ⟨rfl, rfl, rfl⟩
    case round =>
      obtain ⟨rfl, rfl, rfl⟩ := hrel
      by_cases hk0 : 0 < k
      · have hk0' : (0 : Int) < (k : Int) := by omega
        go_wp2_with fail
        go_ret
        exact ⟨ret_int (by rw [HE.out, if_pos (by simp)]), C1.out.bel⟩
      · have hk0' : (k : Int) ≤ 0 := by omega
        go_wp2_with fail
        go_ret
        exact ⟨ret_int (by rw [HE.out, if_pos (by simp)]), C1.out.bel⟩
  rw [if_neg (by simp)] at HE
  have HGK := Lib.hid (HGO.out (by simp) (by simp) (by simp) HNB.out)
  clear HGO HG1 HG2 HSP
  by_cases hse : SE = 0
  case neg =>
    have hq : (SE == 0) = false := by simpa using hse
    have HNE := Lib.hid hse
    clear hse
    go_wp2_with fail
    go_loopw [8, 9] (fun ev iv wr => ev = .int .i64 (SE) ∧ iv = .int .i64 0 ∧ w1 = wr) (fun _ _ _ => 0)
    case atStart => exact ⟨rfl, rfl, rfl⟩
    case round =>
      obtain ⟨rfl, rfl, rfl⟩ := hrel
      by_cases hk0 : 0 < k
      · have hk0' : (0 : Int) < (k : Int) := by omega
        go_wp2_with fail
        go_ret
        exact ⟨ret_int (by rw [HE.out, if_pos HNE.out]), C1.out.bel⟩
      · have hk0' : (k : Int) ≤ 0 := by omega
        go_wp2_with fail
        go_ret
        exact ⟨ret_int (by rw [HE.out, if_pos HNE.out]), C1.out.bel⟩
  subst hse
  rw [if_neg (by simp)] at HE
  go_wp2_with fail
  refine ((HW _).out ((HAT.out.below C1.out.bel).mono C1.out.bel.size) HGK.out.1 HGK.out.2).mono ?_
  rintro e w2 ⟨rfl, hb⟩
  have C2 := Lib.hid (C1.out.call hb)
  clear hb C1 hc0 hc1 hc2
  by_cases hwt : WT = 0
  · subst hwt
    go_wp2_with fail
    go_loopw [8, 9] (fun ev iv wr => ev = .int .i64 (8) ∧ iv = .int .i64 0 ∧ w2 = wr) (fun _ _ _ => 0)
    case atStart => exact ⟨rfl, rfl, rfl⟩
    case round =>
      obtain ⟨rfl, rfl, rfl⟩ := hrel
      by_cases hk0 : 0 < k
      · have hk0' : (0 : Int) < (k : Int) := by omega
        go_wp2_with fail
        go_ret
        exact ⟨ret_int (by rw [HE.out, if_pos (by simp)]), C2.out.bel⟩
      · have hk0' : (k : Int) ≤ 0 := by omega
        go_wp2_with fail
        go_ret
        exact ⟨ret_int (by rw [HE.out, if_pos (by simp)]), C2.out.bel⟩
  have hq : (WT == 0) = false := by simpa using hwt
  rw [if_neg hwt] at HE
  clear hwt
  go_wp2_with fail
  go_loopw [8, 9] (fun ev iv wr => ∃ (i : Nat) (r : Bool), ev = .int .i64 (if r then 9 else 0) ∧ iv = .int .i64 i ∧ i ≤ k ∧ overB l k i = r ∧ (r = true → overB l k k = true) ∧ Below w2.heap.size w2 wr) (fun ev iv _ => (k - (intOf iv).toNat) + (if intOf ev = 0 then 1 else 0))
  case atStart => exact ⟨0, false, rfl, rfl, by omega, rfl, fun h => (by cases h), Below.refl _ _⟩
  case round =>
    obtain ⟨i, r, rfl, rfl, hik, hr, hr2, hb⟩ := hrel
    have HB := Lib.hid hb
    have HR := Lib.hid hr
    have HR2 := Lib.hid hr2
    clear hb hr hr2
    cases r
    case true =>
      simp only [if_true]
      by_cases hk0 : i < k
      · have hk0' : (i : Int) < (k : Int) := by omega
        go_wp2_with fail
        go_ret
        exact ⟨ret_int (by rw [HE.out, if_pos (HR2.out (by simp))]), C2.out.bel.trans (HB.out.mono C2.out.bel.size)⟩
      · have hk0' : (k : Int) ≤ (i : Int) := by omega
        go_wp2_with fail
        go_ret
        exact ⟨ret_int (by rw [HE.out, if_pos (HR2.out (by simp))]), C2.out.bel.trans (HB.out.mono C2.out.bel.size)⟩
    simp only [Bool.false_eq_true, if_false]
    by_cases hk0 : i < k
    · have hk0' : (i : Int) < (k : Int) := by omega
      have hil : i < l.length := by omega
      have hili : (i : Int) < (l.length : Int) := by omega
      obtain ⟨b', o', he, hbb', ug, ub, ua, hd1, hd2, hd3, hat⟩ := HV.out.at' hil
      cases he
      have HAI := Lib.hid hat
      have HGI := Lib.hid (HGO2.out i hk0)
      have HBA : Hid (Below w.heap.size w wr) := C2.out.bel.trans (HB.out.mono C2.out.bel.size)
      have HBK : Hid (∀ j, j < k + 1 → ∀ t, 0 ≤ (l.getD j default).back.getD t 0 ∧ (l.getD j default).back.getD t 0 ≤ 100000) := fun j hj t => by
        by_cases hjk : j < k
        · exact (bat_ok0 (batchE_zero (HP.out j hjk)).1).back t
        · obtain rfl : j = k := by omega
          exact HGK.out.2.at' t
      have hd1 := (HBA.out.cell (p := ⟨b, o + i * 3, none⟩) hbb').trans hd1
      have hd2 := (HBA.out.cell (p := ⟨b, o + i * 3 + 1, none⟩) hbb').trans hd2
      have hd3 := (HBA.out.cell (p := ⟨b, o + i * 3 + 2, none⟩) hbb').trans hd3
      have HD1 := Lib.hid hd1
      have HD2 := Lib.hid hd2
      have HD3 := Lib.hid hd3
      have HBB : Hid (b < wr.heap.size) := Nat.lt_of_lt_of_le hbb' HBA.out.size
      clear hd1 hd2 hd3
      obtain ⟨e1, f1, rfl, -⟩ := hat.1
      obtain ⟨e2, f2, rfl, -⟩ := hat.2.1
      obtain ⟨e3, f3, rfl, -⟩ := sl_shape hat.2.2
      clear hat
      have HOS := Lib.hid (HOS i).out
      rw [HR.out, Bool.false_or] at HOS
      have HWI := fun w => HWI i (.slice e1 (l.getD i default).grams.length f1) (.slice e2 (l.getD i default).back.length f2) (.slice e3 (l.getD i default).added.length f3) w
      have HT := fun w => HT i w
      generalize weightV (l.getD i default) = WI at *
      generalize takenV l i (k + 1) = TI at *
      generalize (l.getD i default).grams.length = m1 at *
      generalize (l.getD i default).back.length = m2 at *
      generalize (l.getD i default).added.length = m3 at *
      go_wp2_with fail
      by_cases hgt : WI < TI
      · have HOT : Hid (overB l k (i + 1) = true) := by unfold Hid; rw [HOS.out]; simpa using hgt
        have HKK : Hid (overB l k k = true) := by
          have h := HOT.out
          unfold Hid
          unfold overB at h ⊢
          rw [List.any_eq_true] at h ⊢
          obtain ⟨x, hx, hy⟩ := h
          exact ⟨x, by rw [List.mem_range] at hx ⊢; omega, hy⟩
        refine wp_region_inv0 (by kernel_rfl) (by kernel_rfl) (fun D w' => Below wr.heap.size wr w') (Below.refl _ _).drew ?_
        iterate 4
          (apply obl_det
           case hrun =>
             intro D y wz hW hD R hR
             have HRR := Lib.hid hR
             clear hR
             have HW := Lib.hid hW
             have hd1 := (HW.out.cell (p := ⟨b, o + i * 3, none⟩) HBB.out).trans HD1.out
             have hd2 := (HW.out.cell (p := ⟨b, o + i * 3 + 1, none⟩) HBB.out).trans HD2.out
             have hd3 := (HW.out.cell (p := ⟨b, o + i * 3 + 2, none⟩) HBB.out).trans HD3.out
             clear hW hD
             go_wp2_with fail
             exact HRR.out _ HW.out
           case hnp => rfl
           case hv => first | exact ⟨_, fun _ => rfl⟩ | exact ⟨undef, fun _ => rfl⟩)
        apply obl_det
        case hrun =>
          intro D y wz hW hD R hR
          have HRR := Lib.hid hR
          clear hR
          have HW := Lib.hid hW
          have hd1 := (HW.out.cell (p := ⟨b, o + i * 3, none⟩) HBB.out).trans HD1.out
          have hd2 := (HW.out.cell (p := ⟨b, o + i * 3 + 1, none⟩) HBB.out).trans HD2.out
          have hd3 := (HW.out.cell (p := ⟨b, o + i * 3 + 2, none⟩) HBB.out).trans HD3.out
          clear hW hD
          go_wp2_with fail
          refine ((HT _).out ((HV.out.below (HBA.out.trans (HW.out.mono HBA.out.size))).mono (Nat.le_trans HBA.out.size HW.out.size)) (by omega) (by omega) HBK.out).mono ?_
          rintro e w' ⟨rfl, rfl⟩
          go_wp2_with fail
          exact HRR.out _ HW.out
        case hnp => rfl
        case hv => first | exact ⟨_, fun _ => rfl⟩ | exact ⟨undef, fun _ => rfl⟩
        iterate 4
          (apply obl_det
           case hrun =>
             intro D y wz hW hD R hR
             have HRR := Lib.hid hR
             clear hR
             have HW := Lib.hid hW
             have hd1 := (HW.out.cell (p := ⟨b, o + i * 3, none⟩) HBB.out).trans HD1.out
             have hd2 := (HW.out.cell (p := ⟨b, o + i * 3 + 1, none⟩) HBB.out).trans HD2.out
             have hd3 := (HW.out.cell (p := ⟨b, o + i * 3 + 2, none⟩) HBB.out).trans HD3.out
             clear hW hD
             go_wp2_with fail
             exact HRR.out _ HW.out
           case hnp => rfl
           case hv => first | exact ⟨_, fun _ => rfl⟩ | exact ⟨undef, fun _ => rfl⟩)
        apply obl_det
        case hrun =>
          intro D y wz hW hD R hR
          have HRR := Lib.hid hR
          clear hR
          have HW := Lib.hid hW
          have hd1 := (HW.out.cell (p := ⟨b, o + i * 3, none⟩) HBB.out).trans HD1.out
          have hd2 := (HW.out.cell (p := ⟨b, o + i * 3 + 1, none⟩) HBB.out).trans HD2.out
          have hd3 := (HW.out.cell (p := ⟨b, o + i * 3 + 2, none⟩) HBB.out).trans HD3.out
          clear hW hD
          go_wp2_with fail
          refine ((HWI _).out ((HAI.out.below (HBA.out.trans (HW.out.mono HBA.out.size))).mono (Nat.le_trans HBA.out.size HW.out.size)) HGI.out.1 HGI.out.2).mono ?_
          rintro e w' ⟨rfl, hb⟩
          have HW2 := Lib.hid (HW.out.trans (hb.mono HW.out.size))
          clear hb
          go_wp2_with fail
          exact HRR.out _ HW2.out
        case hnp => rfl
        case hv => first | exact ⟨_, fun _ => rfl⟩ | exact ⟨undef, fun _ => rfl⟩
        apply obl_det
        case hrun =>
          intro D y wz hW hD R hR
          have HRR := Lib.hid hR
          clear hR
          have HW := Lib.hid hW
          have hd1 := (HW.out.cell (p := ⟨b, o + i * 3, none⟩) HBB.out).trans HD1.out
          have hd2 := (HW.out.cell (p := ⟨b, o + i * 3 + 1, none⟩) HBB.out).trans HD2.out
          have hd3 := (HW.out.cell (p := ⟨b, o + i * 3 + 2, none⟩) HBB.out).trans HD3.out
          clear hW hD
          go_wp2_with fail
          exact HRR.out _ HW.out
        case hnp => rfl
        case hv => first | exact ⟨_, fun _ => rfl⟩ | exact ⟨undef, fun _ => rfl⟩
        apply obl_nil
        intro D y w8 hall hW
        have HB2 := Lib.hid (HB.out.trans (hW.mono HB.out.size))
        clear hall hW
        go_wp2_with fail
        refine ⟨⟨i + 1, true, rfl, by push_cast; rfl, by omega, HOT.out, fun _ => HKK.out, HB2.out⟩, ?_⟩
        simp [intOf]; omega
      · have hle : TI ≤ WI := by omega
        have HOT : Hid (overB l k (i + 1) = false) := by unfold Hid; rw [HOS.out]; simp; omega
        clear hgt
        refine wp_region_inv0 (by kernel_rfl) (by kernel_rfl) (fun D w' => Below wr.heap.size wr w') (Below.refl _ _).drew ?_
        iterate 4
          (apply obl_det
           case hrun =>
             intro D y wz hW hD R hR
             have HRR := Lib.hid hR
             clear hR
             have HW := Lib.hid hW
             have hd1 := (HW.out.cell (p := ⟨b, o + i * 3, none⟩) HBB.out).trans HD1.out
             have hd2 := (HW.out.cell (p := ⟨b, o + i * 3 + 1, none⟩) HBB.out).trans HD2.out
             have hd3 := (HW.out.cell (p := ⟨b, o + i * 3 + 2, none⟩) HBB.out).trans HD3.out
             clear hW hD
             go_wp2_with fail
             exact HRR.out _ HW.out
           case hnp => rfl
           case hv => first | exact ⟨_, fun _ => rfl⟩ | exact ⟨undef, fun _ => rfl⟩)
        apply obl_det
        case hrun =>
          intro D y wz hW hD R hR
          have HRR := Lib.hid hR
          clear hR
          have HW := Lib.hid hW
          have hd1 := (HW.out.cell (p := ⟨b, o + i * 3, none⟩) HBB.out).trans HD1.out
          have hd2 := (HW.out.cell (p := ⟨b, o + i * 3 + 1, none⟩) HBB.out).trans HD2.out
          have hd3 := (HW.out.cell (p := ⟨b, o + i * 3 + 2, none⟩) HBB.out).trans HD3.out
          clear hW hD
          go_wp2_with fail
          refine ((HT _).out ((HV.out.below (HBA.out.trans (HW.out.mono HBA.out.size))).mono (Nat.le_trans HBA.out.size HW.out.size)) (by omega) (by omega) HBK.out).mono ?_
          rintro e w' ⟨rfl, rfl⟩
          go_wp2_with fail
          exact HRR.out _ HW.out
        case hnp => rfl
        case hv => first | exact ⟨_, fun _ => rfl⟩ | exact ⟨undef, fun _ => rfl⟩
        iterate 4
          (apply obl_det
           case hrun =>
             intro D y wz hW hD R hR
             have HRR := Lib.hid hR
             clear hR
             have HW := Lib.hid hW
             have hd1 := (HW.out.cell (p := ⟨b, o + i * 3, none⟩) HBB.out).trans HD1.out
             have hd2 := (HW.out.cell (p := ⟨b, o + i * 3 + 1, none⟩) HBB.out).trans HD2.out
             have hd3 := (HW.out.cell (p := ⟨b, o + i * 3 + 2, none⟩) HBB.out).trans HD3.out
             clear hW hD
             go_wp2_with fail
             exact HRR.out _ HW.out
           case hnp => rfl
           case hv => first | exact ⟨_, fun _ => rfl⟩ | exact ⟨undef, fun _ => rfl⟩)
        apply obl_det
        case hrun =>
          intro D y wz hW hD R hR
          have HRR := Lib.hid hR
          clear hR
          have HW := Lib.hid hW
          have hd1 := (HW.out.cell (p := ⟨b, o + i * 3, none⟩) HBB.out).trans HD1.out
          have hd2 := (HW.out.cell (p := ⟨b, o + i * 3 + 1, none⟩) HBB.out).trans HD2.out
          have hd3 := (HW.out.cell (p := ⟨b, o + i * 3 + 2, none⟩) HBB.out).trans HD3.out
          clear hW hD
          go_wp2_with fail
          refine ((HWI _).out ((HAI.out.below (HBA.out.trans (HW.out.mono HBA.out.size))).mono (Nat.le_trans HBA.out.size HW.out.size)) HGI.out.1 HGI.out.2).mono ?_
          rintro e w' ⟨rfl, hb⟩
          have HW2 := Lib.hid (HW.out.trans (hb.mono HW.out.size))
          clear hb
          go_wp2_with fail
          exact HRR.out _ HW2.out
        case hnp => rfl
        case hv => first | exact ⟨_, fun _ => rfl⟩ | exact ⟨undef, fun _ => rfl⟩
        apply obl_det
        case hrun =>
          intro D y wz hW hD R hR
          have HRR := Lib.hid hR
          clear hR
          have HW := Lib.hid hW
          have hd1 := (HW.out.cell (p := ⟨b, o + i * 3, none⟩) HBB.out).trans HD1.out
          have hd2 := (HW.out.cell (p := ⟨b, o + i * 3 + 1, none⟩) HBB.out).trans HD2.out
          have hd3 := (HW.out.cell (p := ⟨b, o + i * 3 + 2, none⟩) HBB.out).trans HD3.out
          clear hW hD
          go_wp2_with fail
          exact HRR.out _ HW.out
        case hnp => rfl
        case hv => first | exact ⟨_, fun _ => rfl⟩ | exact ⟨undef, fun _ => rfl⟩
        apply obl_nil
        intro D y w8 hall hW
        have HB2 := Lib.hid (HB.out.trans (hW.mono HB.out.size))
        clear hall hW
        go_wp2_with fail
        refine ⟨⟨i + 1, false, rfl, by push_cast; rfl, by omega, HOT.out, fun h => (by cases h), HB2.out⟩, ?_⟩
        simp [intOf]; omega
    · obtain rfl : i = k := by omega
      go_wp2_with fail
      go_ret
      exact ⟨ret_int (by rw [HE.out, HR.out]; rfl), C2.out.bel.trans (HB.out.mono C2.out.bel.size)⟩
end Go.Proofs.Ytaigbhhmmdfdcaa
