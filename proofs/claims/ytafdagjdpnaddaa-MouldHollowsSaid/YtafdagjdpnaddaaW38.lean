/- stearinref05.Truth, Cool. -/
import Derived.Test.YtafdagjdpnaddaaW35
import Derived.Test.YtafdagjdpnaddaaW3
namespace Go.Proofs.Ytafdagjdpnaddaa
open Go.RowKit
set_option maxRecDepth 100000 in
set_option maxHeartbeats 16000000 in
theorem truthR_any (m : Mou) (pv wv : Value) (p ws : List Int) (w : World) (hp : IntsIn .i64 w.heap.size w pv p) (hw : IntsIn .i64 w.heap.size w wv ws) :
    Calls Try.prog 53 #[.agg #[.int .i64 m.rings, .int .i64 m.give, .int .i64 m.pl, .int .i64 m.ph, .int .i64 m.wl, .int .i64 m.wh, .int .i64 m.set, .int .i64 m.shrink, .int .i64 m.skin, .int .i64 m.fill, .int .i64 m.gap, .int .i64 m.deep], .agg #[pv, wv]] w fun e w' => e = .returned (.int .i64 (truthE m p ws)) ∧ Below w.heap.size w w' := by
  obtain ⟨pa, pc, rfl, hpl, hpc⟩ := hp
  obtain ⟨wa, wc, rfl, hwl, hwc⟩ := hw
  obtain ⟨r, hr⟩ : ∃ r, p.length = r := ⟨_, rfl⟩
  obtain ⟨N, hN⟩ : ∃ N, ws.length = N := ⟨_, rfl⟩
  have HPN := Lib.hid hr
  have HWN := Lib.hid hN
  rw [hr] at hpl hpc ⊢
  rw [hN] at hwl hwc ⊢
  have KP := Lib.hid hpc
  have KW := Lib.hid hwc
  have C0 : Hid (Bs w [(w.heap.size, .cells #[.int .i64 m.rings, .int .i64 m.give, .int .i64 m.pl, .int .i64 m.ph, .int .i64 m.wl, .int .i64 m.wh, .int .i64 m.set, .int .i64 m.shrink, .int .i64 m.skin, .int .i64 m.fill, .int .i64 m.gap, .int .i64 m.deep] 25), (w.heap.size + 1, .cells #[.slice pa r pc, .slice wa N wc] 28)] _) := ((Bs.nil w).push _ rfl (.cells #[.int .i64 m.rings, .int .i64 m.give, .int .i64 m.pl, .int .i64 m.ph, .int .i64 m.wl, .int .i64 m.wh, .int .i64 m.set, .int .i64 m.shrink, .int .i64 m.skin, .int .i64 m.fill, .int .i64 m.gap, .int .i64 m.deep] 25)).push (w.heap.size + 1) (by simp) (.cells #[.slice pa r pc, .slice wa N wc] 28)
  have c0 := C0.out.cell 0 rfl
  have c1 := C0.out.cell 1 rfl
  clear hpc hwc hr hN
  by_cases h1 : (r : Int) = m.rings
  rotate_left
  · have HV : Hid (truthE m p ws = 3) := by
      unfold Hid truthE
      rw [if_pos (by rw [HPN.out]; exact .inl h1)]
    have hq : ((r : Int) != m.rings) = true := by simpa using h1
    clear h1
    go_enter Try.func53, Try.ntmps53
    go_wp2
    go_ret
    exact ⟨by rw [HV.out]; rfl, C0.out.bel⟩
  have hq : ((r : Int) != m.rings) = false := by simpa using h1
  by_cases h2 : 600 < N
  · have HV : Hid (truthE m p ws = 3) := by
      unfold Hid truthE
      rw [if_pos (by rw [HWN.out]; exact .inr h2)]
    have hq2 : (600 : Int) < (N : Int) := by omega
    clear h1 h2
    go_enter Try.func53, Try.ntmps53
    go_wp2
    go_ret
    exact ⟨by rw [HV.out]; rfl, C0.out.bel⟩
  have hq2 : ¬ (600 : Int) < (N : Int) := by omega
  have HLEN : Hid (¬ ((p.length : Int) ≠ m.rings ∨ 600 < ws.length)) := by
    unfold Hid
    rw [HPN.out, HWN.out]
    omega
  clear h1 h2
  go_enter Try.func53, Try.ntmps53
  go_wp2_with fail
  clear c0 c1 hq hq2
  go_loopw [5] (fun iv wr => ∃ i : Nat, iv = .int .i64 i ∧ i ≤ r ∧ (∀ j, j < i → within (p.getD j 0) m.pl m.ph = true) ∧ Bs w [(w.heap.size, .cells #[.int .i64 m.rings, .int .i64 m.give, .int .i64 m.pl, .int .i64 m.ph, .int .i64 m.wl, .int .i64 m.wh, .int .i64 m.set, .int .i64 m.shrink, .int .i64 m.skin, .int .i64 m.fill, .int .i64 m.gap, .int .i64 m.deep] 25), (w.heap.size + 1, .cells #[.slice pa r pc, .slice wa N wc] 28)] wr) (fun iv _ => r - (intOf iv).toNat)
  case atStart => exact ⟨0, rfl, by omega, fun j hj => by omega, C0.out⟩
  case round =>
    obtain ⟨i, rfl, hi, hall, hC⟩ := hrel
    have CI := Lib.hid hC
    have HALL := Lib.hid hall
    have c1 := hC.cell 1 rfl
    clear hC hall
    by_cases hir : i < r
    · have hii : (i : Int) < (r : Int) := by omega
      obtain ⟨b, o, rfl, hbb, hcell⟩ := KP.out.resolve_left (by intro h; have := HPN.out; rw [h] at this; simp at this; omega)
      have ck := (CI.out.bel.cell (p := ⟨b, o + i, none⟩) hbb).trans (hcell i hir)
      have c0 := CI.out.cell 0 rfl
      have HB7 : Hid (within (p.getD i 0) m.pl m.ph = false → truthE m p ws = 7) := fun h => by
        unfold truthE
        rw [if_neg HLEN.out, if_pos]
        left
        rw [List.all_eq_false]
        exact ⟨p.getD i 0, getD_mem (by rw [HPN.out]; exact hir), by rw [h]; simp⟩
      have HA2 : Hid (within (p.getD i 0) m.pl m.ph = true → ∀ j, j < i + 1 → within (p.getD j 0) m.pl m.ph = true) := fun h j hj => by
        by_cases hji : j < i
        · exact HALL.out j hji
        · obtain rfl : j = i := by omega
          exact h
      clear hcell HALL
      generalize p.getD i 0 = x at *
      cases hwx : within x m.pl m.ph
      · have HIN := fun w => Lib.hid (in_r false x m.pl m.ph hwx w)
        have HV := Lib.hid (HB7.out hwx)
        clear hwx HB7 HA2
        go_wp2_with fail
        go_quiet ((go_at_call 49; exact Calls.quiet_of_same (((HIN _).out).mono fun e w' h => ⟨h.1, h.2.symm⟩)))
        simp only [Exit.then]
        go_wp2
        go_ret
        exact ⟨by rw [HV.out]; rfl, (CI.out.drewN _).bel⟩
      · have HIN := fun w => Lib.hid (in_r true x m.pl m.ph hwx w)
        have HA3 := Lib.hid (HA2.out hwx)
        clear hwx HB7 HA2
        go_wp2_with fail
        go_quiet ((go_at_call 49; exact Calls.quiet_of_same (((HIN _).out).mono fun e w' h => ⟨h.1, h.2.symm⟩)))
        simp only [Exit.then]
        go_wp2_with fail
        refine ⟨⟨i + 1, by push_cast; rfl, by omega, HA3.out, CI.out.drewN _⟩, ?_⟩
        simp [intOf]
        omega
    · obtain rfl : r = i := by omega
      have HALLP := HALL
      clear HALL
      go_wp2_with fail
      clear c1
      go_loopw [6] (fun iv wr => ∃ i : Nat, iv = .int .i64 i ∧ i ≤ N ∧ (∀ j, j < i → within (ws.getD j 0) m.wl m.wh = true) ∧ Bs w [(w.heap.size, .cells #[.int .i64 m.rings, .int .i64 m.give, .int .i64 m.pl, .int .i64 m.ph, .int .i64 m.wl, .int .i64 m.wh, .int .i64 m.set, .int .i64 m.shrink, .int .i64 m.skin, .int .i64 m.fill, .int .i64 m.gap, .int .i64 m.deep] 25), (w.heap.size + 1, .cells #[.slice pa r pc, .slice wa N wc] 28)] wr) (fun iv _ => N - (intOf iv).toNat)
      case atStart => exact ⟨0, rfl, by omega, fun j hj => by omega, CI.out⟩
      case round =>
        obtain ⟨i, rfl, hi, hall, hC⟩ := hrel
        have CI := Lib.hid hC
        have HALL := Lib.hid hall
        have c1 := hC.cell 1 rfl
        clear hC hall
        by_cases hir : i < N
        · have hii : (i : Int) < (N : Int) := by omega
          obtain ⟨b, o, rfl, hbb, hcell⟩ := KW.out.resolve_left (by intro h; have := HWN.out; rw [h] at this; simp at this; omega)
          have ck := (CI.out.bel.cell (p := ⟨b, o + i, none⟩) hbb).trans (hcell i hir)
          have c0 := CI.out.cell 0 rfl
          have HB7 : Hid (within (ws.getD i 0) m.wl m.wh = false → truthE m p ws = 7) := fun h => by
            unfold truthE
            rw [if_neg HLEN.out, if_pos]
            right
            rw [List.all_eq_false]
            exact ⟨ws.getD i 0, getD_mem (by rw [HWN.out]; exact hir), by rw [h]; simp⟩
          have HA2 : Hid (within (ws.getD i 0) m.wl m.wh = true → ∀ j, j < i + 1 → within (ws.getD j 0) m.wl m.wh = true) := fun h j hj => by
            by_cases hji : j < i
            · exact HALL.out j hji
            · obtain rfl : j = i := by omega
              exact h
          clear hcell HALL
          generalize ws.getD i 0 = x at *
          cases hwx : within x m.wl m.wh
          · have HIN := fun w => Lib.hid (in_r false x m.wl m.wh hwx w)
            have HV := Lib.hid (HB7.out hwx)
            clear hwx HB7 HA2
            go_wp2_with fail
            go_quiet ((go_at_call 49; exact Calls.quiet_of_same (((HIN _).out).mono fun e w' h => ⟨h.1, h.2.symm⟩)))
            simp only [Exit.then]
            go_wp2
            go_ret
            exact ⟨by rw [HV.out]; rfl, (CI.out.drewN _).bel⟩
          · have HIN := fun w => Lib.hid (in_r true x m.wl m.wh hwx w)
            have HA3 := Lib.hid (HA2.out hwx)
            clear hwx HB7 HA2
            go_wp2_with fail
            go_quiet ((go_at_call 49; exact Calls.quiet_of_same (((HIN _).out).mono fun e w' h => ⟨h.1, h.2.symm⟩)))
            simp only [Exit.then]
            go_wp2_with fail
            refine ⟨⟨i + 1, by push_cast; rfl, by omega, HA3.out, CI.out.drewN _⟩, ?_⟩
            simp [intOf]
            omega
        · obtain rfl : N = i := by omega
          have HV : Hid (truthE m p ws = 0) := by
            unfold Hid truthE
            rw [if_neg HLEN.out, if_neg]
            rintro (h | h)
            · rw [List.all_eq_false] at h
              obtain ⟨x, hx, hn⟩ := h
              obtain ⟨j, hj, rfl⟩ := List.mem_iff_getElem.1 hx
              have := HALLP.out j (by rw [← HPN.out]; exact hj)
              simp only [List.getD_eq_getElem?_getD, List.getElem?_eq_getElem hj, Option.getD_some] at this
              exact hn this
            · rw [List.all_eq_false] at h
              obtain ⟨x, hx, hn⟩ := h
              obtain ⟨j, hj, rfl⟩ := List.mem_iff_getElem.1 hx
              have := HALL.out j (by rw [← HWN.out]; exact hj)
              simp only [List.getD_eq_getElem?_getD, List.getElem?_eq_getElem hj, Option.getD_some] at this
              exact hn this
          clear HALL HALLP
          go_wp2
          go_ret
          exact ⟨by rw [HV.out]; rfl, CI.out.bel⟩
/-- A list that is read, an error, and the world above. -/
def RetIE (l : List Int) (er : Int) (w : World) (e : Ending) (w' : World) : Prop := ∃ v, e = .returned (.tuple #[v, .int .i64 er]) ∧ IntsIn .i64 w'.heap.size w' v l ∧ Below w.heap.size w w'
end Go.Proofs.Ytafdagjdpnaddaa
/- stearinref05.Cool. -/
namespace Go.Proofs.Ytafdagjdpnaddaa
open Go.RowKit
theorem truth_fits {m : Mou} {p ws : List Int} (h : truthE m p ws = 0) : (p.length : Int) = m.rings ∧ ws.length ≤ 600 ∧ Fits2 m.pl m.ph p ∧ Fits2 m.wl m.wh ws := by
  unfold truthE at h
  by_cases h1 : (p.length : Int) ≠ m.rings ∨ 600 < ws.length
  · rw [if_pos h1] at h; omega
  rw [if_neg h1] at h
  by_cases h2 : p.all (fun x => within x m.pl m.ph) = false ∨ ws.all (fun x => within x m.wl m.wh) = false
  · rw [if_pos h2] at h; omega
  have hp : p.all (fun x => within x m.pl m.ph) = true := by
    cases hq : p.all (fun x => within x m.pl m.ph) with
    | true => rfl
    | false => exact absurd (.inl hq) h2
  have hw : ws.all (fun x => within x m.wl m.wh) = true := by
    cases hq : ws.all (fun x => within x m.wl m.wh) with
    | true => rfl
    | false => exact absurd (.inr hq) h2
  exact ⟨by omega, by omega, fits_within hp, fits_within hw⟩
set_option maxRecDepth 100000 in
set_option maxHeartbeats 16000000 in
theorem cool_ref (m : Mou) (pv wv : Value) (p ws : List Int) (w : World) (hp : IntsIn .i64 w.heap.size w pv p) (hw : IntsIn .i64 w.heap.size w wv ws) :
    Calls Try.prog 21 #[.agg #[.int .i64 m.rings, .int .i64 m.give, .int .i64 m.pl, .int .i64 m.ph, .int .i64 m.wl, .int .i64 m.wh, .int .i64 m.set, .int .i64 m.shrink, .int .i64 m.skin, .int .i64 m.fill, .int .i64 m.gap, .int .i64 m.deep], .agg #[pv, wv]] w (RetIE (coolV m p ws).1 (coolV m p ws).2 w) := by
  have HP := Lib.hid hp
  have HW := Lib.hid hw
  have HT : ∀ (w : World) (pv wv : Value), IntsIn .i64 w.heap.size w pv p → IntsIn .i64 w.heap.size w wv ws → Hid (Calls Try.prog 53 #[.agg #[.int .i64 m.rings, .int .i64 m.give, .int .i64 m.pl, .int .i64 m.ph, .int .i64 m.wl, .int .i64 m.wh, .int .i64 m.set, .int .i64 m.shrink, .int .i64 m.skin, .int .i64 m.fill, .int .i64 m.gap, .int .i64 m.deep], .agg #[pv, wv]] w fun e w' => e = .returned (.int .i64 (truthE m p ws)) ∧ Below w.heap.size w w') := fun w pv wv h1 h2 => truthR_any m pv wv p ws w h1 h2
  have HC : ∀ w, Hid (Calls Try.prog 19 #[.agg #[.int .i64 m.rings, .int .i64 m.give, .int .i64 m.pl, .int .i64 m.ph, .int .i64 m.wl, .int .i64 m.wh, .int .i64 m.set, .int .i64 m.shrink, .int .i64 m.skin, .int .i64 m.fill, .int .i64 m.gap, .int .i64 m.deep]] w fun e w' => e = .returned (.int .i64 (checkE m)) ∧ Below w.heap.size w w') := checkR_any m
  obtain ⟨pa, pc, rfl, hpl, hpc⟩ := hp
  obtain ⟨wa, wc, rfl, hwl, hwc⟩ := hw
  obtain ⟨r, hr⟩ : ∃ r, p.length = r := ⟨_, rfl⟩
  obtain ⟨N, hN⟩ : ∃ N, ws.length = N := ⟨_, rfl⟩
  have HPN := Lib.hid hr
  have HWN := Lib.hid hN
  rw [hr] at hpl hpc HP ⊢
  rw [hN] at hwl hwc HW ⊢
  have KP := Lib.hid hpc
  have KW := Lib.hid hwc
  have C0 : Hid (Bs w [(w.heap.size, .cells #[.int .i64 m.rings, .int .i64 m.give, .int .i64 m.pl, .int .i64 m.ph, .int .i64 m.wl, .int .i64 m.wh, .int .i64 m.set, .int .i64 m.shrink, .int .i64 m.skin, .int .i64 m.fill, .int .i64 m.gap, .int .i64 m.deep] 25), (w.heap.size + 1, .cells #[.slice pa r pc, .slice wa N wc] 28)] _) := ((Bs.nil w).push _ rfl (.cells #[.int .i64 m.rings, .int .i64 m.give, .int .i64 m.pl, .int .i64 m.ph, .int .i64 m.wl, .int .i64 m.wh, .int .i64 m.set, .int .i64 m.shrink, .int .i64 m.skin, .int .i64 m.fill, .int .i64 m.gap, .int .i64 m.deep] 25)).push (w.heap.size + 1) (by simp) (.cells #[.slice pa r pc, .slice wa N wc] 28)
  clear hpc hwc hr hN
  by_cases hc : checkE m = 0
  rotate_left
  · have HV : Hid (coolV m p ws = ([], checkE m)) := by unfold Hid coolV; rw [if_pos hc]
    have hz : (checkE m != 0) = true := by simpa using hc
    have hz2 : (checkE m == 0) = false := by simpa using hc
    clear hc
    generalize checkE m = E at *
    go_enter Try.func21, Try.ntmps21
    go_wp2_with (refine wpList_load_bs rfl 25 _ rfl C0.out 0 w.heap.size #[.int .i64 m.rings, .int .i64 m.give, .int .i64 m.pl, .int .i64 m.ph, .int .i64 m.wl, .int .i64 m.wh, .int .i64 m.set, .int .i64 m.shrink, .int .i64 m.skin, .int .i64 m.fill, .int .i64 m.gap, .int .i64 m.deep] 25 rfl rfl _ Try.underlying25 rfl info25 ?_)
    refine (HC _).out.mono ?_
    rintro e w1 ⟨rfl, hb⟩
    have C1 := Lib.hid (C0.out.call hb)
    clear hb C0
    go_wp2_with fail
    rw [HV.out]
    refine bodyPost_ret (v := .tuple #[.slice none 0 0, .int .i64 E]) ?_ rfl ⟨_, rfl, ⟨none, 0, rfl, by simp, .inl rfl⟩, C1.out.bel⟩
    rw [results_tmp2 (fn := Try.f21) rfl]
    go_simp
  rw [hc] at HC
  have HM := Lib.hid (valid_of_check hc)
  by_cases ht : truthE m p ws = 0
  rotate_left
  · have HV : Hid (coolV m p ws = ([], truthE m p ws)) := by unfold Hid coolV; rw [if_neg (by simp [hc]), if_pos ht]
    have hz : (truthE m p ws != 0) = true := by simpa using ht
    clear hc ht
    generalize truthE m p ws = E at *
    go_enter Try.func21, Try.ntmps21
    go_wp2_with (refine wpList_load_bs rfl 25 _ rfl C0.out 0 w.heap.size #[.int .i64 m.rings, .int .i64 m.give, .int .i64 m.pl, .int .i64 m.ph, .int .i64 m.wl, .int .i64 m.wh, .int .i64 m.set, .int .i64 m.shrink, .int .i64 m.skin, .int .i64 m.fill, .int .i64 m.gap, .int .i64 m.deep] 25 rfl rfl _ Try.underlying25 rfl info25 ?_)
    refine (HC _).out.mono ?_
    rintro e w1 ⟨rfl, hb⟩
    have C1 := Lib.hid (C0.out.call hb)
    clear hb C0
    go_wp2_with (first | refine wpList_load_bs rfl 25 _ rfl C1.out 0 w.heap.size #[.int .i64 m.rings, .int .i64 m.give, .int .i64 m.pl, .int .i64 m.ph, .int .i64 m.wl, .int .i64 m.wh, .int .i64 m.set, .int .i64 m.shrink, .int .i64 m.skin, .int .i64 m.fill, .int .i64 m.gap, .int .i64 m.deep] 25 rfl rfl _ Try.underlying25 rfl info25 ?_ | refine wpList_load_bs rfl 28 _ rfl C1.out 1 (w.heap.size + 1) #[.slice pa r pc, .slice wa N wc] 28 rfl rfl _ Try.underlying28 rfl info28 ?_)
    refine (HT _ _ _ ((HP.out.below C1.out.bel).mono C1.out.bel.size) ((HW.out.below C1.out.bel).mono C1.out.bel.size)).out.mono ?_
    rintro e w2 ⟨rfl, hb⟩
    have C2 := Lib.hid (C1.out.call hb)
    clear hb C1
    go_wp2_with fail
    rw [HV.out]
    refine bodyPost_ret (v := .tuple #[.slice none 0 0, .int .i64 E]) ?_ rfl ⟨_, rfl, ⟨none, 0, rfl, by simp, .inl rfl⟩, C2.out.bel⟩
    rw [results_tmp2 (fn := Try.f21) rfl]
    go_simp
  have HV : Hid (coolV m p ws = (runL m.give p ws, 0)) := by unfold Hid coolV; rw [if_neg (by simp [hc]), if_neg (by simp [ht])]
  obtain ⟨f1, f2, f3, f4⟩ := truth_fits ht
  rw [ht] at HT
  rw [HPN.out] at f1
  rw [HWN.out] at f2
  have hr1 : 1 ≤ r := by have := HM.out.r1; omega
  have hr8 : r ≤ 8 := by have := HM.out.r8; omega
  have HFP := Lib.hid (f3.wide HM.out.p0 HM.out.p2)
  have HFW := Lib.hid (f4.wide HM.out.w0 HM.out.w2)
  have g1 := HM.out.g1
  have g5 := HM.out.g5
  clear hc ht f1 f3 f4
  obtain ⟨b, off, rfl, hbB, hpc⟩ := KP.out.resolve_left (by intro h; have := HPN.out; rw [h] at this; simp at this; omega)
  have HPC := Lib.hid hpc
  clear hpc
  obtain ⟨i0, hi0, hz0, hz1, hz2⟩ := info3'
  go_enter Try.func21, Try.ntmps21
  go_wp2_with (refine wpList_load_bs rfl 25 _ rfl C0.out 0 w.heap.size #[.int .i64 m.rings, .int .i64 m.give, .int .i64 m.pl, .int .i64 m.ph, .int .i64 m.wl, .int .i64 m.wh, .int .i64 m.set, .int .i64 m.shrink, .int .i64 m.skin, .int .i64 m.fill, .int .i64 m.gap, .int .i64 m.deep] 25 rfl rfl _ Try.underlying25 rfl info25 ?_)
  refine (HC _).out.mono ?_
  rintro e w1 ⟨rfl, hb⟩
  have C1 := Lib.hid (C0.out.call hb)
  clear hb C0
  go_wp2_with (first | refine wpList_load_bs rfl 25 _ rfl C1.out 0 w.heap.size #[.int .i64 m.rings, .int .i64 m.give, .int .i64 m.pl, .int .i64 m.ph, .int .i64 m.wl, .int .i64 m.wh, .int .i64 m.set, .int .i64 m.shrink, .int .i64 m.skin, .int .i64 m.fill, .int .i64 m.gap, .int .i64 m.deep] 25 rfl rfl _ Try.underlying25 rfl info25 ?_ | refine wpList_load_bs rfl 28 _ rfl C1.out 1 (w.heap.size + 1) #[.slice (some ⟨b, off, none⟩) r pc, .slice wa N wc] 28 rfl rfl _ Try.underlying28 rfl info28 ?_)
  refine (HT _ _ _ ((HP.out.below C1.out.bel).mono C1.out.bel.size) ((HW.out.below C1.out.bel).mono C1.out.bel.size)).out.mono ?_
  rintro e w2 ⟨rfl, hb⟩
  have C2 := Lib.hid (C1.out.call hb)
  clear hb C1 HT HC
  have c1 := C2.out.cell 1 rfl
  have hlt2 : w.heap.size + 1 < w2.heap.size := C2.out.lt 1 rfl
  have HO := Lib.hid (ownsRow_fresh w2)
  have HNW : Hid (∀ j u, (p.map (Value.int .i64))[j]? = some u → (w2.alloc (.cells #[] 3)).cell? ((⟨b, off, none⟩ : Addr).add j) = some u) := fun j u hj => by
    rw [show (⟨b, off, none⟩ : Addr).add j = ⟨b, off + j, none⟩ from by unfold Addr.add; split <;> simp_all]
    have hjl : j < p.length := by
      by_cases h : j < p.length
      · exact h
      · rw [List.getElem?_eq_none (by simp; omega)] at hj; cases hj
    have hb0 := ((C2.out.alloc (.cells #[] 3)).bel.cell (p := ⟨b, off + j, none⟩) hbB).trans (HPC.out j (by rw [← HPN.out]; exact hjl))
    rw [hb0]
    simp only [List.getElem?_map, List.getElem?_eq_getElem hjl, Option.map_some] at hj
    rw [← hj]
    simp [List.getD, hjl]
  go_wp2_with (at_builtin; refine wpList_append_own _ rfl _ _ 26 rfl w2.heap.size 3 i0 (.int .i64 0) 1 8 Try.underlying26 hi0 hz0 hz1 hz2 rfl (by decide) _ _ _ rfl HO.out ⟨b, off, none⟩ r pc (p.map (.int .i64)) rfl (by rw [List.length_map, HPN.out, Nat.mul_one]) HNW.out (by simp [Value.oneCell']) (by unfold maxLen; omega) (by omega) (by simp) ?_; intro v' w3 hown hgrow _; rw [Nat.zero_add] at hown; obtain ⟨a5, c5, rfl⟩ := ownsRow_slice hown; have HOWN := Lib.hid hown; have HGR := Lib.hid hgrow; clear hown hgrow)
  have hbw2 : Below w2.heap.size w2 w3 := ((Below.refl w2.heap.size w2).alloc (Nat.le_refl _) (.cells #[] 3)).grown HGR.out (by simp) (fun k e => (World.ownsRow.lt HO.out k e).1)
  have HB2 := Lib.hid hbw2
  have L3 : Hid (LV (w.heap.size + 1) r w3 (.slice a5 r c5) p) := by
    have h : OwnInts w2.heap.size w3 (.slice a5 r c5) p := by
      unfold OwnInts
      rw [HPN.out]
      exact HOWN.out
    exact LV.own h HPN.out hr1 (fun b h1 _ => by have := C2.out.lt 1 rfl; omega) (by omega)
  have C3 := Lib.hid (C2.out.call hbw2)
  clear hbw2 HO HNW HOWN HGR c1 HB2 C2
  go_loopw [7, 8] (fun lv kv wr => ∃ (k : Nat) (av : Option Addr) (cv : Nat), lv = .slice av r cv ∧ kv = .int .i64 k ∧ k ≤ N ∧ Bs w [(w.heap.size, .cells #[.int .i64 m.rings, .int .i64 m.give, .int .i64 m.pl, .int .i64 m.ph, .int .i64 m.wl, .int .i64 m.wh, .int .i64 m.set, .int .i64 m.shrink, .int .i64 m.skin, .int .i64 m.fill, .int .i64 m.gap, .int .i64 m.deep] 25), (w.heap.size + 1, .cells #[.slice (some ⟨b, off, none⟩) r pc, .slice wa N wc] 28)] wr ∧ LV (w.heap.size + 1) r wr (.slice av r cv) (runL m.give p (ws.take k))) (fun _ kv _ => N - (intOf kv).toNat)
  case atStart => exact ⟨0, a5, c5, rfl, rfl, by omega, C3.out, L3.out⟩
  case round =>
    obtain ⟨k, av, cv, rfl, rfl, hk, hC, hL⟩ := hrel
    have CK := Lib.hid hC
    have LK := Lib.hid hL
    have c1 := CK.out.cell 1 rfl
    clear hC hL C3 L3
    by_cases hkN : k < N
    rotate_left
    · obtain rfl : N = k := by omega
      have HALL : Hid (runL m.give p (ws.take N) = runL m.give p ws) := by unfold Hid; rw [List.take_of_length_le (by rw [HWN.out]; exact Nat.le_refl _)]
      go_wp2_with fail
      rw [HV.out]
      have hI := LK.out.ints (by rw [runL_length, HPN.out]) (by omega)
      rw [HALL.out] at hI
      refine bodyPost_ret (v := .tuple #[.slice av r cv, .int .i64 0]) ?_ rfl ⟨_, rfl, hI, CK.out.bel⟩
      rw [results_tmp2 (fn := Try.f21) rfl]
      go_simp
    have hki : (k : Int) < (N : Int) := by omega
    obtain ⟨b6, o6, rfl, hb6, hc6⟩ := KW.out.resolve_left (by intro h; have := HWN.out; rw [h] at this; simp at this; omega)
    have cq : wr.cell? ⟨b6, o6 + k, none⟩ = some (.int .i64 (ws.getD k 0)) := (CK.out.bel.cell (p := ⟨b6, o6 + k, none⟩) hb6).trans (hc6 k (by omega))
    have hwb := HFW.out k (by rw [HWN.out]; omega)
    have HRT : Hid (runL m.give p (ws.take (k + 1)) = nextL m.give (ws.getD k 0) (runL m.give p (ws.take k))) := runL_take m.give p ws k (by rw [HWN.out]; omega)
    have HFR : Hid (Fits2 0 2000 (runL m.give p (ws.take k))) := runL_fits (by omega) g5 _ _ HFP.out (HFW.out.take k)
    have HCC := fun (w' : World) (h : IntsIn .i64 w'.heap.size w' (.slice av r cv) (runL m.give p (ws.take k))) => Lib.hid (nextR_any m g1 g5 (runL m.give p (ws.take k)) (by rw [runL_length, HPN.out]; exact hr8) HFR.out (ws.getD k 0) hwb (.slice av r cv) w' h)
    have LKI := fun n : Nat => Lib.hid ((LK.out.call (below_drewN (Below.refl _ wr) n)).ints (by rw [runL_length, HPN.out]) (by omega))
    have c0 := CK.out.cell 0 rfl
    rw [← HRT.out] at HCC
    clear hc6 hwb
    generalize ws.getD k 0 = wall at *
    go_wp2_with fail
    go_still_tail 7, (by kernel_rfl)
    change wpList _ _ _ _ _ (wr.drewN 1)
    go_wp2_with fail
    refine (HCC _ (LKI 1).out).out.mono ?_
    rintro e w9 ⟨v9, rfl, ho9, hb9⟩
    have L9 : Hid (LV (w.heap.size + 1) r w9 v9 (runL m.give p (ws.take (k + 1)))) := LV.own ho9 (by rw [runL_length, HPN.out]) hr1 (fun b h1 _ h3 => by have := CK.out.lt 1 rfl; subst h3; have h4 : (wr.drewN 1).heap.size = wr.heap.size := rfl; omega) (by omega)
    have C9 := Lib.hid ((CK.out.drewN 1).call hb9)
    obtain ⟨av2, cv2, rfl⟩ : ∃ a c, v9 = .slice a r c := by
      obtain ⟨b', o', c', h, -⟩ := L9.out
      exact ⟨_, _, h⟩
    clear ho9 hb9 LKI HCC HFR HRT CK LK c0 c1 cq
    go_wp2_with fail
    refine ⟨⟨k + 1, av2, cv2, rfl, by push_cast; rfl, by omega, C9.out, L9.out⟩, ?_⟩
    simp [intOf]
    omega
end Go.Proofs.Ytafdagjdpnaddaa
