/- stearinref05.End. -/
import Derived.Test.YtafdagjdpnaddaaW24
import Derived.Test.YtafdagjdpnaddaaW27
import Derived.Test.YtafdagjdpnaddaaW18
import Derived.Test.YtafdagjdpnaddaaP17
import Derived.Lib.MinMax
import Derived.BigQuiet
namespace Go.Proofs.Ytafdagjdpnaddaa
open Go.RowKit
set_option maxRecDepth 100000 in
set_option maxHeartbeats 16000000 in
theorem end_ref (m : Mou) (hm : Valid m) (when plan : List Int) (hwl : (when.length : Int) = m.rings) (hp : InOrder plan) (hpl : plan.length ≤ 40) (vw vp : Value) (w : World) (hvw : IntsIn .i64 w.heap.size w vw when) (hvp : IntsIn .i64 w.heap.size w vp plan) :
    Calls Try.prog 44 #[.agg #[.int .i64 m.rings, .int .i64 m.give, .int .i64 m.pl, .int .i64 m.ph, .int .i64 m.wl, .int .i64 m.wh, .int .i64 m.set, .int .i64 m.shrink, .int .i64 m.skin, .int .i64 m.fill, .int .i64 m.gap, .int .i64 m.deep], vw, vp] w fun e w' => e = .returned (.tuple #[.int .i64 (fall m when 600 - pourL (fall m when) m.fill plan), .int .i64 (pourL (fall m when) m.fill plan)]) ∧ Below w.heap.size w w' := by
  have C0 : Hid (Bs w [(w.heap.size, .cells #[.int .i64 m.rings, .int .i64 m.give, .int .i64 m.pl, .int .i64 m.ph, .int .i64 m.wl, .int .i64 m.wh, .int .i64 m.set, .int .i64 m.shrink, .int .i64 m.skin, .int .i64 m.fill, .int .i64 m.gap, .int .i64 m.deep] 25)] _) := (Bs.nil w).push _ rfl (.cells #[.int .i64 m.rings, .int .i64 m.give, .int .i64 m.pl, .int .i64 m.ph, .int .i64 m.wl, .int .i64 m.wh, .int .i64 m.set, .int .i64 m.shrink, .int .i64 m.skin, .int .i64 m.fill, .int .i64 m.gap, .int .i64 m.deep] 25)
  have HM := Lib.hid hm
  have HWL := Lib.hid hwl
  have HPW : Hid (plan.Pairwise (· ≤ ·)) := order_pairwise hp.up
  have HP6 : Hid (∀ t ∈ plan, 0 ≤ t ∧ t ≤ 600) := fun t ht => by
    obtain ⟨i, hi, rfl⟩ := List.mem_iff_getElem.1 ht
    have := hp.ends i hi
    simpa [List.getD, hi] using this
  obtain ⟨aw, cw, rfl, -, hcw⟩ := hvw
  obtain ⟨ap, cp, rfl, -, hcp⟩ := hvp
  have HCW := Lib.hid hcw
  have HCP := Lib.hid hcp
  obtain ⟨r, hr⟩ : ∃ r, when.length = r := ⟨_, rfl⟩
  obtain ⟨L, hL⟩ : ∃ L, plan.length = L := ⟨_, rfl⟩
  have HR := Lib.hid hr
  have HL := Lib.hid hL
  rw [hr] at HCW ⊢
  rw [hL] at HCP hpl ⊢
  have hr8 : r ≤ 8 := by have := hm.r8; omega
  have hf1 := hm.f1
  have hf2 := hm.f2
  clear hcw hcp hr hL hwl hm hp
  go_enter Try.func44, Try.ntmps44
  go_wp2_with fail
  go_loopw [8, 9, 10] (fun hv pv nv wr => ∃ (n : Nat) (h p : Int), hv = .int .i64 h ∧ pv = .int .i64 p ∧ nv = .int .i64 n ∧ n ≤ 601 ∧ h = fall m when ((n : Int) - 1) - pourU m when plan n 0 ∧ p = pourU m when plan n 0 ∧ Bs w [(w.heap.size, .cells #[.int .i64 m.rings, .int .i64 m.give, .int .i64 m.pl, .int .i64 m.ph, .int .i64 m.wl, .int .i64 m.wh, .int .i64 m.set, .int .i64 m.shrink, .int .i64 m.skin, .int .i64 m.fill, .int .i64 m.gap, .int .i64 m.deep] 25)] wr) (fun _ _ nv _ => 601 - (intOf nv).toNat)
  case atStart =>
    refine ⟨0, 0, 0, rfl, rfl, rfl, by omega, ?_, ?_, C0.out⟩
    · have e : ((0 : Nat) : Int) - 1 = -1 := rfl
      rw [e, fallB0]
      unfold pourU
      rw [show ((0 : Nat) : Int) = 0 from rfl, upTo_start (fun t ht => (HP6.out t ht).1)]
      rfl
    · unfold pourU
      rw [show ((0 : Nat) : Int) = 0 from rfl, upTo_start (fun t ht => (HP6.out t ht).1)]
      rfl
  case round =>
    obtain ⟨n, h, p, rfl, rfl, rfl, hn, hh, hpp, hC⟩ := hrel
    have hb1 := fall_bound HM.out HWL.out ((n : Int) - 1)
    have hb2 := pourU_bound HM.out HWL.out plan n 0
    have hhb : -24000 ≤ h ∧ h ≤ 24000 := by omega
    have hpb : 0 ≤ p ∧ p ≤ 24000 := by omega
    obtain ⟨hh0, hh1⟩ := hhb
    obtain ⟨hp0, hp1⟩ := hpb
    have HH := Lib.hid hh
    have HP := Lib.hid hpp
    have CN := Lib.hid hC
    clear hb1 hb2 hh hpp hC C0
    by_cases hlt : n < 601
    rotate_left
    · obtain rfl : n = 601 := by omega
      have hki : ¬ (((601 : Nat) : Int) ≤ 600) := by omega
      have e1 : h = fall m when 600 - pourL (fall m when) m.fill plan := by
        have e := HH.out
        unfold pourU at e
        rw [show ((601 : Nat) : Int) = 601 from rfl, upTo_end (fun t ht => (HP6.out t ht).2)] at e
        exact e
      have e2 : p = pourL (fall m when) m.fill plan := by
        have e := HP.out
        unfold pourU at e
        rw [show ((601 : Nat) : Int) = 601 from rfl, upTo_end (fun t ht => (HP6.out t ht).2)] at e
        exact e
      have E1 := Lib.hid e1
      have E2 := Lib.hid e2
      clear e1 e2
      go_wp2_with fail
      rw [← E1.out, ← E2.out]
      refine bodyPost_ret (v := .tuple #[.int .i64 h, .int .i64 p]) ?_ rfl ⟨rfl, CN.out.bel⟩
      rw [results_tmp2 (fn := Try.f44) rfl]
      go_simp
    have hki : (n : Int) ≤ 600 := by omega
    go_wp2_with fail
    go_loopw [8, 11] (fun hv iv wi => ∃ (i : Nat) (h' : Int), hv = .int .i64 h' ∧ iv = .int .i64 i ∧ i ≤ r ∧ h' = h + riseTo m when n i ∧ Bs w [(w.heap.size, .cells #[.int .i64 m.rings, .int .i64 m.give, .int .i64 m.pl, .int .i64 m.ph, .int .i64 m.wl, .int .i64 m.wh, .int .i64 m.set, .int .i64 m.shrink, .int .i64 m.skin, .int .i64 m.fill, .int .i64 m.gap, .int .i64 m.deep] 25)] wi) (fun _ iv _ => r - (intOf iv).toNat)
    case atStart => exact ⟨0, h, rfl, rfl, by omega, by simp [riseTo], CN.out⟩
    case round =>
      obtain ⟨i, h', rfl, rfl, hi, hh', hC⟩ := hrel
      have CI := Lib.hid hC
      have hA := allTo_bound HM.out i (by have := HWL.out; have := HR.out; omega)
      have hB := riseTo_bound HM.out when n i (by have := HWL.out; have := HR.out; omega)
      have hb0 : -24000 ≤ h' := by omega
      have hb1 : h' ≤ 48000 := by omega
      have HH' := Lib.hid hh'
      clear hh' hC hA hB CN
      by_cases hir : i < r
      · have hri : (i : Int) < m.rings := by have := HWL.out; have := HR.out; omega
        obtain ⟨b, o, rfl, hbb, hc⟩ := HCW.out.resolve_left (by intro h; have := HR.out; rw [h] at this; simp at this; omega)
        have ck : wr.cell? ⟨b, o + i, none⟩ = some (.int .i64 (when.getD i 0)) := (CI.out.bel.cell (p := ⟨b, o + i, none⟩) hbb).trans (hc i hir)
        have HS := fun w => Lib.hid (shr_any m HM.out i hri w)
        have hs0 := shrI_nonneg HM.out hri
        have hs1 := shrI_le HM.out i hri
        have HRI : Hid (riseTo m when n (i + 1) = riseTo m when n i + if when.getD i 0 = (n : Int) then shrI m i else 0) := rfl
        have hii : (i : Int) < (r : Int) := by omega
        clear hc
        generalize when.getD i 0 = x at *
        generalize shrI m i = sh at *
        by_cases hx : x = (n : Int)
        · have HX := Lib.hid hx
          have hq : (x == (n : Int)) = true := by simpa using hx
          clear hx
          go_wp2_with (refine wpList_load_bs rfl 25 _ rfl CI.out 0 w.heap.size #[.int .i64 m.rings, .int .i64 m.give, .int .i64 m.pl, .int .i64 m.ph, .int .i64 m.wl, .int .i64 m.wh, .int .i64 m.set, .int .i64 m.shrink, .int .i64 m.skin, .int .i64 m.fill, .int .i64 m.gap, .int .i64 m.deep] 25 rfl rfl _ Try.underlying25 rfl info25 ?_)
          refine (HS _).out.mono ?_
          rintro e w9 ⟨rfl, hb⟩
          have C9 := Lib.hid (CI.out.call hb)
          clear hb
          go_wp2_with fail
          refine ⟨⟨i + 1, h' + sh, rfl, by push_cast; rfl, by omega, ?_, C9.out⟩, ?_⟩
          · rw [HRI.out, if_pos HX.out, HH'.out]
            omega
          · simp [intOf]
            omega
        · have hq : (x == (n : Int)) = false := by simpa using hx
          have HX := Lib.hid hx
          clear hx
          go_wp2_with fail
          refine ⟨⟨i + 1, h', rfl, by push_cast; rfl, by omega, ?_, CI.out⟩, ?_⟩
          · rw [HRI.out, if_neg HX.out, HH'.out]
            omega
          · simp [intOf]
            omega
      · obtain rfl : r = i := by omega
        have HF : Hid (h' = fall m when n - pourU m when plan n 0) := by
          have h1 := HH'.out
          have h2 := HH.out
          have h3 : fall m when n = fall m when ((n : Int) - 1) + riseTo m when n r := by
            unfold fall
            rw [HR.out]
            exact fallTo_rise m when (by omega) r
          unfold Hid
          omega
        clear HH HH' hb0 hb1
        have hb1 := fall_bound HM.out HWL.out (n : Int)
        have hb2 := pourU_bound HM.out HWL.out plan n 0
        have hf := HF.out
        have hb3 : -24000 ≤ h' := by omega
        have hb4 : h' ≤ 24000 := by omega
        clear hb1 hb2 hf
        go_wp2_with fail
        clear hh0 hh1
        go_loopw [8, 9, 12] (fun hv pv kv wi => ∃ (k : Nat) (h2 p2 : Int), hv = .int .i64 h2 ∧ pv = .int .i64 p2 ∧ kv = .int .i64 k ∧ k ≤ L ∧ h2 = fall m when n - pourU m when plan n k ∧ p2 = pourU m when plan n k ∧ Bs w [(w.heap.size, .cells #[.int .i64 m.rings, .int .i64 m.give, .int .i64 m.pl, .int .i64 m.ph, .int .i64 m.wl, .int .i64 m.wh, .int .i64 m.set, .int .i64 m.shrink, .int .i64 m.skin, .int .i64 m.fill, .int .i64 m.gap, .int .i64 m.deep] 25)] wi) (fun _ _ kv _ => L - (intOf kv).toNat)
        case atStart => exact ⟨0, h', p, rfl, rfl, rfl, by omega, HF.out, HP.out, CI.out⟩
        case round =>
          obtain ⟨k, h2, p2, rfl, rfl, rfl, hk, hh2, hp2, hC⟩ := hrel
          have CK := Lib.hid hC
          have hb1 := fall_bound HM.out HWL.out (n : Int)
          have hb2 := pourU_bound HM.out HWL.out plan n k
          have hq0 : -24000 ≤ h2 := by omega
          have hq1 : h2 ≤ 24000 := by omega
          have hq2 : 0 ≤ p2 := by omega
          have hq3 : p2 ≤ 24000 := by omega
          have HH2 := Lib.hid hh2
          have HP2 := Lib.hid hp2
          clear hh2 hp2 hC hb1 hb2 CI
          by_cases hkL : k < L
          · obtain ⟨b, o, rfl, hbb, hc⟩ := HCP.out.resolve_left (by intro h; have := HL.out; rw [h] at this; simp at this; omega)
            have ck : wr.cell? ⟨b, o + k, none⟩ = some (.int .i64 (plan.getD k 0)) := (CK.out.bel.cell (p := ⟨b, o + k, none⟩) hbb).trans (hc k hkL)
            have c0 := CK.out.cell 0 rfl
            have hii : (k : Int) < (L : Int) := by omega
            have HIT := fun h => Lib.hid (pourU_hit (m := m) (when := when) (plan := plan) (n := (n : Int)) (k := k) (by rw [HL.out]; exact hkL) h)
            have HMS := fun h => Lib.hid (upTo_miss (plan := plan) (n := (n : Int)) (k := k) (by rw [HL.out]; exact hkL) h)
            clear hc
            generalize plan.getD k 0 = x at *
            by_cases hx : x = (n : Int)
            · have HX := Lib.hid (HIT hx).out
              have hq : (x == (n : Int)) = true := by simpa using hx
              have hm0 : -24000 ≤ min m.fill h2 := by omega
              have hm1 : min m.fill h2 ≤ 24000 := by omega
              have HMN : Hid (min m.fill h2 = min m.fill (fall m when n - pourU m when plan n k)) := by unfold Hid; rw [← HH2.out]
              clear hx HIT HMS
              have hmf : min m.fill h2 ≤ h2 := by omega
              go_wp2_with fail
              refine ⟨⟨k + 1, h2 - min m.fill h2, p2 + min m.fill h2, rfl, rfl, by push_cast; rfl, by omega, ?_, ?_, CK.out⟩, ?_⟩
              · rw [HX.out, ← HMN.out, HH2.out]
                omega
              · rw [HX.out, ← HMN.out, HP2.out]
              · simp [intOf]
                omega
            · have hq : (x == (n : Int)) = false := by simpa using hx
              have HX := Lib.hid (HMS hx).out
              clear hx HIT HMS
              go_wp2_with fail
              refine ⟨⟨k + 1, h2, p2, rfl, rfl, by push_cast; rfl, by omega, ?_, ?_, CK.out⟩, ?_⟩
              · unfold pourU
                rw [HX.out]
                exact HH2.out
              · unfold pourU
                rw [HX.out]
                exact HP2.out
              · simp [intOf]
                omega
          · obtain rfl : L = k := by omega
            have HU : Hid (upTo plan n L = upTo plan (n + 1) 0) := by
              have := upTo_all HPW.out (n : Int)
              rw [HL.out] at this
              exact this
            go_wp2_with fail
            refine ⟨⟨n + 1, h2, p2, rfl, rfl, by push_cast; rfl, by omega, ?_, ?_, CK.out⟩, ?_⟩
            · have e : ((n + 1 : Nat) : Int) - 1 = n := by omega
              rw [e]
              have h1 := HH2.out
              unfold pourU at h1 ⊢
              rw [HU.out] at h1
              exact h1
            · have h1 := HP2.out
              unfold pourU at h1 ⊢
              rw [HU.out] at h1
              exact h1
            · simp [intOf]
              omega
end Go.Proofs.Ytafdagjdpnaddaa
