/- Plain: no sound plan has fewer toppings than Fewest says. -/
import Derived.Test.YtafdagjdpnaddaaP16
import Derived.Test.YtafdagjdpnaddaaW21
namespace Go.Proofs.Ytafdagjdpnaddaa
theorem hollowE_ok {m : Mou} {plan : List Int} (h : hollowE m plan = 0) : checkE m = 0 ∧ PlanOk m plan ∧ neverB (endsL m true) = false ∧ poursB m (endsL m false) plan = true := by
  unfold hollowE at h
  by_cases h1 : checkE m ≠ 0
  · rw [if_pos h1] at h; exact absurd h h1
  rw [if_neg h1] at h
  by_cases h2 : planE m plan ≠ 0
  · rw [if_pos h2] at h; exact absurd h h2
  rw [if_neg h2] at h
  cases h3 : neverB (endsL m true) with
  | true => rw [h3] at h; simp at h
  | false =>
    rw [h3] at h
    cases h4 : poursB m (endsL m false) plan with
    | false => rw [h4] at h; simp at h
    | true => exact ⟨by simpa using h1, plan_ok.1 (by simpa using h2), rfl, rfl⟩
theorem getD_mem {l : List Int} {i : Nat} (h : i < l.length) : l.getD i 0 ∈ l := by
  simp [List.getD, h]
/-- The latest plan of as many toppings is nowhere earlier. -/
theorem late_ge {m : Mou} (hm : Valid m) {plan : List Int} (hp : PlanOk m plan) {first : List Int} (hq : poursB m first plan = true) {i : Nat} (hi : i < plan.length) :
    plan.getD i 0 ≤ lastM m first - ((plan.length : Int) - 1 - i) * m.gap := by
  have hl : plan.getD (plan.length - 1) 0 ≤ lastM m first := by
    have hr := hp.r0 (plan.length - 1) (by omega)
    have hs := poursB_iff.1 hq _ (getD_mem (show plan.length - 1 < plan.length by omega))
    have := downTo_ge (p := pourAt m first) (N := 601) (k := (plan.getD (plan.length - 1) 0).toNat) (by omega) (by
      unfold pourAt
      rw [decide_eq_true_eq, Int.toNat_of_nonneg hr.1]
      exact hs)
    unfold lastM
    omega
  by_cases he : i = plan.length - 1
  · subst he
    rw [show ((plan.length : Int) - 1 - ((plan.length - 1 : Nat) : Int)) = 0 by omega]
    omega
  · have := hp.lt hm (i := i) (j := plan.length - 1) (by omega) (by omega)
    rw [show (((plan.length - 1 - i : Nat)) : Int) = (plan.length : Int) - 1 - i by omega, Int.mul_comm] at this
    omega
theorem late_hol {m : Mou} (hm : Valid m) {plan : List Int} (hp : PlanOk m plan) {first last : List Int} (hq : poursB m first plan = true) (hl : (last.length : Int) = m.rings) : holV m last (lateP (lastM m first) m.gap plan.length) ≤ holV m last plan := by
  unfold holV pourL
  have := pourF_le (F := fall m last) (G := fall m last) (fill := m.fill) (a := plan) (b := lateP (lastM m first) m.gap plan.length) (p := 0) (q := 0) (Int.le_refl _) (lateP_length _ _ _).symm (fun i hi => by
    rw [lateP_getD _ _ _ _ hi]
    exact fall_grows hm hl (late_ge hm hp hq hi))
  omega
theorem sound_few {m : Mou} (hm : Valid m) {plan : List Int} (hE : hollowE m plan = 0) (hd : holV m (endsL m true) plan ≤ m.deep) :
    ∃ n : Nat, fewV m = (lateP (lastM m (endsL m false)) m.gap n, 0) ∧ n ≤ plan.length ∧ (n = plan.length → 0 < n → plan.getD (n - 1) 0 ≤ (lateP (lastM m (endsL m false)) m.gap n).getD (n - 1) 0) := by
  obtain ⟨hc, hp, hn, hq⟩ := hollowE_ok hE
  have hb : fewB m (endsL m false) (endsL m true) plan.length = true := by
    unfold fewB
    have h1 := late_hol (last := endsL m true) hm hp hq (endsL_lenI hm true)
    rw [Bool.and_eq_true, Bool.or_eq_true, decide_eq_true_eq, decide_eq_true_eq, decide_eq_true_eq]
    refine ⟨?_, by omega⟩
    by_cases h0 : plan.length = 0
    · exact .inl h0
    · have := late_ge hm hp hq (i := 0) (by omega)
      have := (hp.r0 0 (by omega)).1
      right
      rename_i q1
      have e : ((plan.length : Int) - 1 - ((0 : Nat) : Int)) = (plan.length : Int) - 1 := by omega
      rw [e] at q1
      omega
  have hl := hp.len
  obtain ⟨h1, h2⟩ := firstTo_of (p := fewB m (endsL m false) (endsL m true)) (N := 41) (by omega) hb
  obtain ⟨n, hfn⟩ : ∃ n : Nat, fewN m (endsL m false) (endsL m true) = n := ⟨(fewN m (endsL m false) (endsL m true)).toNat, by unfold fewN; omega⟩
  refine ⟨n, fewV_is hc hn hfn, by unfold fewN at hfn; omega, fun he h0 => ?_⟩
  rw [lateP_getD _ _ _ _ (by omega)]
  have := late_ge hm hp hq (i := n - 1) (by omega)
  rw [he] at this ⊢
  exact this
theorem fewE_cases {m : Mou} (h : checkE m = 0) : (fewV m).2 = 0 ∨ fewV m = ([], 9) := by
  by_cases hn : neverB (endsL m true) = true
  · exact .inr (fewV_never h hn)
  · have hn' : neverB (endsL m true) = false := by simpa using hn
    by_cases hf : fewN m (endsL m false) (endsL m true) < 0
    · exact .inr (fewV_no h hn' hf)
    · have := fewV_is h hn' (n := (fewN m (endsL m false) (endsL m true)).toNat) (by omega)
      rw [this]
      exact .inl rfl
end Go.Proofs.Ytafdagjdpnaddaa
