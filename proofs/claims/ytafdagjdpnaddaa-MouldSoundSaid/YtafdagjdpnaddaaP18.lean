/- Plain: truths between the coldest and the warmest one; the plan of Fewest. -/
import Derived.Test.YtafdagjdpnaddaaP12
import Derived.Test.YtafdagjdpnaddaaP17
import Derived.Test.YtafdagjdpnaddaaW31
namespace Go.Proofs.Ytafdagjdpnaddaa
theorem leL_map_lo {x : Int} {f : Nat → Int} (h : ∀ i, x ≤ f i) (n : Nat) : LeL (List.replicate n x) (mapTo f n) := ⟨by simp [mapTo], fun i hi => by
  rw [List.length_replicate] at hi
  rw [mapTo_getD f hi]
  simpa [List.getD, hi] using h i⟩
theorem leL_map_hi {x : Int} {f : Nat → Int} (h : ∀ i, f i ≤ x) (n : Nat) : LeL (mapTo f n) (List.replicate n x) := ⟨by simp [mapTo], fun i hi => by
  rw [mapTo_len] at hi
  rw [mapTo_getD f hi]
  simpa [List.getD, hi] using h i⟩
section
variable {m : Mou} (hm : Valid m) (yl zl : List Int) (n : Nat)
include hm
theorem truth_lo : LeL (sameP m false) (truthPl m m.rings.toNat yl) ∧ LeL (sameW m false n) (truthWl m n zl) :=
  ⟨leL_map_lo (fun _ => (amongV_range hm.pp).1) _, leL_map_lo (fun _ => (amongV_range hm.ww).1) _⟩
theorem truth_hi : LeL (truthPl m m.rings.toNat yl) (sameP m true) ∧ LeL (truthWl m n zl) (sameW m true n) :=
  ⟨leL_map_hi (fun _ => (amongV_range hm.pp).2) _, leL_map_hi (fun _ => (amongV_range hm.ww).2) _⟩
theorem truth_fitsP : Fits2 m.pl m.ph (truthPl m m.rings.toNat yl) := fun i hi => by
  rw [truthPl, mapTo_len] at hi
  rw [truthPl, mapTo_getD _ hi]
  exact amongV_range hm.pp
theorem truth_fitsW : Fits2 m.wl m.wh (truthWl m n zl) := fun i hi => by
  rw [truthWl, mapTo_len] at hi
  rw [truthWl, mapTo_getD _ hi]
  exact amongV_range hm.ww
def truthWhen (m : Mou) (yl zl : List Int) : List Int := whenL m (truthPl m m.rings.toNat yl) (truthWl m 600 zl)
theorem when_cold : NoLater (endsL m false) (truthWhen m yl zl) := whenL_mono hm (truth_lo hm yl zl 600).1 (truth_lo hm yl zl 600).2
theorem when_hot : NoLater (truthWhen m yl zl) (endsL m true) := whenL_mono hm (truth_hi hm yl zl 600).1 (truth_hi hm yl zl 600).2
end
theorem truthWhen_len (m : Mou) (yl zl : List Int) : (truthWhen m yl zl).length = m.rings.toNat := by
  rw [truthWhen, whenL_length, truthPl, mapTo_len]
theorem when_range (m : Mou) (p ws : List Int) (hw : ws.length ≤ 600) {i : Nat} (hi : i < p.length) : -1 ≤ (whenL m p ws).getD i 0 ∧ (whenL m p ws).getD i 0 ≤ 600 := by
  rw [whenL_getD _ _ _ _ hi]
  have := firstTo_bound (setsAt m p ws i) (ws.length + 1)
  unfold whenI
  omega
/-- Where all rings set in the warmest truth, they set in each one. -/
theorem sets_all {m : Mou} {a : List Int} (h : NoLater a (endsL m true)) (hn : neverB (endsL m true) = false) {i : Nat} (hi : i < a.length) : 0 ≤ a.getD i 0 := by
  have hl : a.length = m.rings.toNat := h.1.trans (endsL_length m true)
  have h1 := never_not hn (show i < m.rings.toNat by omega)
  rw [← endsL_getD m true (show i < m.rings.toNat by omega)] at h1
  exact ((h.2 i hi).2 h1).1
theorem hollow_is {m : Mou} {when : List Int} (h : ∀ i, i < when.length → 0 ≤ when.getD i 0 ∧ when.getD i 0 ≤ 600) (plan : List Int) : fall m when 600 - pourL (fall m when) m.fill plan = holV m when plan := by
  unfold holV
  rw [fall600 m h]
theorem few_ok {m : Mou} (h : (fewV m).2 = 0) : ∃ n : Nat, fewV m = (lateP (lastM m (endsL m false)) m.gap n, 0) ∧ PlanOk m (lateP (lastM m (endsL m false)) m.gap n) ∧ poursB m (endsL m false) (lateP (lastM m (endsL m false)) m.gap n) = true ∧ holV m (endsL m true) (lateP (lastM m (endsL m false)) m.gap n) ≤ m.deep ∧ checkE m = 0 ∧ neverB (endsL m true) = false := by
  by_cases hc : checkE m = 0
  rotate_left
  · rw [fewV_bad hc] at h; exact absurd h hc
  cases hn : neverB (endsL m true) with
  | true => rw [fewV_never hc hn] at h; simp at h
  | false =>
    by_cases hf : fewN m (endsL m false) (endsL m true) < 0
    · rw [fewV_no hc hn hf] at h; simp at h
    have hm := valid_of_check hc
    have hb := firstTo_bound (fewB m (endsL m false) (endsL m true)) 41
    have hp := (firstTo_pos (p := fewB m (endsL m false) (endsL m true)) (N := 41) (by unfold fewN at hf; omega)).1
    obtain ⟨n, hfn⟩ : ∃ n : Nat, fewN m (endsL m false) (endsL m true) = n := ⟨(fewN m (endsL m false) (endsL m true)).toNat, by omega⟩
    have hfn' := hfn
    unfold fewN at hfn'
    rw [hfn', Int.toNat_natCast] at hp
    unfold fewB at hp
    rw [Bool.and_eq_true, Bool.or_eq_true, decide_eq_true_eq, decide_eq_true_eq, decide_eq_true_eq] at hp
    have hlast : lastM m (endsL m false) ≤ 600 := by have := downTo_bound (pourAt m (endsL m false)) 601; unfold lastM; omega
    have hord := late_order hm hlast (n := n) (fun h0 => by have := hp.1; omega)
    refine ⟨n, fewV_is hc hn hfn, ⟨by rw [lateP_length]; omega, hord.ends, fun i hi => ?_⟩, poursB_iff.2 fun t ht => ?_, hp.2, hc, rfl⟩
    · rw [lateP_length] at hi
      rw [lateP_getD _ _ _ _ hi, lateP_getD _ _ _ _ (by omega)]
      have e : ((n : Int) - 1 - (i : Int)) = ((n : Int) - 1 - ((i + 1 : Nat) : Int)) + 1 := by omega
      rw [e, Int.add_mul]
      omega
    · obtain ⟨i, hi, he⟩ := List.mem_iff_getElem.1 ht
      have hil : i < n := by rwa [lateP_length] at hi
      have hg : (lateP (lastM m (endsL m false)) m.gap n).getD i 0 = t := by simp [List.getD, hi, he]
      have h0 := (hord.ends i hi).1
      rw [lateP_getD _ _ _ _ hil] at hg
      have hle : t ≤ lastM m (endsL m false) := by
        have := Int.mul_nonneg (show 0 ≤ (n : Int) - 1 - i by omega) (show 0 ≤ m.gap by have := hm.a1; omega)
        omega
      have ht0 : 0 ≤ t := by rw [lateP_getD _ _ _ _ hil, hg] at h0; exact h0
      have h1 := downTo_pos (p := pourAt m (endsL m false)) (N := 601) (by unfold lastM at hle; omega)
      unfold pourAt at h1
      rw [decide_eq_true_eq] at h1
      have h2 := skin_grows (when := endsL m false) hle
      have e : (((downTo (pourAt m (endsL m false)) 601).toNat : Nat) : Int) = lastM m (endsL m false) := by unfold lastM at hle ⊢; omega
      unfold pourAt at e
      rw [e] at h1
      omega
end Go.Proofs.Ytafdagjdpnaddaa
