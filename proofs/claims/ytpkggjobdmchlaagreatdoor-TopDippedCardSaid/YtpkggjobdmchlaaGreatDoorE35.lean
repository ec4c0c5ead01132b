/- TopDipped, plainly: the plan of Fewest, followed at any warmth. -/
import Derived.Test.YtpkggjobdmchlaaGreatDoorE24
import Derived.Test.YtpkggjobdmchlaaGreatDoorE19
import Derived.Test.YtpkggjobdmchlaaGreatDoorE13
import Derived.Test.YtpkggjobdmchlaaGreatDoorV1
namespace Go.Proofs.YtpkggjobdmchlaaGreatDoor
open Go.RowKit
/-- The plan of the numbers. -/
def planD (ks : List DDip) (p : List Nat) : List DDip := p.map fun k => ks.getD k default
theorem planD_len (ks : List DDip) (p : List Nat) : (planD ks p).length = p.length := by simp [planD]
theorem planD_get (ks : List DDip) {p : List Nat} {i : Nat} (hi : i < p.length) : (planD ks p).getD i default = ks.getD (p.getD i 0) default := by
  simp [planD, List.getD_eq_getElem?_getD, hi]
/-- The end of a plan. -/
abbrev endF (s : DShop) (t : DTap) (plan : List DDip) (warm : List Int) : Int × Int := stF s (t.top, t.foot) plan warm plan.length
theorem dipped_plain {s : DShop} (hs : DOk s) {t : DTap} {ks : List DDip} (h5 : ks.length ≤ 5) (hall : ∀ d ∈ ks, DipOk s d) {lo hi bound : Int} {q : TQ} (hq : IsQ s t lo hi bound ks q) {p : List Nat} (hp : fewR q = some p) :
    p.length ≤ 10 ∧ (∀ k ∈ p, k < ks.length) ∧ PlanOk s (planD ks p) ∧ ∀ warm : List Int, warm.length = (planD ks p).length → WarmIn s (planD ks p) warm →
      (∀ i, 0 < i → i ≤ (planD ks p).length → t.wick ≤ (stF s (t.top, t.foot) (planD ks p) warm i).1 ∧ t.wick ≤ (stF s (t.top, t.foot) (planD ks p) warm i).2) ∧
      (lo ≤ (endF s t (planD ks p) warm).1 ∧ (endF s t (planD ks p) warm).1 ≤ hi) ∧ lo ≤ (endF s t (planD ks p) warm).2 ∧ (endF s t (planD ks p) warm).2 ≤ hi := by
  obtain ⟨rfl, rfl, rfl, rfl, rfl, rfl⟩ := hq
  unfold fewR at hp
  obtain ⟨m, hm, hf⟩ := List.exists_of_findSome?_eq_some hp
  have hm10 : m ≤ 10 := by have := List.mem_range.1 hm; omega
  obtain ⟨h1, h2, -, h4⟩ := path_ok hs h5 m zeroC (stOf q zeroC) p (CntB.zero hm10) hf
  subst h1
  have hpl : planOf q p = planD q.ks p := rfl
  rw [hpl] at h4
  refine ⟨hm10, h2, ⟨by rw [planD_len]; omega, fun i hi => ?_⟩, fun warm hw hwi => ?_⟩
  · rw [planD_len] at hi
    rw [planD_get _ hi]
    have hk := h2 (p.getD i 0) (by rw [List.getD_eq_getElem?_getD, List.getElem?_eq_getElem hi]; exact List.getElem_mem hi)
    rw [List.getD_eq_getElem?_getD, List.getElem?_eq_getElem hk]
    exact hall _ (List.getElem_mem hk)
  · have h := h4 warm (q.t.top, q.t.foot) (by rw [hw, planD_len]) hwi (by rw [stOf_zero]; unfold InR beginV; simp only; omega)
    unfold endF
    rw [planD_len]
    exact h
/-- The four sizes lie in the wish. -/
theorem four_in {lo hi a b : Int} (_h1 : 0 ≤ lo) (_h2 : hi ≤ 2000) (ha : 100 * lo ≤ a ∧ a ≤ 100 * hi) (hb : 100 * lo ≤ b ∧ b ≤ 100 * hi) : ∀ x ∈ [a / 100, (a + 99) / 100, b / 100, (b + 99) / 100], lo ≤ x ∧ x ≤ hi := by
  intro x hx
  simp only [List.mem_cons, List.not_mem_nil, or_false] at hx
  rcases hx with rfl | rfl | rfl | rfl <;> omega
end Go.Proofs.YtpkggjobdmchlaaGreatDoor
