/- ScentChecks: for any arguments the law returns true. Conditions: none. -/
import Derived.Test.YtaigbhhmmdfdcaaL3
import Derived.Test.YtaigbhhmmdfdcaaOb
namespace Go.Proofs.Ytaigbhhmmdfdcaa
open Go.ChangeShapes Go.WideShapes Go.ChangeAt Go.RowKit
theorem rec25 : Try.prog.readableRec 25 = true ∧ 25 < Try.prog.types.size := ⟨by kernel_rfl, of_decide_eq_true (by kernel_rfl)⟩
set_option maxRecDepth 100000 in
theorem checks_lifted (os : Os) (started : os.Started) (H : Type) (enc : TypeId × Value → H) :
    ReturnsInHanded {} Try.checked os 3 .any (Rows.scentChecksSpec.pre6 enc Try.prog Try.f3 Rows.scentChecksRow.domain false) (Rows.scentChecksSpec.post enc Try.prog Try.f3 false true false false) := by
  refine returnsInHanded_of_change_sized (C := Try.checked) own started (by kernel_rfl) Try.func3
    (ChangeSpec.witness6 (enc := enc) (C := Try.checked) false ⟨#[], #[.agg #[.slice none 0 0, .slice none 0 0]], []⟩ 8 (by kernel_rfl) (by kernel_rfl) (by kernel_rfl) (by kernel_rfl)) ?_
  intro W base args ds gs before hval hW hcnd hsz _
  have hW' := hW
  obtain ⟨p, q, hA0, hV, rfl, hfz, hnd⟩ := hW
  obtain ⟨rfl, rfl⟩ := trodVars_none hV
  have hA : DataW.TrodAll enc Try.prog W 0 (fun _ => true) true Try.f3.params.toList args.toList ds p := hA0
  have hval' : ∀ (j : Nat) t v, Try.f3.params[j]? = some t → args[j]? = some v → Value.okWide Try.prog W .any base t v := hval
  rw [Try.params3] at hA hval' hsz
  obtain ⟨v1, vs1, d1, ds1, p1, q1, e1, rfl, rfl, h1, hA⟩ := trodAll_cons hA
  obtain ⟨rfl, rfl, rfl⟩ : vs1 = [] ∧ ds1 = [] ∧ q1 = [] := by
    cases vs1 <;> cases ds1 <;> simp [DataW.TrodAll] at hA
    exact ⟨rfl, rfl, hA⟩
  have ea : args = #[v1] := by rw [← Array.toArray_toList (xs := args), e1]
  subst ea
  obtain ⟨vt, vl, s, rfl, hs⟩ := open_shop h1 (fits_of hsz (j := 0) rfl rfl) (hval' 0 25 v1 rfl rfl)
  refine (checks_law s vt vl W hs).mono fun e W' ⟨he, hb⟩ => ?_
  exact law_done rfl hW' (by kernel_rfl) (by
    rw [Try.params3]
    intro t ht
    simp only [List.mem_cons, List.not_mem_nil, or_false] at ht
    rcases ht with rfl
    · exact rec25) rfl he hb
theorem checks_holds : Rows.ScentChecksSaid :=
  OpenClaim.holds_of_wide 3 Try.f3 rfl rfl rfl rfl rfl rfl rfl ⟨rfl, rfl, rfl, rfl, rfl⟩ rfl rfl rfl rfl rfl (by kernel_rfl) Try.func3 (by kernel_rfl)
    (of_decide_eq_true (by kernel_rfl)) (by unfold Func.isWrapper; first | (rw [if_pos (by decide +kernel)]; kernel_rfl) | (rw [if_neg (by decide +kernel)]; exact ⟨rfl, rfl⟩))
    (fun os started H enc _ => checks_lifted os started H enc)
#print axioms checks_holds
end Go.Proofs.Ytaigbhhmmdfdcaa
