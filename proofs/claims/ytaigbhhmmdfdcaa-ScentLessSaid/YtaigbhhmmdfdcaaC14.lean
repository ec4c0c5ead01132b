/- ScentLess: for any arguments the law returns true. Conditions: none. -/
import Derived.Test.YtaigbhhmmdfdcaaL14
import Derived.Test.YtaigbhhmmdfdcaaOb
namespace Go.Proofs.Ytaigbhhmmdfdcaa
open Go.ChangeShapes Go.WideShapes Go.ChangeAt Go.RowKit
theorem rec25 : Try.prog.readableRec 25 = true ∧ 25 < Try.prog.types.size := ⟨by kernel_rfl, of_decide_eq_true (by kernel_rfl)⟩
theorem rec31 : Try.prog.readableRec 31 = true ∧ 31 < Try.prog.types.size := ⟨by kernel_rfl, of_decide_eq_true (by kernel_rfl)⟩
theorem rec65 : Try.prog.readableRec 65 = true ∧ 65 < Try.prog.types.size := ⟨by kernel_rfl, of_decide_eq_true (by kernel_rfl)⟩
set_option maxRecDepth 100000 in
theorem less_lifted (os : Os) (started : os.Started) (H : Type) (enc : TypeId × Value → H) :
    ReturnsInHanded {} Try.checked os 14 .any (Rows.scentLessSpec.pre6 enc Try.prog Try.f14 Rows.scentLessRow.domain false) (Rows.scentLessSpec.post enc Try.prog Try.f14 false true false false) := by
  refine returnsInHanded_of_change_sized (C := Try.checked) own started (by kernel_rfl) Try.func14
    (ChangeSpec.witness6 (enc := enc) (C := Try.checked) false ⟨#[], #[.agg #[.slice none 0 0, .slice none 0 0], .slice none 0 0, .slice none 0 0], []⟩ 8 (by kernel_rfl) (by kernel_rfl) (by kernel_rfl) (by kernel_rfl)) ?_
  intro W base args ds gs before hval hW hcnd hsz _
  have hW' := hW
  obtain ⟨p, q, hA0, hV, rfl, hfz, hnd⟩ := hW
  obtain ⟨rfl, rfl⟩ := trodVars_none hV
  have hA : DataW.TrodAll enc Try.prog W 0 (fun _ => true) true Try.f14.params.toList args.toList ds p := hA0
  have hval' : ∀ (j : Nat) t v, Try.f14.params[j]? = some t → args[j]? = some v → Value.okWide Try.prog W .any base t v := hval
  rw [Try.params14] at hA hval' hsz
  obtain ⟨v1, vs1, d1, ds1, p1, q1, e1, rfl, rfl, h1, hA⟩ := trodAll_cons hA
  obtain ⟨v2, vs2, d2, ds2, p2, q2, rfl, rfl, rfl, h2, hA⟩ := trodAll_cons hA
  obtain ⟨v3, vs3, d3, ds3, p3, q3, rfl, rfl, rfl, h3, hA⟩ := trodAll_cons hA
  obtain ⟨rfl, rfl, rfl⟩ : vs3 = [] ∧ ds3 = [] ∧ q3 = [] := by
    cases vs3 <;> cases ds3 <;> simp [DataW.TrodAll] at hA
    exact ⟨rfl, rfl, hA⟩
  have ea : args = #[v1, v2, v3] := by rw [← Array.toArray_toList (xs := args), e1]
  subst ea
  obtain ⟨vt, vl, s, rfl, hs⟩ := open_shop h1 (fits_of hsz (j := 0) rfl rfl) (hval' 0 25 v1 rfl rfl)
  obtain ⟨l, hl⟩ := open_bats h2 (fits_of hsz (j := 1) rfl rfl) (hval' 1 31 v2 rfl rfl)
  obtain ⟨x, hx, hxb⟩ := open_turns h3 (fits_of hsz (j := 2) rfl rfl) (hval' 2 65 v3 rfl rfl)
  refine (less_law s l x (turns_of2 hxb) vt vl v2 v3 W hs hl hx).mono fun e W' ⟨he, hb⟩ => ?_
  exact law_done rfl hW' (by kernel_rfl) (by
    rw [Try.params14]
    intro t ht
    simp only [List.mem_cons, List.not_mem_nil, or_false] at ht
    rcases ht with rfl | rfl | rfl
    · exact rec25
    · exact rec31
    · exact rec65) rfl he hb
theorem less_holds : Rows.ScentLessSaid :=
  OpenClaim.holds_of_wide 14 Try.f14 rfl rfl rfl rfl rfl rfl rfl ⟨rfl, rfl, rfl, rfl, rfl⟩ rfl rfl rfl rfl rfl (by kernel_rfl) Try.func14 (by kernel_rfl)
    (of_decide_eq_true (by kernel_rfl)) (by unfold Func.isWrapper; first | (rw [if_pos (by decide +kernel)]; kernel_rfl) | (rw [if_neg (by decide +kernel)]; exact ⟨rfl, rfl⟩))
    (fun os started H enc _ => less_lifted os started H enc)
#print axioms less_holds
end Go.Proofs.Ytaigbhhmmdfdcaa
