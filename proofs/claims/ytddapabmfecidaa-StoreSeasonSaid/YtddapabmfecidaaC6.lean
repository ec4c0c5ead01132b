/- StoreSeason: for any arguments the law returns true. Conditions: none. -/
import Derived.Test.YtddapabmfecidaaL6
import Derived.Test.YtddapabmfecidaaRx
import Derived.Test.YtddapabmfecidaaOq
namespace Go.Proofs.Ytddapabmfecidaa
open Go.ChangeShapes Go.WideShapes Go.ChangeAt Go.RowKit
theorem rec31 : Try.prog.readableRec 31 = true ∧ 31 < Try.prog.types.size := ⟨by kernel_rfl, of_decide_eq_true (by kernel_rfl)⟩
theorem rec40 : Try.prog.readableRec 40 = true ∧ 40 < Try.prog.types.size := ⟨by kernel_rfl, of_decide_eq_true (by kernel_rfl)⟩
set_option maxRecDepth 100000 in
theorem season_lifted (os : Os) (started : os.Started) (H : Type) (enc : TypeId × Value → H) :
    ReturnsInHanded {} Try.checked os 6 .any (Rows.storeSeasonSpec.pre6 enc Try.prog Try.f6 Rows.storeSeasonRow.domain false) (Rows.storeSeasonSpec.post enc Try.prog Try.f6 false true false false) := by
  refine returnsInHanded_of_change_sized (C := Try.checked) own started (by kernel_rfl) Try.func6
    (ChangeSpec.witness6 (enc := enc) (C := Try.checked) false ⟨#[], #[.agg #[.int .i64 0, .int .i64 0, .int .i64 0, .int .i64 0, .int .i64 0, .slice none 0 0], .slice none 0 0], []⟩ 8 (by kernel_rfl) (by kernel_rfl) (by kernel_rfl) (by kernel_rfl)) ?_
  intro W base args ds gs before hval hW hcnd hsz _
  have hW' := hW
  obtain ⟨p, q, hA0, hV, rfl, hfz, hnd⟩ := hW
  obtain ⟨rfl, rfl⟩ := trodVars_none hV
  have hA : DataW.TrodAll enc Try.prog W 0 (fun _ => true) true Try.f6.params.toList args.toList ds p := hA0
  have hval' : ∀ (j : Nat) t v, Try.f6.params[j]? = some t → args[j]? = some v → Value.okWide Try.prog W .any base t v := hval
  rw [Try.params6] at hA hval' hsz
  obtain ⟨v1, vs1, d1, ds1, p1, q1, e1, rfl, rfl, h1, hA⟩ := trodAll_cons hA
  obtain ⟨v2, vs2, d2, ds2, p2, q2, rfl, rfl, rfl, h2, hA⟩ := trodAll_cons hA
  obtain ⟨rfl, rfl, rfl⟩ : vs2 = [] ∧ ds2 = [] ∧ q2 = [] := by
    cases vs2 <;> cases ds2 <;> simp [DataW.TrodAll] at hA
    exact ⟨rfl, rfl, hA⟩
  have ea : args = #[v1, v2] := by rw [← Array.toArray_toList (xs := args), e1]
  subst ea
  obtain ⟨s, vs, rfl, hsto⟩ := open_season h1 (fits_of hsz (j := 0) rfl rfl) (hval' 0 31 v1 rfl rfl)
  obtain ⟨ys, hys, hyr⟩ := open_u16s h2 (fits_of hsz (j := 1) rfl rfl) (hval' 1 40 v2 rfl rfl)
  refine (season_any6 s vs v2 ys hyr W hsto hys).mono fun e W' ⟨he, hb⟩ => ?_
  exact law_done rfl hW' (by kernel_rfl) (by
    rw [Try.params6]
    intro t ht
    simp only [List.mem_cons, List.not_mem_nil, or_false] at ht
    rcases ht with rfl | rfl
    · exact rec31
    · exact rec40) rfl he hb
theorem season_holds : Rows.StoreSeasonSaid :=
  OpenClaim.holds_of_wide 6 Try.f6 rfl rfl rfl rfl rfl rfl rfl ⟨rfl, rfl, rfl, rfl, rfl⟩ rfl rfl rfl rfl rfl (by kernel_rfl) Try.func6 (by kernel_rfl)
    (of_decide_eq_true (by kernel_rfl)) (by unfold Func.isWrapper; first | (rw [if_pos (by decide +kernel)]; kernel_rfl) | (rw [if_neg (by decide +kernel)]; exact ⟨rfl, rfl⟩))
    (fun os started H enc _ => season_lifted os started H enc)
#print axioms season_holds
end Go.Proofs.Ytddapabmfecidaa
