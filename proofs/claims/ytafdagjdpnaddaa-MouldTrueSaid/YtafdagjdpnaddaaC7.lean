/- MouldTrue: for any arguments the law returns true. Conditions: none. -/
import Derived.Test.YtafdagjdpnaddaaL7
import Derived.Test.YtafdagjdpnaddaaOa
namespace Go.Proofs.Ytafdagjdpnaddaa
open Go.ChangeShapes Go.WideShapes Go.ChangeAt Go.RowKit
theorem rec25 : Try.prog.readableRec 25 = true ∧ 25 < Try.prog.types.size := ⟨by kernel_rfl, of_decide_eq_true (by kernel_rfl)⟩
theorem rec55 : Try.prog.readableRec 55 = true ∧ 55 < Try.prog.types.size := ⟨by kernel_rfl, of_decide_eq_true (by kernel_rfl)⟩
theorem rec58 : Try.prog.readableRec 58 = true ∧ 58 < Try.prog.types.size := ⟨by kernel_rfl, of_decide_eq_true (by kernel_rfl)⟩
set_option maxRecDepth 100000 in
theorem true_lifted (os : Os) (started : os.Started) (H : Type) (enc : TypeId × Value → H) :
    ReturnsInHanded {} Try.checked os 7 .any (Rows.mouldTrueSpec.pre6 enc Try.prog Try.f7 Rows.mouldTrueRow.domain false) (Rows.mouldTrueSpec.post enc Try.prog Try.f7 false true false false) := by
  refine returnsInHanded_of_change_sized (C := Try.checked) own started (by kernel_rfl) Try.func7
    (ChangeSpec.witness6 (enc := enc) (C := Try.checked) false ⟨#[], #[.agg #[.int .i64 0, .int .i64 0, .int .i64 0, .int .i64 0, .int .i64 0, .int .i64 0, .int .i64 0, .int .i64 0, .int .i64 0, .int .i64 0, .int .i64 0, .int .i64 0], .int .u16 0, .agg #[.slice none 0 0, .slice none 0 0]], []⟩ 8 (by kernel_rfl) (by kernel_rfl) (by kernel_rfl) (by kernel_rfl)) ?_
  intro W base args ds gs before hval hW hcnd hsz _
  have hW' := hW
  obtain ⟨p, q, hA0, hV, rfl, hfz, hnd⟩ := hW
  obtain ⟨rfl, rfl⟩ := trodVars_none hV
  have hA : DataW.TrodAll enc Try.prog W 0 (fun _ => true) true Try.f7.params.toList args.toList ds p := hA0
  have hval' : ∀ (j : Nat) t v, Try.f7.params[j]? = some t → args[j]? = some v → Value.okWide Try.prog W .any base t v := hval
  rw [Try.params7] at hA hval' hsz
  obtain ⟨v1, vs1, d1, ds1, p1, q1, e1, rfl, rfl, h1, hA⟩ := trodAll_cons hA
  obtain ⟨v2, vs2, d2, ds2, p2, q2, rfl, rfl, rfl, h2, hA⟩ := trodAll_cons hA
  obtain ⟨v3, vs3, d3, ds3, p3, q3, rfl, rfl, rfl, h3, hA⟩ := trodAll_cons hA
  obtain ⟨rfl, rfl, rfl⟩ : vs3 = [] ∧ ds3 = [] ∧ q3 = [] := by
    cases vs3 <;> cases ds3 <;> simp [DataW.TrodAll] at hA
    exact ⟨rfl, rfl, hA⟩
  have ea : args = #[v1, v2, v3] := by rw [← Array.toArray_toList (xs := args), e1]
  subst ea
  obtain ⟨m, rfl⟩ := open_mould h1 (hval' 0 25 v1 rfl rfl)
  obtain ⟨f2, rfl, -, -, hf2⟩ := open_int Try.underlying55 (hval' 1 55 v2 rfl rfl) h2
  have hfr2 := bounds_u16 hf2
  obtain ⟨yv, zv, yp, yw, rfl, hy⟩ := open_turns h3 (fits_of hsz (j := 2) rfl rfl) (hval' 2 58 v3 rfl rfl)
  refine (true_law m f2 hfr2.1 hfr2.2 yv zv yp yw W hy.1 hy.2.1 hy.2.2.1 hy.2.2.2).mono fun e W' ⟨he, hb⟩ => ?_
  exact law_done rfl hW' (by kernel_rfl) (by
    rw [Try.params7]
    intro t ht
    simp only [List.mem_cons, List.not_mem_nil, or_false] at ht
    rcases ht with rfl | rfl | rfl
    · exact rec25
    · exact rec55
    · exact rec58) rfl he hb
theorem true_holds : Rows.MouldTrueSaid :=
  OpenClaim.holds_of_wide 7 Try.f7 rfl rfl rfl rfl rfl rfl rfl ⟨rfl, rfl, rfl, rfl, rfl⟩ rfl rfl rfl rfl rfl (by kernel_rfl) Try.func7 (by kernel_rfl)
    (of_decide_eq_true (by kernel_rfl)) (by unfold Func.isWrapper; first | (rw [if_pos (by decide +kernel)]; kernel_rfl) | (rw [if_neg (by decide +kernel)]; exact ⟨rfl, rfl⟩))
    (fun os started H enc _ => true_lifted os started H enc)
#print axioms true_holds
end Go.Proofs.Ytafdagjdpnaddaa
