/- TopDipped: for any arguments the law returns true, where the listed variables hold what the program's text lays (the card ties them). Conditions: those of the row's own cells alone. -/
import Derived.Test.YtpkggjobdmchlaaGreatDoorE36
import Derived.Test.YtpkggjobdmchlaaGreatDoorOE
import Derived.Test.YtpkggjobdmchlaaGreatDoorTie
import Derived.Test.YtpkggjobdmchlaaGreatDoorCards
import Derived.ProofKit
import Derived.OpenShut
import Derived.LaidMore
import Derived.Lay
import Derived.SevenTiedAt
import Derived.Stop.Joined
import Derived.Deep.DeepHandedRow
import Derived.Shelf.Vars
namespace Go.Proofs.YtpkggjobdmchlaaGreatDoor
open Go.ChangeShapes Go.WideShapes Go.ChangeAt Go.RowKit
theorem rec27 : Tryz.prog.readableRec 27 = true ∧ 27 < Tryz.prog.types.size := ⟨by kernel_rfl, of_decide_eq_true (by kernel_rfl)⟩
theorem rec30 : Tryz.prog.readableRec 30 = true ∧ 30 < Tryz.prog.types.size := ⟨by kernel_rfl, of_decide_eq_true (by kernel_rfl)⟩
theorem rec40 : Tryz.prog.readableRec 40 = true ∧ 40 < Tryz.prog.types.size := ⟨by kernel_rfl, of_decide_eq_true (by kernel_rfl)⟩
/-- What the row lists. -/
abbrev laidL : List (String × DataW Unit) := Rows.topDippedRow.laid
set_option maxRecDepth 100000 in
theorem dipped_lifted (os : Os) (started : os.Started) (H : Type) (enc : TypeId × Value → H) :
    ReturnsInHanded {} Tryz.checked os 3 .any ((OpenSpec.ofChange Rows.topDippedSpec).preRow enc Tryz.prog Tryz.f3 Rows.topDippedRow.domain false laidL) (Rows.topDippedSpec.post enc Tryz.prog Tryz.f3 false true false false) := by
  refine returnsInHanded_of_row (C := Tryz.checked) (s := OpenSpec.ofChange Rows.topDippedSpec) (F := fun _ _ _ => 0) (laid := laidL) own started (by kernel_rfl) Tryz.func3
    (ChangeSpec.witness_shaped (enc := enc) (C := Tryz.checked) (os := os) (X := fun w _ => laidMetH Tryz.prog laidL w) false (World.laidAll Tryz.prog os laidL) #[.agg #[.slice none 0 0, .slice none 0 0, .int .i64 0, .int .i64 0, .int .i64 0, .int .i64 0], .agg #[.int .i64 0, .int .i64 0, .int .i64 0, .int .i64 0, .int .i64 0, .int .i64 0, .int .i64 0, .int .i64 0, .slice none 0 0], .agg #[.int .i64 0, .int .i64 0, .int .i64 0, .int .i64 0, .int .i64 0, .int .u8 0, .int .i64 0, .int .i64 0, .int .i64 0, .slice none 0 0, .int .i64 0, .slice none 0 0]] 8 (World.laidAll_os _ _ _)
      (World.shaped_of_ZipB (by kernel_rfl) (by kernel_rfl)) (by kernel_rfl) (by kernel_rfl) (by kernel_rfl)
      (by rw [MakeChecks.laidMetH_plain _ _ _ (by kernel_rfl)]; exact laidMet_laidAll _ (by kernel_rfl) (by kernel_rfl))) ?_
  intro W base args ds gs before hval hW hcnd _ hsz _ hsh _
  obtain ⟨m, hm⟩ := cell_of_shapedOpen_int (g := 0) (t := 3) (zero := #[.int .i64 0]) (k := .i64) hsh (of_decide_eq_true (by kernel_rfl)) (by kernel_rfl) rfl (by kernel_rfl) (by kernel_rfl) Tryz.underlying3
  have hW' := hW
  obtain ⟨p, q, hA0, hV, rfl, hfz, hnd⟩ := hW
  obtain ⟨rfl, rfl⟩ := trodVars_none hV
  have hA : DataW.TrodAll enc Tryz.prog W 0 (fun _ => true) true Tryz.f3.params.toList args.toList ds p := hA0
  have hval' : ∀ (j : Nat) t v, Tryz.f3.params[j]? = some t → args[j]? = some v → Value.okWide Tryz.prog W .any base t v := hval
  rw [Tryz.params3] at hA hval' hsz
  obtain ⟨v1, vs1, d1, ds1, p1, q1, e1, rfl, rfl, h1, hA⟩ := trodAll_cons hA
  obtain ⟨v2, vs2, d2, ds2, p2, q2, rfl, rfl, rfl, h2, hA⟩ := trodAll_cons hA
  obtain ⟨v3, vs3, d3, ds3, p3, q3, rfl, rfl, rfl, h3, hA⟩ := trodAll_cons hA
  obtain ⟨rfl, rfl, rfl⟩ : vs3 = [] ∧ ds3 = [] ∧ q3 = [] := by
    cases vs3 <;> cases ds3 <;> simp [DataW.TrodAll] at hA
    exact ⟨rfl, rfl, hA⟩
  have ea : args = #[v1, v2, v3] := by rw [← Array.toArray_toList (xs := args), e1]
  subst ea
  obtain ⟨vw, vx, q, rfl, hq⟩ := open_wshopT h1 (fits_of hsz (j := 0) rfl rfl) (hval' 0 27 v1 rfl rfl)
  obtain ⟨s, u, rfl, hs⟩ := open_dshopT h2 (fits_of hsz (j := 1) rfl rfl) (hval' 1 30 v2 rfl rfl)
  obtain ⟨c, b, t, ks, bound, yl, kv, yv, rfl, hb, hk, hbo, hy, hyb⟩ := open_dcT h3 (fits_of hsz (j := 2) rfl rfl) (hval' 2 40 v3 rfl rfl)
  refine (dipped_law q s c b t ks bound yl hb hbo hyb vw vx u kv yv W hq hs hk hy ⟨m, hm⟩).mono fun e W' ⟨he, hb⟩ => ?_
  exact law_done rfl hW' (by kernel_rfl) (by
    rw [Tryz.params3]
    intro t ht
    simp only [List.mem_cons, List.not_mem_nil, or_false] at ht
    rcases ht with rfl | rfl | rfl
    · exact rec27
    · exact rec30
    · exact rec40) rfl he hb
theorem dipped_row : Rows.TopDippedSaid :=
  OpenClaim.holds_of_wide 3 Tryz.f3 rfl rfl rfl rfl rfl rfl rfl ⟨rfl, rfl, rfl, rfl, rfl⟩ rfl rfl rfl rfl rfl (by kernel_rfl) Tryz.func3 (by kernel_rfl)
    (of_decide_eq_true (by kernel_rfl)) (by unfold Func.isWrapper; first | (rw [if_pos (by decide +kernel)]; kernel_rfl) | (rw [if_neg (by decide +kernel)]; exact ⟨rfl, rfl⟩))
    (fun os started H enc _ => by rw [OpenClaim.pre_eq_preRow]; exact dipped_lifted os started H enc)
theorem dipped_holds : Rows.TopDippedCardSaid :=
  Claim7.holds_tied_plain_at .later [] [.data, .data, .data, .data, .sentinel, .sentinel, .pinned] true (true, "b848b2ec16d8f768d89e92036de2e871fc95958d551cc89d9f5db7ecf5c41fb7") true dipped_row (fun _ h => by cases h) (by kernel_rfl) (fun _ h => by cases h) topDipped_row_tie rfl ⟨rfl, rfl⟩ (by kernel_rfl) rfl
    (fun f fn hf hfn => by
      obtain rfl : f = 3 := Option.some.inj ((show Tryz.prog.funcNamed Rows.topDippedRow.func = some 3 by kernel_rfl).symm.trans hf) |>.symm
      obtain rfl : fn = Tryz.f3 := (Option.some.inj (Tryz.func3.symm.trans hfn)).symm
      exact ⟨by kernel_rfl, fun j t ht => by
        rw [Tryz.params3] at ht
        have hm : t ∈ [27, 30, 40] := by simpa using Array.mem_of_getElem? ht
        have hall : ([27, 30, 40].all fun u => !Tryz.prog.wantsStandIn u) = true := by kernel_rfl
        exact (show Tryz.prog.wantsStandIn t = false by simpa using List.all_eq_true.1 hall t hm)⟩)
    (by kernel_rfl)
end Go.Proofs.YtpkggjobdmchlaaGreatDoor
