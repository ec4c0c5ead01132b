/- The calls of the example: Follow, After, Fewest. -/
import Derived.Test.YtpkggjobdmchlaaGreatDoorE32
import Derived.Test.YtpkggjobdmchlaaGreatDoorE25
import Derived.Test.YtpkggjobdmchlaaGreatDoorE20
import Derived.Test.YtpkggjobdmchlaaGreatDoorE19
namespace Go.Proofs.YtpkggjobdmchlaaGreatDoor
open Go.RowKit
theorem exFew (q : TQ) (h : IsQ exS exTp 3400 3800 50 exD q) : fewR q = some [0, 0] := by
  obtain ⟨h1, h2, h3, h4, h5, h6⟩ := h
  cases q
  simp only at h1 h2 h3 h4 h5 h6
  subst h1 h2 h3 h4 h5 h6
  kernel_rfl
theorem exFewOk : FewOk exS exD 50 := ⟨by
  intro d hd
  simp only [exD, List.mem_cons, List.not_mem_nil, or_false] at hd
  rcases hd with rfl | rfl | rfl | rfl <;> exact ⟨by decide, by decide, by decide, by decide⟩, by decide, by decide, by decide⟩
theorem few_ex (v kv : Value) (w : World) (hv : DBathsIn w.heap.size w v exS.baths) (hk : DipsIn w.heap.size w kv exD) :
    Calls Tryz.prog 10 #[.agg (dshopC exS v), .agg (tapC exTp), kv, .agg #[.int .i64 3400, .int .i64 3800], .int .i64 50] w fun e w' => ∃ u, e = .returned (.tuple #[u, .int .i64 0]) ∧ IntsIn .i64 w'.heap.size w' u [0, 0] ∧ Below w.heap.size w w' := by
  refine (fewest_any exS_ok exTp_ok 3400 3800 50 (by decide) (by decide) exD v kv w hv hk).mono ?_
  rintro e w' ⟨u, E, rfl, hb, (⟨-, h⟩ | ⟨rfl, -, q, p, hq, hp, hi⟩)⟩
  · obtain ⟨q, hq, hn⟩ := h exFewOk
    rw [exFew q hq] at hn
    cases hn
  · rw [exFew q hq] at hp
    cases hp
    exact ⟨u, rfl, hi, hb⟩
theorem exWarm : WarmIn exS [exD1] [620] := fun i hi => by
  obtain rfl : i = 0 := by simp at hi; omega
  decide
theorem exSt : stF exS (exTp.top, exTp.foot) [exD1] [620] 1 = (2760, 2680) := by kernel_rfl
theorem follow_ex (v lv wv : Value) (w : World) (hv : DBathsIn w.heap.size w v exS.baths) (hl : DipsIn w.heap.size w lv [exD1]) (hw : IntsIn .i64 w.heap.size w wv [620]) :
    Calls Tryz.prog 12 #[.agg (dshopC exS v), .agg (tapC exTp), lv, wv] w fun e w' => e = .returned (.tuple #[.agg (tapC ⟨2000, 2760, 2680⟩), .int .i64 0]) ∧ Below w.heap.size w w' := by
  have h := follow_ok exS_ok exTp_ok exD1_ok (warm := [620]) rfl exWarm (fun i h0 h1 => by
    obtain rfl : i = 1 := by simp at h1; omega
    rw [exSt]; decide) v lv wv w hv hl hw
  rw [show [exD1].length = 1 from rfl, exSt] at h
  exact h
def exD2 : List DDip := [⟨0, 3, 30, false⟩, ⟨0, 3, 30, true⟩]
def exD4 : List DDip := [⟨1, 7, 40, false⟩]
theorem exD2_ok : PlanOk exS exD2 := ⟨by decide, fun i hi => by
  rcases (by simp [exD2] at hi; omega : i = 0 ∨ i = 1) with rfl | rfl <;> exact ⟨by decide, by decide, by decide, by decide⟩⟩
theorem exD4_ok : PlanOk exS exD4 := ⟨by decide, fun i hi => by
  obtain rfl : i = 0 := by simp [exD4] at hi; omega
  exact ⟨by decide, by decide, by decide, by decide⟩⟩
theorem exA2 : (List.range exD2.length).map (fun i => aftN exS (beginV exTp) exD2 (i + 1)) = [⟨(2660, 2860), (2740, 2940), (80, 80)⟩, ⟨(3400, 3800), (3400, 3800), (0, 0)⟩] := by kernel_rfl
theorem exA21 : aftN exS (beginV exTp) exD2 1 = ⟨(2660, 2860), (2740, 2940), (80, 80)⟩ := by kernel_rfl
theorem exA22 : aftN exS (beginV exTp) exD2 2 = ⟨(3400, 3800), (3400, 3800), (0, 0)⟩ := by kernel_rfl
theorem exA4 : lostT exTp (aftN exS (beginV exTp) exD4 1) := by unfold lostT; decide
theorem after_ex (v lv : Value) (w : World) (hv : DBathsIn w.heap.size w v exS.baths) (hl : DipsIn w.heap.size w lv exD2) :
    Calls Tryz.prog 34 #[.agg (dshopC exS v), .agg (tapC exTp), lv] w fun e w' => ∃ u, e = .returned (.tuple #[u, .int .i64 0]) ∧ RngsIn w'.heap.size w' u [⟨(2660, 2860), (2740, 2940), (80, 80)⟩, ⟨(3400, 3800), (3400, 3800), (0, 0)⟩] ∧ Below w.heap.size w w' := by
  refine (after34 exS_ok exTp_ok exD2_ok v lv w hv hl).mono ?_
  rintro e w' ⟨u, E, rfl, hb, (⟨rfl, -, hr⟩ | ⟨-, -, i, hi, hlo⟩)⟩
  · rw [exA2] at hr
    exact ⟨u, rfl, hr, hb⟩
  · exfalso
    rcases (by simp [exD2] at hi; omega : i = 0 ∨ i = 1) with rfl | rfl
    · rw [exA21] at hlo; unfold lostT at hlo; revert hlo; decide
    · rw [exA22] at hlo; unfold lostT at hlo; revert hlo; decide
theorem after_down (v lv : Value) (w : World) (hv : DBathsIn w.heap.size w v exS.baths) (hl : DipsIn w.heap.size w lv exD4) :
    Calls Tryz.prog 34 #[.agg (dshopC exS v), .agg (tapC exTp), lv] w fun e w' => e = .returned (.tuple #[.slice none 0 0, .int .i64 9]) ∧ Below w.heap.size w w' := by
  refine (after34 exS_ok exTp_ok exD4_ok v lv w hv hl).mono ?_
  rintro e w' ⟨u, E, rfl, hb, (⟨-, h, -⟩ | ⟨rfl, rfl, -⟩)⟩
  · exact absurd exA4 (h 0 (by decide))
  · exact ⟨rfl, hb⟩
end Go.Proofs.YtpkggjobdmchlaaGreatDoor
