/- A truth of a batch, and what Made says of it: one contract for each call. -/
import Derived.Test.YtaigbhhmmdfdcaaY24
import Derived.Test.YtaigbhhmmdfdcaaP10
import Derived.Test.YtaigbhhmmdfdcaaYa
namespace Go.Proofs.Ytaigbhhmmdfdcaa
open Go.RowKit
/-- The call of a truth gives X. -/
def GivesT (f : Nat) (args : Array Value) (X : Tru) (w0 : World) : Prop := ∀ w, Below w0.heap.size w0 w → Calls Try.prog f args w fun e w' => ∃ t, e = .returned t ∧ IsTru X w' t ∧ Below w.heap.size w w'
/-- The call of Made with X gives M. -/
def GivesM (args : Value → Array Value) (X : Tru) (M : List Int) (w0 : World) : Prop := ∀ w t, Below w0.heap.size w0 w → IsTru X w t → Calls Try.prog 27 (args t) w fun e w' => ∃ tv, e = .returned (.tuple #[tv, .int .i64 0]) ∧ IsInts M w' tv ∧ Below w.heap.size w w'
theorem made_gives {s : Shop} {l : List Bat} {k : Nat} (hz : batchesE s l = 0) (hk : k < l.length) (x : Tru) (hx : truthE s l k x = 0) (vt vl v : Value) (w : World) (hs : ShopAt w.heap.size w vt vl s) (hl : BatsIn w.heap.size w v l) :
    GivesM (fun t => #[.agg #[vt, vl], v, .int .i64 k, t]) x ((List.range s.things.length).map (madeT s (l.getD k default) x)) w := by
  rintro wz t hb ⟨tl, tb, ta, rfl, ht⟩
  have h := made_any s l (k : Int) x vt vl v tl tb ta wz ((hs.below hb).mono hb.size) ((hl.below hb).mono hb.size) ht
  unfold RetInts at h
  rw [madeE_ok hz hk hx, madeV_ok hz hk hx] at h
  exact h
theorem truth_pair {s : Shop} {l : List Bat} {k : Nat} (hz : batchesE s l = 0) (hk : k < l.length) {x : List Int} (hx : Turns x) {vt vl v vx : Value} {w : World} (hs : ShopAt w.heap.size w vt vl s) (hl : BatsIn w.heap.size w v l) (hvx : IntsIn .u32 w.heap.size w vx x) :
    ∃ X M, GivesT 41 #[.agg #[vt, vl], v, .int .i64 k, vx] X w ∧ GivesM (fun t => #[.agg #[vt, vl], v, .int .i64 k, t]) X M w ∧ M.length = s.things.length ∧
      ∀ t, t < s.things.length → (micV s l k t).1 ≤ M.getD t 0 ∧ M.getD t 0 ≤ (micV s l k t).2 := by
  have hg := all_good hz
  refine ⟨turnT s l k x, _, fun wz hb => truth41 s l k x hx hg hk vt vl v vx wz ((hs.below hb).mono hb.size) ((hl.below hb).mono hb.size) ((hvx.below hb).mono hb.size), made_gives hz hk _ (turnT_ok hg hk x) vt vl v w hs hl, by simp, fun t ht => ?_⟩
  rw [mapr_get _ _ _ ht]
  exact made_between hg hk (turnT_ok hg hk x) ht
theorem end_pair {s : Shop} {l : List Bat} {k : Nat} (hz : batchesE s l = 0) (hk : k < l.length) (e : Bool) {vt vl v : Value} {w : World} (hs : ShopAt w.heap.size w vt vl s) (hl : BatsIn w.heap.size w v l) :
    ∃ X, GivesT 42 #[.agg #[vt, vl], v, .int .i64 k, .bool e] X w ∧ GivesM (fun t => #[.agg #[vt, vl], v, .int .i64 k, t]) X (((rangesV s l).getD k []).map (sd e)) w := by
  have hg := all_good hz
  have h := made_gives hz hk _ (endT_ok hg hk e) vt vl v w hs hl
  rw [← madeV_ok hz hk (endT_ok hg hk e), made_ends hz hk e] at h
  exact ⟨endT s l k e, fun wz hb => end42 s l k e hg hk vt vl v wz ((hs.below hb).mono hb.size) ((hl.below hb).mono hb.size), h⟩
theorem turns_of {x : List Int} (h : ∀ y ∈ x, 0 ≤ y ∧ y ≤ 4294967295) : Turns x := ⟨fun i => by
  by_cases hi : i < x.length
  · rw [List.getD_eq_getElem?_getD, List.getElem?_eq_getElem hi]
    exact h _ (List.getElem_mem hi)
  · rw [List.getD_eq_getElem?_getD, List.getElem?_eq_none (by omega)]
    exact ⟨Int.le_refl _, by decide⟩⟩
end Go.Proofs.Ytaigbhhmmdfdcaa
