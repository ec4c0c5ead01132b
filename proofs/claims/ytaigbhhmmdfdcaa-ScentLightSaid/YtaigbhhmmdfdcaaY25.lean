/- A truth of a batch, and what Made says of it: one contract for each call. -/
import Derived.Test.YtaigbhhmmdfdcaaY24
import Derived.Test.YtaigbhhmmdfdcaaP10
namespace Go.Proofs.Ytaigbhhmmdfdcaa
open Go.RowKit
/-- The call of a truth gives X. -/
def GivesT (f : Nat) (args : Array Value) (X : Tru) (w0 : World) : Prop := ∀ w, Below w0.heap.size w0 w → Calls Try.prog f args w fun e w' => ∃ t, e = .returned t ∧ IsTru X w' t ∧ Below w.heap.size w w'
/-- The call of Made with X gives M. -/
def GivesM (args : Value → Array Value) (X : Tru) (M : List Int) (w0 : World) : Prop := ∀ w t, Below w0.heap.size w0 w → IsTru X w t → Calls Try.prog 27 (args t) w fun e w' => ∃ tv, e = .returned (.tuple #[tv, .int .i64 0]) ∧ IsInts M w' tv ∧ Below w.heap.size w w'
theorem made_gives {s : Shop} {l : List Bat} {k : Nat} (hz : batchesE s l = 0) (hk : k < l.length) (x : Tru) (hx : truthE s l k x = 0) (vt vl v : Value) (w : World) (hs : ShopAt w.heap.size w vt vl s) (hl : BatsIn w.heap.size w v l) :
    GivesM (fun t => #[.agg #[vt, vl], v, .int .i64 k, t]) x ((List.range s.things.length).map (madeT s (l.getD k default) x)) w := by
  rintro wz t hb ⟨tl, tb, ta, rfl, ht⟩
  have h := made_any s l (k : Int) x vt vl v tl tb ta wz ((hs.below hb).mono hb.size) ((hl.below hb).mono hb.size) ht
  unfold RetInts at h
  rw [madeE_ok hz hk hx, madeV_ok hz hk hx] at h
  exact h
theorem truth_pair {s : Shop} {l : List Bat} {k : Nat} (hz : batchesE s l = 0) (hk : k < l.length) {x : List Int} (hx : Turns x) {vt vl v vx : Value} {w : World} (hs : ShopAt w.heap.size w vt vl s) (hl : BatsIn w.heap.size w v l) (hvx : IntsIn .u32 w.heap.size w vx x) :
    ∃ X M, GivesT 41 #[.agg #[vt, vl], v, .int .i64 k, vx] X w ∧ GivesM (fun t => #[.agg #[vt, vl], v, .int .i64 k, t]) X M w ∧ M.length = s.things.length ∧
      ∀ t, t < s.things.length → (micV s l k t).1 ≤ M.getD t 0 ∧ M.getD t 0 ≤ (micV s l k t).2 := by
  have hg := all_good hz
  refine ⟨turnT s l k x, _, fun wz hb => truth41 s l k x hx hg hk vt vl v vx wz ((hs.below hb).mono hb.size) ((hl.below hb).mono hb.size) ((hvx.below hb).mono hb.size), made_gives hz hk _ (turnT_ok hg hk x) vt vl v w hs hl, by simp, fun t ht => ?_⟩
  rw [mapr_get _ _ _ ht]
  exact made_between hg hk (turnT_ok hg hk x) ht
theorem end_pair {s : Shop} {l : List Bat} {k : Nat} (hz : batchesE s l = 0) (hk : k < l.length) (e : Bool) {vt vl v : Value} {w : World} (hs : ShopAt w.heap.size w vt vl s) (hl : BatsIn w.heap.size w v l) :
    ∃ X, GivesT 42 #[.agg #[vt, vl], v, .int .i64 k, .bool e] X w ∧ GivesM (fun t => #[.agg #[vt, vl], v, .int .i64 k, t]) X (((rangesV s l).getD k []).map (sd e)) w := by
  have hg := all_good hz
  have h := made_gives hz hk _ (endT_ok hg hk e) vt vl v w hs hl
  rw [← madeV_ok hz hk (endT_ok hg hk e), made_ends hz hk e] at h
  exact ⟨endT s l k e, fun wz hb => end42 s l k e hg hk vt vl v wz ((hs.below hb).mono hb.size) ((hl.below hb).mono hb.size), h⟩
theorem IntsIn.at' {q : IntKind} {B : Nat} {w : World} {a : Option Addr} {n c : Nat} {l : List Int} (h : IntsIn q B w (.slice a n c) l) {i : Nat} (hi : i < l.length) : ∃ b o, a = some ⟨b, o, none⟩ ∧ b < B ∧ w.cell? ⟨b, o + i, none⟩ = some (.int q (l.getD i 0)) := by
  obtain ⟨a', c', e, -, h⟩ := h
  cases e
  rcases h with rfl | ⟨b, o, rfl, hb, h⟩
  · simp at hi
  · exact ⟨b, o, rfl, hb, h i hi⟩
theorem IntsIn.shape {q : IntKind} {B n : Nat} {w : World} {v : Value} {l : List Int} (h : IntsIn q B w v l) (hl : l.length = n) : ∃ a c, v = .slice a n c := by
  obtain ⟨a, c, rfl, -⟩ := h
  rw [hl]
  exact ⟨a, c, rfl⟩
theorem row_fst (s : Shop) (l : List Bat) {k : Nat} (hk : k < l.length) : (((rangesV s l).getD k []).map Prod.fst).length = s.things.length ∧ (((rangesV s l).getD k []).map Prod.snd).length = s.things.length ∧
    ∀ t, t < s.things.length → (((rangesV s l).getD k []).map Prod.fst).getD t 0 = (micV s l k t).1 ∧ (((rangesV s l).getD k []).map Prod.snd).getD t 0 = (micV s l k t).2 := by
  rw [row_eq s l hk]
  refine ⟨by simp, by simp, fun t ht => ?_⟩
  rw [List.map_map, List.map_map, mapr_get _ _ _ ht, mapr_get _ _ _ ht]
  exact ⟨rfl, rfl⟩
/-- The words of a batch, and Weight of them. -/
theorem weigh {s : Shop} {l : List Bat} {k : Nat} (hg : AllGood s l) (hk : k < l.length) {a : Option Addr} {n c : Nat} {w0 : World} (hl : BatsIn w0.heap.size w0 (.slice a n c) l) :
    ∃ b o, a = some ⟨b, o, none⟩ ∧ b < w0.heap.size ∧ ∃ g1 g2 g3, w0.cell? ⟨b, o + k * 3, none⟩ = some g1 ∧ w0.cell? ⟨b, o + k * 3 + 1, none⟩ = some g2 ∧ w0.cell? ⟨b, o + k * 3 + 2, none⟩ = some g3 ∧
      ∀ w, Below w0.heap.size w0 w → Calls Try.prog 44 #[.agg #[g1, g2, g3]] w fun e w' => e = .returned (.int .i64 (weightV (l.getD k default))) ∧ Below w.heap.size w w' := by
  obtain ⟨b, o, rfl, hbb, vg, vb, va, hd1, hd2, hd3, hat⟩ := hl.at' hk
  have hgo := (bat_ok0 (batchE_zero (hg.pre k hk)).1).gramsOk hg.sh.nl6 (show k ≤ 6 by have := hg.n6; omega)
  exact ⟨b, o, rfl, hbb, vg, vb, va, hd1, hd2, hd3, fun w hw => weight_ref _ _ _ _ w ((hat.below hw).mono hw.size) hgo.1 hgo.2⟩
theorem limit_at {l : List Thing} {t n c : Nat} {a : Option Addr} {w0 : World} (h : ThingsIn w0.heap.size w0 (.slice a n c) l) (ht : t < l.length) :
    ∃ b o, a = some ⟨b, o, none⟩ ∧ b < w0.heap.size ∧ w0.cell? ⟨b, o + t * 5 + 2, none⟩ = some (.int .i64 (l.getD t default).limit) := by
  obtain ⟨b, o, rfl, hb, -, -, h, -⟩ := h.at' ht
  exact ⟨b, o, rfl, hb, h⟩
theorem turns_of {x : List Int} (h : ∀ y ∈ x, 0 ≤ y ∧ y ≤ 4294967295) : Turns x := ⟨fun i => by
  by_cases hi : i < x.length
  · rw [List.getD_eq_getElem?_getD, List.getElem?_eq_getElem hi]
    exact h _ (List.getElem_mem hi)
  · rw [List.getD_eq_getElem?_getD, List.getElem?_eq_none (by omega)]
    exact ⟨Int.le_refl _, by decide⟩⟩
end Go.Proofs.Ytaigbhhmmdfdcaa
