/- What Made says of truths by turns and at the ends. -/
import Derived.Test.YtaigbhhmmdfdcaaP9
namespace Go.Proofs.Ytaigbhhmmdfdcaa
theorem madeE_ok {s : Shop} {l : List Bat} (h : batchesE s l = 0) {k : Nat} (hk : k < l.length) {x : Tru} (hx : truthE s l k x = 0) : madeE s l k x = 0 := by
  unfold madeE
  rw [if_neg (by simp [h]), Int.toNat_natCast, hx]
  have : outOne 0 ((l.length : Int) - 1) (k : Int) = false := outOne_false.2 (by omega)
  rw [this]; rfl
theorem madeV_ok {s : Shop} {l : List Bat} (h : batchesE s l = 0) {k : Nat} (hk : k < l.length) {x : Tru} (hx : truthE s l k x = 0) : madeV s l k x = (List.range s.things.length).map (madeT s (l.getD k default) x) := by
  unfold madeV
  rw [if_neg (by simp [madeE_ok h hk hx]), Int.toNat_natCast]
theorem truthE_in {s : Shop} {l : List Bat} {k : Nat} {x : Tru} (h : truthE s l k x = 0) {t : Nat} (ht : t < s.things.length) : truthIn s l (rangesV s l) (l.getD k default) x t = true := by
  unfold truthE at h
  split at h
  · simp at h
  split at h
  · rename_i h2
    exact List.all_eq_true.1 h2 t (List.mem_range.2 ht)
  · simp at h
/-- The cells by the whole table. -/
theorem cellS_ranges {s : Shop} {l : List Bat} (h : AllGood s l) {k : Nat} (hk : k < l.length) (t : Nat) (e : Bool) : cellS s l (rangesV s l) (l.getD k default) t e = cellS s l (rowsV s l k) (l.getD k default) t e := by
  have hbl := (bat_ok0 (batchE_zero (h.pre k hk)).1).blen
  unfold cellS
  congr 1
  refine dot_congr fun i hi => ?_
  unfold backT
  rw [rangesV_get s l (show i < k by omega) (by omega)]
theorem made_between {s : Shop} {l : List Bat} (h : AllGood s l) {k : Nat} (hk : k < l.length) {x : Tru} (hx : truthE s l k x = 0) {t : Nat} (ht : t < s.things.length) : (micV s l k t).1 ≤ madeT s (l.getD k default) x t ∧ madeT s (l.getD k default) x t ≤ (micV s l k t).2 := by
  have hbo := bat_ok0 (batchE_zero (h.pre k hk)).1
  have := madeT_in (truthE_in hx ht) (fun i => (hbo.gram i).1) (fun i => (hbo.back i).1)
  rw [cellS_ranges h hk, cellS_ranges h hk] at this
  rw [micV_eq s l hk, if_pos ht]
  exact this
theorem made_ends {s : Shop} {l : List Bat} (hz : batchesE s l = 0) {k : Nat} (hk : k < l.length) (e : Bool) : madeV s l k (endT s l k e) = ((rangesV s l).getD k []).map (sd e) := by
  have h := all_good hz
  rw [madeV_ok hz hk (endT_ok h hk e), row_eq s l hk, List.map_map]
  apply List.map_congr_left
  intro t ht
  exact endT_made h hk e (List.mem_range.1 ht)
theorem sd_false_map (l : List (Int × Int)) : l.map (sd false) = l.map Prod.fst := List.map_congr_left fun p _ => by simp [sd]
theorem sd_true_map (l : List (Int × Int)) : l.map (sd true) = l.map Prod.snd := List.map_congr_left fun p _ => by simp [sd]
end Go.Proofs.Ytaigbhhmmdfdcaa
