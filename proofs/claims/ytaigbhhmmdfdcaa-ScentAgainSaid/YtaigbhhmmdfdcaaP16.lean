/- What the law on a further batch needs. -/
import Derived.Test.YtaigbhhmmdfdcaaP12
namespace Go.Proofs.Ytaigbhhmmdfdcaa
theorem again_facts {s : Shop} {l : List Bat} (h : AllGood s l) {L : Nat} (hL : l.length - 1 = L) {g : Int} {t : Nat} {m : Int} (hm : (micV s l L t).1 ≤ m ∧ m ≤ (micV s l L t).2) :
    ∃ q1 q2 : Int, againV s l g t = (g * q1, g * q2) ∧ (0 ≤ q1 ∧ q1 ≤ q2 ∧ q2 ≤ 1000000) ∧ (m ≤ weightV (l.getD L default) * 1000000 → q1 * weightV (l.getD L default) ≤ m ∧ m ≤ q2 * weightV (l.getD L default)) := by
  have hn1 := h.n1
  have hLl : L < l.length := by omega
  have hw := h.pre.pos h.sh h.n6 (Nat.le_refl _) hLl
  have hmb := mic_ok h.sh h.n6 (k := L) (fun j hj => h.pre j (by omega)) hLl t
  refine ⟨(partsV (weightV (l.getD L default)) (micV s l L t)).1, (partsV (weightV (l.getD L default)) (micV s l L t)).2, ?_, parts_bound hw.1 ⟨hmb.1, hmb.2.1⟩, fun hle => again_in hw.1 hm.1 hm.2 hle⟩
  unfold againV
  rw [hL]
/-- The batch that is made. -/
theorem next_bat {w : World} {s : Shop} {l : List Bat} {L : Nat} (hL : l.length - 1 = L) {g1 g2 g3 : Nat} {g : Int} (hl : s.lots.length ≤ 6) (hn : l.length ≤ 6) (ht : s.things.length ≤ 5)
    (h1 : w.heap[g1]? = some (.cells (ints (List.replicate s.lots.length 0)) 3)) (h2 : w.heap[g2]? = some (.cells ((ints (List.replicate l.length 0)).setIfInBounds L (.int .i64 g)) 3)) (h3 : w.heap[g3]? = some (.cells (spCells (List.replicate s.things.length (0, 0))).toArray 51)) :
    BatAt w.heap.size w (.slice (some ⟨g1, 0, none⟩) s.lots.length s.lots.length) (.slice (some ⟨g2, 0, none⟩) l.length l.length) (.slice (some ⟨g3, 0, none⟩) s.things.length s.things.length) (nextB s l g) := by
  unfold nextB
  rw [hL]
  refine ⟨IntsIn.row2 h1 rfl (by simp; omega) (by simp), IntsIn.row2 h2 ?_ (by simp; omega) (by simp), SpansIn.row h3 rfl (by simp; omega) (by simp) (Nat.le_refl _)⟩
  unfold ints
  rw [List.map_set, List.setIfInBounds_toArray]
end Go.Proofs.Ytaigbhhmmdfdcaa
