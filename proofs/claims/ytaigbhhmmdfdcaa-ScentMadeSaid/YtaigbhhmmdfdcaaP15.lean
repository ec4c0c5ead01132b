/- What a truth makes, term by term; the numbers fit. -/
import Derived.Test.YtaigbhhmmdfdcaaYa
namespace Go.Proofs.Ytaigbhhmmdfdcaa
def sA (b : Bat) (x : Tru) (t i : Nat) : Int := 1000 * x.added.getD t 0 + dot (fun i => b.grams.getD i 0 * (x.lots.getD i []).getD t 0) i
def sB (s : Shop) (b : Bat) (x : Tru) (t i : Nat) : Int := sA b x t s.lots.length + dot (fun i => b.back.getD i 0 * (x.back.getD i []).getD t 0) i
theorem sA_zero (b : Bat) (x : Tru) (t : Nat) : sA b x t 0 = 1000 * x.added.getD t 0 := by unfold sA; simp only [dot]; omega
theorem sA_next (b : Bat) (x : Tru) (t i : Nat) : sA b x t (i + 1) = sA b x t i + b.grams.getD i 0 * (x.lots.getD i []).getD t 0 := by unfold sA; simp only [dot]; omega
theorem sB_zero (s : Shop) (b : Bat) (x : Tru) (t : Nat) : sB s b x t 0 = sA b x t s.lots.length := by unfold sB; simp only [dot]; omega
theorem sB_next (s : Shop) (b : Bat) (x : Tru) (t i : Nat) : sB s b x t (i + 1) = sB s b x t i + b.back.getD i 0 * (x.back.getD i []).getD t 0 := by unfold sB; simp only [dot]; omega
theorem sB_end (s : Shop) (b : Bat) (x : Tru) (t : Nat) : sB s b x t b.back.length = madeT s b x t := rfl
theorem truthE_lens {s : Shop} {l : List Bat} {k : Nat} {x : Tru} (h : truthE s l k x = 0) : listsB x.lots s.lots.length s.things.length = true ∧ listsB x.back (l.getD k default).back.length s.things.length = true ∧ x.added.length = s.things.length := by
  unfold truthE at h
  split at h
  · cases h
  · rename_i h1
    rw [lensB_eq] at h1
    simpa [Bool.and_assoc] using h1
theorem truthE_at {s : Shop} {l : List Bat} {k : Nat} {x : Tru} (h : truthE s l k x = 0) {t : Nat} (ht : t < s.things.length) : truthIn s l (rangesV s l) (l.getD k default) x t = true := by
  unfold truthE at h
  split at h
  · simp at h
  split at h
  · rename_i h2
    exact List.all_eq_true.1 h2 t (List.mem_range.2 ht)
  · simp at h
theorem made_fit {s : Shop} {l : List Bat} (hg : AllGood s l) {k : Nat} (hk : k < l.length) {x : Tru} (hx : truthE s l k x = 0) {t : Nat} (ht : t < s.things.length) :
    (0 ≤ x.added.getD t 0 ∧ x.added.getD t 0 ≤ 10000000) ∧
    (∀ i, i < s.lots.length → 0 ≤ (x.lots.getD i []).getD t 0 ∧ (x.lots.getD i []).getD t 0 ≤ 1000000) ∧
    (∀ i, i < (l.getD k default).back.length → 0 ≤ (x.back.getD i []).getD t 0 ∧ (x.back.getD i []).getD t 0 ≤ 1000000) ∧
    (∀ i, i ≤ s.lots.length → 0 ≤ sA (l.getD k default) x t i ∧ sA (l.getD k default) x t i ≤ 10000000000000) ∧
    (∀ i, i ≤ (l.getD k default).back.length → 0 ≤ sB s (l.getD k default) x t i ∧ sB s (l.getD k default) x t i ≤ 20000000000000) := by
  have hbo := bat_ok0 (batchE_zero (hg.pre k hk)).1
  have hbl := hbo.blen
  have hn6 := hg.n6
  have hl6 := hg.sh.nl6
  obtain ⟨h1, h2, h3⟩ := truthIn_spec (truthE_at hx ht)
  have ha := hbo.add t
  have q1 : 0 ≤ x.added.getD t 0 ∧ x.added.getD t 0 ≤ 10000000 := by omega
  have q2 : ∀ i, i < s.lots.length → 0 ≤ (x.lots.getD i []).getD t 0 ∧ (x.lots.getD i []).getD t 0 ≤ 1000000 := fun i hi => by
    have a1 := h2 i hi
    have a2 := hg.sh.part i hi t
    omega
  have q3 : ∀ i, i < (l.getD k default).back.length → 0 ≤ (x.back.getD i []).getD t 0 ∧ (x.back.getD i []).getD t 0 ≤ 1000000 := fun i hi => by
    have a1 := h3 i hi
    have a2 := par_ok hg.sh hg.n6 (k := k) (fun j hj => hg.pre j (by omega)) (by omega) (show i < k by omega) t
    unfold parV micV at a2
    omega
  have q4 : ∀ i, i ≤ s.lots.length → 0 ≤ sA (l.getD k default) x t i ∧ sA (l.getD k default) x t i ≤ 10000000000000 := fun i hi => by
    have := dot_bound (fun i => (l.getD k default).grams.getD i 0 * (x.lots.getD i []).getD t 0) 100000000000 i fun j hj => mul_bound (hbo.gram j) (q2 j (by omega))
    unfold sA
    omega
  refine ⟨q1, q2, q3, q4, fun i hi => ?_⟩
  have := dot_bound (fun i => (l.getD k default).back.getD i 0 * (x.back.getD i []).getD t 0) 100000000000 i fun j hj => mul_bound (hbo.back j) (q3 j (by omega))
  have := q4 s.lots.length (Nat.le_refl _)
  unfold sB
  omega
theorem madeE_in (s : Shop) (l : List Bat) (k : Int) (x : Tru) : madeE s l k x = if batchesE s l ≠ 0 then batchesE s l else if inB k 0 ((l.length : Int) - 1) = false then 4 else truthE s l k.toNat x := by
  unfold madeE
  rw [inB_out]
  cases outOne 0 ((l.length : Int) - 1) k <;> simp
end Go.Proofs.Ytaigbhhmmdfdcaa
