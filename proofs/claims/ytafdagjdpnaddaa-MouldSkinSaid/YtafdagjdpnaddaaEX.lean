/- The mould of the examples. -/
import Derived.Test.YtafdagjdpnaddaaP2
import Derived.Test.YtafdagjdpnaddaaBase
namespace Go.Proofs.Ytafdagjdpnaddaa
set_option maxRecDepth 100000
def exM (deep : Int) : Mou := ⟨2, 500, 800, 800, 200, 300, 540, 100, 1, 250, 1, deep⟩
theorem firstTo_eq {p : Nat → Bool} {k N : Nat} (hk : p k = true) (h : ∀ j, j < k → p j = false) (hN : k < N) : firstTo p N = k := by
  have h1 := firstTo_of hN hk
  have h2 := (firstTo_pos h1.1).1
  by_cases he : (firstTo p N).toNat < k
  · rw [h _ he] at h2; cases h2
  · omega
theorem exWhen (d : Int) (hot : Bool) (i k : Nat) (hk : setsAt (exM d) (sameP (exM d) hot) (sameW (exM d) hot 600) i k = true) (h : ∀ j, j < k → setsAt (exM d) (sameP (exM d) hot) (sameW (exM d) hot 600) i j = false) (h6 : k < 601) :
    whenI (exM d) (sameP (exM d) hot) (sameW (exM d) hot 600) ((sameW (exM d) hot 600).length + 1) i = k := firstTo_eq hk h (by simpa [sameW] using h6)
theorem below1 {P : Nat → Prop} (h0 : P 0) : ∀ j, j < 1 → P j := by
  intro j hj
  obtain rfl : j = 0 := by omega
  exact h0
theorem belowS {P : Nat → Prop} {n : Nat} (h : ∀ j, j < n → P j) (hn : P n) : ∀ j, j < n + 1 → P j := fun j hj => by
  by_cases he : j = n
  · subst he; exact hn
  · exact h j (by omega)
theorem exCold (d : Int) : endsL (exM d) false = [1, 4] := by
  have e0 := exWhen d false 0 1 (by kernel_rfl) (below1 (by kernel_rfl)) (by omega)
  have e1 := exWhen d false 1 4 (by kernel_rfl) (belowS (belowS (belowS (below1 (by kernel_rfl)) (by kernel_rfl)) (by kernel_rfl)) (by kernel_rfl)) (by omega)
  show [whenI _ _ _ _ 0, whenI _ _ _ _ 1] = _
  rw [e0, e1]; rfl
theorem exHot (d : Int) : endsL (exM d) true = [3, 5] := by
  have e0 := exWhen d true 0 3 (by kernel_rfl) (belowS (belowS (below1 (by kernel_rfl)) (by kernel_rfl)) (by kernel_rfl)) (by omega)
  have e1 := exWhen d true 1 5 (by kernel_rfl) (belowS (belowS (belowS (belowS (below1 (by kernel_rfl)) (by kernel_rfl)) (by kernel_rfl)) (by kernel_rfl)) (by kernel_rfl)) (by omega)
  show [whenI _ _ _ _ 0, whenI _ _ _ _ 1] = _
  rw [e0, e1]; rfl
theorem exCheck (d : Int) (h0 : 0 ≤ d) (h1 : d ≤ 100000) : checkE (exM d) = 0 := check_of_valid (by constructor <;> simp [exM] <;> omega)
theorem ex_neg : checkE (exM (-1)) = 7 := by kernel_rfl
theorem ex_sets : setsV (exM 150) = ([(1, 3), (4, 5)], 0) := by
  have h : setsE (exM 150) = 0 := by
    unfold setsE
    rw [exCheck 150 (by omega) (by omega), exHot]
    rfl
  unfold setsV
  rw [if_pos h, exCold, exHot]
  rfl
theorem ex_warm3 : warmV (exM 150) 3 = ([(425, 487), (575, 612)], 0) := by kernel_rfl
theorem ex_warm1 : warmV (exM 150) 1 = ([(500, 550), (800, 800)], 0) := by kernel_rfl
theorem ex_cool5 : coolV (exM 150) [800, 800] [300, 300, 300, 300, 300] = ([424, 502], 0) := by kernel_rfl
theorem ex_cool4 : coolV (exM 150) [800, 800] [200, 200, 200, 200] = ([387, 500], 0) := by kernel_rfl
theorem ex_skin (n : Int) (h0 : 0 ≤ n) (h6 : n ≤ 600) : skinV (exM 150) n = ((((skinN [3, 5] n : Nat) : Int), ((skinN [1, 4] n : Nat) : Int)), 0) := by
  unfold skinV
  rw [exCheck 150 (by omega) (by omega), if_neg (by simp), if_neg (by simp [within]; omega), exCold, exHot]
theorem ex_skin4 : skinV (exM 150) 4 = ((1, 2), 0) := by rw [ex_skin 4 (by omega) (by omega)]; kernel_rfl
theorem ex_skin0 : skinV (exM 150) 0 = ((0, 0), 0) := by rw [ex_skin 0 (by omega) (by omega)]; kernel_rfl
theorem ex_skin2 : skinV (exM 150) 2 = ((0, 1), 0) := by rw [ex_skin 2 (by omega) (by omega)]; kernel_rfl
theorem ex_skin3 : skinV (exM 150) 3 = ((1, 1), 0) := by rw [ex_skin 3 (by omega) (by omega)]; kernel_rfl
theorem ex_holE (plan : List Int) (h : planE (exM 150) plan = 0) : hollowE (exM 150) plan = if poursB (exM 150) [1, 4] plan = false then 9 else 0 := by
  unfold hollowE
  rw [exCheck 150 (by omega) (by omega), if_neg (by simp), h, if_neg (by simp), exHot, exCold]
  rfl
theorem ex_hol (plan : List Int) (h : planE (exM 150) plan = 0) (hp : poursB (exM 150) [1, 4] plan = true) : hollowV (exM 150) plan = ((holV (exM 150) [1, 4] plan, holV (exM 150) [3, 5] plan), (pourL (fall (exM 150) [3, 5]) 250 plan, pourL (fall (exM 150) [1, 4]) 250 plan), 0) := by
  unfold hollowV
  rw [ex_holE plan h, hp, exCold, exHot]
  rfl
theorem ex_hol23 : hollowV (exM 150) [2, 3] = ((100, 150), (250, 300), 0) := by rw [ex_hol _ (by kernel_rfl) (by kernel_rfl)]; kernel_rfl
theorem ex_hol0 : hollowV (exM 150) [] = ((400, 400), (0, 0), 0) := by rw [ex_hol _ (by kernel_rfl) (by kernel_rfl)]; kernel_rfl
theorem ex_hol2 : hollowV (exM 150) [2] = ((150, 400), (0, 250), 0) := by rw [ex_hol _ (by kernel_rfl) (by kernel_rfl)]; kernel_rfl
theorem ex_hol3 : hollowV (exM 150) [3] = ((150, 150), (250, 250), 0) := by rw [ex_hol _ (by kernel_rfl) (by kernel_rfl)]; kernel_rfl
theorem ex_hol4 : hollowV (exM 150) [4] = ((0, 0), (0, 0), 9) := by
  unfold hollowV
  rw [ex_holE _ (by kernel_rfl)]
  kernel_rfl
theorem ex_last (d : Int) : lastM (exM d) [1, 4] = 3 := by kernel_rfl
theorem ex_setsE (d : Int) (h0 : 0 ≤ d) (h1 : d ≤ 100000) : setsE (exM d) = 0 := by
  unfold setsE
  rw [exCheck d h0 h1, exHot]
  rfl
theorem ex_few (d : Int) (k : Nat) (h0 : 0 ≤ d) (h1 : d ≤ 100000) (h : fewN (exM d) [1, 4] [3, 5] = k) : fewV (exM d) = (lateP 3 1 k, 0) := by
  have hE : fewE (exM d) = 0 := by
    unfold fewE
    rw [ex_setsE d h0 h1, if_neg (by simp), exCold, exHot, h, if_neg (by omega)]
  unfold fewV
  rw [hE, exCold, exHot, h, ex_last]
  rfl
theorem fewB_ex (d : Int) (n : Nat) : fewB (exM d) [1, 4] [3, 5] n = ((decide (n = 0) || decide (0 ≤ 3 - ((n : Int) - 1) * 1)) && decide (holV (exM d) [3, 5] (lateP 3 1 n) ≤ d)) := by
  unfold fewB
  rw [ex_last]
  rfl
theorem ex_few150 : fewV (exM 150) = ([3], 0) := by
  rw [ex_few 150 1 (by omega) (by omega) (firstTo_eq (by rw [fewB_ex]; kernel_rfl) (below1 (by rw [fewB_ex]; kernel_rfl)) (by omega))]
  kernel_rfl
theorem ex_few400 : fewV (exM 400) = ([], 0) := by
  rw [ex_few 400 0 (by omega) (by omega) (firstTo_eq (by rw [fewB_ex]; kernel_rfl) (fun j hj => by omega) (by omega))]
  kernel_rfl
theorem ex_few149 : fewV (exM 149) = ([], 9) := by
  have hn : fewN (exM 149) [1, 4] [3, 5] = -1 := by
    have hb := firstTo_bound (fewB (exM 149) [1, 4] [3, 5]) 41
    rcases Int.lt_or_le (fewN (exM 149) [1, 4] [3, 5]) 0 with h | h
    · unfold fewN at h ⊢; omega
    · have h2 := (firstTo_pos h).1
      unfold fewN at h
      generalize firstTo (fewB (exM 149) [1, 4] [3, 5]) 41 = z at h2 h hb
      rw [fewB_ex] at h2
      obtain ⟨n, rfl⟩ : ∃ n : Nat, z = n := ⟨z.toNat, by omega⟩
      rw [Int.toNat_natCast] at h2
      by_cases h5 : n < 5
      · exfalso
        match n, h5 with
        | 0, _ => exact absurd (h2.symm.trans (by kernel_rfl) : true = false) (by decide)
        | 1, _ => exact absurd (h2.symm.trans (by kernel_rfl) : true = false) (by decide)
        | 2, _ => exact absurd (h2.symm.trans (by kernel_rfl) : true = false) (by decide)
        | 3, _ => exact absurd (h2.symm.trans (by kernel_rfl) : true = false) (by decide)
        | 4, _ => exact absurd (h2.symm.trans (by kernel_rfl) : true = false) (by decide)
      · simp at h2
        omega
  have hE : fewE (exM 149) = 9 := by
    unfold fewE
    rw [ex_setsE 149 (by omega) (by omega), if_neg (by simp), exCold, exHot, hn]
    rfl
  unfold fewV
  rw [hE]
  rfl
end Go.Proofs.Ytafdagjdpnaddaa
