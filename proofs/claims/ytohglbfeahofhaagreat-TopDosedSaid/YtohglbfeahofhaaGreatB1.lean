/- Blends, plainly: waxes with curves, recipes, what a recipe weighs. -/
import Derived.Test.YtohglbfeahofhaaGreatK1
namespace Go.Proofs.YtohglbfeahofhaaGreat
structure BWax where
  name : ByteArray
  price : Int
  melt : Int × Int
  shrink : Int × Int
  curve : List (Int × Int)
instance : Inhabited BWax := ⟨⟨ByteArray.empty, 0, (0, 0), (0, 0), []⟩⟩
/-- What valid waxes are. -/
structure BOk (l : List BWax) : Prop where
  n1 : 1 ≤ l.length
  n5 : l.length ≤ 5
  name : ∀ i, i < l.length → nameB (l.getD i default).name = true
  twice : ∀ i, i < l.length → (l.take i).any (fun y => sameN (l.getD i default).name y.name) = false
  price : ∀ i, i < l.length → 0 ≤ (l.getD i default).price ∧ (l.getD i default).price ≤ 100000
  melt : ∀ i, i < l.length → 0 ≤ (l.getD i default).melt.1 ∧ (l.getD i default).melt.1 ≤ (l.getD i default).melt.2 ∧ (l.getD i default).melt.2 ≤ 2000
  shrink : ∀ i, i < l.length → 0 ≤ (l.getD i default).shrink.1 ∧ (l.getD i default).shrink.1 ≤ (l.getD i default).shrink.2 ∧ (l.getD i default).shrink.2 ≤ 1000
  clen : ∀ i, i < l.length → (l.getD i default).curve.length ≤ 6
  cpt : ∀ i, i < l.length → ∀ j, j < (l.getD i default).curve.length → 0 ≤ ((l.getD i default).curve.getD j (0, 0)).1 ∧ ((l.getD i default).curve.getD j (0, 0)).1 ≤ 20 ∧ -300 ≤ ((l.getD i default).curve.getD j (0, 0)).2 ∧ ((l.getD i default).curve.getD j (0, 0)).2 ≤ 300
  cinc : ∀ i, i < l.length → ∀ j, j + 1 < (l.getD i default).curve.length → ((l.getD i default).curve.getD j (0, 0)).1 < ((l.getD i default).curve.getD (j + 1) (0, 0)).1
/-- The sum of the first numbers. -/
def upTo (r : List Int) : Nat → Int
  | 0 => 0
  | k + 1 => upTo r k + r.getD k 0
/-- What a recipe of so many waxes is. -/
structure ROk (m : Nat) (r : List Int) : Prop where
  len : r.length = m
  part : ∀ i, i < m → 0 ≤ r.getD i 0 ∧ r.getD i 0 ≤ 20
  sum : upTo r m = 20
theorem ROk.upto {m : Nat} {r : List Int} (h : ROk m r) : ∀ k, k ≤ m → 0 ≤ upTo r k ∧ ∀ j, k ≤ j → j ≤ m → upTo r k ≤ upTo r j := by
  intro k hk
  have mono : ∀ d k, k + d ≤ m → upTo r k ≤ upTo r (k + d) := by
    intro d
    induction d with
    | zero => intro k _; exact Int.le_refl _
    | succ d ih =>
      intro k hd
      have h1 := ih k (by omega)
      have h2 := (h.part (k + d) (by omega)).1
      rw [← Nat.add_assoc, upTo]
      omega
  constructor
  · have := mono k 0 (by omega)
    rw [Nat.zero_add] at this
    simpa [upTo] using this
  · intro j h1 h2
    have := mono (j - k) k (by omega)
    rwa [Nat.add_sub_cancel' h1] at this
theorem ROk.le {m : Nat} {r : List Int} (h : ROk m r) {k : Nat} (hk : k ≤ m) : 0 ≤ upTo r k ∧ upTo r k ≤ 20 :=
  ⟨(h.upto k hk).1, by have := (h.upto k hk).2 m hk (Nat.le_refl _); rw [h.sum] at this; exact this⟩
/-- The grams of each wax. -/
def weighV (r : List Int) (g : Int) : List Int := (List.range r.length).map fun i => g * upTo r (i + 1) / 20 - g * upTo r i / 20
theorem weigh_len (r : List Int) (g : Int) : (weighV r g).length = r.length := by simp [weighV]
theorem weigh_get (r : List Int) (g : Int) {i : Nat} (h : i < r.length) : (weighV r g).getD i 0 = g * upTo r (i + 1) / 20 - g * upTo r i / 20 := by simp [weighV, List.getD, h]
theorem weigh_upto (r : List Int) (g : Int) : ∀ k, k ≤ r.length → upTo (weighV r g) k = g * upTo r k / 20
  | 0, _ => by simp [upTo]
  | k + 1, h => by
    rw [upTo, weigh_upto r g k (by omega), weigh_get r g (by omega)]
    omega
/-- A recipe weighs what was wanted. -/
theorem weigh_sum {m : Nat} {r : List Int} (h : ROk m r) (g : Int) : upTo (weighV r g) m = g := by
  rw [weigh_upto r g m (by have := h.len; omega), h.sum]
  omega
theorem weigh_bounds {m : Nat} {r : List Int} (h : ROk m r) {g : Int} (hg : 0 ≤ g) {i : Nat} (hi : i < m) : 0 ≤ (weighV r g).getD i 0 ∧ (weighV r g).getD i 0 ≤ g := by
  have hl := h.len
  rw [weigh_get r g (by omega)]
  have h0 := (h.le (show i ≤ m by omega)).1
  have h1 : upTo r i ≤ upTo r (i + 1) := (h.upto i (by omega)).2 (i + 1) (by omega) (by omega)
  have h2 := (h.le (show i + 1 ≤ m by omega)).2
  have e1 : g * upTo r i ≤ g * upTo r (i + 1) := Int.mul_le_mul_of_nonneg_left h1 hg
  have e2 : g * upTo r (i + 1) ≤ g * 20 := Int.mul_le_mul_of_nonneg_left h2 hg
  have e0 : 0 ≤ g * upTo r i := Int.mul_nonneg hg h0
  generalize g * upTo r i = A at *
  generalize g * upTo r (i + 1) = B at *
  omega
/-- A recipe by turns: the first waxes take of what is left; the last one takes the rest. -/
def leftTo (x : Nat → Int) : Nat → Int
  | 0 => 20
  | k + 1 => leftTo x k - x k % (leftTo x k + 1)
theorem leftTo_in (x : Nat → Int) : ∀ k, 0 ≤ leftTo x k ∧ leftTo x k ≤ 20
  | 0 => by simp [leftTo]
  | k + 1 => by
    have h := leftTo_in x k
    have h1 := Int.emod_nonneg (x k) (show leftTo x k + 1 ≠ 0 by omega)
    have h2 := Int.emod_lt_of_pos (x k) (show 0 < leftTo x k + 1 by omega)
    rw [leftTo]
    omega
def partsTo (x : Nat → Int) (k : Nat) : List Int := (List.range k).map fun i => x i % (leftTo x i + 1)
def partedV (x : Nat → Int) (m : Nat) : List Int := partsTo x (m - 1) ++ [leftTo x (m - 1)]
theorem partsTo_snoc (x : Nat → Int) (k : Nat) : partsTo x (k + 1) = partsTo x k ++ [x k % (leftTo x k + 1)] := by
  unfold partsTo; rw [List.range_succ, List.map_append]; rfl
theorem parted_get (x : Nat → Int) {m i : Nat} (hi : i < m) : (partedV x m).getD i 0 = if i < m - 1 then x i % (leftTo x i + 1) else leftTo x (m - 1) := by
  unfold partedV
  rw [List.getD_eq_getElem?_getD]
  by_cases h : i < m - 1
  · rw [List.getElem?_append_left (by simp [partsTo]; omega), if_pos h]
    simp [partsTo, h]
  · rw [List.getElem?_append_right (by simp [partsTo]; omega), if_neg h, show i - (partsTo x (m - 1)).length = 0 by simp [partsTo]; omega]
    rfl
theorem parted_upto (x : Nat → Int) (m : Nat) : ∀ k, k ≤ m - 1 → upTo (partedV x m) k = 20 - leftTo x k
  | 0, _ => by simp [upTo, leftTo]
  | k + 1, h => by
    rw [upTo, parted_upto x m k (by omega), parted_get x (by omega), if_pos (by omega), leftTo]
    omega
theorem parted_ok (x : Nat → Int) {m : Nat} (hm : 1 ≤ m) : ROk m (partedV x m) where
  len := by simp [partedV, partsTo]; omega
  part i hi := by
    rw [parted_get x hi]
    split
    · have h := leftTo_in x i
      have h1 := Int.emod_nonneg (x i) (show leftTo x i + 1 ≠ 0 by omega)
      have h2 := Int.emod_lt_of_pos (x i) (show 0 < leftTo x i + 1 by omega)
      omega
    · exact leftTo_in x _
  sum := by
    obtain ⟨k, rfl⟩ : ∃ k, m = k + 1 := ⟨m - 1, by omega⟩
    rw [upTo, parted_upto x (k + 1) k (by omega), parted_get x (by omega), if_neg (by omega)]
    simp
end Go.Proofs.YtohglbfeahofhaaGreat
