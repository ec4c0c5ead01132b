/- A scented candle, plainly: with what is left of a wick's pull, in any truth, nothing is wrong. -/
import Derived.Test.YteebihcdgpfldaaGreatV4
namespace Go.Proofs.YteebihcdgpfldaaGreat
theorem wpull_weak (s : WShop) {k : Nat} (hk : k < s.wicks.length) (left : Int × Int) : wpull (weakW s k left) k = weakP (wpull s k) left := by
 unfold wpull
 simp only [weakW]
 rw [getD_set_if _ _ _ _ _ hk, if_pos rfl]
theorem scented_true {s : WShop} {c : Candle} (h : WOk s c) {k : Nat} (hk : k < s.wicks.length) {left : Int × Int} (x : Nat → Int) {e : Int}
 (he : (weakP (wpull s k) left).1 ≤ e ∧ e ≤ (weakP (wpull s k) left).2) :
 trueW (waxOf (weakW s k left) c) c (wpull (weakW s k left) k) { wtruthV s k c x with pull := e } = true := by
 have h1 := trueW_iff.1 (wtruth_true h hk x)
 rw [wpull_weak s hk, trueW_iff]
 exact ⟨he, h1.2⟩
theorem scented_wrong {s : WShop} {c : Candle} (h : WOk s c) {k : Nat} (hk : k < s.wicks.length) {left : Int × Int} (h2 : 0 ≤ left.1 ∧ left.1 ≤ left.2 ∧ left.2 ≤ 1000) (x : Nat → Int) {e : Int}
 (he : (weakP (wpull s k) left).1 ≤ e ∧ e ≤ (weakP (wpull s k) left).2) (hf : faultsV (weakW s k left) c k = []) :
 wrongV (weakW s k left) c (burnV (waxOf (weakW s k left) c) { wtruthV s k c x with pull := e }) (burnV (waxOf (weakW s k left) c) { wtruthV s k c x with pull := e }) = [] :=
 wrong_none (weak_ok h hk h2) (by simpa [weakW] using hk) hf (scented_true h hk x he)
end Go.Proofs.YteebihcdgpfldaaGreat
