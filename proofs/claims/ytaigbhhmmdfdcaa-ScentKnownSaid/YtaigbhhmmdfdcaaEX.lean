/- The values at the examples. -/
import Derived.Test.YtaigbhhmmdfdcaaZ1
namespace Go.Proofs.Ytaigbhhmmdfdcaa
set_option maxRecDepth 100000
theorem ex_e : batchesE exShop exBats = 0 := by kernel_rfl
theorem ex_content : contentV exShop exBats = [[(22000000, 25000000), (100000, 200000), (0, 61600)], [(8800000, 10000000), (40000, 80000), (0, 25800)]] := by kernel_rfl
theorem ex_made : madeV exShop exBats 0 exTru = [23500000, 120000, 20800] := by kernel_rfl
theorem ex_madeE : madeE exShop exBats 0 exTru = 0 := by kernel_rfl
theorem ex_left : leftV exShop exBats = [600, 900] := by kernel_rfl
theorem ex_keeps : keepsV exShop exBats = (-1, -1, 0) := by kernel_rfl
theorem ex_take : takeV exShop [exBat0] 1 = ((0, 192), 0) := by kernel_rfl
theorem ex_pull : pullV exShop exBats = [(875, 890), (944, 952)] := by kernel_rfl
theorem firstOf_at {f : Nat → Bool} {k : Nat} (hk : f k = true) (h : firstOf f k = none) : ∀ n, k < n → firstOf f n = some k
  | 0, hn => by omega
  | n + 1, hn => by
    unfold firstOf
    by_cases e : k = n
    · subst e
      rw [h]
      simp [hk]
    · rw [firstOf_at hk h n (by omega)]
theorem ex_paleE : paleE exShop [exBat0] 1 50 = 0 := by kernel_rfl
theorem ex_pale1 : paleV 10 100000 1000 50 = 51 := by
  unfold paleV
  rw [firstOf_at (k := 51) (by kernel_rfl) (by kernel_rfl) 1001 (by omega)]
  rfl
theorem ex_pale2 : paleV 10 200000 1000 50 = 76 := by
  unfold paleV
  rw [firstOf_at (k := 76) (by kernel_rfl) (by kernel_rfl) 1001 (by omega)]
  rfl
theorem ex_row : (rangesV exShop [exBat0]).getD ([exBat0].length - 1) [] = [(22000000, 25000000), (100000, 200000), (0, 61600)] := by kernel_rfl
theorem ex_wt : weightV ([exBat0].getD ([exBat0].length - 1) default) = 1000 := by kernel_rfl
theorem ex_pale : paleVV exShop [exBat0] 1 50 = (51, 76, 0) := by
  unfold paleVV
  rw [if_neg (by rw [ex_paleE]; simp), ex_row, ex_wt]
  have h1 := ex_pale1
  have h2 := ex_pale2
  show (paleV 10 100000 1000 50, paleV 10 200000 1000 50, 0) = _
  rw [h1, h2]
theorem ex_arg : paleVV exShop exBats 0 50 = (0, 0, 2) := by kernel_rfl
/-- The shop whose lead may be less. -/
def exLess : Shop := ⟨[exRose, exRed, { exLead with limit := 61 }], [exBees, exStubs]⟩
theorem ex_known : keepsV exLess exBats = (0, 2, 0) := by kernel_rfl
theorem ex_take0 : takeV exShop [exBat0] 0 = ((0, 99200), 0) := by kernel_rfl
end Go.Proofs.Ytaigbhhmmdfdcaa
