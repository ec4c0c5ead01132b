/- The shop of wicks of the examples, and its values. -/
import Derived.Test.YteebihcdgpfldaaGreatV2
namespace Go.Proofs.YteebihcdgpfldaaGreat
set_option maxRecDepth 100000
def exThin : Wick := ⟨⟨#[116, 104, 105, 110]⟩, 10, (16, 18)⟩
def exMid : Wick := ⟨⟨#[109, 105, 100]⟩, 14, (20, 24)⟩
def exFat : Wick := ⟨⟨#[102, 97, 116]⟩, 20, (30, 36)⟩
def exBeesW : Wax := ⟨⟨#[98, 101, 101, 115]⟩, (100, 100), (150, 160), (1000, 1100), 1⟩
def exW : WShop := ⟨[exThin, exMid, exFat], [exBeesW], (20, 45), (500, 1000)⟩
def exC (d : Int) : Candle := ⟨0, d, 10, (0, 20)⟩
theorem exw_e : candleE exW (exC 300) = 0 := by kernel_rfl
theorem exw_e2 : candleE exW (exC 285) = 0 := by kernel_rfl
def exT22 : WTru := ⟨22, 100, 150, 1000, 0, 10⟩
theorem exw_true : trueW (waxOf exW (exC 300)) (exC 300) (wpull exW 1) exT22 = true := by kernel_rfl
theorem exw_at : burnV (waxOf exW (exC 300)) exT22 = ⟨22000000, 33000000, 219000000⟩ := by kernel_rfl
theorem exw_least : leastB exW (exC 300) 1 = ⟨18000000, 27000000, 178000000⟩ := by kernel_rfl
theorem exw_most : mostB exW (exC 300) 1 = ⟨26400000, 42240000, 290400000⟩ := by kernel_rfl
theorem exw_faults : faultsV exW (exC 300) 2 = [1, 4] := by kernel_rfl
theorem exw_suits : suitsV exW (exC 300) = [1] := by kernel_rfl
theorem exw_thin : thinTo exW (exC 300) 3 = 1 := by kernel_rfl
theorem exw_down : thinTo exW (exC 285) 3 = -1 := by kernel_rfl
theorem exw_sizes : sizesV exW (exC 300) 1 = (291, 356) := by kernel_rfl
theorem exw_sizesE : sizesE exW (exC 300) 1 = 0 := by kernel_rfl
theorem exw_minutes : minutesV exW (exC 300) 1 100 = (2272, 3334) := by kernel_rfl
end Go.Proofs.YteebihcdgpfldaaGreat
