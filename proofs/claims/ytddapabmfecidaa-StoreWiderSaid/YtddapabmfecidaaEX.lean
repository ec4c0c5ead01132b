/- The season of the examples. -/
import Derived.Test.YtddapabmfecidaaW24
import Derived.Test.YtddapabmfecidaaW21
import Derived.Test.YtddapabmfecidaaP2
import Derived.Test.YtddapabmfecidaaW26
namespace Go.Proofs.Ytddapabmfecidaa
set_option maxRecDepth 100000
theorem ex_check : (checkV exS).2.2 = 0 := by kernel_rfl
theorem ex_open : openE exS [0, 0, 0] = 0 := by kernel_rfl
theorem ex_fate : fateV exS [0, 0, 0] [20, 29, 10] = (-1, 2, 0) := by kernel_rfl
theorem ex_risk : riskV exS [0, 0, 0] = (2, 2, 0) := by kernel_rfl
theorem ex_cost : costV exS [0, 1, 0] = (13, 0) := by kernel_rfl
theorem ex_keep : keepV exS 0 1 = (2, 0) := by kernel_rfl
theorem ex_none : riskV exS [2] = (0, 0, 4) := by kernel_rfl
theorem ex_cheap : cheapV exS = ([0, 1, 1], 14, 0) := by kernel_rfl
theorem ex_show : showV exS [0, 0, 0] = ([20, 29, 10], 0) := by kernel_rfl
end Go.Proofs.Ytddapabmfecidaa
