/- Lemmas for the statements of this seat: an abstract machine that the model follows, and contracts of functions. Conditions: none. -/
import Derived.Test.YtjchifhnckdnaaaGreatDoorM44SnD
set_option linter.unusedVariables false
set_option linter.unusedSimpArgs false
set_option linter.unusedSectionVars false
namespace Go.Aev.M44
set_option maxRecDepth 1000000
theorem e0:Run T0 E0:=by unfold Run; kernel_rfl
theorem e1:Run T1 E1:=by unfold Run; kernel_rfl
theorem e2:Run T2 E2:=by unfold Run; kernel_rfl
theorem e3:Run T3 E3:=by unfold Run; kernel_rfl
theorem e4:Run T4 E4:=by unfold Run; kernel_rfl
end Go.Aev.M44
