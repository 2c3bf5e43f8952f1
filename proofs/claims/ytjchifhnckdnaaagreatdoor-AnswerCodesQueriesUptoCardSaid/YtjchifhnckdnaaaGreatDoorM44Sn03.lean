/- Lemmas for the statements of this seat: an abstract machine that the model follows, and contracts of functions. Conditions: none. -/
import Derived.Test.YtjchifhnckdnaaaGreatDoorM44SnD
set_option linter.unusedVariables false
set_option linter.unusedSimpArgs false
set_option linter.unusedSectionVars false
namespace Go.Aev.M44
set_option maxRecDepth 1000000
theorem e9:Run T9 E9:=by unfold Run; kernel_rfl
theorem e10:Run T10 E10:=by unfold Run; kernel_rfl
theorem e11:Run T11 E11:=by unfold Run; kernel_rfl
theorem e12:Run T12 E12:=by unfold Run; kernel_rfl
end Go.Aev.M44
