/- Lemmas for the statements of this seat: an abstract machine that the model follows, and contracts of functions. Conditions: none. -/
import Derived.Test.YtjchifhnckdnaaaGreatDoorM44SnD
set_option linter.unusedVariables false
set_option linter.unusedSimpArgs false
set_option linter.unusedSectionVars false
namespace Go.Aev.M44
set_option maxRecDepth 1000000
theorem e15:Run T15 E15:=by unfold Run; kernel_rfl
theorem e16:Run T16 E16:=by unfold Run; kernel_rfl
end Go.Aev.M44
