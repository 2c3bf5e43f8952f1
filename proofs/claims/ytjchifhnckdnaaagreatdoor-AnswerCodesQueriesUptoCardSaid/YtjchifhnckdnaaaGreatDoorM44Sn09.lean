/- Lemmas for the statements of this seat: an abstract machine that the model follows, and contracts of functions. Conditions: none. -/
import Derived.Test.YtjchifhnckdnaaaGreatDoorM44SnD
set_option linter.unusedVariables false
set_option linter.unusedSimpArgs false
set_option linter.unusedSectionVars false
namespace Go.Aev.M44
set_option maxRecDepth 1000000
theorem e24:Run T24 E24:=by unfold Run; kernel_rfl
theorem e25:Run T25 E25:=by unfold Run; kernel_rfl
theorem e26:Run T26 E26:=by unfold Run; kernel_rfl
end Go.Aev.M44
