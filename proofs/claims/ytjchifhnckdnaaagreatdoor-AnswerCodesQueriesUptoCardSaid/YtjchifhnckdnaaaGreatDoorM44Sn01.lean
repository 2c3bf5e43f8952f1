/- Lemmas for the statements of this seat: an abstract machine that the model follows, and contracts of functions. Conditions: none. -/
import Derived.Test.YtjchifhnckdnaaaGreatDoorM44SnD
set_option linter.unusedVariables false
set_option linter.unusedSimpArgs false
set_option linter.unusedSectionVars false
namespace Go.Aev.M44
set_option maxRecDepth 1000000
theorem e5:Run T5 E5:=by unfold Run; kernel_rfl
theorem e6:Run T6 E6:=by unfold Run; kernel_rfl
end Go.Aev.M44
