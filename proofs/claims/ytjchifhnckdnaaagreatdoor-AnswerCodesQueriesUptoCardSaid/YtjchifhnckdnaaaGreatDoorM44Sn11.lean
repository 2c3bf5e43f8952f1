/- Lemmas for the statements of this seat: an abstract machine that the model follows, and contracts of functions. Conditions: none. -/
import Derived.Test.YtjchifhnckdnaaaGreatDoorM44SnD
set_option linter.unusedVariables false
set_option linter.unusedSimpArgs false
set_option linter.unusedSectionVars false
namespace Go.Aev.M44
set_option maxRecDepth 1000000
theorem e29:Run T29 E29:=by unfold Run; kernel_rfl
theorem e30:Run T30 E30:=by unfold Run; kernel_rfl
theorem e31:Run T31 E31:=by unfold Run; kernel_rfl
theorem e32:Run T32 E32:=by unfold Run; kernel_rfl
theorem e33:Run T33 E33:=by unfold Run; kernel_rfl
theorem e34:Run T34 E34:=by unfold Run; kernel_rfl
end Go.Aev.M44
