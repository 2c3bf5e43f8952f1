/- Lemmas for the statements of this seat: an abstract machine that the model follows, and contracts of functions. Conditions: none. -/
import Derived.Test.YtjchifhnckdnaaaGreatDoorM44SnD
set_option linter.unusedVariables false
set_option linter.unusedSimpArgs false
set_option linter.unusedSectionVars false
namespace Go.Aev.M44
set_option maxRecDepth 1000000
theorem e96:Run T96 E96:=by unfold Run; kernel_rfl
theorem e97:Run T97 E97:=by unfold Run; kernel_rfl
theorem e98:Run T98 E98:=by unfold Run; kernel_rfl
theorem e99:Run T99 E99:=by unfold Run; kernel_rfl
theorem e100:Run T100 E100:=by unfold Run; kernel_rfl
theorem e101:Run T101 E101:=by unfold Run; kernel_rfl
theorem e102:Run T102 E102:=by unfold Run; kernel_rfl
end Go.Aev.M44
