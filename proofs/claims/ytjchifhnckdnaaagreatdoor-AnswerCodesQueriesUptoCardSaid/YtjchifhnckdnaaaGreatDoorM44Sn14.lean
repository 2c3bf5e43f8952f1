/- Lemmas for the statements of this seat: an abstract machine that the model follows, and contracts of functions. Conditions: none. -/
import Derived.Test.YtjchifhnckdnaaaGreatDoorM44SnD
set_option linter.unusedVariables false
set_option linter.unusedSimpArgs false
set_option linter.unusedSectionVars false
namespace Go.Aev.M44
set_option maxRecDepth 1000000
theorem e52:Run T52 E52:=by unfold Run; kernel_rfl
theorem e53:Run T53 E53:=by unfold Run; kernel_rfl
theorem e54:Run T54 E54:=by unfold Run; kernel_rfl
theorem e55:Run T55 E55:=by unfold Run; kernel_rfl
theorem e56:Run T56 E56:=by unfold Run; kernel_rfl
theorem e57:Run T57 E57:=by unfold Run; kernel_rfl
theorem e58:Run T58 E58:=by unfold Run; kernel_rfl
theorem e59:Run T59 E59:=by unfold Run; kernel_rfl
theorem e60:Run T60 E60:=by unfold Run; kernel_rfl
theorem e61:Run T61 E61:=by unfold Run; kernel_rfl
end Go.Aev.M44
