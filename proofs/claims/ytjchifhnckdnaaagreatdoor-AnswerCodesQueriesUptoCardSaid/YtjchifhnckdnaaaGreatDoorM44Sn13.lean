/- Lemmas for the statements of this seat: an abstract machine that the model follows, and contracts of functions. Conditions: none. -/
import Derived.Test.YtjchifhnckdnaaaGreatDoorM44SnD
set_option linter.unusedVariables false
set_option linter.unusedSimpArgs false
set_option linter.unusedSectionVars false
namespace Go.Aev.M44
set_option maxRecDepth 1000000
theorem e37:Run T37 E37:=by unfold Run; kernel_rfl
theorem e38:Run T38 E38:=by unfold Run; kernel_rfl
theorem e39:Run T39 E39:=by unfold Run; kernel_rfl
theorem e40:Run T40 E40:=by unfold Run; kernel_rfl
theorem e41:Run T41 E41:=by unfold Run; kernel_rfl
theorem e42:Run T42 E42:=by unfold Run; kernel_rfl
theorem e43:Run T43 E43:=by unfold Run; kernel_rfl
theorem e44:Run T44 E44:=by unfold Run; kernel_rfl
theorem e45:Run T45 E45:=by unfold Run; kernel_rfl
theorem e46:Run T46 E46:=by unfold Run; kernel_rfl
theorem e47:Run T47 E47:=by unfold Run; kernel_rfl
theorem e49:Run T49 E49:=by unfold Run; kernel_rfl
theorem e50:Run T50 E50:=by unfold Run; kernel_rfl
theorem e51:Run T51 E51:=by unfold Run; kernel_rfl
end Go.Aev.M44
