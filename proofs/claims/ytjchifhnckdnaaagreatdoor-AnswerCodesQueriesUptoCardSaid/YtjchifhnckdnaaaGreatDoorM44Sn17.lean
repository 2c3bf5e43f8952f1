/- Lemmas for the statements of this seat: an abstract machine that the model follows, and contracts of functions. Conditions: none. -/
import Derived.Test.YtjchifhnckdnaaaGreatDoorM44SnD
set_option linter.unusedVariables false
set_option linter.unusedSimpArgs false
set_option linter.unusedSectionVars false
namespace Go.Aev.M44
set_option maxRecDepth 1000000
theorem e67:Run T67 E67:=by unfold Run; kernel_rfl
theorem e68:Run T68 E68:=by unfold Run; kernel_rfl
theorem e69:Run T69 E69:=by unfold Run; kernel_rfl
theorem e70:Run T70 E70:=by unfold Run; kernel_rfl
theorem e71:Run T71 E71:=by unfold Run; kernel_rfl
theorem e72:Run T72 E72:=by unfold Run; kernel_rfl
theorem e73:Run T73 E73:=by unfold Run; kernel_rfl
theorem e74:Run T74 E74:=by unfold Run; kernel_rfl
theorem e75:Run T75 E75:=by unfold Run; kernel_rfl
theorem e76:Run T76 E76:=by unfold Run; kernel_rfl
theorem e77:Run T77 E77:=by unfold Run; kernel_rfl
theorem e78:Run T78 E78:=by unfold Run; kernel_rfl
theorem e79:Run T79 E79:=by unfold Run; kernel_rfl
end Go.Aev.M44
