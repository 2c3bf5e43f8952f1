/- Lemmas for the statements of this seat: an abstract machine that the model follows, and contracts of functions. Conditions: none. -/
import Derived.Test.YtjchifhnckdnaaaGreatDoorM44SnD
set_option linter.unusedVariables false
set_option linter.unusedSimpArgs false
set_option linter.unusedSectionVars false
namespace Go.Aev.M44
set_option maxRecDepth 1000000
theorem e80:Run T80 E80:=by unfold Run; kernel_rfl
theorem e81:Run T81 E81:=by unfold Run; kernel_rfl
theorem e82:Run T82 E82:=by unfold Run; kernel_rfl
theorem e83:Run T83 E83:=by unfold Run; kernel_rfl
theorem e84:Run T84 E84:=by unfold Run; kernel_rfl
theorem e85:Run T85 E85:=by unfold Run; kernel_rfl
theorem e86:Run T86 E86:=by unfold Run; kernel_rfl
theorem e87:Run T87 E87:=by unfold Run; kernel_rfl
theorem e88:Run T88 E88:=by unfold Run; kernel_rfl
theorem e89:Run T89 E89:=by unfold Run; kernel_rfl
theorem e90:Run T90 E90:=by unfold Run; kernel_rfl
theorem e91:Run T91 E91:=by unfold Run; kernel_rfl
theorem e92:Run T92 E92:=by unfold Run; kernel_rfl
theorem e93:Run T93 E93:=by unfold Run; kernel_rfl
theorem e94:Run T94 E94:=by unfold Run; kernel_rfl
theorem e95:Run T95 E95:=by unfold Run; kernel_rfl
end Go.Aev.M44
