/- Lemmas: a machine that the model follows, and contracts. Conditions: none. -/
import Derived.Test.YtakpdahnlpjooaaGreatDoorK25
set_option linter.all false
set_option maxRecDepth 1000000
set_option maxHeartbeats 0
noncomputable section
namespace Go.Aev.S29
open Go Go.Aev Go.Aev.M44 Go.Aev.R29
def e22:Run T22 E22:=by unfold Run; kernel_rfl
def e23:Run T23 E23:=by unfold Run; kernel_rfl
end Go.Aev.S29
end
