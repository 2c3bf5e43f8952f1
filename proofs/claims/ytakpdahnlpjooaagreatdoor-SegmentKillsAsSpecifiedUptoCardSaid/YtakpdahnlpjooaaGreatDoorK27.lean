/- Lemmas: a machine that the model follows, and contracts. Conditions: none. -/
import Derived.Test.YtakpdahnlpjooaaGreatDoorK25
set_option linter.all false
set_option maxRecDepth 1000000
set_option maxHeartbeats 0
noncomputable section
namespace Go.Aev.S29
open Go Go.Aev Go.Aev.M44 Go.Aev.R29
def e14:Run T14 E14:=by unfold Run; kernel_rfl
def e16:Run T16 E16:=by unfold Run; kernel_rfl
def e18:Run T18 E18:=by unfold Run; kernel_rfl
def e20:Run T20 E20:=by unfold Run; kernel_rfl
end Go.Aev.S29
end
