/- Lemmas for the statements of this seat: an abstract machine that the model follows, and contracts of functions. Conditions: none. -/
import Derived.Test.YtakpdahnlpjooaaGreatDoorA15
set_option linter.all false
set_option maxRecDepth 1000000
set_option maxHeartbeats 0
noncomputable section
namespace Go.Aev.R29
open Go Go.Aev Go.Aev.R
theorem qNY:qy PP qe ql (qe.sts.getD 1 default)=true:=by kernel_rfl
theorem qNZ:qy PP qe ql (qe.sts.getD 7 default)=true:=by kernel_rfl
theorem qN0:qy PP qe ql (qe.sts.getD 13 default)=true:=by kernel_rfl
theorem qN1:qy PP qe ql (qe.sts.getD 19 default)=true:=by kernel_rfl
theorem qN2:qy PP qe ql (qe.sts.getD 25 default)=true:=by kernel_rfl
theorem qN3:qy PP qe ql (qe.sts.getD 31 default)=true:=by kernel_rfl
theorem qN4:Agr PP qe ql ((qI PP qe).getD 1 (qO PP qe)):=fun ρ=>by kernel_rfl
theorem qN5:Agr PP qe ql ((qI PP qe).getD 7 (qO PP qe)):=fun ρ=>by kernel_rfl
theorem qN6:Agr PP qe ql ((qI PP qe).getD 13 (qO PP qe)):=fun ρ=>by kernel_rfl
theorem qN7:Agr PP qe ql ((qI PP qe).getD 19 (qO PP qe)):=fun ρ=>by kernel_rfl
theorem qN8:Agr PP qe ql ((qI PP qe).getD 25 (qO PP qe)):=fun ρ=>by kernel_rfl
theorem qN9:Agr PP qe ql ((qI PP qe).getD 31 (qO PP qe)):=fun ρ=>by kernel_rfl
end Go.Aev.R29
end
