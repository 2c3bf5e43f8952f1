/- Lemmas for the statements of this seat: an abstract machine that the model follows, and contracts of functions. Conditions: none. -/
import Derived.Test.YtakpdahnlpjooaaGreatDoorA15
set_option linter.all false
set_option maxRecDepth 1000000
set_option maxHeartbeats 0
noncomputable section
namespace Go.Aev.R29
open Go Go.Aev Go.Aev.R
theorem qOy:qy PP qe ql (qe.sts.getD 4 default)=true:=by kernel_rfl
theorem qOz:qy PP qe ql (qe.sts.getD 10 default)=true:=by kernel_rfl
theorem qOA:qy PP qe ql (qe.sts.getD 16 default)=true:=by kernel_rfl
theorem qOB:qy PP qe ql (qe.sts.getD 22 default)=true:=by kernel_rfl
theorem qOC:qy PP qe ql (qe.sts.getD 28 default)=true:=by kernel_rfl
theorem qOD:qy PP qe ql (qe.sts.getD 34 default)=true:=by kernel_rfl
theorem qOE:Agr PP qe ql ((qI PP qe).getD 4 (qO PP qe)):=fun ρ=>by kernel_rfl
theorem qOF:Agr PP qe ql ((qI PP qe).getD 10 (qO PP qe)):=fun ρ=>by kernel_rfl
theorem qOG:Agr PP qe ql ((qI PP qe).getD 16 (qO PP qe)):=fun ρ=>by kernel_rfl
theorem qOH:Agr PP qe ql ((qI PP qe).getD 22 (qO PP qe)):=fun ρ=>by kernel_rfl
theorem qOI:Agr PP qe ql ((qI PP qe).getD 28 (qO PP qe)):=fun ρ=>by kernel_rfl
theorem qOJ:Agr PP qe ql ((qI PP qe).getD 34 (qO PP qe)):=fun ρ=>by kernel_rfl
end Go.Aev.R29
end
