/- Lemmas for the statements of this seat: an abstract machine that the model follows, and contracts of functions. Conditions: none. -/
import Derived.Test.YtakpdahnlpjooaaGreatDoorA15
set_option linter.all false
set_option maxRecDepth 1000000
set_option maxHeartbeats 0
noncomputable section
namespace Go.Aev.R29
open Go Go.Aev Go.Aev.R
theorem qNL:qy PP qe ql (qe.sts.getD 0 default)=true:=by kernel_rfl
theorem qNM:qy PP qe ql (qe.sts.getD 6 default)=true:=by kernel_rfl
theorem qNN:qy PP qe ql (qe.sts.getD 12 default)=true:=by kernel_rfl
theorem qNO:qy PP qe ql (qe.sts.getD 18 default)=true:=by kernel_rfl
theorem qNP:qy PP qe ql (qe.sts.getD 24 default)=true:=by kernel_rfl
theorem qNQ:qy PP qe ql (qe.sts.getD 30 default)=true:=by kernel_rfl
theorem qNR:Agr PP qe ql ((qI PP qe).getD 0 (qO PP qe)):=fun ρ=>by kernel_rfl
theorem qNS:Agr PP qe ql ((qI PP qe).getD 6 (qO PP qe)):=fun ρ=>by kernel_rfl
theorem qNT:Agr PP qe ql ((qI PP qe).getD 12 (qO PP qe)):=fun ρ=>by kernel_rfl
theorem qNU:Agr PP qe ql ((qI PP qe).getD 18 (qO PP qe)):=fun ρ=>by kernel_rfl
theorem qNV:Agr PP qe ql ((qI PP qe).getD 24 (qO PP qe)):=fun ρ=>by kernel_rfl
theorem qNW:Agr PP qe ql ((qI PP qe).getD 30 (qO PP qe)):=fun ρ=>by kernel_rfl
theorem qNX:Agr PP qe ql ((qI PP qe).getD 36 (qO PP qe)):=fun ρ=>by kernel_rfl
end Go.Aev.R29
end
