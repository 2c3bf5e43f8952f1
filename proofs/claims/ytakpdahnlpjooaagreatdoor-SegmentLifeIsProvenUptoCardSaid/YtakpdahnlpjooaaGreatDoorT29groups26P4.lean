/- Lemmas for the statements of this seat: an abstract machine that the model follows, and contracts of functions. Conditions: none. -/
import Derived.Test.YtakpdahnlpjooaaGreatDoorA15
set_option linter.all false
set_option maxRecDepth 1000000
set_option maxHeartbeats 0
noncomputable section
namespace Go.Aev.R29
open Go Go.Aev Go.Aev.R
theorem qOm:qy PP qe ql (qe.sts.getD 3 default)=true:=by kernel_rfl
theorem qOn:qy PP qe ql (qe.sts.getD 9 default)=true:=by kernel_rfl
theorem qOo:qy PP qe ql (qe.sts.getD 15 default)=true:=by kernel_rfl
theorem qOp:qy PP qe ql (qe.sts.getD 21 default)=true:=by kernel_rfl
theorem qOq:qy PP qe ql (qe.sts.getD 27 default)=true:=by kernel_rfl
theorem qOr:qy PP qe ql (qe.sts.getD 33 default)=true:=by kernel_rfl
theorem qOs:Agr PP qe ql ((qI PP qe).getD 3 (qO PP qe)):=fun ρ=>by kernel_rfl
theorem qOt:Agr PP qe ql ((qI PP qe).getD 9 (qO PP qe)):=fun ρ=>by kernel_rfl
theorem qOu:Agr PP qe ql ((qI PP qe).getD 15 (qO PP qe)):=fun ρ=>by kernel_rfl
theorem qOv:Agr PP qe ql ((qI PP qe).getD 21 (qO PP qe)):=fun ρ=>by kernel_rfl
theorem qOw:Agr PP qe ql ((qI PP qe).getD 27 (qO PP qe)):=fun ρ=>by kernel_rfl
theorem qOx:Agr PP qe ql ((qI PP qe).getD 33 (qO PP qe)):=fun ρ=>by kernel_rfl
end Go.Aev.R29
end
