/- Lemmas for the statements of this seat: an abstract machine that the model follows, and contracts of functions. Conditions: none. -/
import Derived.Test.YtakpdahnlpjooaaGreatDoorA15
set_option linter.all false
set_option maxRecDepth 1000000
set_option maxHeartbeats 0
noncomputable section
namespace Go.Aev.R29
open Go Go.Aev Go.Aev.R
theorem qOa:qy PP qe ql (qe.sts.getD 2 default)=true:=by kernel_rfl
theorem qOb:qy PP qe ql (qe.sts.getD 8 default)=true:=by kernel_rfl
theorem qOc:qy PP qe ql (qe.sts.getD 14 default)=true:=by kernel_rfl
theorem qOd:qy PP qe ql (qe.sts.getD 20 default)=true:=by kernel_rfl
theorem qOe:qy PP qe ql (qe.sts.getD 26 default)=true:=by kernel_rfl
theorem qOf:qy PP qe ql (qe.sts.getD 32 default)=true:=by kernel_rfl
theorem qOg:Agr PP qe ql ((qI PP qe).getD 2 (qO PP qe)):=fun ρ=>by kernel_rfl
theorem qOh:Agr PP qe ql ((qI PP qe).getD 8 (qO PP qe)):=fun ρ=>by kernel_rfl
theorem qOi:Agr PP qe ql ((qI PP qe).getD 14 (qO PP qe)):=fun ρ=>by kernel_rfl
theorem qOj:Agr PP qe ql ((qI PP qe).getD 20 (qO PP qe)):=fun ρ=>by kernel_rfl
theorem qOk:Agr PP qe ql ((qI PP qe).getD 26 (qO PP qe)):=fun ρ=>by kernel_rfl
theorem qOl:Agr PP qe ql ((qI PP qe).getD 32 (qO PP qe)):=fun ρ=>by kernel_rfl
end Go.Aev.R29
end
