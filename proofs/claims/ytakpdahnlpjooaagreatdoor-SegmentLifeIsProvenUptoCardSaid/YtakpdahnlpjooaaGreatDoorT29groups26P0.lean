/- Lemmas for the statements of this seat: an abstract machine that the model follows, and contracts of functions. Conditions: none. -/
import Derived.Test.YtakpdahnlpjooaaGreatDoorA15
set_option linter.all false
set_option maxRecDepth 1000000
set_option maxHeartbeats 0
noncomputable section
namespace Go.Aev.R29
open Go Go.Aev Go.Aev.R
theorem qNy:qaT PP qe ql=true:=by kernel_rfl
theorem qNz:qy PP qe ql (qe.sts.getD 5 default)=true:=by kernel_rfl
theorem qNA:qy PP qe ql (qe.sts.getD 11 default)=true:=by kernel_rfl
theorem qNB:qy PP qe ql (qe.sts.getD 17 default)=true:=by kernel_rfl
theorem qNC:qy PP qe ql (qe.sts.getD 23 default)=true:=by kernel_rfl
theorem qND:qy PP qe ql (qe.sts.getD 29 default)=true:=by kernel_rfl
theorem qNE:qy PP qe ql (qe.sts.getD 35 default)=true:=by kernel_rfl
theorem qNF:Agr PP qe ql ((qI PP qe).getD 5 (qO PP qe)):=fun ρ=>by kernel_rfl
theorem qNG:Agr PP qe ql ((qI PP qe).getD 11 (qO PP qe)):=fun ρ=>by kernel_rfl
theorem qNH:Agr PP qe ql ((qI PP qe).getD 17 (qO PP qe)):=fun ρ=>by kernel_rfl
theorem qNI:Agr PP qe ql ((qI PP qe).getD 23 (qO PP qe)):=fun ρ=>by kernel_rfl
theorem qNJ:Agr PP qe ql ((qI PP qe).getD 29 (qO PP qe)):=fun ρ=>by kernel_rfl
theorem qNK:Agr PP qe ql ((qI PP qe).getD 35 (qO PP qe)):=fun ρ=>by kernel_rfl
end Go.Aev.R29
end
