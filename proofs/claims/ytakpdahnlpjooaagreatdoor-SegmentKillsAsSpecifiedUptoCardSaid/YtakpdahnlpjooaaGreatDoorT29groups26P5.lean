/- Lemmas: a machine that the model follows, and contracts. Conditions: none. -/
import Derived.Test.YtakpdahnlpjooaaGreatDoorK16
set_option linter.all false
set_option maxRecDepth 1000000
set_option maxHeartbeats 0
noncomputable section
namespace Go.Aev.R29
open Go Go.Aev Go.Aev.R
def qQL:chX PP qg qk 4=true:=by kernel_rfl
def qQM:chX PP qg qk 10=true:=by kernel_rfl
def qQN:chX PP qg qk 16=true:=by kernel_rfl
def qQO:chX PP qg qk 22=true:=by kernel_rfl
def qQP:chX PP qg qk 28=true:=by kernel_rfl
def qQQ:chX PP qg qk 34=true:=by kernel_rfl
def qQR:Agr PP qg qk ((qJ PP qg).getD 4 (qQ PP qg)):=fun U=>by kernel_rfl
def qQS:Agr PP qg qk ((qJ PP qg).getD 10 (qQ PP qg)):=fun U=>by kernel_rfl
def qQT:Agr PP qg qk ((qJ PP qg).getD 16 (qQ PP qg)):=fun U=>by kernel_rfl
def qQU:Agr PP qg qk ((qJ PP qg).getD 22 (qQ PP qg)):=fun U=>by kernel_rfl
def qQV:Agr PP qg qk ((qJ PP qg).getD 28 (qQ PP qg)):=fun U=>by kernel_rfl
def qQW:Agr PP qg qk ((qJ PP qg).getD 34 (qQ PP qg)):=fun U=>by kernel_rfl
end Go.Aev.R29
end
