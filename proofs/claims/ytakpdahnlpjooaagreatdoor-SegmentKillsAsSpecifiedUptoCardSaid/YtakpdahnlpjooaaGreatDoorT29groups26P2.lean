/- Lemmas: a machine that the model follows, and contracts. Conditions: none. -/
import Derived.Test.YtakpdahnlpjooaaGreatDoorK16
set_option linter.all false
set_option maxRecDepth 1000000
set_option maxHeartbeats 0
noncomputable section
namespace Go.Aev.R29
open Go Go.Aev Go.Aev.R
def qQb:chX PP qg qk 1=true:=by kernel_rfl
def qQc:chX PP qg qk 7=true:=by kernel_rfl
def qQd:chX PP qg qk 13=true:=by kernel_rfl
def qQe:chX PP qg qk 19=true:=by kernel_rfl
def qQf:chX PP qg qk 25=true:=by kernel_rfl
def qQg:chX PP qg qk 31=true:=by kernel_rfl
def qQh:Agr PP qg qk ((qJ PP qg).getD 1 (qQ PP qg)):=fun U=>by kernel_rfl
def qQi:Agr PP qg qk ((qJ PP qg).getD 7 (qQ PP qg)):=fun U=>by kernel_rfl
def qQj:Agr PP qg qk ((qJ PP qg).getD 13 (qQ PP qg)):=fun U=>by kernel_rfl
def qQk:Agr PP qg qk ((qJ PP qg).getD 19 (qQ PP qg)):=fun U=>by kernel_rfl
def qQl:Agr PP qg qk ((qJ PP qg).getD 25 (qQ PP qg)):=fun U=>by kernel_rfl
def qQm:Agr PP qg qk ((qJ PP qg).getD 31 (qQ PP qg)):=fun U=>by kernel_rfl
end Go.Aev.R29
end
