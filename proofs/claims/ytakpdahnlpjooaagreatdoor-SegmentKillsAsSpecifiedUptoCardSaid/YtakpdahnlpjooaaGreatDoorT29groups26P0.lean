/- Lemmas: a machine that the model follows, and contracts. Conditions: none. -/
import Derived.Test.YtakpdahnlpjooaaGreatDoorK16
set_option linter.all false
set_option maxRecDepth 1000000
set_option maxHeartbeats 0
noncomputable section
namespace Go.Aev.R29
open Go Go.Aev Go.Aev.R
def qPL:qbh PP qg qk=true:=by kernel_rfl
def qPM:chX PP qg qk 5=true:=by kernel_rfl
def qPN:chX PP qg qk 11=true:=by kernel_rfl
def qPO:chX PP qg qk 17=true:=by kernel_rfl
def qPP:chX PP qg qk 23=true:=by kernel_rfl
def qPQ:chX PP qg qk 29=true:=by kernel_rfl
def qPR:chX PP qg qk 35=true:=by kernel_rfl
def qPS:Agr PP qg qk ((qJ PP qg).getD 5 (qQ PP qg)):=fun U=>by kernel_rfl
def qPT:Agr PP qg qk ((qJ PP qg).getD 11 (qQ PP qg)):=fun U=>by kernel_rfl
def qPU:Agr PP qg qk ((qJ PP qg).getD 17 (qQ PP qg)):=fun U=>by kernel_rfl
def qPV:Agr PP qg qk ((qJ PP qg).getD 23 (qQ PP qg)):=fun U=>by kernel_rfl
def qPW:Agr PP qg qk ((qJ PP qg).getD 29 (qQ PP qg)):=fun U=>by kernel_rfl
def qPX:Agr PP qg qk ((qJ PP qg).getD 35 (qQ PP qg)):=fun U=>by kernel_rfl
end Go.Aev.R29
end
