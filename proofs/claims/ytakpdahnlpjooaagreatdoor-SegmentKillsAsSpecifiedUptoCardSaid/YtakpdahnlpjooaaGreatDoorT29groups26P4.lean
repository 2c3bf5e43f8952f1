/- Lemmas: a machine that the model follows, and contracts. Conditions: none. -/
import Derived.Test.YtakpdahnlpjooaaGreatDoorK16
set_option linter.all false
set_option maxRecDepth 1000000
set_option maxHeartbeats 0
noncomputable section
namespace Go.Aev.R29
open Go Go.Aev Go.Aev.R
def qQz:chX PP qg qk 3=true:=by kernel_rfl
def qQA:chX PP qg qk 9=true:=by kernel_rfl
def qQB:chX PP qg qk 15=true:=by kernel_rfl
def qQC:chX PP qg qk 21=true:=by kernel_rfl
def qQD:chX PP qg qk 27=true:=by kernel_rfl
def qQE:chX PP qg qk 33=true:=by kernel_rfl
def qQF:Agr PP qg qk ((qJ PP qg).getD 3 (qQ PP qg)):=fun U=>by kernel_rfl
def qQG:Agr PP qg qk ((qJ PP qg).getD 9 (qQ PP qg)):=fun U=>by kernel_rfl
def qQH:Agr PP qg qk ((qJ PP qg).getD 15 (qQ PP qg)):=fun U=>by kernel_rfl
def qQI:Agr PP qg qk ((qJ PP qg).getD 21 (qQ PP qg)):=fun U=>by kernel_rfl
def qQJ:Agr PP qg qk ((qJ PP qg).getD 27 (qQ PP qg)):=fun U=>by kernel_rfl
def qQK:Agr PP qg qk ((qJ PP qg).getD 33 (qQ PP qg)):=fun U=>by kernel_rfl
end Go.Aev.R29
end
