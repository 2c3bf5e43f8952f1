/- Lemmas: a machine that the model follows, and contracts. Conditions: none. -/
import Derived.Test.YtakpdahnlpjooaaGreatDoorK16
set_option linter.all false
set_option maxRecDepth 1000000
set_option maxHeartbeats 0
noncomputable section
namespace Go.Aev.R29
open Go Go.Aev Go.Aev.R
def qPY:chX PP qg qk 0=true:=by kernel_rfl
def qPZ:chX PP qg qk 6=true:=by kernel_rfl
def qP0:chX PP qg qk 12=true:=by kernel_rfl
def qP1:chX PP qg qk 18=true:=by kernel_rfl
def qP2:chX PP qg qk 24=true:=by kernel_rfl
def qP3:chX PP qg qk 30=true:=by kernel_rfl
def qP4:Agr PP qg qk ((qJ PP qg).getD 0 (qQ PP qg)):=fun U=>by kernel_rfl
def qP5:Agr PP qg qk ((qJ PP qg).getD 6 (qQ PP qg)):=fun U=>by kernel_rfl
def qP6:Agr PP qg qk ((qJ PP qg).getD 12 (qQ PP qg)):=fun U=>by kernel_rfl
def qP7:Agr PP qg qk ((qJ PP qg).getD 18 (qQ PP qg)):=fun U=>by kernel_rfl
def qP8:Agr PP qg qk ((qJ PP qg).getD 24 (qQ PP qg)):=fun U=>by kernel_rfl
def qP9:Agr PP qg qk ((qJ PP qg).getD 30 (qQ PP qg)):=fun U=>by kernel_rfl
def qQa:Agr PP qg qk ((qJ PP qg).getD 36 (qQ PP qg)):=fun U=>by kernel_rfl
end Go.Aev.R29
end
