/- Lemmas: a machine that the model follows, and contracts. Conditions: none. -/
import Derived.Test.YtakpdahnlpjooaaGreatDoorK16
set_option linter.all false
set_option maxRecDepth 1000000
set_option maxHeartbeats 0
noncomputable section
namespace Go.Aev.R29
open Go Go.Aev Go.Aev.R
def qQn:chX PP qg qk 2=true:=by kernel_rfl
def qQo:chX PP qg qk 8=true:=by kernel_rfl
def qQp:chX PP qg qk 14=true:=by kernel_rfl
def qQq:chX PP qg qk 20=true:=by kernel_rfl
def qQr:chX PP qg qk 26=true:=by kernel_rfl
def qQs:chX PP qg qk 32=true:=by kernel_rfl
def qQt:Agr PP qg qk ((qJ PP qg).getD 2 (qQ PP qg)):=fun U=>by kernel_rfl
def qQu:Agr PP qg qk ((qJ PP qg).getD 8 (qQ PP qg)):=fun U=>by kernel_rfl
def qQv:Agr PP qg qk ((qJ PP qg).getD 14 (qQ PP qg)):=fun U=>by kernel_rfl
def qQw:Agr PP qg qk ((qJ PP qg).getD 20 (qQ PP qg)):=fun U=>by kernel_rfl
def qQx:Agr PP qg qk ((qJ PP qg).getD 26 (qQ PP qg)):=fun U=>by kernel_rfl
def qQy:Agr PP qg qk ((qJ PP qg).getD 32 (qQ PP qg)):=fun U=>by kernel_rfl
end Go.Aev.R29
end
