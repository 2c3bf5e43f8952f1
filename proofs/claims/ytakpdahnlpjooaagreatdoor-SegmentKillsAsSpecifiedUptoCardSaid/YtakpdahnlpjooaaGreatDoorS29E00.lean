/- Lemmas: a machine that the model follows, and contracts. Conditions: none. -/
import Derived.Test.YtakpdahnlpjooaaGreatDoorK25
set_option linter.all false
set_option maxRecDepth 1000000
set_option maxHeartbeats 0
noncomputable section
namespace Go.Aev.S29
open Go Go.Aev Go.Aev.M44 Go.Aev.R29
def e0:Run T0 E0:=by unfold Run; kernel_rfl
def e1:Run T1 E1:=by unfold Run; kernel_rfl
def e2:Run T2 E2:=by unfold Run; kernel_rfl
def e3:Run T3 E3:=by unfold Run; kernel_rfl
def e4:Run T4 E4:=by unfold Run; kernel_rfl
def e5:Run T5 E5:=by unfold Run; kernel_rfl
def e6:Run T6 E6:=by unfold Run; kernel_rfl
def e7:Run T7 E7:=by unfold Run; kernel_rfl
def e8:RCs PP E8.g E8.args E8.rows E8.v:=qd4 qS (by kernel_rfl) (qo3 (d:=dB) qzy rfl (fuel:=2000) (m:=4) (by kernel_rfl))
def e9:RCs PP E9.g E9.args E9.rows E9.v:=qd4 qS (by kernel_rfl) (qo3 (d:=dB) qzy rfl (fuel:=2000) (m:=4) (by kernel_rfl))
def e10:Run T10 E10:=by unfold Run; kernel_rfl
def e11:Run T11 E11:=by unfold Run; kernel_rfl
def e12:Run T12 E12:=by unfold Run; kernel_rfl
def e13:Run T13 E13:=by unfold Run; kernel_rfl
end Go.Aev.S29
end
