/- Lemmas for the statements of this seat: an abstract machine that the model follows, and contracts of functions. Conditions: none. -/
import Derived.Test.YtakpdahnlpjooaaGreatDoorA24
set_option linter.all false
set_option maxRecDepth 1000000
set_option maxHeartbeats 0
noncomputable section
namespace Go.Aev.S29
open Go Go.Aev Go.Aev.M44 Go.Aev.R29
theorem e0:Run T0 E0:=by unfold Run; kernel_rfl
theorem e1:Run T1 E1:=by unfold Run; kernel_rfl
theorem e2:Run T2 E2:=by unfold Run; kernel_rfl
theorem e3:Run T3 E3:=by unfold Run; kernel_rfl
theorem e4:Run T4 E4:=by unfold Run; kernel_rfl
theorem e5:Run T5 E5:=by unfold Run; kernel_rfl
theorem e6:Run T6 E6:=by unfold Run; kernel_rfl
theorem e7:Run T7 E7:=by unfold Run; kernel_rfl
theorem e8:RCs PP E8.g E8.args E8.rows E8.v:=qY Yn (by kernel_rfl) (qnC (d:=dB) qxm rfl (fuel:=2000) (m:=4) (by kernel_rfl))
theorem e9:RCs PP E9.g E9.args E9.rows E9.v:=qY Yn (by kernel_rfl) (qnC (d:=dB) qxm rfl (fuel:=2000) (m:=4) (by kernel_rfl))
theorem e10:Run T10 E10:=by unfold Run; kernel_rfl
theorem e11:Run T11 E11:=by unfold Run; kernel_rfl
theorem e12:Run T12 E12:=by unfold Run; kernel_rfl
theorem e13:Run T13 E13:=by unfold Run; kernel_rfl
end Go.Aev.S29
end
