/- Lemmas for the statements of this seat: an abstract machine that the model follows, and contracts of functions. Conditions: none. -/
import Derived.Test.YtakpdahnlpjooaaGreatDoorA12
set_option linter.all false
set_option maxRecDepth 1000000
set_option maxHeartbeats 0
noncomputable section
namespace Go.Aev.R29
open Go Go.Aev Go.Aev.R
variable [PW]
def qsw:Con:={pts:=[Zu],pre:=[],rts:=[Zu],post:=[.rows 940 Zc Zi ZdW,.le Zi Zt,.le Zt Zi]}
def Yj:RFn:=mF 141 qsw [⟨3,[(0,.o (.c .l Ze)),(3,Zbo),(4,Zbc)],[],[Zu],[],(Za,.w 1 Zt Za,Zk,Za,Za,Za)⟩,⟨6,[(0,.o (.c .l Ze)),(3,Zbo),(4,Zbc),(5,Zbc)],[],[Zu],[.bool (.w 10 Za Zt) true],(Za,.w 1 Zt Za,Za,.w 1 Za Za,Zk,Za)⟩,⟨3,[(0,.o (.c .l Ze)),(3,.o (.sl 0 9 Za Zc Zb false)),(4,Zbb)],[.dat 9 Zf false],[Zu,.i .i64,.i .i64,.i .i64,Zu],[Zct,ZcF,.nle ZX ZO,Zgi,.rows 940 Zf ZO ZdW,Zbs,Zfk,ZbM,ZiY],(Za,ZfE,Zk,Za,Za,Za)⟩,⟨6,[(0,.o (.c .l Ze)),(3,.o (.sl 0 9 Za Zc Zb false)),(4,Zbb),(5,Zcj)],[.dat 9 Zj false],[Zu,.i .i64,.i .i64,.i .i64,.i .i64,Zu],[Zct,ZcF,.nle ZX Zav,.rows 940 Zj Zav ZdW,.lt Zd Zt,ZaH,ZiY,.le Zf ZX],(Za,ZfE,Za,.w 1 Zf Za,Zk,Za)⟩]
def JE:Tab:=[]
theorem qRU:qaT PP Yj JE=true:=by kernel_rfl
theorem qRV:qy PP Yj JE (Yj.sts.getD 0 default)=true:=by kernel_rfl
theorem qRW:qy PP Yj JE (Yj.sts.getD 1 default)=true:=by kernel_rfl
theorem qRX:qy PP Yj JE (Yj.sts.getD 2 default)=true:=by kernel_rfl
theorem qRY:(lvS PP Yj JE (Yj.sts.getD 3 default)).getD 0 false=true:=by kernel_rfl
theorem qRZ:(lvS PP Yj JE (Yj.sts.getD 3 default)).getD 1 false=true:=by kernel_rfl
theorem qR0:(lvS PP Yj JE (Yj.sts.getD 3 default)).getD 2 false=true:=by kernel_rfl
theorem qR1:(lvS PP Yj JE (Yj.sts.getD 3 default)).getD 3 false=true:=by kernel_rfl
theorem qR2:(lvS PP Yj JE (Yj.sts.getD 3 default)).getD 4 false=true:=by kernel_rfl
theorem qR3:(lvS PP Yj JE (Yj.sts.getD 3 default)).getD 5 false=true:=by kernel_rfl
theorem qR4:(lvS PP Yj JE (Yj.sts.getD 3 default)).getD 6 false=true:=by kernel_rfl
theorem qR5:(lvS PP Yj JE (Yj.sts.getD 3 default)).getD 7 false=true:=by kernel_rfl
theorem qR6:(lvS PP Yj JE (Yj.sts.getD 3 default)).getD 8 false=true:=by kernel_rfl
theorem qR7:(lvS PP Yj JE (Yj.sts.getD 3 default)).getD 9 false=true:=by kernel_rfl
theorem qR8:(lvS PP Yj JE (Yj.sts.getD 3 default)).getD 10 false=true:=by kernel_rfl
theorem qR9:(lvS PP Yj JE (Yj.sts.getD 3 default)).getD 11 false=true:=by kernel_rfl
theorem qSa:(lvS PP Yj JE (Yj.sts.getD 3 default)).getD 12 false=true:=by kernel_rfl
theorem qSb:(lvS PP Yj JE (Yj.sts.getD 3 default)).getD 13 false=true:=by kernel_rfl
theorem qSc:qy PP Yj JE (Yj.sts.getD 3 default)=true:=qgm (n:=14) (by kernel_rfl) ⟨qSb,qSa,qR9,qR8,qR7,qR6,qR5,qR4,qR3,qR2,qR1,qR0,qRZ,qRY,trivial⟩
theorem qSd:qp PP 141 qsw:=(fe Yj JE qu (qbC qRU ⟨qRV,qRW,qRX,qSc,trivial⟩) (by refine⟨?_,?_,?_,?_,?_,trivial⟩<;>intro<;>kernel_rfl)).ok
end Go.Aev.R29
end
