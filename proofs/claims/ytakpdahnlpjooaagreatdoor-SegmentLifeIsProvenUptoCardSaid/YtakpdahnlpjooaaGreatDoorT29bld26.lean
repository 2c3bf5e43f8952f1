/- Lemmas for the statements of this seat: an abstract machine that the model follows, and contracts of functions. Conditions: none. -/
import Derived.Test.YtakpdahnlpjooaaGreatDoorA22
set_option linter.all false
set_option maxRecDepth 1000000
set_option maxHeartbeats 0
noncomputable section
namespace Go.Aev.R29
open Go Go.Aev Go.Aev.R
def qad:Con:={pts:=Zd9,pre:=[Zea,.nle Zw ZL,Z6,.le (.w 0 Zd Zw) (.i 400),Zeb,ZaK,ZaL,Zcu],rts:=[qkK],post:=[.le (.u 1 0 Zf) Zw,.le Zw (.u 1 0 Zf),.le ZF (.u 0 0 (.u 1 9 Zf)),.le (.u 0 0 (.u 1 9 Zf)) ZF,.le (.u 0 0 (.u 1 3 Zf)) Zi,.le Zi (.u 0 0 (.u 1 3 Zf)),.imp (.w 11 Zw Zau) (.le Zee Zg),.imp ZbO (.imp ZfM (.le Zee ZY)),.imp ZbO (.le Zee Zad),.imp ZfN (.le Zee (.w 1 (.i 15) Zd))]}
def Y0:RFn:={g:=218,con:=qad,wr:=false,pn:=14,rec':={ms:=[(218,Zw)],cur:=Zw},sts:=[{id:=6,env:=[(1,.o (.c .l Zc)),(3,Zbb),(4,Zc4),(8,ZbL),(9,.o Zef),(10,Zbo),(11,Zbc)],rows:=[Zp,Zhd],tys:=[Zv,ZK,Zu,.i .i64,.l 4 Zu],inv:=[ZaM,.le Za ZO,.nle (.i 17) Zw,.nle Zg ZO,.le (.u 12 0 Zf) Zw,.le Zw (.u 12 0 Zf),.rows 950 Zf ZO ZbQ,.rows 913 Zf ZO Zw,Zhe,.le Zeg (.i 14),ZB,ZC,ZG,.le (.u 12 1 .z) (.u 12 0 (.w 6 Za Zf)),.le (.u 12 0 (.w 6 Za Zf)) (.u 12 1 .z),.rows 904 .z ZbR ZF,.rows 912 .z ZbR Zi,.imp ZbO (.imp ZfM (.le Zeg Zg)),.imp ZbO (.le Zeg ZY),.imp ZfN (.le Zeg (.w 1 (.i 14) Zd))],ms:=(Za,.w 1 ZO Za,Zk,Za,Za,Za)},{id:=6,env:=[(1,.o (.c .l Zc)),(3,Zbb),(4,Zc4),(8,ZbL),(9,.o Zef),(10,.o (.sl 2 12 Za Zj Zs false)),(11,.o ZfP)],rows:=[Zp,Zhd,.dat 12 ZD false],tys:=[Zv,ZK,Zu,.i .i64,.l 4 Zu,.i .i64,.i .i64,.i .i64,Zda],inv:=[ZI,.le Zh ZO,.nle (.i 17) Zw,.nle Zg ZO,.le (.u 12 0 Zf) Zw,.le Zw (.u 12 0 Zf),.rows 950 Zf ZO ZbQ,.rows 913 Zf ZO Zw,Zhe,.le Zeh (.i 14),.le ZP Zh,.le Zh ZP,.nle Zs ZP,Zcv,.nle Zbf ZP,.le (.u 12 1 ZD) (.u 12 0 (.w 6 Zh Zf)),.le (.u 12 0 (.w 6 Zh Zf)) (.u 12 1 ZD),.rows 904 ZD Zbf ZF,.rows 912 ZD Zbf Zi,.imp ZbO (.imp ZfM (.le Zeh Zg)),.imp ZbO (.le Zeh ZY),.imp ZfN (.le Zeh (.w 1 (.i 14) Zd))],ms:=(Za,.w 1 ZO Zh,Zk,Za,Za,Za)}]}
def qaW:Tab:=[(220,qiF),(301,qyT),(221,qmz)]
theorem qK7:qaU PP qaW:=qm qrg (qm qNw (qm qy7 (qu)))
theorem qK8:qaT PP Y0 ((218,qad)::qaW)=true:=by kernel_rfl
theorem qK9:(lvS PP Y0 ((218,qad)::qaW) (Y0.sts.getD 0 default)).getD 0 false=true:=by kernel_rfl
theorem qLa:(lvS PP Y0 ((218,qad)::qaW) (Y0.sts.getD 0 default)).getD 1 false=true:=by kernel_rfl
theorem qLb:qy PP Y0 ((218,qad)::qaW) (Y0.sts.getD 0 default)=true:=qgm (n:=2) (by kernel_rfl) ⟨qLa,qK9,trivial⟩
theorem qLc:(lvS PP Y0 ((218,qad)::qaW) (Y0.sts.getD 1 default)).getD 0 false=true:=by kernel_rfl
theorem qLd:(lvS PP Y0 ((218,qad)::qaW) (Y0.sts.getD 1 default)).getD 1 false=true:=by kernel_rfl
theorem qLe:qy PP Y0 ((218,qad)::qaW) (Y0.sts.getD 1 default)=true:=qgm (n:=2) (by kernel_rfl) ⟨qLd,qLc,trivial⟩
theorem qLf:qaj PP Y0 ((218,qad)::qaW)=true:=qbC qK8 ⟨qLb,qLe,trivial⟩
theorem qLg:Agr PP Y0 ((218,qad)::qaW) ((qI PP Y0).getD 0 (qO PP Y0)):=fun ρ=>by kernel_rfl
theorem qLh:Agr PP Y0 ((218,qad)::qaW) ((qI PP Y0).getD 1 (qO PP Y0)):=fun ρ=>by kernel_rfl
theorem qLi:Agr PP Y0 ((218,qad)::qaW) ((qI PP Y0).getD 2 (qO PP Y0)):=fun ρ=>by kernel_rfl
theorem qLj:qak PP Y0 ((218,qad)::qaW) (qI PP Y0):=⟨qLg,qLh,qLi,trivial⟩
theorem qLk:Ye PP 218 qad (Ev0 PP Y0 ((218,qad)::qaW)):=qgn YN mixed qK7 rfl qLf qLj
theorem qLl:qp PP 218 qad:=qLk.ok
end Go.Aev.R29
end
