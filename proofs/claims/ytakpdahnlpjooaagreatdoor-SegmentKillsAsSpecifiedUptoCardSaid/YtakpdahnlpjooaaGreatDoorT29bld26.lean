/- Lemmas: a machine that the model follows, and contracts. Conditions: none. -/
import Derived.Test.YtakpdahnlpjooaaGreatDoorK23
set_option linter.all false
set_option maxRecDepth 1000000
set_option maxHeartbeats 0
noncomputable section
namespace Go.Aev.R29
open Go Go.Aev Go.Aev.R
def qae:Con:={pts:=Zfh,pre:=[Zfi,.nle Zx ZR,Zah,.le (.w 0 Zd Zx) (.i 400),Zfj,ZbS,ZbT,Zdu],rts:=[qlD],post:=[.le (.u 1 0 Zf) Zx,.le Zx (.u 1 0 Zf),.le ZG (.u 0 0 (.u 1 9 Zf)),.le (.u 0 0 (.u 1 9 Zf)) ZG,.le (.u 0 0 (.u 1 3 Zf)) Zi,.le Zi (.u 0 0 (.u 1 3 Zf)),.imp (.w 11 Zx ZaE) (.le Zfl Zg),.imp ZcQ (.imp ZgX (.le Zfl ZT)),.imp ZcQ (.le Zfl Zai),.imp ZgY (.le Zfl (.w 1 (.i 15) Zd))]}
def YV:RFn:={g:=218,con:=qae,wr:=false,pn:=14,rec':={ms:=[(218,Zx)],cur:=Zx},sts:=[{id:=6,env:=[Zs,(3,ZbP),Zbg,(8,ZcM),(9,.o Zfm),(10,ZcL),(11,ZbQ)],rows:=[Zq,ZiB],tys:=[Zw,ZK,Zv,.i .i64,.l 4 Zv],inv:=[Zbh,.le Za ZL,.nle (.i 17) Zx,.nle Zg ZL,.le (.u 12 0 Zf) Zx,.le Zx (.u 12 0 Zf),.rows 950 Zf ZL ZcS,.rows 913 Zf ZL Zx,ZiC,.le Zfn (.i 14),ZC,ZD,ZH,.le (.u 12 1 .z) (.u 12 0 (.w 6 Za Zf)),.le (.u 12 0 (.w 6 Za Zf)) (.u 12 1 .z),.rows 904 .z ZcT ZG,.rows 912 .z ZcT Zi,.imp ZcQ (.imp ZgX (.le Zfn Zg)),.imp ZcQ (.le Zfn ZT),.imp ZgY (.le Zfn (.w 1 (.i 14) Zd))],ms:=(Za,.w 1 ZL Za,Zk,Za,Za,Za)},{id:=6,env:=[Zs,(3,ZbP),Zbg,(8,ZcM),(9,.o Zfm),(10,.o (.sl 2 12 Za Zj Zt false)),(11,.o Zg0)],rows:=[Zq,ZiB,.dat 12 Z9 false],tys:=[Zw,ZK,Zv,.i .i64,.l 4 Zv,.i .i64,.i .i64,.i .i64,Zd9],inv:=[ZI,.le Zh ZL,.nle (.i 17) Zx,.nle Zg ZL,.le (.u 12 0 Zf) Zx,.le Zx (.u 12 0 Zf),.rows 950 Zf ZL ZcS,.rows 913 Zf ZL Zx,ZiC,.le Zfo (.i 14),.le ZU Zh,.le Zh ZU,.nle Zt ZU,Zdv,.nle ZbU ZU,.le (.u 12 1 Z9) (.u 12 0 (.w 6 Zh Zf)),.le (.u 12 0 (.w 6 Zh Zf)) (.u 12 1 Z9),.rows 904 Z9 ZbU ZG,.rows 912 Z9 ZbU Zi,.imp ZcQ (.imp ZgX (.le Zfo Zg)),.imp ZcQ (.le Zfo ZT),.imp ZgY (.le Zfo (.w 1 (.i 14) Zd))],ms:=(Za,.w 1 ZL Zh,Zk,Za,Za,Za)}]}
def qa0:Tab:=[(220,qjj),(301,qA6),(221,qnt)]
def qM3:qaA PP qa0:=qj qta (qj qPJ (qj qBk (qo)))
def qM4:qbh PP YV ((218,qae)::qa0)=true:=by kernel_rfl
def qM5:(lvS PP YV ((218,qae)::qa0) (YV.sts.getD 0 default)).getD 0 false=true:=by kernel_rfl
def qM6:(lvS PP YV ((218,qae)::qa0) (YV.sts.getD 0 default)).getD 1 false=true:=by kernel_rfl
def qM7:qef PP YV ((218,qae)::qa0) (YV.sts.getD 0 default)=true:=qiH (n:=2) (by kernel_rfl) ⟨qM6,qM5,trivial⟩
def qM8:(lvS PP YV ((218,qae)::qa0) (YV.sts.getD 1 default)).getD 0 false=true:=by kernel_rfl
def qM9:(lvS PP YV ((218,qae)::qa0) (YV.sts.getD 1 default)).getD 1 false=true:=by kernel_rfl
def qNa:qef PP YV ((218,qae)::qa0) (YV.sts.getD 1 default)=true:=qiH (n:=2) (by kernel_rfl) ⟨qM9,qM8,trivial⟩
def qNb:J8 PP YV ((218,qae)::qa0)=true:=qb8 qM4 ⟨qM7,qNa,trivial⟩
def qNc:Agr PP YV ((218,qae)::qa0) ((qJ PP YV).getD 0 (qQ PP YV)):=fun U=>by kernel_rfl
def qNd:Agr PP YV ((218,qae)::qa0) ((qJ PP YV).getD 1 (qQ PP YV)):=fun U=>by kernel_rfl
def qNe:Agr PP YV ((218,qae)::qa0) ((qJ PP YV).getD 2 (qQ PP YV)):=fun U=>by kernel_rfl
def qNf:J9 PP YV ((218,qae)::qa0) (qJ PP YV):=⟨qNc,qNd,qNe,trivial⟩
def qNg:qH PP 218 qae (Ev0 PP YV ((218,qae)::qa0)):=qgH Yz mixed qM3 rfl qNb qNf
def qNh:qm PP 218 qae:=qNg.ok
end Go.Aev.R29
end
