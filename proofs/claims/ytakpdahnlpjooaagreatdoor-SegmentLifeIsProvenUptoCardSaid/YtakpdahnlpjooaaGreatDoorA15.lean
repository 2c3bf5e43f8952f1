/- Lemmas for the statements of this seat: an abstract machine that the model follows, and contracts of functions. Conditions: none. -/
import Derived.Test.YtakpdahnlpjooaaGreatDoorA13
set_option linter.all false
set_option maxRecDepth 1000000
set_option maxHeartbeats 0
noncomputable section
namespace Go.Aev.R29
open Go Go.Aev Go.Aev.R
variable [PW]
def qsG:Con:={pts:=[Zu],pre:=[],rts:=[ZK],post:=[.le Zi Zt,.le Zt Zi]}
def qS3:RFn:=mF 143 qsG [⟨3,[(0,.o (.c .l Ze)),(3,Zbo),(4,Zbc)],[],[Zu],[],(Za,.w 1 Zt Za,Zk,Za,Za,Za)⟩,⟨3,[(0,.o (.c .l Ze)),(3,.o (.sl 0 1 Za Zc Zb false)),(4,Zbb)],[Zd8],[Zu,.i .i64,.i .i64,.i .i64,ZK],[Zfk,Zcs,ZbM,Zct,ZcF],(Za,ZfE,Zk,Za,Za,Za)⟩]
def qS4:Tab:=[]
theorem qS5:qp PP 143 qsG:=(fe qS3 qS4 qu (by kernel_rfl) (by refine⟨?_,?_,?_,trivial⟩<;>intro<;>kernel_rfl)).ok
def qiM:Con:={pts:=[.i .i64],pre:=[],rts:=[.b],post:=[.ifF (.and Zch Zdf) ZeN]}
def qPZ:RFn:=mF 215 qiM []
def qP0:Tab:=[]
theorem qr4:qp PP 215 qiM:=(fe qPZ qP0 qu (by kernel_rfl) ⟨fun ρ=>by kernel_rfl,trivial⟩).ok
def qiH:Con:={pts:=[ZK],pre:=[],rts:=[.b],post:=[.imp Zc ZcZ,.imp Zc (.nle Zt ZaF),.imp Zc ZcL,.imp Zc (.has Ze ZW),.ifF (.and (.has Ze ZW) (.and ZcL (.and ZcZ (.nle Zg Zb2)))) ZeN]}
def qM6:RFn:=mF 216 qiH [⟨2,Zds,[],[ZK,.i .i64],[.rows 0 Ze Zc Zb2,.pre Ze Zc Ys,Z5],(Za,.w 1 Zt Zc,Zk,Za,Za,Za)⟩]
def qM7:Tab:=[(115,qgX)]
theorem qrC:qp PP 216 qiH:=(fe qM6 qM7 (qm qni (qu)) (by kernel_rfl) (by refine⟨?_,?_,trivial⟩<;>intro<;>kernel_rfl)).ok
def qre:Con:={pts:=[Zc3,Zc3],pre:=[],rts:=[.b],post:=[]}
def qKX:RFn:=mF 302 qre []
def qKY:Tab:=[]
theorem qKZ:qp PP 302 qre:=(fe qKX qKY qu (by kernel_rfl) ⟨fun ρ=>by kernel_rfl,trivial⟩).ok
def qse:Con:={pts:=[Zu],pre:=[],rts:=[Zu],post:=[.rows 940 Zc Zi ZdW,.le Zi Zt,.le Zt Zi]}
def YT:RFn:=mF 219 qse [⟨3,[(0,.o (.c .l Ze)),(3,Zbo),(4,Zbc)],[],[Zu],[],(Za,.w 1 Zt Za,Zk,Za,Za,Za)⟩,⟨6,[(0,.o (.c .l Ze)),(3,Zbo),(4,Zbc),(5,Zbc)],[],[Zu],[.bool (.w 10 Za Zt) true],(Za,.w 1 Zt Za,Za,.w 1 Za Za,Zk,Za)⟩,⟨3,[(0,.o (.c .l Ze)),(3,.o (.sl 0 9 Za Zc Zb false)),(4,Zbb)],[.dat 9 Zf false],[Zu,.i .i64,.i .i64,.i .i64,Zu],[Zct,ZcF,.nle ZX ZO,Zgi,.rows 940 Zf ZO ZdW,Zbs,Zfk,ZbM,ZiY],(Za,ZfE,Zk,Za,Za,Za)⟩,⟨6,[(0,.o (.c .l Ze)),(3,.o (.sl 0 9 Za Zc Zb false)),(4,Zbb),(5,Zcj)],[.dat 9 Zj false],[Zu,.i .i64,.i .i64,.i .i64,.i .i64,Zu],[Zct,ZcF,.nle ZX Zav,.rows 940 Zj Zav ZdW,.lt Zd Zt,ZaH,ZiY,.le Zf ZX],(Za,ZfE,Za,.w 1 Zf Za,Zk,Za)⟩]
def qaH:Tab:=[(302,qre)]
theorem qQB:qaT PP YT qaH=true:=by kernel_rfl
theorem qQC:qy PP YT qaH (YT.sts.getD 0 default)=true:=by kernel_rfl
theorem qQD:qy PP YT qaH (YT.sts.getD 1 default)=true:=by kernel_rfl
theorem qQE:qy PP YT qaH (YT.sts.getD 2 default)=true:=by kernel_rfl
theorem qQF:(lvS PP YT qaH (YT.sts.getD 3 default)).getD 0 false=true:=by kernel_rfl
theorem qQG:(lvS PP YT qaH (YT.sts.getD 3 default)).getD 1 false=true:=by kernel_rfl
theorem qQH:(lvS PP YT qaH (YT.sts.getD 3 default)).getD 2 false=true:=by kernel_rfl
theorem qQI:(lvS PP YT qaH (YT.sts.getD 3 default)).getD 3 false=true:=by kernel_rfl
theorem qQJ:(lvS PP YT qaH (YT.sts.getD 3 default)).getD 4 false=true:=by kernel_rfl
theorem qQK:(lvS PP YT qaH (YT.sts.getD 3 default)).getD 5 false=true:=by kernel_rfl
theorem qQL:(lvS PP YT qaH (YT.sts.getD 3 default)).getD 6 false=true:=by kernel_rfl
theorem qQM:(lvS PP YT qaH (YT.sts.getD 3 default)).getD 7 false=true:=by kernel_rfl
theorem qQN:(lvS PP YT qaH (YT.sts.getD 3 default)).getD 8 false=true:=by kernel_rfl
theorem qQO:qy PP YT qaH (YT.sts.getD 3 default)=true:=qgm (n:=9) (by kernel_rfl) ⟨qQN,qQM,qQL,qQK,qQJ,qQI,qQH,qQG,qQF,trivial⟩
theorem qQP:qp PP 219 qse:=(fe YT qaH (qm qKZ (qu)) (qbC qQB ⟨qQC,qQD,qQE,qQO,trivial⟩) (by refine⟨?_,?_,?_,?_,?_,trivial⟩<;>intro<;>kernel_rfl)).ok
def qsk:Con:={pts:=[.i .i64,ZK],pre:=[],rts:=[.b],post:=[.imp Zb Zbx,.imp Zb ZaS,.imp Zb (.has Zc ZW),.ifF (.and Zch (.and Zdf (.and ZdV Zf0))) (.bool Zb true)]}
def qQZ:RFn:=mF 445 qsk []
def qQ0:Tab:=[(215,qiM),(216,qiH)]
theorem qQ1:qp PP 445 qsk:=(fe qQZ qQ0 (qm qr4 (qm qrC (qu))) (by kernel_rfl) ⟨fun ρ=>by kernel_rfl,trivial⟩).ok
def qrb:Con:={pts:=[Zac,Zac],pre:=[],rts:=[.b],post:=[.imp Zb Zci,.imp Zb Zfx,.imp Zb Zd4,.imp Zb (.has Zc Ys),.ifF (.and Zd4 (.and (.has Zc Ys) (.and ZcZ (.and Zci Zfx)))) (.bool Zb true)]}
def qKD:RFn:=mF 446 qrb []
def qKE:Tab:=[(115,qgX)]
theorem qKF:qp PP 446 qrb:=(fe qKD qKE (qm qni (qu)) (by kernel_rfl) ⟨fun ρ=>by kernel_rfl,trivial⟩).ok
def qnh:Con:={pts:=[Zda],pre:=[ZcZ,.rows 904 Ze Zt Zg7],rts:=[Zff],post:=[Zbx,.le Zi Zt,.le Zt Zi,.rows 904 Zc Zi Zg7,.le ZdM (.u 12 1 Ze),.le (.u 12 1 Ze) ZdM,.ifF (.rows 912 Ze Zt Zg8) (.rows 912 Zc Zi Zg8)]}
def qSB:RFn:=mF 226 qnh [⟨3,[(0,.o (.c .l Ze)),(3,Zbo),(4,Zbc)],[],[Zda],[],(Za,.w 1 Zt Za,Zk,Za,Za,Za)⟩,⟨3,[(0,.o (.c .l Ze)),(3,.o (.sl 0 10 Za Zc Zb false)),(4,Zbb)],[.dat 10 Zf false],[Zda,.i .i64,.i .i64,.i .i64,Zff],[Zfk,.rows 904 Zf ZO Zg7,ZcF,Zgi,Zct,.le (.u 12 1 Zf) (.u 12 1 (.w 6 Zd Ze)),.le (.u 12 1 (.w 6 Zd Ze)) (.u 12 1 Zf),.ifF (.rows 912 Ze Zt Zg8) (.rows 912 Zf ZO Zg8),Zcs,ZbM],(Za,ZfE,Zk,Za,Za,Za)⟩]
def qSC:Tab:=[]
theorem qzO:qp PP 226 qnh:=(fe qSB qSC qu (by kernel_rfl) (by refine⟨?_,?_,?_,trivial⟩<;>intro<;>kernel_rfl)).ok
def qmD:Con:={pts:=[Zv,Zff],pre:=[Zbx,.rows 904 Zc Zi ZF],rts:=ZgJ,post:=[.imp ZcT Ze8,.imp ZcT Ze9,.imp ZcT (.le ZbB ZdM),.imp ZcT (.le ZdM ZbB),.imp ZcT (.le ZdO ZdN),.imp ZcT (.le ZdN ZdO),.le Za ZbB,Zij,.le ZbB ZaF,.le Za Zcb,.ifF (.and (.le ZdM ZaF) Zfa) (.le Zcb Za)]}
def qO6:RFn:=mF 225 qmD [⟨3,[(1,.o (.c .l Zc)),(2,Zc4),(4,ZbL),(5,ZbT),(6,Zbr)],[Zp,ZdS,.box [.c (.i .i64) Zd,Zef,Zde,ZeP,ZfP,Zf4,Zf5,ZgA,.c (.i .i64) ZaT,.c .l Zae,.c (.i .i64) Zbj] false],[Zv,Zff,.i .i64,.i .i64,ZH,ZH,Zak,.i .i64,.i .i64,.i .i64,.i .i64,.i .i64,ZdT,.i .i64],[ZbU,Zfc,Z6,.le Zd ZaF,.le (.u 11 3 Zae) Zd,.le Za Zbj,.imp ZcU (.le ZF Zdy),.imp ZcU (.le Zdy ZF),.imp ZcU (.le Zd (.u 12 1 (.w 6 Zb Zc))),.imp ZcU (.le (.u 12 1 (.w 6 Zb Zc)) Zd),.imp ZcU (.le Z4 ZdN),.imp ZcU (.le ZdN Z4),.ifF (.and (.le ZdM ZaF) Zfa) (.le Zbj Za)],(Za,.w 1 Zi Zb,Zk,Za,Za,Za)⟩]
def qO7:Tab:=[(214,qmC)]
theorem qzc:qp PP 225 qmD:=(fe qO6 qO7 (qm qzb (qu)) (by kernel_rfl) (by refine⟨?_,?_,trivial⟩<;>intro<;>kernel_rfl)).ok
def qfE:Con:={pts:=[qe3,.i .i64],pre:=[.le Zc (.i 100),Z5],rts:=[.i .i64],post:=[.le Zb Zd6,ZbU,.le Zb ZbF]}
def qmF:RFn:={g:=303,con:=qfE,wr:=true,pn:=14,rec':={ms:=[(303,Zc)],cur:=Zc},sts:=[{id:=3,env:=[(1,ZbK),(2,Zc4),(5,Zbr),(6,Zbb)],rows:=[Zc7],tys:=[qe3,.i .i64,.i .i64,.i .i64],inv:=[ZZ,.le Zb (.u 14 0 Zbe),.le Zb Zc,Z6],ms:=(Za,.w 1 Zcr Zd,Zk,Za,Za,Za)}]}
def qmG:Tab:=[]
theorem qPH:qaU PP qmG:=qu
theorem qPI:qaj PP qmF ((303,qfE)::qmG)=true:=by kernel_rfl
theorem qPJ:qak PP qmF ((303,qfE)::qmG) (qI PP qmF):=by refine⟨?_,?_,trivial⟩<;>intro<;>kernel_rfl
theorem qPK:Ye PP 303 qfE (Ev0 PP qmF ((303,qfE)::qmG)):=qgn YN mixed qPH rfl qPI qPJ
theorem qPL:qp PP 303 qfE:=qPK.ok
def qmz:Con:={pts:=[Zv,Zda],pre:=[.rows 904 Zc Zi ZF],rts:=[qkL],post:=[.imp Zb9 Ze8,.imp Zb9 Ze9,.imp Zb9 (.le ZbB ZdM),.imp Zb9 (.le ZdM ZbB),.imp Zb9 (.le (.u 13 0 Zb) (.w 0 Zg (.u 14 0 Zc))),.le Za ZbB,Zij,.le ZbB ZaF,.le Za (.u 1 12 Zb),.ifF (.and Zbx (.and (.le ZdM ZaF) (.and (.le (.u 14 0 Zc) (.i 23)) Zfa))) (.le (.u 1 12 Zb) Za),.ifF Zfa (.imp Zb9 (.le ZdO ZdN)),.ifF Zfa (.imp Zb9 (.le ZdN ZdO))]}
def qOM:RFn:=mF 221 qmz []
def qON:Tab:=[(226,qnh),(225,qmD),(303,qfE)]
theorem qy7:qp PP 221 qmz:=(fe qOM qON (qm qzO (qm qzc (qm qPL (qu)))) (by kernel_rfl) ⟨fun ρ=>by kernel_rfl,trivial⟩).ok
def qr2:Con:={pts:=[Zdh,Zac],pre:=[],rts:=[.b],post:=[.imp Zb Zci,.imp Zb Zfx]}
def qPT:RFn:=mF 80 qr2 [⟨4,ZgS,[],[Zdh,Zac,.i .i64],[ZZ,Zci,Zfx],(Za,.w 1 Zt Zb,Zk,Za,Za,Za)⟩]
def qPU:Tab:=[]
theorem qPV:qp PP 80 qr2:=(fe qPT qPU qu (by kernel_rfl) (by refine⟨?_,?_,trivial⟩<;>intro<;>kernel_rfl)).ok
def qsm:Con:={pts:=[Zac,Zac],pre:=[],rts:=[.b],post:=[]}
def qQ9:RFn:=mF 95 qsm [⟨4,ZgS,[],[Zac,Zac,.i .i64],[ZZ,Zci],(Za,.w 1 Zt Zb,Zk,Za,Za,Za)⟩]
def qRa:Tab:=[]
theorem qRb:qp PP 95 qsm:=(fe qQ9 qRa qu (by kernel_rfl) (by refine⟨?_,?_,trivial⟩<;>intro<;>kernel_rfl)).ok
def qsx:Con:={pts:=[Zft,Zft],pre:=[],rts:=[.b],post:=[]}
def qSe:RFn:=mF 42 qsx [⟨4,ZgS,[],[Zft,Zft,.i .i64],[ZZ,Zci],(Za,.w 1 Zt Zb,Zk,Za,Za,Za)⟩]
def qSf:Tab:=[(95,qsm)]
theorem qSg:qp PP 42 qsx:=(fe qSe qSf (qm qRb (qu)) (by kernel_rfl) (by refine⟨?_,?_,trivial⟩<;>intro<;>kernel_rfl)).ok
def qso:Con:={pts:=[Zac,Zac],pre:=[],rts:=[.b],post:=[]}
def qRo:RFn:=mF 99 qso [⟨4,ZgS,[],[Zac,Zac,.i .i64],[ZZ,Zci],(Za,.w 1 Zt Zb,Zk,Za,Za,Za)⟩]
def qRp:Tab:=[]
theorem qRq:qp PP 99 qso:=(fe qRo qRp qu (by kernel_rfl) (by refine⟨?_,?_,trivial⟩<;>intro<;>kernel_rfl)).ok
def qsq:Con:={pts:=[ZcK,ZcK],pre:=[],rts:=[.b],post:=[]}
def qRz:RFn:=mF 45 qsq [⟨4,[(2,Zc4),(3,ZbL),(5,Zbr)],[.box [.c .l Z3] false,.box [.c .l Zbh] false],[ZcK,ZcK,.i .i64],[ZZ,.nle Zdq (.u 0 0 Zbh)],(Za,.w 1 Zdq Zb,Zk,Za,Za,Za)⟩]
def qRA:Tab:=[(99,qso)]
theorem qRB:qp PP 45 qsq:=(fe qRz qRA (qm qRq (qu)) (by kernel_rfl) (by refine⟨?_,?_,trivial⟩<;>intro<;>kernel_rfl)).ok
def qiZ:Con:={pts:=[Zba],pre:=[],rts:=[.s 16],post:=[]}
def qSD:RFn:=mF 186 qiZ []
def qSE:Tab:=[]
theorem qsB:qp PP 186 qiZ:=(fe qSD qSE qu (by kernel_rfl) ⟨fun ρ=>by kernel_rfl,trivial⟩).ok
end Go.Aev.R29
end
noncomputable section
namespace Go.Aev.R29
open Go Go.Aev Go.Aev.R
def noV:T→Bool
 | .mk _ x=>noV x|.u o _ x=>!(Nat.beq o 3)&&noV x|.w _ x y=>noV x&&noV y|_=>true
theorem qce {wf wf':Nat→List D→D} {ρ:Nat→D}:∀{t:T},noV t=true→t.den wf ρ=t.den wf' ρ:=by
 intro t
 induction t with
 | mk k x ih=>intro h; simp only[T.den,ih h]
 | u o k x ih =>
  intro h;simp only[noV,qTC,qUy]at h;simp only[T.den,ih h.2];have:o≠3:=fun e=>by rw[e]at h; cases h.1
  rcases o with _|_|_|_|o<;>first|rfl|exact absurd rfl this|skip
  unfold T.un;split<;>first|rfl|omega
 | w o x y ihx ihy =>
  intro h;simp only[noV,qTC]at h;simp only[T.den,ihx h.1,ihy h.2]
 | _=>intro _; rfl
def qbh:F→Bool
 | .le a b=>noV a&&noV b|.nle a b=>noV a&&noV b|.imp t f=>noV t&&qbh f|.ifF f g=>qbh f&&qbh g|.eqD a b=>noV a&&noV b|.has t _=>noV t|.rows e l i t=>Nat.blt e 3&&(noV l&&(noV i&&noV t))|_=>false
theorem qJw {p p':PW} {e:Nat} (h:Nat.blt e 3=true) {v x:D}:@Yf rt p e v x↔@Yf rt p' e v x:=by
 rw[qT0]at h;rcases e with _|_|_|e
 ·exact qU5
 ·exact qU5
 ·exact qU5
 ·omega
theorem qye {p p':PW} {wf wf':Nat→List D→D} {ρ:Nat→D} {rcP:Nat→List D→Prop}:∀{f:F},qbh f=true→(@F.den rt p wf rcP ρ f↔@F.den rt p' wf' rcP ρ f):=by
 intro f
 induction f with
 | le a b=>intro h; simp only[qbh,qTC]at h; simp only[F.den,qce (wf:=wf) (wf':=wf') h.1,qce (wf:=wf) (wf':=wf') h.2]
 | nle a b=>intro h; simp only[qbh,qTC]at h; simp only[F.den,qce (wf:=wf) (wf':=wf') h.1,qce (wf:=wf) (wf':=wf') h.2]
 | eqD a b=>intro h; simp only[qbh,qTC]at h; simp only[F.den,qce (wf:=wf) (wf':=wf') h.1,qce (wf:=wf) (wf':=wf') h.2]
 | has t y=>intro h; simp only[qbh]at h; simp only[F.den,qce (wf:=wf) (wf':=wf') h]
 | imp t f ih=>intro h; simp only[qbh,qTC]at h; simp only[F.den,qce (wf:=wf) (wf':=wf') h.1,ih h.2]
 | ifF f g ih1 ih2=>intro h; simp only[qbh,qTC]at h; simp only[F.den,ih1 h.1,ih2 h.2]
 | rows e l i t =>
  intro h;simp only[qbh,qTC]at h;simp only[F.den,qce (wf:=wf) (wf':=wf') h.2.1,qce (wf:=wf) (wf':=wf') h.2.2.1,qce (wf:=wf) (wf':=wf') h.2.2.2,qJw (p:=p) (p':=p') h.1]
 | _=>intro h; cases h
abbrev pw0:PW:=⟨fun _ _=>.nilp⟩
def pk (g:Nat) (c:Con) (ds:List D):D:=qhL fun d=>@J0 rt pw0 c ds d∧JP PP g c ds d
noncomputable instance pw:PW:=⟨fun g ds=>match g with
 | 1000222=>pk 222 qdw ds|1000030=>pk 30 qbi ds|1000212=>pk 212 qaG ds|1000076=>pk 76 qex ds|_=>.nilp⟩
theorem qq5 {g:Nat} {c:Con} (hn:(c.pre++c.post).all qbh=true) (h:@qp rt pw0 globs PP g c) {ds:List D} (hp:qM c ds):J0 c ds (pk g c ds)∧JP PP g c ds (pk g c ds):=by
 have hn:=qTI.1 hn;have hp0:@qM rt pw0 c ds:=⟨hp.1,fun f hf=>(qye (hn f (qWw _ hf))).1 (hp.2 f hf)⟩
 obtain⟨⟨⟨h1,h2⟩,h3⟩,h4⟩:=qpj (h ds hp0);exact⟨⟨⟨h1,fun f hf=>(qye (hn f (List.mem_append_right _ hf))).1 (h2 f hf)⟩,h3⟩,h4⟩
theorem qlW {g:Nat} {c:Con} (hn:(c.pre++c.post).all qbh=true) (h:@qp rt pw0 globs PP g c) {qs:List F} (hf:c.fact=fun _ _=>True) (hq:∀ds,qM c ds→qj c.rt (pk g c ds)→∀f∈qs,f.den PW.wV rc0 (qa (ds++[pk g c ds]))):qp PP g {c with post:=c.post++qs}:=fun ds hp=>by
 obtain⟨⟨⟨h1,h2⟩,h3⟩,h4⟩:=qq5 hn h hp;refine⟨pk g c ds,⟨⟨h1,fun f hf=>?_⟩,h3⟩,h4⟩;rcases qTH.1 hf with hf|hf
 ·exact h2 f hf
 ·exact hq ds hp h1 f hf
theorem two {ds:List D} (h:ds.length=2):∃a b,ds=[a,b]:=by
 match ds,h with
 | [a,b],_=>exact⟨a,b,rfl⟩
theorem qfr {n:Nat} {e:Y} {d:D} (h:qj (.l n e) d):D.list (toL d)=d:=by
 obtain⟨es,rfl,_⟩:=h;rfl
theorem qlX:qp PP 222 qev:=qlW rfl (@qPa pw0) rfl fun ds hp _ f hf=>by
 simp only[qTD,qTJ,or_false]at hf;subst hf;obtain⟨a,b,c,rfl⟩:∃a b c,ds=[a,b,c]:=by
  match ds,hp.1.1 with
  | [a,b,c],_=>exact⟨a,b,c,rfl⟩
 show pk 222 qdw [a,b,c]=pk 222 qdw [a,.list (toL b),.list (toL c)];have e1:D.list (toL b)=b:=qfr (hp.1.2 1 Ys rfl);have e2:D.list (toL c)=c:=qfr (hp.1.2 2 Ys rfl);rw[e1,e2]
theorem qq6:qp PP 30 qfy:=qlW rfl (@qyC pw0) rfl fun ds hp _ f hf=>by
 obtain⟨a,rfl⟩:∃a,ds=[a]:=by
  match ds,hp.1.1 with
  | [a],_=>exact⟨a,rfl⟩
 have e:(JB 140737488355328 140737488355328).form a=a:=qaz rfl (hp.1.2 0 _ rfl);have k:toI (pk 30 qbi [a])=toI (pk 30 qbi [(JB 140737488355328 140737488355328).form a]):=by rw[e]
 simp only[qTD,qTJ,or_false]at hf;rcases hf with rfl|rfl
 ·exact qU7 k
 ·exact qU7 k.symm
theorem qJx:qp PP 212 qyS:=qlW rfl (@qyR pw0) rfl fun ds hp _ f hf=>by
 obtain⟨a,b,rfl⟩:=two hp.1.1;have e1:(JB 301 301).form a=a:=qaz rfl (hp.1.2 0 _ rfl);have e2:(qai 301 301).form b=b:=qaz rfl (hp.1.2 1 _ rfl);have k:pk 212 qaG [a,b]=pk 212 qaG [(JB 301 301).form a,(qai 301 301).form b]:=by rw[e1,e2]
 simp only[qTD,qTJ,or_false]at hf;rcases hf with rfl|rfl|rfl
 ·exact k
 ·exact qU7 (congrArg toI k)
 ·exact qU7 (congrArg toI k.symm)
theorem qyf:qp PP 76 qsl:=qlW rfl (@qQ4 pw0) rfl fun ds hp ht f hf=>by
 obtain⟨a,b,rfl⟩:=two hp.1.1;have e1:(JB 301 301).form a=a:=qaz rfl (hp.1.2 0 _ rfl);have k:pk 76 qex [a,b]=pk 76 qex [(JB 301 301).form a,.list (toL b)]:=by
  have e2:D.list (toL b)=b:=qfr (n:=301) (e:=.l 301 (.i .i64)) (hp.1.2 1 _ rfl);rw[e1,e2]
 simp only[qTD,qTJ,or_false]at hf;rcases hf with rfl|rfl
 ·intro h;exact(congrArg toB k).symm.trans h
 ·intro h;have h:(!toB (pk 76 qex [a,b]))=true:=h;refine(congrArg toB k).symm.trans ?_;simpa using h
def qrB:Con:={pts:=[Zaw,ZK],pre:=[],rts:=[.b],post:=[.imp Zb (.has Ze Zv),.imp Zb ZaK,.imp Zb ZaL]}
def qM3:RFn:=mF 31 qrB []
def qM4:Tab:=[(75,qry),(30,qfy),(76,qsl)]
theorem qM5:qp PP 31 qrB:=(fe qM3 qM4 (qm qMW (qm qq6 (qm qyf (qu)))) (by kernel_rfl) ⟨fun ρ=>by kernel_rfl,trivial⟩).ok
def qsu:Con:={pts:=[Zv,ZcX,Zby],pre:=[.nle Zg Zfq,.rows 0 Zc Zi Zfq],rts:=[ZbC],post:=[ZfQ,ZfR,.le ZaE Zg,.le Zg ZaE,.le Zei Zi,.le Zi Zei]}
def qaZ:RFn:=mF 213 qsu [⟨3,[(1,.o (.c .l Zc)),(3,Zc4),(5,ZbL),(6,ZbT),(7,.o (.pt 3 0 Za 0)),(8,Zbc)],Zju,[Zv,ZcX,Zby],[Zfs],(Zg,Zel,Zk,Za,Za,Za)⟩,⟨3,[(1,.o (.c .l Zc)),(3,Zc4),(5,ZbL),(6,ZbT),(7,.o (.pt 3 0 Za 0)),(8,Zbb)],[Zp,ZdX,ZdY,.box [ZdZ,Zd0,Zd1,Zjv,Zaz,Zaz,ZbE,ZaA,ZaA,.nil] false,Za9,Za9,.dat 2 Zs false],[Zv,ZcX,Zby,.i .i64,.i .i64,.i .i64,Zak],[.le Zd Zf,Zbs,.le Zd Zi,ZfU,Zck,.le Zbq Zd,Zfs],(Zg,ZfV,Zk,Za,Za,Za)⟩,⟨8,Zjw,Zju,[Zv,ZcX,Zby],[Zfs,.bool ZfT false],(Za,.w 1 ZF Za,Zk,Za,Za,Za)⟩,⟨8,Zjw,[Zp,ZdX,ZdY,.box [ZdZ,Zd0,Zd1,.sl 6 2 Za Zd Zf false,Zaz,Zaz,ZbE,ZaA,ZaA,.nil] false,Za9,Za9,.dat 2 Zj false],[Zv,ZcX,Zby,.i .i64,.i .i64,Zak],[.le Zi Zd,.nle Zeq Zav,Zdg,Zf1,.le Zaa Zi,Zfs],(Za,.w 1 ZF Za,Zk,Za,Za,Za)⟩,⟨8,Zjx,[Zp,ZdX,ZdY,.box [ZdZ,Zd0,Zd1,.nil,Zaz,Zaz,ZbE,ZaA,ZaA,.sl 6 4 Za Zf Zj false] false,Za9,Za9,.dat 4 Zs false],[Zv,ZcX,Zby,.i .i64,.i .i64,.i .i64,ZdT],[.rows 6 Zs Z4 Zg,.le Zi Za,.le Zd ZF,ZfU,Zck,.le Zbq Zd,.le Zd Zbq],(Za,.w 1 ZF Zd,Zk,Za,Za,Za)⟩,⟨8,Zjx,[Zp,ZdX,ZdY,.box [ZdZ,Zd0,Zd1,Zjv,Zaz,Zaz,ZbE,ZaA,ZaA,.sl 7 4 Za Zs Zh false] false,Za9,Za9,.dat 2 ZD false,.dat 4 Z9 false],[Zv,ZcX,Zby,.i .i64,.i .i64,.i .i64,.i .i64,.i .i64,Zak,ZdT],[.rows 6 Z9 Zay Zg,.le Zi Zf,.le Zd ZF,.nle Zfz Zbf,.le Zbq Zi,.nle (.w 8 Za Zs) Zay,.nle Zh Zs,.le Zdc Zd,.le Zd Zdc],(Za,.w 1 ZF Zd,Zk,Za,Za,Za)⟩]
def qez:Tab:=[(222,qev),(297,qrE)]
theorem qRJ:qaT PP qaZ qez=true:=by kernel_rfl
theorem qRK:qy PP qaZ qez (qaZ.sts.getD 0 default)=true:=by kernel_rfl
theorem qRL:qy PP qaZ qez (qaZ.sts.getD 1 default)=true:=by kernel_rfl
theorem qRM:qy PP qaZ qez (qaZ.sts.getD 2 default)=true:=by kernel_rfl
theorem qRN:qy PP qaZ qez (qaZ.sts.getD 3 default)=true:=by kernel_rfl
theorem qRO:qy PP qaZ qez (qaZ.sts.getD 4 default)=true:=by kernel_rfl
theorem qRP:qy PP qaZ qez (qaZ.sts.getD 5 default)=true:=by kernel_rfl
theorem qRQ:qp PP 213 qsu:=(fe qaZ qez (qm qlX (qm qNd (qu))) (qbC qRJ ⟨qRK,qRL,qRM,qRN,qRO,qRP,trivial⟩) (by refine⟨?_,?_,?_,?_,?_,?_,?_,trivial⟩<;>intro<;>kernel_rfl)).ok
def qiR:Con:={pts:=[Zv,ZK,Zu],pre:=[],rts:=ZgJ,post:=[.imp Zat ZfQ,.imp Zat ZfR,.imp Zat (.le ZaE Zw),.imp Zat (.le Zw ZaE),.imp Zat Zeb,.imp Zat ZaK,.imp Zat ZaL,.imp Zat Zcu,.imp Zat Zea,.imp Zat (.nle Zw ZaF),Zcx,ZfS,.le ZaE ZaF,.ifF ZiX (.le (.u 1 10 Zd) Za),.ifF ZiX (.le Za (.u 1 10 Zd)),.imp Zat (.le Zei Zi),.imp Zat (.le Zi Zei)]}
def qQz:RFn:=mF 140 qiR [⟨4,[(1,.o (.c .l Zc)),(2,.o (.c .l Zb)),(3,Zc4),(6,ZbL),(7,Zbb)],[Zp,ZdS],Zd9,[Z6,ZdV,ZgU,ZgV,.pre Zb Zd Zby,.rows 905 Zb Zd Z3,.rows 920 Zb Zd ZaJ,ZaK,ZaL,Zcu],(Zg,.w 1 Zw Zd,Zk,Za,Za,Za)⟩,⟨14,[(1,.o (.c .l Zc)),(2,.o (.c .l Zb)),(3,Zc4),(6,ZbL),(8,ZbT),(9,Zbb)],[Zp,ZdS,.box [Zfy,Zde,ZeP,.c .l Zh,Zf4,Zf5,ZgA,.c (.i .i64) ZaT,.c (.i .i64) Zae,.c .l Zbj] false],[Zv,ZK,Zu,.i .i64,.i .i64,ZH,ZH,Zak,.i .i64,.i .i64,.i .i64,.i .i64,.i .i64,ZdT],[Zbs,.le Zd Zw,.le Zw ZaF,ZdV,ZgU,ZgV,.pre Zb Zw Zby,.rows 905 Zb Zw Z3,Zeb,ZaK,ZaL,Zcu,.le ZF (.u 0 0 Zbj),.le (.u 0 0 Zbj) ZF,ZaH,.le Zf Zd,.le Zd Zf,.le (.u 11 3 Zbj) Zf,.le Zbp Zi,.le Zi Zbp],(Za,.w 1 Zw Zd,Zk,Za,Za,Za)⟩]
def qQA:Tab:=[(30,qfy),(76,qsl),(212,qyS),(213,qsu),(214,qmC)]
theorem qsd:qp PP 140 qiR:=(fe qQz qQA (qm qq6 (qm qyf (qm qJx (qm qRQ (qm qzb (qu)))))) (by kernel_rfl) (by refine⟨?_,?_,?_,trivial⟩<;>intro<;>kernel_rfl)).ok
structure qfF (m:D) (l:List D) (v:D) (at_:Nat) (key:Int):Prop where
 lt:at_<l.length
 eq:key=KEY m (l.getD at_ .nilp) v
 le:∀i,i<l.length→key≤KEY m (l.getD i .nilp) v
 ls:∀i,i<at_→key<KEY m (l.getD i .nilp) v
theorem qfF.norm {m v:D} {l:List D} {a:Nat} {k:Int} (h:qfF ((K.i .i64).den m) l (K.l.den v) a k):qfF m l v a k:=⟨h.lt,h.eq,h.le,h.ls⟩
def qr5 (m:D) (l:List D) (v:D) (n:Nat):Prop:=∀i,i<n→0≤KEY m (l.getD i .nilp) v∧(toL (l.getD i .nilp)=toL v→KEY m (l.getD i .nilp) v=0)
def qgQ (ds:List D) (d:D):Prop:=qfF (qa ds 0) (toL (qa ds 1)) (qa ds 2) (toN (cel d 0)) (toI (cel d 1))∧qr5 (qa ds 0) (toL (qa ds 1)) (qa ds 2) (toL (qa ds 1)).length
def qmM:Con:={pts:=[.i .i64,ZW,Ys],pre:=[Zbx,.rows 0 Zc Zi Zw],rts:=ZiQ,post:=[Zcx,.lt ZaE Zi,.le (.u 1 2 Zd) Za]}
def qmN:RFn:=mF 217 qmM [⟨3,[(0,.o (.c (.i .i64) Ze)),(1,.o (.c .l Zc)),(2,.o (.c .l Zb)),(6,Zc4),(7,ZbL),(8,Zbb)],[.box [Zq,Zq,Zq] false,.box [Zfy,.c (.i .i64) Zj,Zq] false],[.i .i64,ZW,Ys,.i .i64,.i .i64,.i .i64],[Z6,ZaH,.lt Zf Zi],(Za,ZfV,Zk,Za,Za,Za)⟩]
def qmO:Tab:=[(222,qev)]
theorem qP8:Ye PP 217 qmM (Ev0 PP qmN qmO):=fe qmN qmO (qm qlX (qu)) (by kernel_rfl) (by refine⟨?_,?_,trivial⟩<;>intro<;>kernel_rfl)
def qiP:Con:={qmM with post:=qmM.post++[],fact:=qgQ}
def qzk:TQ:=.next [(222,[Zax,Zeo,ZbQ])] 0 [Ze,Zc,Zb,Za,Za,.u 3 222 (.w 4 Zax (.w 4 Zeo (.w 4 ZbQ .z)))]
def qzl:TQ:=.fork (.w 10 Zd Zi) (.fork (.w 10 ZiR Zj) (.next [(222,[Zax,Zf6,ZbQ])] 0 [Ze,Zc,Zb,ZaI,Zd,ZiR]) (.next [(222,[Zax,Zf6,ZbQ])] 0 [Ze,Zc,Zb,ZaI,Zf,Zj])) (.done [] (.u 2 0 (.w 4 Zfi (.w 4 (.mk (.i .i64) Zj) ZbV))))
theorem qP9:YF PP qmN qmO=[qzk,qzl]:=by kernel_rfl
structure qQa (m:D) (l:List D) (v:D) (i at_:Nat) (key:Int):Prop where
 eq:key=KEY m (l.getD at_ .nilp) v
 le:∀j,j<i→key≤KEY m (l.getD j .nilp) v
 ls:∀j,j<at_→key<KEY m (l.getD j .nilp) v
 ks:qr5 m l v i
theorem qQb {ds:List D} {d:D} (h:Ev0 PP qmN qmO ds d):qgQ ds d:=by
 refine Jf qP9 (I:=fun k ρ=>k=0→qQa (qa ds 0) (toL (qa ds 1)) (qa ds 2) (toN (ρ 3)) (toN (ρ 4)) (toI (ρ 5))) (Q:=qgQ ds) ?_ ?_ h
 ·intro k st q ρ d hst hq hg hi ht;have h0:=hg.arg 0 (by decide);have h1:=hg.arg 1 (by decide);have h2:=hg.arg 2 (by decide);rcases k with _|k
  ·simp at hq;subst hq;cases hst;have i3:0≤toI (ρ 3):=hg.inv (.le (.i 0) (.v 3)) (by simp);have i4:0≤toI (ρ 4):=hg.inv (.le (.i 0) (.v 4)) (by simp);have i5:toI (ρ 4)<((toL (ρ 1)).length:Int):=hg.inv (.lt (.v 4) (.u 0 0 (.v 1))) (by simp);obtain⟨j1,j2,j3,j4⟩:=hi rfl;simp[qzl,Yi,Yo,YR,T.den,T.un,T.bi,qV,h0,h1,h2,qUl,qUm,-List.getD_eq_getElem?_getD]at ht;rw[h1]at i5;have hadd:∀{j:Nat},j<(toI (ρ 3)+1).toNat→j<toN (ρ 3)∨j=toN (ρ 3):=by
    intro j hj; unfold toN; omega
   rcases ht with⟨hlt,⟨hk,hc,hn⟩|⟨hk,hc,hn⟩⟩|⟨hge,rfl⟩
   ·obtain⟨c1,c2,c3⟩:=qrS rfl hc;rw[c1]at hk hn;refine hn ⟨rfl,fun j hj=>?_,fun j hj=>Int.lt_of_lt_of_le hk (j2 j hj),fun j hj=>?_⟩
    ·rcases hadd hj with hj|rfl
     ·exact Int.le_trans (Int.le_of_lt hk) (j2 j hj)
     ·exact qVY _
    ·rcases hadd hj with hj|rfl
     ·exact j4 j hj
     ·exact⟨c2,c3⟩
   ·obtain⟨c1,c2,c3⟩:=qrS rfl hc;rw[c1]at hk;refine hn ⟨j1,fun j hj=>?_,j3,fun j hj=>?_⟩
    ·rcases hadd hj with hj|rfl
     ·exact j2 j hj
     ·omega
    ·rcases hadd hj with hj|rfl
     ·exact j4 j hj
     ·exact⟨c2,c3⟩
   ·have hge:=of_decide_eq_false hge;have hl:(toL (qa ds 1)).length≤toN (ρ 3):=by unfold toN; omega
    refine⟨⟨?_,j1,fun j hj=>j2 j (by omega),j3⟩,fun j hj=>j4 j (by omega)⟩;show toN (ρ 4)<_;unfold toN; omega
  ·simp at hq
 ·intro d ht;simp[qzk,Yi,Yo,YR,T.den,T.un,T.bi,qV,qUl,qUm,-List.getD_eq_getElem?_getD]at ht;obtain⟨c1,c2,c3⟩:=qrS rfl ht.1;exact ht.2 ⟨c1,fun j hj=>by omega,fun j hj=>by omega,fun j hj=>by omega⟩
theorem qzm:qp PP 217 qiP:=qP8.more fun ds d _ _ h=>⟨fun f hf=>(by cases hf),qQb h⟩
structure YW (m:D) (V O C:List D):Prop where
 eq:C=O.map fun o=>K.l.den (V.getD (toN o) .nilp)
 ps:∀j,j<C.length→∀i,i<j→0<KEY m (C.getD i .nilp) (C.getD j .nilp)
theorem YW.snoc {m:D} {V O C:List D} (h:YW m V O C) {o:D} (hk:∀i,i<C.length→0<KEY m (C.getD i .nilp) (V.getD (toN o) .nilp)):YW m V (O++[o]) (C++[K.l.den (V.getD (toN o) .nilp)]):=by
 refine⟨by rw[h.eq]; simp,fun j hj i hi=>?_⟩;have hj':j<C.length∨j=C.length:=by simp at hj; omega
 have gi:(C++[K.l.den (V.getD (toN o) .nilp)]).getD i .nilp=C.getD i .nilp:=by
  simp only[List.getD_eq_getElem?_getD,qTZ (show i<C.length by omega)]
 rw[gi];rcases hj' with hj' | rfl
 ·have gj:(C++[K.l.den (V.getD (toN o) .nilp)]).getD j .nilp=C.getD j .nilp:=by
   simp only[List.getD_eq_getElem?_getD,qTZ hj']
  rw[gj];exact h.ps j hj' i hi
 ·have gj:(C++[K.l.den (V.getD (toN o) .nilp)]).getD C.length .nilp=K.l.den (V.getD (toN o) .nilp):=by
   simp[List.getD_eq_getElem?_getD]
  rw[gj];exact hk i hi
theorem YW.one (m:D) (V:List D) (o:D):YW m V [o] [K.l.den (V.getD (toN o) .nilp)] :=
 ⟨rfl,fun j hj i hi=>by simp at hj; omega⟩
theorem YW.nil (m:D) (V:List D):YW m V [] []:=⟨rfl,fun j hj=>absurd hj (qWn _)⟩
def qmc (ds:List D) (d:D):Prop:=∃C,YW (qa ds 0) (toL (qa ds 1)) (toL (cel d 0)) C
def qmd:Con:={pts:=Zej,pre:=[],rts:=[qFU 301 301],post:=[.rows 2 ZaE (.u 0 0 ZaE) Zi,.ifF (.and Zch (.and Zdf (.and Zf0 (.and ZbU (.le Zb Z8))))) (.le Zg (.u 0 0 ZaE)),.ifF ZZ (.le (.u 0 0 ZaE) Zb)]}
def qbj:RFn:=mF 142 qmd [⟨5,[(0,.o (.c (.i .i64) Ze)),(1,.o (.c .l Zc)),(2,Zbr),(6,Zc4),(7,.o (.sl 1 1 Za Zg Zg true)),(8,.o (.sl 2 1 Za Zg Zg true))],Zhp,Zej,[.le Zbg Zi,Zbu,ZcA,ZaS,Zbv],(Za,.w 1 Zb Zbg,Zk,Za,Za,Za)⟩,⟨9,[(0,.o (.c (.i .i64) Ze)),(1,.o (.c .l Zc)),(2,Zbr),(6,Zc4),(7,.o (.sl 1 1 Za Zg Zg true)),(8,.o (.sl 2 1 Za Zg Zg true)),(9,Zbb),(10,Zcj),(11,ZbS)],Zhp,[.i .i64,ZK,.i .i64,.i .i64,.i .i64,.i .i64],[Z6,.lt Zd Zi,Zcz,.lt Zbg Zb,Zbu,ZcA,ZaS,Zbv],(Za,.w 1 Zb Zbg,Za,ZfW,Zk,Za)⟩,⟨5,[(0,.o (.c (.i .i64) Ze)),(1,.o (.c .l Zc)),(2,Zbr),(6,Zc4),(7,.o (.sl 1 1 Za Zd Zf false)),(8,.o Zhq)],[Zbt,Zc0,ZcB],[.i .i64,ZK,.i .i64,.i .i64,.i .i64,.i .i64,.i .i64,ZH,ZW],[.rows 0 ZD Zbf Zcy,.rows 2 Zh Zbp Zi,.nle Zeq Zbp,Zdg,Zf1,.le Zaa Zb,.nle Zf2 Zbf,Zf3,Zbu,ZcA,.nle Zd Zj,.nle Zj Zd,Zbx,ZaS,Zbv],(Za,.w 1 Zb Zaa,Zk,Za,Za,Za)⟩,⟨9,[(0,.o (.c (.i .i64) Ze)),(1,.o (.c .l Zc)),(2,Zbr),(6,Zc4),(7,.o (.sl 1 1 Za Zd Zf false)),(8,.o Zhq),(9,.o ZfP),(10,.o Zf4),(11,.o Zf5)],[Zbt,.dat 1 Z2 false,.dat 1 ZaT false],[.i .i64,ZK,.i .i64,.i .i64,.i .i64,.i .i64,.i .i64,.i .i64,.i .i64,.i .i64,ZH,ZW],[.rows 0 ZaT Zer Zcy,.rows 2 Z2 Zes Zi,ZI,.lt Zh Zi,.le Za Z9,.nle Zeq Zes,Zdg,Zf1,.lt Zaa Zb,.nle Zf2 Zer,Zf3,Zbu,ZcA,.nle Zd Zj,.nle Zj Zd,ZaS,Zbv],(Za,.w 1 Zb Zaa,Za,.w 1 Zi Z9,Zk,Za)⟩]
def qbk:Tab:=[(215,qiM),(216,qiH),(217,qiP)]
theorem qLO:qaT PP qbj qbk=true:=by kernel_rfl
theorem qLP:qy PP qbj qbk (qbj.sts.getD 0 default)=true:=by kernel_rfl
theorem qLQ:qy PP qbj qbk (qbj.sts.getD 1 default)=true:=by kernel_rfl
theorem qLR:qy PP qbj qbk (qbj.sts.getD 2 default)=true:=by kernel_rfl
theorem qLS:qy PP qbj qbk (qbj.sts.getD 3 default)=true:=by kernel_rfl
theorem qLT:Ye PP 142 qmd (Ev0 PP qbj qbk):=fe qbj qbk (qm qr4 (qm qrC (qm qzm (qu)))) (qbC qLO ⟨qLP,qLQ,qLR,qLS,trivial⟩) (by refine⟨?_,?_,?_,?_,?_,trivial⟩<;>intro<;>kernel_rfl)
def qme:Con:={qmd with post:=qmd.post++[],fact:=qmc}
def qyD:TQ:=.fork (.u 6 0 (.u 3 215 (.w 4 Zax .z))) (.done [(215,[Zax])] (.u 2 0 (.w 4 .z Zhr))) (.fork (.u 6 0 (.u 3 216 Zed)) (.done [(215,[Zax]),(216,[Z7])] (.u 2 0 (.w 4 .z Zhr))) (.fork (.w 10 Zb Zg) (.done [(215,[Zax]),(216,[Z7])] (.u 2 0 (.w 4 .z Zhr))) (.fork (.w 12 Zb Z8) (.done [(215,[Zax]),(216,[Z7])] (.u 2 0 (.w 4 .z Zhr))) (.next [(215,[Zax]),(216,[Z7])] 0 [Ze,Zc,Zb]))))
def qyE:TQ:=.fork (.w 10 Zbg Zb) (.next [] 1 [Ze,Zc,Zb,Za,Za,Za]) (.done [] (.u 2 0 (.w 4 ZbV ZbV)))
def qyF:TQ:=.fork (.w 10 Zj Zi) (.fork (.w 12 Zhs Zf) (.next [(217,[Zax,Zep,.mk .l (.w 3 Zc Zj)])] 1 [Ze,Zc,Zb,Zj,Zhs,ZaU]) (.next [(217,[Zax,Zep,.mk .l (.w 3 Zc Zj)])] 1 [Ze,Zc,Zb,Zd,Zf,ZaU])) (.fork (.w 14 Zf Za) (.done [] (.u 2 0 (.w 4 ZbV ZbV))) (.next [] 2 [Ze,Zc,Zb,.w 8 Zg (.u 0 0 Zht),.w 8 Zg (.u 0 0 Zht),Zhu,Zhu,.w 5 ZbV Zht,.w 5 Zep (.w 4 Zf6 .z)]))
def qyG:TQ:=.fork (.w 10 Zaa Zb) (.next [] 3 [Ze,Zc,Zb,Zd,Zf,Zj,Zs,Za,Za,Za,Zh,ZD]) (.done [] (.u 2 0 (.w 4 Zhv ZbV)))
def qyH:TQ:=.fork (.w 10 Z9 Zi) (.fork (.w 12 Zhw ZD) (.next [(217,[Zax,Zet,.mk .l (.w 3 Zc Z9)])] 3 [Ze,Zc,Zb,Zd,Zf,Zj,Zs,Z9,Zhw,.w 0 Z9 Zg,Z2,ZaT]) (.next [(217,[Zax,Zet,.mk .l (.w 3 Zc Z9)])] 3 [Ze,Zc,Zb,Zd,Zf,Zj,Zs,Zh,ZD,.w 0 Z9 Zg,Z2,ZaT])) (.fork (.w 14 ZD Za) (.done [] (.u 2 0 (.w 4 Zhx ZbV))) (.next [] 2 [Ze,Zc,Zb,.w 8 Zd (.u 0 0 Zhy),.w 8 Zd (.u 0 0 Zhy),.w 8 Zj (.u 0 0 Zhz),.w 8 Zj (.u 0 0 Zhz),.w 5 Zhx Zhy,.w 5 Zet Zhz]))
theorem qLU:YF PP qbj qbk=[qyD,qyE,qyF,qyG,qyH]:=by kernel_rfl
theorem qmf (n:Nat) (l:List D) (x:D):(l.take n++[x]).take (n+1)=l.take n++[x]:=qTX (by rw[qTN,qTU]; simp; omega)
def qmg (m:D) (V C:List D) (best:D) (far:Int):Prop:=far=0∨0<far∧∃at_,qfF m C (V.getD (toN best) .nilp) at_ far
theorem qmg.keys {m:D} {V C:List D} {best:D} {far:Int} (h:qmg m V C best far) (hf:¬far=0):∀i,i<C.length→0<KEY m (C.getD i .nilp) (V.getD (toN best) .nilp):=by
 obtain⟨hf,at_,hn⟩:=h.resolve_left hf;exact fun i hi=>Int.lt_of_lt_of_le hf (hn.le i hi)
theorem qyI {m C v:D} (h:∀c,qbk.get 217=some c→qM c [(K.i .i64).den m,C,K.l.den v]∧J0 c [(K.i .i64).den m,C,K.l.den v] (wOf PP qbk 217 [(K.i .i64).den m,C,K.l.den v])) :
  qfF m (toL C) v (toN (cel (wOf PP qbk 217 [(K.i .i64).den m,C,K.l.den v]) 0)) (toI (cel (wOf PP qbk 217 [(K.i .i64).den m,C,K.l.den v]) 1)):=by
 obtain⟨h1,_⟩:qgQ _ _:=(h qiP rfl).2.2;exact h1.norm
theorem qLV {ds:List D} {d:D} (h:Ev0 PP qbj qbk ds d):qmc ds d:=by
 refine Jf qLU (I:=fun k ρ=>match k with
  | 0=>True|1=>qmg (qa ds 0) (toL (qa ds 1)) [K.l.den ((toL (qa ds 1)).getD 0 .nilp)] (ρ 3) (toI (ρ 4))∧0≤toI (ρ 4)|2=>YW (qa ds 0) (toL (qa ds 1)) ((toL (ρ 7)).take (toN (ρ 3))) ((toL (ρ 8)).take (toN (ρ 5)))|_=>YW (qa ds 0) (toL (qa ds 1)) ((toL (ρ 10)).take (toN (ρ 3))) ((toL (ρ 11)).take (toN (ρ 5)))∧qmg (qa ds 0) (toL (qa ds 1)) ((toL (ρ 11)).take (toN (ρ 5))) (ρ 7) (toI (ρ 8))∧0≤toI (ρ 8)) (Q:=qmc ds) ?_ ?_ h
 ·intro k st q ρ d hst hq hg hi ht;have h0:=hg.arg 0 (by decide);have h1:=hg.arg 1 (by decide);have h2:=hg.arg 2 (by decide);rcases k with _|_|_|_|k
  ·simp at hq;subst hq;simp[qyE,Yi,Yo,YR,T.den,T.un,T.bi,qV,h0,h1,h2,qUl,qUm,-List.getD_eq_getElem?_getD]at ht;rcases ht with⟨_,h⟩|⟨_,rfl⟩
   ·exact h (.inl rfl)
   ·exact⟨_,YW.one _ _ _⟩
  ·simp at hq;subst hq;simp[qyF,Yi,Yo,YR,T.den,T.un,T.bi,qV,h0,h1,h2,qUl,qUm,-List.getD_eq_getElem?_getD]at ht;obtain⟨i1,i2⟩:=hi;rcases ht with⟨_,⟨hk,hc,hn⟩|⟨_,_,hn⟩⟩|⟨_,⟨_,rfl⟩|⟨hf,hn⟩⟩
   ·have h2:=Int.lt_of_le_of_lt i2 hk;exact hn (.inr ⟨h2,_,qyI hc⟩) (Int.le_of_lt h2)
   ·exact hn i1 i2
   ·exact⟨_,YW.one _ _ _⟩
   ·exact hn ((YW.one _ _ _).snoc (i1.keys hf))
  ·simp at hq;subst hq;simp[qyG,Yi,Yo,YR,T.den,T.un,T.bi,qV,h0,h1,h2,qUl,qUm,-List.getD_eq_getElem?_getD]at ht;rcases ht with⟨_,hn⟩|⟨_,rfl⟩
   ·exact hn hi (.inl rfl)
   ·exact⟨_,hi⟩
  ·simp at hq;subst hq;simp[qyH,Yi,Yo,YR,T.den,T.un,T.bi,qV,h0,h1,h2,qUl,qUm,-List.getD_eq_getElem?_getD]at ht;obtain⟨i0,i1,i2⟩:=hi;rcases ht with⟨_,⟨hk,hc,hn⟩|⟨_,_,hn⟩⟩|⟨_,⟨_,rfl⟩|⟨hf,hn⟩⟩
   ·have h2:=Int.lt_of_le_of_lt i2 hk;exact hn i0 (.inr ⟨h2,_,qyI hc⟩) (Int.le_of_lt h2)
   ·exact hn i0 i1 i2
   ·exact⟨_,i0⟩
   ·refine hn ?_;rw[qmf,qmf];exact i0.snoc (o:=(K.i .i64).den (ρ 7)) (i1.keys hf)
  ·simp at hq
 ·intro d ht;simp[qyD,Yi,Yo,YR,T.den,T.un,T.bi,qV,qUl,qUm,-List.getD_eq_getElem?_getD]at ht;rcases ht with⟨_,_,rfl⟩|⟨_,⟨_,_,rfl⟩|⟨_,⟨_,_,rfl⟩|⟨_,⟨_,_,rfl⟩|⟨_,_,hn⟩⟩⟩⟩
  ·exact⟨[],YW.nil _ _⟩
  ·exact⟨[],YW.nil _ _⟩
  ·exact⟨[],YW.nil _ _⟩
  ·exact⟨[],YW.nil _ _⟩
  ·exact hn
theorem qyJ:qp PP 142 qme:=qLT.more fun ds d _ _ h=>⟨fun f hf=>(by cases hf),qLV h⟩
def qiF:Con:={pts:=[Zv,ZK,Zu],pre:=[],rts:=[qkL],post:=[.imp Zcw ZfQ,.imp Zcw ZfR,.imp Zcw (.le ZaE Zw),.imp Zcw (.le Zw ZaE),.imp Zcw (.le Zei Zi),.imp Zcw (.le Zi Zei),Zcx,ZfS,.le ZaE ZaF,.le (.u 13 0 Zd) Zg,.ifF Zhg (.le (.u 1 12 Zd) Za),.ifF Zhg (.le Za (.u 1 12 Zd))]}
def qLm:RFn:=mF 220 qiF []
def qLn:Tab:=[(140,qiR)]
theorem qrg:qp PP 220 qiF:=(fe qLm qLn (qm qsd (qu)) (by kernel_rfl) ⟨fun ρ=>by kernel_rfl,trivial⟩).ok
def qr6 (ds:List D) (d:D):Prop:=toI (cel d 2)≤0→qgQ ds d
def qgR:Con:={pts:=[.i .i64,ZK,ZH],pre:=[],rts:=ZiQ,post:=[.imp (.w 14 (.u 1 2 Zd) Za) Zcx,.imp (.w 14 (.u 1 2 Zd) Za) (.lt ZaE Zi),Zcx,.ifF Zbx (.lt ZaE Zi),.ifF (.and Zch (.and Zdf (.and ZdV (.and Zf0 (.and (.has Zb Ys) (.and (.nle Zw Zcy) (.nle Zcy Zw))))))) (.le (.u 1 2 Zd) Za)]}
def qmP:RFn:=mF 398 qgR []
def qmQ:Tab:=[(445,qsk),(446,qrb),(217,qiP)]
theorem qQc:Ye PP 398 qgR (Ev0 PP qmP qmQ):=fe qmP qmQ (qm qQ1 (qm qKF (qm qzm (qu)))) (by kernel_rfl) ⟨fun ρ=>by kernel_rfl,trivial⟩
def qr7:Con:={qgR with post:=qgR.post++[],fact:=qr6}
def qzn:TQ:=.fork (.u 6 0 (.u 3 445 (.w 4 Zax Zed))) (.done [(445,[Zax,Z7])] ZiS) (.fork (.u 6 0 (.u 3 446 (.w 4 Zeo (.w 4 ZbQ .z)))) (.done [(445,[Zax,Z7]),(446,[Zeo,ZbQ])] ZiS) (.done [(445,[Zax,Z7]),(446,[Zeo,ZbQ]),(217,[Zax,Z7,ZbQ])] (.u 2 0 (.w 4 (.mk (.i .i64) (.u 1 0 ZgT)) (.w 4 (.mk (.i .i64) (.u 1 1 ZgT)) (.w 4 (.mk (.i .i64) (.u 1 2 ZgT)) .z))))))
theorem qQd:YF PP qmP qmQ=[qzn]:=by kernel_rfl
theorem qQe {ds:List D} {d:D} (h:Ev0 PP qmP qmQ ds d):qr6 ds d:=by
 refine Jf qQd (I:=fun k ρ=>False) (Q:=qr6 ds) ?_ ?_ h
 ·intro k st q ρ d hst hq hg hi ht;exact hi.elim
 ·intro d ht;simp[qzn,Yi,Yo,YR,T.den,T.un,T.bi,qV,qUl,qUm,-List.getD_eq_getElem?_getD]at ht;rcases ht with⟨_,_,rfl⟩|⟨_,⟨_,_,rfl⟩|⟨_,⟨_,_,hc⟩,rfl⟩⟩
  ·intro h; exact absurd h (show ¬(1:Int)≤0 by decide)
  ·intro h; exact absurd h (show ¬(1:Int)≤0 by decide)
  ·intro _;obtain⟨h1,h2⟩:qgQ _ _:=(hc qiP rfl).2.2;exact⟨h1.norm,h2⟩
theorem qQf:qp PP 398 qr7:=qQc.more fun ds d _ _ h=>⟨fun f hf=>(by cases hf),qQe h⟩
def Ja (e:D):D:=K.l.den (cel e 7)
def qy5 (V:List D) (o:D):D:=K.l.den (V.getD (toN o) .nilp)
def qiJ (ds:List D) (d:D):Prop:=Yz 0 (toL d)=(toL (qa ds 1)).length∧(∀x∈toL d,1≤(toL x).length∧(toL x).length+1≤(toL (qa ds 1)).length)∧(12≤toI (qa ds 2)→∀x∈toL d,2*(toL x).length≤(toL (qa ds 1)).length+1)
def qan:Con:={pts:=[Zv,Zu,.i .i64],pre:=[.nle (.i 17) Zi,.nle Zi (.i 301),ZZ,.le Zg Z3,.le Zg ZaR,.le ZaR Zad,.pre Zc Zi Zby,.rows 905 Zc Zi Z3],rts:=[.l 4 Zu],post:=[Zdd,.rows 950 Zd Zab Z7]}
def qe:RFn:=mF 301 qan [⟨3,[(1,.o (.c .l Zc)),(2,Zbr),(3,Zc4),(7,Zbo),(8,Zbc)],[Zp],[Zv,Zu,.i .i64],[ZaM,Zb3,ZB,ZG,ZC,.rows 0 .z ZbR Z3],(ZY,Zel,Zk,Za,Za,Za)⟩,⟨3,[(1,.o (.c .l Zc)),(2,Zbr),(3,Zc4),(7,.o (.sl 1 1 Za Zd Zf false)),(8,ZbS)],[Zp,Zdj],[Zv,Zu,.i .i64,.i .i64,.i .i64,.i .i64,ZW],[Zcz,.le Zj Zi,.nle Zaa Zj,.nle Zj Zaa,.nle Zf Zaa,.nle Z4 Zaa,.nle Zaa Z4,.rows 0 Zs Z4 Z3],(ZY,ZfW,Zk,Za,Za,Za)⟩,⟨12,[(1,.o (.c .l Zc)),(3,Zc4),(7,.o (.sl 1 1 Za Zd Zf false)),(9,ZbT),(11,Zbo),(12,Zbc)],[Zp,.dat 1 Zj true,.box [ZeP,ZfP] false],[Zv,Zu,.i .i64,.i .i64,.i .i64,ZW,ZH,.i .i64],[ZaM,ZB,ZG,ZC,Zx,.nle ZY Z4,.nle Z4 Z0,.rows 2 Zs Z4 Zi,.le Za Z4,Zy,.nle Zaa Zav],(Zg,.w 1 Z4 Za,Zk,Za,Za,Za)⟩,⟨12,[(1,.o (.c .l Zc)),(3,Zc4),(7,.o (.sl 1 1 Za Zd Zf false)),(9,ZbT),(11,.o (.sl 3 1 Za Zj Zs false)),(12,.o ZfP)],[Zp,ZM,.box [.c .l Z9,ZgA] false,.dat 1 ZaT false],[Zv,Zu,.i .i64,.i .i64,.i .i64,.i .i64,.i .i64,.i .i64,ZW,ZH,.i .i64,ZW],[ZI,.nle ZP Zh,.nle Zh ZP,.nle Zs ZP,.nle Zer ZP,.nle ZP Zer,Zx,.nle ZY Zay,.nle Zay Z0,.rows 2 Z9 Zay Zi,.le Zh Zay,Zy,ZN],(Zg,.w 1 Zay Zh,Zk,Za,Za,Za)⟩,⟨17,[(1,.o (.c .l Zc)),(3,Zc4),(7,.o (.sl 1 1 Za Zd Zf false)),(11,Zbo),(13,.o (.sl 2 1 Za Za Za true)),(14,Zbc)],[Zp,.dat 1 Zj true,.box [] false],[Zv,Zu,.i .i64,.i .i64,.i .i64,ZW],[ZaM,Zb3,Zx,Zy,.nle Zaa Zav,ZC,.nle Za Z1,.nle Z1 Za,.nle ZY Za],(Za,Zel,Zk,Za,Za,Za)⟩,⟨17,[(1,.o (.c .l Zc)),(3,Zc4),(7,.o (.sl 1 1 Za Zd Zf false)),(11,.o Zhq),(13,.o (.sl 3 1 Za Zg Zg true)),(14,Zbc)],[Zp,Zdv,ZcB,.box [.nil] false],Zdw,[ZaM,Zb3,Zx,Zy,ZcE,Zcv,.nle ZP Zbg,.nle Zbg ZP,ZE,ZQ,ZC,ZG,ZB,.nle Zg Za,ZeQ,ZeR],(Za,Zel,Zk,Za,Za,Za)⟩,⟨17,[(1,.o (.c .l Zc)),(3,Zc4),(7,.o (.sl 1 1 Za Zd Zf false)),(11,.o Zhq),(13,.o (.sl 3 1 Za ZY ZY true)),(14,Zbc)],[Zp,Zdv,ZcB,.box [.nil,.nil] false],Zdw,[ZaM,Zb3,Zx,Zy,ZcE,Zcv,ZeS,ZeT,ZE,ZQ,ZC,ZG,ZB,ZeQ,ZeR,.le Zdx Za,.le Za Zdx],(Za,Zel,Zk,Za,Za,Za)⟩,⟨17,[(1,.o (.c .l Zc)),(3,Zc4),(7,.o (.sl 1 1 Za Zd Zf false)),(11,.o Zhq),(13,.o (.sl 3 1 Za Zg Zg true)),(14,.o ZfP)],[Zp,ZM,ZJ,.box [ZR] false,ZaV],ZaW,[ZI,ZS,Zx,Zy,ZN,ZT,.nle ZP Zbg,.nle Zbg ZP,ZE,ZaX,ZaY,ZaZ,ZU,ZV,Zar,ZeU],(Za,.w 1 Zi Zh,Zk,Za,Za,Za)⟩,⟨17,[(1,.o (.c .l Zc)),(3,Zc4),(7,.o (.sl 1 1 Za Zd Zf false)),(11,.o Zhq),(13,.o (.sl 3 1 Za Za Za true)),(14,Zbc)],[Zp,Zdv,ZcB,.box [] false],Zdw,[ZaM,Zb3,Zx,Zy,ZcE,Zcv,.nle ZP Z1,.nle Z1 ZP,ZE],(Za,Zel,Zk,Za,Za,Za)⟩,⟨17,[(1,.o (.c .l Zc)),(3,Zc4),(7,.o (.sl 1 1 Za Zd Zf false)),(11,.o Zhq),(13,.o (.sl 3 1 Za Zad Zad true)),(14,Zbc)],[Zp,Zdv,ZcB,.box [.nil,.nil,.nil] false],Zdw,[ZaM,Zb3,Zx,Zy,ZcE,Zcv,Zbz,ZbA,ZE,ZQ,ZC,ZG,ZB,ZeQ,ZeR,.le Zdx Za,.le Za Zdx,.le Zdz Za,.le Za Zdz],(Za,Zel,Zk,Za,Za,Za)⟩,⟨17,[(1,.o (.c .l Zc)),(3,Zc4),(7,.o (.sl 1 1 Za Zd Zf false)),(11,.o Zhq),(13,.o (.sl 3 1 Za Z0 Z0 true)),(14,Zbc)],[Zp,Zdv,ZcB,.box [.nil,.nil,.nil,.nil] false],Zdw,[ZaM,Zb3,Zx,Zy,ZcE,Zcv,Zaf,Zag,ZE,ZQ,ZC,ZG,ZB,ZeQ,ZeR,.le Zdx Za,.le Za Zdx,.le Zdz Za,.le Za Zdz,.le (.w 0 Zdz Z1) Za,.le Za (.w 0 Zdz Z1)],(Za,Zel,Zk,Za,Za,Za)⟩,⟨17,ZgB,[Zp,ZM,ZJ,.box [ZR,.nil] false,ZaV],ZaW,[ZI,ZS,Zx,Zy,ZN,ZT,ZeS,ZeT,ZE,ZaX,ZaY,ZaZ,ZU,ZV,ZQ,ZC,ZG,ZB,Zar,ZeU,Zb5,.le Zh ZeV],(Za,.w 1 Zi Zh,Zk,Za,Za,Za)⟩,⟨17,ZgB,[Zp,ZM,ZJ,.box [.nil,ZR] false,ZaV],ZaW,[ZI,ZS,Zx,Zy,ZN,ZT,ZeS,ZeT,ZE,ZQ,ZC,ZG,ZB,ZaX,ZaY,ZaZ,ZU,ZV,ZaO,Zb6,.le Zh ZeW],(Za,.w 1 Zi Zh,Zk,Za,Za,Za)⟩,⟨17,Zb7,[Zp,ZM,ZJ,.box [ZR,.nil,.nil] false,ZaV],ZaW,[ZI,ZS,Zx,Zy,ZN,ZT,Zbz,ZbA,ZE,ZaX,ZaY,ZaZ,ZU,ZV,ZQ,ZC,ZG,ZB,Zar,ZeU,Zb5,.le Zh ZeV,.le ZeX Zh,.le Zh ZeX],(Za,.w 1 Zi Zh,Zk,Za,Za,Za)⟩,⟨17,Zb7,[Zp,ZM,ZJ,.box [.nil,ZR,.nil] false,ZaV],ZaW,[ZI,ZS,Zx,Zy,ZN,ZT,Zbz,ZbA,ZE,ZQ,ZC,ZG,ZB,ZaX,ZaY,ZaZ,ZU,ZV,ZaO,Zb6,.le Zh ZeW,.le ZeY Zh,.le Zh ZeY],(Za,.w 1 Zi Zh,Zk,Za,Za,Za)⟩,⟨17,Zb7,[Zp,ZM,ZJ,.box [.nil,.nil,ZR] false,ZaV],ZaW,[ZI,ZS,Zx,Zy,ZN,ZT,Zbz,ZbA,ZE,ZQ,ZC,ZG,ZB,ZaX,ZaY,ZaZ,ZU,ZV,ZaO,ZeZ,.le Ze0 Zh,.le Zh Ze0],(Za,.w 1 Zi Zh,Zk,Za,Za,Za)⟩,⟨17,Zas,[Zp,ZM,ZJ,.box [ZR,.nil,.nil,.nil] false,ZaV],ZaW,[ZI,ZS,Zx,Zy,ZN,ZT,Zaf,Zag,ZE,ZaX,ZaY,ZaZ,ZU,ZV,ZQ,ZC,ZG,ZB,Zar,ZeU,Zb5,.le Zh ZeV,.le ZeX Zh,.le Zh ZeX,.le (.w 0 ZeX Z1) Zh,.le Zh (.w 0 ZeX Z1)],(Za,.w 1 Zi Zh,Zk,Za,Za,Za)⟩,⟨17,Zas,[Zp,ZM,ZJ,.box [.nil,ZR,.nil,.nil] false,ZaV],ZaW,[ZI,ZS,Zx,Zy,ZN,ZT,Zaf,Zag,ZE,ZQ,ZC,ZG,ZB,ZaX,ZaY,ZaZ,ZU,ZV,ZaO,Zb6,.le Zh ZeW,.le ZeY Zh,.le Zh ZeY,.le (.w 0 ZeY Z1) Zh,.le Zh (.w 0 ZeY Z1)],(Za,.w 1 Zi Zh,Zk,Za,Za,Za)⟩,⟨17,Zas,[Zp,ZM,ZJ,.box [.nil,.nil,ZR,.nil] false,ZaV],ZaW,[ZI,ZS,Zx,Zy,ZN,ZT,Zaf,Zag,ZE,ZQ,ZC,ZG,ZB,ZaX,ZaY,ZaZ,ZU,ZV,ZaO,ZeZ,.le Ze0 Zh,.le Zh Ze0,.le (.w 0 Ze0 Z1) Zh,.le Zh (.w 0 Ze0 Z1)],(Za,.w 1 Zi Zh,Zk,Za,Za,Za)⟩,⟨17,Zas,[Zp,ZM,ZJ,.box [.nil,.nil,.nil,ZR] false,ZaV],ZaW,[ZI,ZS,Zx,Zy,ZN,ZT,Zaf,Zag,ZE,ZQ,ZC,ZG,ZB,ZaX,ZaY,ZaZ,ZU,ZV,ZaO,ZeZ,.le Zdz Zh,.le (.w 0 Zdz Zb4) Zh,.le Zh (.w 0 Zdz Zb4)],(Za,.w 1 Zi Zh,Zk,Za,Za,Za)⟩,⟨17,ZgB,[Zp,ZM,ZJ,.box [ZR,Zah] false,Za0,Za1],Za2,[ZI,ZS,Zx,Zy,ZN,ZT,ZeS,ZeT,ZE,Za3,Za4,Za5,ZU,ZV,Za6,Za7,Za8,Zai,Zaj,Zar,Zb8,.le Zh Ze1],(Za,.w 1 Zi Zh,Zk,Za,Za,Za)⟩,⟨17,Zb7,[Zp,ZM,ZJ,.box [ZR,Zah,.nil] false,Za0,Za1],Za2,[ZI,ZS,Zx,Zy,ZN,ZT,Zbz,ZbA,ZE,Za3,Za4,Za5,ZU,ZV,Za6,Za7,Za8,Zai,Zaj,ZQ,ZC,ZG,ZB,Zar,Zb8,.le Zh Ze1,.le Ze2 Zh,.le Zh Ze2],(Za,.w 1 Zi Zh,Zk,Za,Za,Za)⟩,⟨17,Zb7,[Zp,ZM,ZJ,.box [ZR,.nil,Zah] false,Za0,Za1],Za2,[ZI,ZS,Zx,Zy,ZN,ZT,Zbz,ZbA,ZE,Za3,Za4,Za5,ZU,ZV,ZQ,ZC,ZG,ZB,Za6,Za7,Za8,Zai,Zaj,Zar,Zb5,.le Ze3 Zh,.le Zh Ze3],(Za,.w 1 Zi Zh,Zk,Za,Za,Za)⟩,⟨17,Zb7,[Zp,ZM,ZJ,.box [.nil,ZR,Zah] false,Za0,Za1],Za2,[ZI,ZS,Zx,Zy,ZN,ZT,Zbz,ZbA,ZE,ZQ,ZC,ZG,ZB,Za3,Za4,Za5,ZU,ZV,Za6,Za7,Za8,Zai,Zaj,ZaO,Zb6,.le Ze4 Zh,.le Zh Ze4],(Za,.w 1 Zi Zh,Zk,Za,Za,Za)⟩,⟨17,Zas,[Zp,ZM,ZJ,.box [ZR,Zah,.nil,.nil] false,Za0,Za1],Za2,[ZI,ZS,Zx,Zy,ZN,ZT,Zaf,Zag,ZE,Za3,Za4,Za5,ZU,ZV,Za6,Za7,Za8,Zai,Zaj,ZQ,ZC,ZG,ZB,Zar,Zb8,.le Zh Ze1,.le Ze2 Zh,.le Zh Ze2,.le (.w 0 Ze2 Z1) Zh,.le Zh (.w 0 Ze2 Z1)],(Za,.w 1 Zi Zh,Zk,Za,Za,Za)⟩,⟨17,Zas,[Zp,ZM,ZJ,.box [ZR,.nil,Zah,.nil] false,Za0,Za1],Za2,[ZI,ZS,Zx,Zy,ZN,ZT,Zaf,Zag,ZE,Za3,Za4,Za5,ZU,ZV,ZQ,ZC,ZG,ZB,Za6,Za7,Za8,Zai,Zaj,Zar,Zb5,.le Ze3 Zh,.le Zh Ze3,.le (.w 0 Ze3 Z1) Zh,.le Zh (.w 0 Ze3 Z1)],(Za,.w 1 Zi Zh,Zk,Za,Za,Za)⟩,⟨17,Zas,[Zp,ZM,ZJ,.box [ZR,.nil,.nil,Zah] false,Za0,Za1],Za2,[ZI,ZS,Zx,Zy,ZN,ZT,Zaf,Zag,ZE,Za3,Za4,Za5,ZU,ZV,ZQ,ZC,ZG,ZB,Za6,Za7,Za8,Zai,Zaj,Zar,Zb5,.le ZeX Zh,.le (.w 0 ZeX ZcM) Zh,.le Zh (.w 0 ZeX ZcM)],(Za,.w 1 Zi Zh,Zk,Za,Za,Za)⟩,⟨17,Zas,[Zp,ZM,ZJ,.box [.nil,ZR,Zah,.nil] false,Za0,Za1],Za2,[ZI,ZS,Zx,Zy,ZN,ZT,Zaf,Zag,ZE,ZQ,ZC,ZG,ZB,Za3,Za4,Za5,ZU,ZV,Za6,Za7,Za8,Zai,Zaj,ZaO,Zb6,.le Ze4 Zh,.le Zh Ze4,.le (.w 0 Ze4 Z1) Zh,.le Zh (.w 0 Ze4 Z1)],(Za,.w 1 Zi Zh,Zk,Za,Za,Za)⟩,⟨17,Zas,[Zp,ZM,ZJ,.box [.nil,ZR,.nil,Zah] false,Za0,Za1],Za2,[ZI,ZS,Zx,Zy,ZN,ZT,Zaf,Zag,ZE,ZQ,ZC,ZG,ZB,Za3,Za4,Za5,ZU,ZV,Za6,Za7,Za8,Zai,Zaj,ZaO,Zb6,.le ZeY Zh,.le (.w 0 ZeY ZcM) Zh,.le Zh (.w 0 ZeY ZcM)],(Za,.w 1 Zi Zh,Zk,Za,Za,Za)⟩,⟨17,Zas,[Zp,ZM,ZJ,.box [.nil,.nil,ZR,Zah] false,Za0,Za1],Za2,[ZI,ZS,Zx,Zy,ZN,ZT,Zaf,Zag,ZE,ZQ,ZC,ZG,ZB,Za3,Za4,Za5,ZU,ZV,Za6,Za7,Za8,Zai,Zaj,ZaO,ZeZ,.le Ze0 Zh,.le (.w 0 Ze0 ZcM) Zh,.le Zh (.w 0 Ze0 ZcM)],(Za,.w 1 Zi Zh,Zk,Za,Za,Za)⟩,⟨17,Zb7,[Zp,ZM,ZJ,.box [ZR,Zah,ZcN] false,ZdA,ZdB,ZcO],ZdC,[ZI,ZS,Zx,Zy,ZN,ZT,Zbz,ZbA,ZE,ZdD,ZdE,ZdF,ZU,ZV,ZdG,ZdH,ZdI,Zai,Zaj,ZcP,ZdK,ZdL,ZcQ,ZcR,Zar,Zb8,.le Ze6 Zh,.le Zh Ze6],(Za,.w 1 Zi Zh,Zk,Za,Za,Za)⟩,⟨17,Zas,[Zp,ZM,ZJ,.box [ZR,Zah,ZcN,.nil] false,ZdA,ZdB,ZcO],ZdC,[ZI,ZS,Zx,Zy,ZN,ZT,Zaf,Zag,ZE,ZdD,ZdE,ZdF,ZU,ZV,ZdG,ZdH,ZdI,Zai,Zaj,ZcP,ZdK,ZdL,ZcQ,ZcR,ZQ,ZC,ZG,ZB,Zar,Zb8,.le Ze6 Zh,.le Zh Ze6,.le (.w 0 Ze6 Z1) Zh,.le Zh (.w 0 Ze6 Z1)],(Za,.w 1 Zi Zh,Zk,Za,Za,Za)⟩,⟨17,Zas,[Zp,ZM,ZJ,.box [ZR,Zah,.nil,ZcN] false,ZdA,ZdB,ZcO],ZdC,[ZI,ZS,Zx,Zy,ZN,ZT,Zaf,Zag,ZE,ZdD,ZdE,ZdF,ZU,ZV,ZdG,ZdH,ZdI,Zai,Zaj,ZQ,ZC,ZG,ZB,ZcP,ZdK,ZdL,ZcQ,ZcR,Zar,Zb8,.le Ze2 Zh,.le (.w 0 Ze2 Ze5) Zh,.le Zh (.w 0 Ze2 Ze5)],(Za,.w 1 Zi Zh,Zk,Za,Za,Za)⟩,⟨17,Zas,[Zp,ZM,ZJ,.box [ZR,.nil,Zah,ZcN] false,ZdA,ZdB,ZcO],ZdC,[ZI,ZS,Zx,Zy,ZN,ZT,Zaf,Zag,ZE,ZdD,ZdE,ZdF,ZU,ZV,ZQ,ZC,ZG,ZB,ZdG,ZdH,ZdI,Zai,Zaj,ZcP,ZdK,ZdL,ZcQ,ZcR,Zar,Zb5,.le Ze3 Zh,.le (.w 0 Ze3 Ze5) Zh,.le Zh (.w 0 Ze3 Ze5)],(Za,.w 1 Zi Zh,Zk,Za,Za,Za)⟩,⟨17,Zas,[Zp,ZM,ZJ,.box [.nil,ZR,Zah,ZcN] false,ZdA,ZdB,ZcO],ZdC,[ZI,ZS,Zx,Zy,ZN,ZT,Zaf,Zag,ZE,ZQ,ZC,ZG,ZB,ZdD,ZdE,ZdF,ZU,ZV,ZdG,ZdH,ZdI,Zai,Zaj,ZcP,ZdK,ZdL,ZcQ,ZcR,ZaO,Zb6,.le Ze4 Zh,.le (.w 0 Ze4 Ze5) Zh,.le Zh (.w 0 Ze4 Ze5)],(Za,.w 1 Zi Zh,Zk,Za,Za,Za)⟩,⟨17,Zas,[Zp,ZM,ZJ,.box [ZR,Zah,ZcN,.sl 7 9 Za Zbk (.v 17) false] false,ZcO,.dat 9 (.v 19) false,.dat 9 (.v 20) false,.dat 9 (.v 21) false],[Zv,Zu,.i .i64,.i .i64,.i .i64,.i .i64,.i .i64,.i .i64,ZW,ZW,.i .i64,.i .i64,.i .i64,.i .i64,.i .i64,.i .i64,.i .i64,.i .i64,Zu,Zu,Zu,Zu],[ZI,ZS,Zx,Zy,ZN,ZT,Zaf,Zag,ZE,ZcP,.nle Z2 ZdJ,.nle ZdJ Z2,ZU,ZV,.rows 940 (.v 19) ZgE Z7,.nle Zae ZgE,.nle ZgE Zae,Zai,Zaj,.rows 940 (.v 20) ZgF Z7,.nle ZaP ZgF,.nle ZgF ZaP,ZcQ,ZcR,.rows 940 (.v 21) ZgG Z7,.nle Zbk ZgG,.nle ZgG Zbk,.nle (.v 17) Zbk,.nle Zg Zbk,Zar,Zb8,.le Ze6 Zh,.le (.w 0 Ze6 (.u 4 0 Zbk)) Zh,.le Zh (.w 0 Ze6 (.u 4 0 Zbk))],(Za,.w 1 Zi Zh,Zk,Za,Za,Za)⟩]
def ql:Tab:=[(142,qme),(398,qr7)]
theorem qNx:qaU PP ql:=qm qyJ (qm qQf (qu))
end Go.Aev.R29
end
