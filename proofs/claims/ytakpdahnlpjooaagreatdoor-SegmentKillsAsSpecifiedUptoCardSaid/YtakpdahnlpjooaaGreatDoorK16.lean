/- Lemmas: a machine that the model follows, and contracts. Conditions: none. -/
import Derived.Test.YtakpdahnlpjooaaGreatDoorK14
set_option linter.all false
set_option maxRecDepth 1000000
set_option maxHeartbeats 0
noncomputable section
namespace Go.Aev.R29
open Go Go.Aev Go.Aev.R
variable [PW]
def qn8:Con:={pts:=[Zbe,Zbe],pre:=[],rts:=[.b],post:=[]}
def qn9:RFn:=mF 95 qn8 [⟨4,Zei,[],[Zbe,Zbe,.i .i64],[Z3,Zds],(Za,.w 1 Zu Zb,Zk,Za,Za,Za)⟩]
def qoa:Tab:=[]
def qUB:qH PP 95 qn8 (Ev0 PP qn9 qoa):=fe qn9 qoa qo (by kernel_rfl) (by refine⟨?_,?_,trivial⟩<;>intro<;>kernel_rfl)
def qug:Con:={qn8 with post:=qn8.post++[],fact:=Jo}
def qU3:TQ:=.fork (.w 15 Zu Zi) (.done [] ZaV) (.next [] 0 [Ze,Zc,Za])
def qBK:TQ:=.fork ZfG (.fork (.w 15 ZaQ ZaH) (.done [] ZaV) (.next [] 0 Zek)) (.done [] (.mk .b (.t true)))
def qU4:qN PP qn9 qoa=[qU3,qBK]:=by kernel_rfl
def qU8 {ds:List D} {d:D} (h:Ev0 PP qn9 qoa ds d):Jo ds d:=by
 intro hab;refine Yc qU4 (I:=fun _ _=>True) (Q:=fun d=>toB d=true) ?_ ?_ h
 ·intro k st q U d hst hq hg hi ht;have h0:=hg.arg 0 (by decide);have h1:=hg.arg 1 (by decide);have e:U 0=U 1:=h0.trans (hab.trans h1.symm);rcases k with _|k
  ·have hq:qBK=q:=by simpa using hq
   subst hq;rcases ht with⟨_,⟨c,_,rfl⟩|⟨_,_,h⟩⟩|⟨_,_,rfl⟩
   ·have c:(toI ((toL (U 0)).getD (toN (U 2)) .nilp) != toI ((toL (U 1)).getD (toN (U 2)) .nilp))=true:=c;rw[e]at c; exact qci c
   ·exact h trivial
   ·rfl
  ·simp at hq
 ·intro d ht;rcases ht with⟨c,_,rfl⟩|⟨_,_,h⟩
  ·have c:((((toL (qa ds 0)).length:Nat):Int) != (((toL (qa ds 1)).length:Nat):Int))=true:=c;rw[hab]at c; exact qci c
  ·exact h trivial
def qVo:qm PP 95 qug:=qUB.more fun ds d hp _ h=>⟨fun f hf=>(by cases hf),qU8 h⟩
def qox:Con:={pts:=[ZgH,ZgH],pre:=[],rts:=[.b],post:=[]}
def qoy:RFn:=mF 42 qox [⟨4,Zei,[],[ZgH,ZgH,.i .i64],[Z3,Zds],(Za,.w 1 Zu Zb,Zk,Za,Za,Za)⟩]
def qfX:Tab:=[(95,qug)]
def qXS:qH PP 42 qox (Ev0 PP qoy qfX):=fe qoy qfX (qj qVo (qo)) (by kernel_rfl) (by refine⟨?_,?_,trivial⟩<;>intro<;>kernel_rfl)
def qoz:Con:={qox with post:=qox.post++[],fact:=Jo}
def qXT:TQ:=.fork (.w 15 Zu Zi) (.done [] ZaV) (.next [] 0 [Ze,Zc,Za])
def qB6:TQ:=.fork ZfG (.fork (.u 6 0 (.u 3 95 (.w 4 (.mk .l ZaQ) (.w 4 (.mk .l ZaH) .z)))) (.done [(95,[.mk .l ZaQ,.mk .l ZaH])] ZaV) (.next [(95,[.mk .l ZaQ,.mk .l ZaH])] 0 Zek)) (.done [] (.mk .b (.t true)))
def qXU:qN PP qoy qfX=[qXT,qB6]:=by kernel_rfl
def qXV {ds:List D} {d:D} (h:Ev0 PP qoy qfX ds d):Jo ds d:=by
 intro hab;refine Yc qXU (I:=fun _ _=>True) (Q:=fun d=>toB d=true) ?_ ?_ h
 ·intro k st q U d hst hq hg hi ht;have h0:=hg.arg 0 (by decide);have h1:=hg.arg 1 (by decide);have e:U 0=U 1:=h0.trans (hab.trans h1.symm);rcases k with _|k
  ·have hq:qB6=q:=by simpa using hq
   subst hq;have hr:YA PP qfX U 95 [.mk .l (.w 3 (.v 0) (.v 2)),.mk .l (.w 3 (.v 1) (.v 2))]->toB (wOf PP qfX 95 [.list (toL ((toL (U 0)).getD (toN (U 2)) .nilp)),.list (toL ((toL (U 1)).getD (toN (U 2)) .nilp))])=true:=fun hc=>by
    have hf:Jo [.list (toL ((toL (U 0)).getD (toN (U 2)) .nilp)),.list (toL ((toL (U 1)).getD (toN (U 2)) .nilp))] (wOf PP qfX 95 [.list (toL ((toL (U 0)).getD (toN (U 2)) .nilp)),.list (toL ((toL (U 1)).getD (toN (U 2)) .nilp))]):=(hc qug rfl).2.2;exact hf (congrArg (fun x=>D.list (toL ((toL x).getD (toN (U 2)) .nilp))) e)
   rcases ht with⟨_,⟨c,⟨hc,_⟩,rfl⟩|⟨_,_,h⟩⟩|⟨_,_,rfl⟩
   ·exact qjb c (hr hc)
   ·exact h trivial
   ·rfl
  ·simp at hq
 ·intro d ht;rcases ht with⟨c,_,rfl⟩|⟨_,_,h⟩
  ·have c:((((toL (qa ds 0)).length:Nat):Int) != (((toL (qa ds 1)).length:Nat):Int))=true:=c;rw[hab]at c; exact qci c
  ·exact h trivial
def qB7:qm PP 42 qoz:=qXS.more fun ds d hp _ h=>⟨fun f hf=>(by cases hf),qXV h⟩
def qoj:Con:={pts:=[Zbe,Zbe],pre:=[],rts:=[.b],post:=[]}
def qok:RFn:=mF 99 qoj [⟨4,Zei,[],[Zbe,Zbe,.i .i64],[Z3,Zds],(Za,.w 1 Zu Zb,Zk,Za,Za,Za)⟩]
def qol:Tab:=[]
def qWL:qH PP 99 qoj (Ev0 PP qok qol):=fe qok qol qo (by kernel_rfl) (by refine⟨?_,?_,trivial⟩<;>intro<;>kernel_rfl)
def quj:Con:={qoj with post:=qoj.post++[],fact:=Jo}
def qWM:TQ:=.fork (.w 15 Zu Zi) (.done [] ZaV) (.next [] 0 [Ze,Zc,Za])
def qBR:TQ:=.fork ZfG (.fork (.w 15 ZaQ ZaH) (.done [] ZaV) (.next [] 0 Zek)) (.done [] (.mk .b (.t true)))
def qWN:qN PP qok qol=[qWM,qBR]:=by kernel_rfl
def qWO {ds:List D} {d:D} (h:Ev0 PP qok qol ds d):Jo ds d:=by
 intro hab;refine Yc qWN (I:=fun _ _=>True) (Q:=fun d=>toB d=true) ?_ ?_ h
 ·intro k st q U d hst hq hg hi ht;have h0:=hg.arg 0 (by decide);have h1:=hg.arg 1 (by decide);have e:U 0=U 1:=h0.trans (hab.trans h1.symm);rcases k with _|k
  ·have hq:qBR=q:=by simpa using hq
   subst hq;rcases ht with⟨_,⟨c,_,rfl⟩|⟨_,_,h⟩⟩|⟨_,_,rfl⟩
   ·have c:(toI ((toL (U 0)).getD (toN (U 2)) .nilp) != toI ((toL (U 1)).getD (toN (U 2)) .nilp))=true:=c;rw[e]at c; exact qci c
   ·exact h trivial
   ·rfl
  ·simp at hq
 ·intro d ht;rcases ht with⟨c,_,rfl⟩|⟨_,_,h⟩
  ·have c:((((toL (qa ds 0)).length:Nat):Int) != (((toL (qa ds 1)).length:Nat):Int))=true:=c;rw[hab]at c; exact qci c
  ·exact h trivial
def qWP:qm PP 99 quj:=qWL.more fun ds d hp _ h=>⟨fun f hf=>(by cases hf),qWO h⟩
def qor:Con:={pts:=[ZdJ,ZdJ],pre:=[],rts:=[.b],post:=[]}
def qos:RFn:=mF 45 qor [⟨4,[Z2,ZbK,ZaP],[.box [.c .l Z6] false,.box [.c .l Zbk] false],[ZdJ,ZdJ,.i .i64],[Z3,.nle Zc4 (.u 0 0 Zbk)],(Za,.w 1 Zc4 Zb,Zk,Za,Za,Za)⟩]
def qfV:Tab:=[(99,quj)]
def qW4:qH PP 45 qor (Ev0 PP qos qfV):=fe qos qfV (qj qWP (qo)) (by kernel_rfl) (by refine⟨?_,?_,trivial⟩<;>intro<;>kernel_rfl)
def qot:Con:={qor with post:=qor.post++[],fact:=Jo}
def qW5:TQ:=.fork (.w 15 Zc4 (.u 0 0 Zbk)) (.done [] ZaV) (.next [] 0 [Ze,Zc,Za])
def qBU:TQ:=.fork (.w 10 Zb Zc4) (.fork (.w 15 (.u 1 0 (.w 3 Z6 Zb)) (.u 1 0 (.w 3 Zbk Zb))) (.done [] ZaV) (.fork (.u 6 0 (.u 3 99 (.w 4 Zk6 (.w 4 Zk7 .z)))) (.done [(99,[Zk6,Zk7])] ZaV) (.next [(99,[Zk6,Zk7])] 0 Zek))) (.done [] (.mk .b (.t true)))
def qW6:qN PP qos qfV=[qW5,qBU]:=by kernel_rfl
def qW7 {ds:List D} {d:D} (h:Ev0 PP qos qfV ds d):Jo ds d:=by
 intro hab;refine Yc qW6 (I:=fun _ _=>True) (Q:=fun d=>toB d=true) ?_ ?_ h
 ·intro k st q U d hst hq hg hi ht;have h0:=hg.arg 0 (by decide);have h1:=hg.arg 1 (by decide);have e:U 0=U 1:=h0.trans (hab.trans h1.symm);rcases k with _|k
  ·have hq:qBU=q:=by simpa using hq
   subst hq;have hr:YA PP qfV U 99 [.mk .l (.u 1 1 (.w 3 (.u 1 0 (.v 0)) (.v 2))),.mk .l (.u 1 1 (.w 3 (.u 1 0 (.v 1)) (.v 2)))]->toB (wOf PP qfV 99 [.list (toL (cel ((toL (cel (U 0) 0)).getD (toN (U 2)) .nilp) 1)),.list (toL (cel ((toL (cel (U 1) 0)).getD (toN (U 2)) .nilp) 1))])=true:=fun hc=>by
    have hf:Jo [.list (toL (cel ((toL (cel (U 0) 0)).getD (toN (U 2)) .nilp) 1)),.list (toL (cel ((toL (cel (U 1) 0)).getD (toN (U 2)) .nilp) 1))] (wOf PP qfV 99 [.list (toL (cel ((toL (cel (U 0) 0)).getD (toN (U 2)) .nilp) 1)),.list (toL (cel ((toL (cel (U 1) 0)).getD (toN (U 2)) .nilp) 1))]):=(hc quj rfl).2.2;exact hf (congrArg (fun x=>D.list (toL (cel ((toL (cel x 0)).getD (toN (U 2)) .nilp) 1))) e)
   rcases ht with⟨_,⟨c,_,rfl⟩|⟨_,⟨c,⟨hc,_⟩,rfl⟩|⟨_,_,h⟩⟩⟩|⟨_,_,rfl⟩
   ·have c:(toI (cel ((toL (cel (U 0) 0)).getD (toN (U 2)) .nilp) 0) != toI (cel ((toL (cel (U 1) 0)).getD (toN (U 2)) .nilp) 0))=true:=c;rw[e]at c; exact qci c
   ·exact qjb c (hr hc)
   ·exact h trivial
   ·rfl
  ·simp at hq
 ·intro d ht;rcases ht with⟨c,_,rfl⟩|⟨_,_,h⟩
  ·have c:((((toL (cel (qa ds 0) 0)).length:Nat):Int) != (((toL (cel (qa ds 1) 0)).length:Nat):Int))=true:=c;rw[hab]at c; exact qci c
  ·exact h trivial
def qBV:qm PP 45 qot:=qW4.more fun ds d hp _ h=>⟨fun f hf=>(by cases hf),qW7 h⟩
def qju (ds:List D) (d:D):Prop:=d=.bool (qdq (qa ds 0) (toI (qa ds 1)))
def qnM:Con:={pts:=[ZcC,.i .i64],pre:=[],rts:=[.b],post:=[]}
def qnN:RFn:=mF 40 qnM []
def qnO:Tab:=[]
def qR8:qH PP 40 qnM (Ev0 PP qnN qnO):=fe qnN qnO qo (by kernel_rfl) ⟨fun U=>by kernel_rfl,trivial⟩
def qtV:Con:={qnM with post:=qnM.post++[],fact:=qju}
def qR9:TQ:=.fork ZfA (.done [] (.mk .b (.t true))) (.fork (.w 12 Zc ZcE) (.done [] (.mk .b (.w 11 Zc (.i 1073741824)))) (.done [] ZaV))
def qSa:qN PP qnN qnO=[qR9]:=by kernel_rfl
def qSb {ds:List D} {d:D} (h:Ev0 PP qnN qnO ds d):qju ds d:=by
 refine Yc qSa (I:=fun _ _=>False) (Q:=qju ds) (fun k st q U d hst hq hg hi ht=>hi.elim) (fun d ht=>?_) h;unfold qju qdq;rcases ht with⟨c1,_,rfl⟩|⟨c1,⟨c2,_,rfl⟩|⟨c2,_,rfl⟩⟩
 ·have c1:(toI (qa ds 1)==0)=true:=c1;rw[c1]; rfl
 ·have c1:(toI (qa ds 1)==0)=false:=c1;have c2:decide (toI (qa ds 1)>toI (cel (qa ds 0) 6))=true:=c2;rw[c1,c2]; rfl
 ·have c1:(toI (qa ds 1)==0)=false:=c1;have c2:decide (toI (qa ds 1)>toI (cel (qa ds 0) 6))=false:=c2;rw[c1,c2]; rfl
def qSc:qm PP 40 qtV:=qR8.more fun ds d hp _ h=>⟨fun f hf=>(by cases hf),qSb h⟩
def qmZ:Con:={pts:=[ZP,ZP],pre:=[],rts:=[.i .i64],post:=[]}
def qm0:RFn:=mF 96 qmZ [⟨6,Zei,[],[ZP,ZP,.i .i64],[Z3,Zds],(Za,.w 1 Zu Zb,Zk,Za,Za,Za)⟩]
def qm1:Tab:=[]
def qNX:qH PP 96 qmZ (Ev0 PP qm0 qm1):=fe qm0 qm1 qo (by kernel_rfl) (by refine⟨?_,?_,trivial⟩<;>intro<;>kernel_rfl)
def qth:Con:={qmZ with post:=qmZ.post++[],fact:=qsT}
def qNY:TQ:=.fork (.w 10 Zu Zi) (.done [] (.mk (.i .i64) (.i (-1)))) (.fork (.w 12 Zu Zi) (.done [] (.mk (.i .i64) Zg)) (.next [] 0 [Ze,Zc,Za]))
def qAT:TQ:=.fork ZfG (.fork (.w 10 ZaQ ZaH) (.done [] (.mk (.i .i64) (.i (-1)))) (.fork (.w 12 ZaQ ZaH) (.done [] (.mk (.i .i64) Zg)) (.next [] 0 Zek))) (.done [] ZE)
def qNZ:qN PP qm0 qm1=[qNY,qAT]:=by kernel_rfl
def qN0 {ds:List D} {d:D} (h:Ev0 PP qm0 qm1 ds d):qsT ds d:=by
 intro hab;refine Yc qNZ (I:=fun _ _=>True) (Q:=fun d=>toI d=0) ?_ ?_ h
 ·intro k st q U d hst hq hg hi ht;have h0:=hg.arg 0 (by decide);have h1:=hg.arg 1 (by decide);have e:U 0=U 1:=h0.trans (hab.trans h1.symm);rcases k with _|k
  ·have hq:qAT=q:=by simpa using hq
   subst hq;rcases ht with⟨_,⟨c,_,rfl⟩|⟨_,⟨c,_,rfl⟩|⟨_,_,h⟩⟩⟩|⟨_,_,rfl⟩
   ·have c:decide (toI ((toL (U 0)).getD (toN (U 2)) .nilp)<toI ((toL (U 1)).getD (toN (U 2)) .nilp))=true:=c;rw[e]at c; exact qAl c
   ·have c:decide (toI ((toL (U 0)).getD (toN (U 2)) .nilp)>toI ((toL (U 1)).getD (toN (U 2)) .nilp))=true:=c;rw[e]at c; exact qAm c
   ·exact h trivial
   ·rfl
  ·simp at hq
 ·intro d ht;rcases ht with⟨c,_,rfl⟩|⟨_,⟨c,_,rfl⟩|⟨_,_,h⟩⟩
  ·have c:decide ((((toL (qa ds 0)).length:Nat):Int)<(((toL (qa ds 1)).length:Nat):Int))=true:=c;rw[hab]at c; exact qAl c
  ·have c:decide ((((toL (qa ds 0)).length:Nat):Int)>(((toL (qa ds 1)).length:Nat):Int))=true:=c;rw[hab]at c; exact qAm c
  ·exact h trivial
def qN1:qm PP 96 qth:=qNX.more fun ds d hp _ h=>⟨fun f hf=>(by cases hf),qN0 h⟩
def qn6:Con:={pts:=[ZP,ZP],pre:=[],rts:=[.b],post:=[]}
def qn7:RFn:=mF 43 qn6 []
def qhq:Tab:=[(96,qth)]
def qTx:qH PP 43 qn6 (Ev0 PP qn7 qhq):=fe qn7 qhq (qj qN1 (qo)) (by kernel_rfl) ⟨fun U=>by kernel_rfl,trivial⟩
def quf:Con:={qn6 with post:=qn6.post++[],fact:=Jo}
def qTy:TQ:=.done [(96,[Zdg,Zae])] (.mk .b (.w 14 (.u 3 96 (.w 4 Zdg Zd8)) Za))
def qTz:qN PP qn7 qhq=[qTy]:=by kernel_rfl
def qTA {ds:List D} {d:D} (h:Ev0 PP qn7 qhq ds d):Jo ds d:=by
 intro hab;refine Yc qTz (I:=fun _ _=>False) (Q:=fun d=>toB d=true) (fun k st q U d hst hq hg hi ht=>hi.elim) (fun d ht=>?_) h;obtain⟨⟨hc,_⟩,rfl⟩:=ht;have hf:qsT [.list (toL (qa ds 0)),.list (toL (qa ds 1))] (wOf PP qhq 96 [.list (toL (qa ds 0)),.list (toL (qa ds 1))]):=(hc qth rfl).2.2;have hf:=hf (congrArg (fun x=>D.list (toL x)) hab);show(toI (wOf PP qhq 96 [.list (toL (qa ds 0)),.list (toL (qa ds 1))])==0)=true;rw[hf]; rfl
def qTB:qm PP 43 quf:=qTx.more fun ds d hp _ h=>⟨fun f hf=>(by cases hf),qTA h⟩
end Go.Aev.R29
namespace Go.Aev.M44
open Go Go.Aev Go.Aev.R29
def kA (f:FuncId->Option (List V->V)):qt:=mk (fun _=>true) (qjX PP f)
def qR (f:FuncId->Option (List V->V)):COK (kA f).cfg:=qd5 (fun g args rows ps v h hp=>quK h hp)
def ww8 (a:Nat->Int):List D:=[.int .u32 (a 0),.int .u32 (a 1),.int .u32 (a 2),.int .u32 (a 3),.int .u32 (a 4),.int .u32 (a 5),.int .u32 (a 6),.int .u32 (a 7)]
def qb2 (b:Nat->Int):List D:=(List.range 64).map fun i=>.int .u8 (b i)
def stm (a b:Nat->Int) (n:Int):D:=.agg (ww8 a++(qb2 b++[.int .u64 n]))
def upd (b:Nat->Int) (n m:Nat) (x:Nat->UInt8) (i:Nat):Int:=match Nat.ble n i,Nat.ble (n+m) i with
 | true,false=>((x (i - n)).toNat:Int)|_,_=>b i
def txt (m:Nat) (x:Nat->UInt8):D:=.str ⟨⟨(List.range m).map x⟩⟩
def iv0 (i:Nat):Int:=match i with
 | 0=>1779033703|1=>3144134277|2=>1013904242|3=>2773480762|4=>1359893119|5=>2600822924|6=>528734635|7=>1541459225|_=>0
def qw1:RCs PP 102 [] [] (.d (stm iv0 (fun _=>0) 0)):=qE qV (by kernel_rfl) (qb.fin' qV (ql []) (fun _=>false) 400 (ps:=[]) (qs:=[]) (by kernel_rfl) trivial trivial)
def Ja (n m:Nat):Prop:=∀(a b:Nat->Int) (x:Nat->UInt8),RCs PP 103 [.d (stm a b n),.d (txt m x)] [] (.d (stm a (upd b n m x) (n+m)))
def Yj (c:Nat->Int) (g:FuncId):Option (List V->V):=match Nat.beq g 189 with
 | true=>some fun _=>.d (.agg (ww8 c))
 | false=>none
abbrev hA:qw:=ql [] [] [] 0 false true
def pA (z:Int) (l:List Prop):List Prop:=[IntKind.u64=IntKind.u64,(64:Int)≠(0:Int),1=1,1=1/\1=1/\72<=73,qi z]++l
def Ju (z:Int) (h1:-9223372036854775808<=z) (h2:z<=9223372036854775807):qh (pA z []):=⟨rfl,by decide,rfl,⟨rfl,rfl,by decide⟩,⟨h1,h2⟩,trivial⟩
def JD {p:Prop} (h:p):qh (pA 64 [p]):=⟨rfl,by decide,rfl,⟨rfl,rfl,by decide⟩,⟨by decide,by decide⟩,h,trivial⟩
def Jl (n m:Nat):Prop:=∀(a b:Nat->Int) (x:Nat->UInt8) (c:Nat->Int),RCs PP 189 [.d (.agg (ww8 a)),.d (.list (qb2 (upd b n m x)))] [] (.d (.agg (ww8 c)))->RCs PP 103 [.d (stm a b n),.d (txt m x)] [] (.d (stm c (upd b n m x) (n+m)))
def qFD:Ja 0 1:=fun a b x =>
 qE qV (by kernel_rfl) (qb.fin' qV hA (fun _=>false) 400 (qs:=[]) (by kernel_rfl) (Ju 1 (by decide) (by decide)) trivial)
def qw2:Ja 1 17:=fun a b x =>
 qE qV (by kernel_rfl) (qb.fin' qV hA (fun _=>false) 400 (qs:=[]) (by kernel_rfl) (Ju 18 (by decide) (by decide)) trivial)
def qFE:Ja 18 17:=fun a b x =>
 qE qV (by kernel_rfl) (qb.fin' qV hA (fun _=>false) 400 (qs:=[]) (by kernel_rfl) (Ju 35 (by decide) (by decide)) trivial)
def qFF:Ja 1 4:=fun a b x =>
 qE qV (by kernel_rfl) (qb.fin' qV hA (fun _=>false) 400 (qs:=[]) (by kernel_rfl) (Ju 5 (by decide) (by decide)) trivial)
def qFG:Ja 1 5:=fun a b x =>
 qE qV (by kernel_rfl) (qb.fin' qV hA (fun _=>false) 400 (qs:=[]) (by kernel_rfl) (Ju 6 (by decide) (by decide)) trivial)
def qFH:Ja 1 6:=fun a b x =>
 qE qV (by kernel_rfl) (qb.fin' qV hA (fun _=>false) 400 (qs:=[]) (by kernel_rfl) (Ju 7 (by decide) (by decide)) trivial)
def qFI:Ja 1 7:=fun a b x =>
 qE qV (by kernel_rfl) (qb.fin' qV hA (fun _=>false) 400 (qs:=[]) (by kernel_rfl) (Ju 8 (by decide) (by decide)) trivial)
def qFJ:Ja 1 8:=fun a b x =>
 qE qV (by kernel_rfl) (qb.fin' qV hA (fun _=>false) 400 (qs:=[]) (by kernel_rfl) (Ju 9 (by decide) (by decide)) trivial)
def qFK:Ja 1 9:=fun a b x =>
 qE qV (by kernel_rfl) (qb.fin' qV hA (fun _=>false) 400 (qs:=[]) (by kernel_rfl) (Ju 10 (by decide) (by decide)) trivial)
def qFL:Ja 1 10:=fun a b x =>
 qE qV (by kernel_rfl) (qb.fin' qV hA (fun _=>false) 400 (qs:=[]) (by kernel_rfl) (Ju 11 (by decide) (by decide)) trivial)
def qFM:Ja 1 11:=fun a b x =>
 qE qV (by kernel_rfl) (qb.fin' qV hA (fun _=>false) 400 (qs:=[]) (by kernel_rfl) (Ju 12 (by decide) (by decide)) trivial)
def qFN:Ja 1 12:=fun a b x =>
 qE qV (by kernel_rfl) (qb.fin' qV hA (fun _=>false) 400 (qs:=[]) (by kernel_rfl) (Ju 13 (by decide) (by decide)) trivial)
def qFO:Ja 1 13:=fun a b x =>
 qE qV (by kernel_rfl) (qb.fin' qV hA (fun _=>false) 400 (qs:=[]) (by kernel_rfl) (Ju 14 (by decide) (by decide)) trivial)
def qFP:Ja 1 14:=fun a b x =>
 qE qV (by kernel_rfl) (qb.fin' qV hA (fun _=>false) 400 (qs:=[]) (by kernel_rfl) (Ju 15 (by decide) (by decide)) trivial)
def qFQ:Ja 1 15:=fun a b x =>
 qE qV (by kernel_rfl) (qb.fin' qV hA (fun _=>false) 400 (qs:=[]) (by kernel_rfl) (Ju 16 (by decide) (by decide)) trivial)
def qFR:Ja 1 16:=fun a b x =>
 qE qV (by kernel_rfl) (qb.fin' qV hA (fun _=>false) 400 (qs:=[]) (by kernel_rfl) (Ju 17 (by decide) (by decide)) trivial)
def qFS:Ja 1 18:=fun a b x =>
 qE qV (by kernel_rfl) (qb.fin' qV hA (fun _=>false) 400 (qs:=[]) (by kernel_rfl) (Ju 19 (by decide) (by decide)) trivial)
def qFT:Ja 1 19:=fun a b x =>
 qE qV (by kernel_rfl) (qb.fin' qV hA (fun _=>false) 400 (qs:=[]) (by kernel_rfl) (Ju 20 (by decide) (by decide)) trivial)
def qFU:Ja 1 20:=fun a b x =>
 qE qV (by kernel_rfl) (qb.fin' qV hA (fun _=>false) 400 (qs:=[]) (by kernel_rfl) (Ju 21 (by decide) (by decide)) trivial)
def qFV:Ja 1 21:=fun a b x =>
 qE qV (by kernel_rfl) (qb.fin' qV hA (fun _=>false) 400 (qs:=[]) (by kernel_rfl) (Ju 22 (by decide) (by decide)) trivial)
def qFW:Ja 1 22:=fun a b x =>
 qE qV (by kernel_rfl) (qb.fin' qV hA (fun _=>false) 400 (qs:=[]) (by kernel_rfl) (Ju 23 (by decide) (by decide)) trivial)
def qFX:Jl 35 29:=fun a b x c h =>
 qE (qR (Yj c)) (by kernel_rfl) (qb.fin' (qR (Yj c)) hA (fun _=>false) 400 (qs:=[]) (by kernel_rfl) (JD h) trivial)
def qFY:Jl 5 59:=fun a b x c h =>
 qE (qR (Yj c)) (by kernel_rfl) (qb.fin' (qR (Yj c)) hA (fun _=>false) 400 (qs:=[]) (by kernel_rfl) (JD h) trivial)
def qFZ:Jl 6 58:=fun a b x c h =>
 qE (qR (Yj c)) (by kernel_rfl) (qb.fin' (qR (Yj c)) hA (fun _=>false) 400 (qs:=[]) (by kernel_rfl) (JD h) trivial)
def qF0:Jl 7 57:=fun a b x c h =>
 qE (qR (Yj c)) (by kernel_rfl) (qb.fin' (qR (Yj c)) hA (fun _=>false) 400 (qs:=[]) (by kernel_rfl) (JD h) trivial)
def qF1:Jl 8 56:=fun a b x c h =>
 qE (qR (Yj c)) (by kernel_rfl) (qb.fin' (qR (Yj c)) hA (fun _=>false) 400 (qs:=[]) (by kernel_rfl) (JD h) trivial)
def qF2:Jl 9 55:=fun a b x c h =>
 qE (qR (Yj c)) (by kernel_rfl) (qb.fin' (qR (Yj c)) hA (fun _=>false) 400 (qs:=[]) (by kernel_rfl) (JD h) trivial)
def qF3:Jl 10 54:=fun a b x c h =>
 qE (qR (Yj c)) (by kernel_rfl) (qb.fin' (qR (Yj c)) hA (fun _=>false) 400 (qs:=[]) (by kernel_rfl) (JD h) trivial)
def qF4:Jl 11 53:=fun a b x c h =>
 qE (qR (Yj c)) (by kernel_rfl) (qb.fin' (qR (Yj c)) hA (fun _=>false) 400 (qs:=[]) (by kernel_rfl) (JD h) trivial)
def qF5:Jl 12 52:=fun a b x c h =>
 qE (qR (Yj c)) (by kernel_rfl) (qb.fin' (qR (Yj c)) hA (fun _=>false) 400 (qs:=[]) (by kernel_rfl) (JD h) trivial)
def qF6:Jl 13 51:=fun a b x c h =>
 qE (qR (Yj c)) (by kernel_rfl) (qb.fin' (qR (Yj c)) hA (fun _=>false) 400 (qs:=[]) (by kernel_rfl) (JD h) trivial)
def qF7:Jl 14 50:=fun a b x c h =>
 qE (qR (Yj c)) (by kernel_rfl) (qb.fin' (qR (Yj c)) hA (fun _=>false) 400 (qs:=[]) (by kernel_rfl) (JD h) trivial)
def qF8:Jl 15 49:=fun a b x c h =>
 qE (qR (Yj c)) (by kernel_rfl) (qb.fin' (qR (Yj c)) hA (fun _=>false) 400 (qs:=[]) (by kernel_rfl) (JD h) trivial)
def qF9:Jl 16 48:=fun a b x c h =>
 qE (qR (Yj c)) (by kernel_rfl) (qb.fin' (qR (Yj c)) hA (fun _=>false) 400 (qs:=[]) (by kernel_rfl) (JD h) trivial)
def qGa:Jl 17 47:=fun a b x c h =>
 qE (qR (Yj c)) (by kernel_rfl) (qb.fin' (qR (Yj c)) hA (fun _=>false) 400 (qs:=[]) (by kernel_rfl) (JD h) trivial)
def qGb:Jl 18 46:=fun a b x c h =>
 qE (qR (Yj c)) (by kernel_rfl) (qb.fin' (qR (Yj c)) hA (fun _=>false) 400 (qs:=[]) (by kernel_rfl) (JD h) trivial)
def qGc:Jl 19 45:=fun a b x c h =>
 qE (qR (Yj c)) (by kernel_rfl) (qb.fin' (qR (Yj c)) hA (fun _=>false) 400 (qs:=[]) (by kernel_rfl) (JD h) trivial)
def qGd:Jl 20 44:=fun a b x c h =>
 qE (qR (Yj c)) (by kernel_rfl) (qb.fin' (qR (Yj c)) hA (fun _=>false) 400 (qs:=[]) (by kernel_rfl) (JD h) trivial)
def qGe:Jl 21 43:=fun a b x c h =>
 qE (qR (Yj c)) (by kernel_rfl) (qb.fin' (qR (Yj c)) hA (fun _=>false) 400 (qs:=[]) (by kernel_rfl) (JD h) trivial)
def qGf:Jl 22 42:=fun a b x c h =>
 qE (qR (Yj c)) (by kernel_rfl) (qb.fin' (qR (Yj c)) hA (fun _=>false) 400 (qs:=[]) (by kernel_rfl) (JD h) trivial)
def qGg:Jl 23 41:=fun a b x c h =>
 qE (qR (Yj c)) (by kernel_rfl) (qb.fin' (qR (Yj c)) hA (fun _=>false) 400 (qs:=[]) (by kernel_rfl) (JD h) trivial)
end Go.Aev.M44
namespace Go.Aev.M44
def qit:List qL:=(JC (sTo c0 (ql []) qr 300 (start c0 107 [I 0] []))).fr.todo
def H90 (z:Int) (v:V) (rows:Aev.Rows):AS:=hd 107 qit 27 [(3,U64 z),(4,v)] rows
def qfb:List qL:=(JC (sTo c0 (ql [(9,false)]) qr 300 (start c0 110 [I 0] []))).fr.todo
def H93 (z:Int) (v:V) (rows:Aev.Rows):AS:=hd 110 qfb 31 [(3,U64 z),(4,v)] rows
def Yy (l:List UInt8):V:=.sl 0 1 0 l.length l.length false
def YH (l:List UInt8):Aev.Rows:=[.live (.dat 1 (qe l) false)]
end Go.Aev.M44
namespace Go.Aev.M44
def qGL {n:Int} {Q:V->Aev.Rows->Prop} (hp:qh [(0:Int)<=(1:Int),(0:Int)<=(63:Int)]) (h:qb c0 0 (hd 107 qit 27 [(3,V.d (D.int IntKind.u64 (IntKind.wrap IntKind.u64 (↑(BitVec.toNat (BitVec.ofInt (64) (IntKind.wrap IntKind.u64 (IntKind.wrap IntKind.u64 n*(2:Int) ^ 1))^^^BitVec.ofInt (64) (IntKind.wrap IntKind.u64 (Int.fdiv n ((2:Int) ^ 63))))):Int)))),(4,V.nil)] []) Q):qb c0 0 (start c0 107 [I n] []) Q :=
 qb.turn qS (ql [] [] [] 0 false true) qr 300 [] [3,4] (by kernel_rfl) hp h
def qGM {z:Int} {Q:V->Aev.Rows->Prop} (hp:qh [decide (z>(127:Int))=true,(0:Int)<=(7:Int)]) (h:qb c0 0 (hd 107 qit 27 [(3,V.d (D.int IntKind.u64 (Int.fdiv z ((2:Int) ^ 7)))),(4,V.sl (0) (1) (0) (1) (1) false)] [qc.live (Row.dat (1) [D.int IntKind.u8 (IntKind.wrap IntKind.u8 (↑(BitVec.toNat (BitVec.ofInt (8) (IntKind.wrap IntKind.u8 z)|||BitVec.ofInt (8) (128:Int))):Int))] false)]) Q):qb c0 0 (H90 z .nil []) Q :=
 qb.turn qS (ql [(13,true)] [] [] 0 false true) qr 300 [1] [3,4] (by kernel_rfl) hp h
def qGN {z:Int} {Q:V->Aev.Rows->Prop} (hp:qh [decide (z>(127:Int))=false]) (h:Q (V.sl (1) (1) (0) (1) (1) false) ([qc.live (Row.dat (1) [D.int IntKind.u8 (IntKind.wrap IntKind.u8 z)] false),qc.live (Row.dat (1) [D.int IntKind.u8 (IntKind.wrap IntKind.u8 z)] false)])):qb c0 0 (H90 z .nil []) Q :=
 qb.toFin qS (ql [(13,false)] [] [] 0 false true) qr 300 (by kernel_rfl) hp h
def qGO {z:Int} {l:List UInt8} {Q:V->Aev.Rows->Prop} (hp:qh [decide (z>(127:Int))=true,1=1/\1=1/\1<=1,0<1/\1≠0/\1=1/\1=1/\0+l.length<=List.length (qe l)/\¬l.length+1<=l.length/\2*(l.length+1)*1<=281474976710656/\l.length+1<=4611686018427387904,(0:Int)<=(7:Int)]) (h:qb c0 0 (hd 107 qit 27 [(3,V.d (D.int IntKind.u64 (Int.fdiv z ((2:Int) ^ 7)))),(4,V.sl (0) (1) (0) (l.length+1) (l.length+1) false)] [qc.live (Row.dat (1) (List.take l.length (List.drop (0) (qe l))++[D.int IntKind.u8 (IntKind.wrap IntKind.u8 (↑(BitVec.toNat (BitVec.ofInt (8) (IntKind.wrap IntKind.u8 z)|||BitVec.ofInt (8) (128:Int))):Int))]) false)]) Q):qb c0 0 (H90 z (Yy l) (YH l)) Q :=
 qb.turn qS (ql [(13,true)] [] [] 1 false true) qr 300 [2] [3,4] (by kernel_rfl) hp h
def qxn {z:Int} {l:List UInt8} {Q:V->Aev.Rows->Prop} (hp:qh [decide (z>(127:Int))=false,1=1/\1=1/\1<=1,0<1/\1≠0/\1=1/\1=1/\0+l.length<=List.length (qe l)/\¬l.length+1<=l.length/\2*(l.length+1)*1<=281474976710656/\l.length+1<=4611686018427387904]) (h:Q (V.sl (2) (1) (0) (l.length+1) (l.length+1) false) ([qc.dead,qc.live (Row.dat (1) [D.int IntKind.u8 (IntKind.wrap IntKind.u8 z)] false),qc.live (Row.dat (1) (List.take l.length (List.drop (0) (qe l))++[D.int IntKind.u8 (IntKind.wrap IntKind.u8 z)]) false)])):qb c0 0 (H90 z (Yy l) (YH l)) Q :=
 qb.toFin qS (ql [(13,false)] [] [] 1 false true) qr 300 (by kernel_rfl) hp h
def qGP {n:Int} {Q:V->Aev.Rows->Prop} (hp:qh [decide (n<(0:Int))=true,qi ((-1:Int) - n)]) (h:qb c0 0 (hd 110 qfb 31 [(3,V.d (D.int IntKind.u64 (IntKind.wrap IntKind.u64 (IntKind.wrap IntKind.u64 (IntKind.wrap IntKind.u64 ((-1:Int) - n)*(2:Int))+(1:Int))))),(4,V.nil)] []) Q):qb c0 0 (start c0 110 [I n] []) Q :=
 qb.turn qS (ql [(9,true)] [] [] 0 false true) qr 300 [] [3,4] (by kernel_rfl) hp h
def qxo {n:Int} {Q:V->Aev.Rows->Prop} (hp:qh [decide (n<(0:Int))=false]) (h:qb c0 0 (hd 110 qfb 31 [(3,V.d (D.int IntKind.u64 (IntKind.wrap IntKind.u64 (IntKind.wrap IntKind.u64 n*(2:Int))))),(4,V.nil)] []) Q):qb c0 0 (start c0 110 [I n] []) Q :=
 qb.turn qS (ql [(9,false)] [] [] 0 false true) qr 300 [] [3,4] (by kernel_rfl) hp h
def qGQ {z:Int} {Q:V->Aev.Rows->Prop} (hp:qh [decide (z>=(128:Int))=true,IntKind.u64=IntKind.u64,(128:Int)≠(0:Int),IntKind.u64=IntKind.u64,(128:Int)≠(0:Int)]) (h:qb c0 0 (hd 110 qfb 31 [(3,V.d (D.int IntKind.u64 (IntKind.wrap IntKind.u64 (Int.tdiv z (128:Int))))),(4,V.sl (0) (1) (0) (1) (1) false)] [qc.live (Row.dat (1) [D.int IntKind.u8 (IntKind.wrap IntKind.u8 (IntKind.wrap IntKind.u8 (Int.tmod z (128:Int))+(128:Int)))] false)]) Q):qb c0 0 (H93 z .nil []) Q :=
 qb.turn qS (ql [(16,true)] [] [] 0 false true) qr 300 [1] [3,4] (by kernel_rfl) hp h
def qGR {z:Int} {Q:V->Aev.Rows->Prop} (hp:qh [decide (z>=(128:Int))=false]) (h:Q (V.sl (1) (1) (0) (1) (1) false) ([qc.live (Row.dat (1) [D.int IntKind.u8 (IntKind.wrap IntKind.u8 z)] false),qc.live (Row.dat (1) [D.int IntKind.u8 (IntKind.wrap IntKind.u8 z)] false)])):qb c0 0 (H93 z .nil []) Q :=
 qb.toFin qS (ql [(16,false)] [] [] 0 false true) qr 300 (by kernel_rfl) hp h
def qGS {z:Int} {l:List UInt8} {Q:V->Aev.Rows->Prop} (hp:qh [decide (z>=(128:Int))=true,IntKind.u64=IntKind.u64,(128:Int)≠(0:Int),1=1/\1=1/\1<=1,0<1/\1≠0/\1=1/\1=1/\0+l.length<=List.length (qe l)/\¬l.length+1<=l.length/\2*(l.length+1)*1<=281474976710656/\l.length+1<=4611686018427387904,IntKind.u64=IntKind.u64,(128:Int)≠(0:Int)]) (h:qb c0 0 (hd 110 qfb 31 [(3,V.d (D.int IntKind.u64 (IntKind.wrap IntKind.u64 (Int.tdiv z (128:Int))))),(4,V.sl (0) (1) (0) (l.length+1) (l.length+1) false)] [qc.live (Row.dat (1) (List.take l.length (List.drop (0) (qe l))++[D.int IntKind.u8 (IntKind.wrap IntKind.u8 (IntKind.wrap IntKind.u8 (Int.tmod z (128:Int))+(128:Int)))]) false)]) Q):qb c0 0 (H93 z (Yy l) (YH l)) Q :=
 qb.turn qS (ql [(16,true)] [] [] 1 false true) qr 300 [2] [3,4] (by kernel_rfl) hp h
def qxp {z:Int} {l:List UInt8} {Q:V->Aev.Rows->Prop} (hp:qh [decide (z>=(128:Int))=false,1=1/\1=1/\1<=1,0<1/\1≠0/\1=1/\1=1/\0+l.length<=List.length (qe l)/\¬l.length+1<=l.length/\2*(l.length+1)*1<=281474976710656/\l.length+1<=4611686018427387904]) (h:Q (V.sl (2) (1) (0) (l.length+1) (l.length+1) false) ([qc.dead,qc.live (Row.dat (1) [D.int IntKind.u8 (IntKind.wrap IntKind.u8 z)] false),qc.live (Row.dat (1) (List.take l.length (List.drop (0) (qe l))++[D.int IntKind.u8 (IntKind.wrap IntKind.u8 z)]) false)])):qb c0 0 (H93 z (Yy l) (YH l)) Q :=
 qb.toFin qS (ql [(16,false)] [] [] 1 false true) qr 300 (by kernel_rfl) hp h
end Go.Aev.M44
namespace Go.Aev.M44
abbrev Bs:=List UInt8
def zz (n:Int):Nat:=if n<0 then 2*(-1 - n).toNat+1 else 2*n.toNat
def uz (z:Nat):Int:=if z % 2=1 then -1 - ((z / 2:Nat):Int)else((z / 2:Nat):Int)
def qq7 (n:Int):uz (zz n)=n:=by
 unfold uz zz
 by_cases h:n<0
 ·rw[if_pos h];have e1:(2*(-1 - n).toNat+1) % 2=1:=by omega
  have e2:(2*(-1 - n).toNat+1) / 2=(-1 - n).toNat:=by omega
  rw[if_pos e1,e2]; omega
 ·rw[if_neg h];have e1:¬(2*n.toNat) % 2=1:=by omega
  have e2:(2*n.toNat) / 2=n.toNat:=by omega
  rw[if_neg e1,e2]; omega
def qHm (z:Nat):zz (uz z)=z:=by
 unfold uz zz
 by_cases h:z % 2=1
 ·rw[if_pos h,if_pos (by omega)]; omega
 ·rw[if_neg h,if_neg (by omega)]; omega
def qy (n:Int):Prop:=-9223372036854775808<=n/\n<=9223372036854775807
def qiw {n:Int} (h:qy n):zz n<18446744073709551616:=by
 unfold qy at h; unfold zz; split<;>omega
def qHn {z:Nat} (h:z<18446744073709551616):qy (uz z):=by
 unfold qy uz; split<;>omega
def vb (z:Nat):Bs:=if h:z<128 then[UInt8.ofNat z]else UInt8.ofNat (z % 128+128)::vb (z / 128)
termination_by z
decreasing_by omega
def enc (n:Int):Bs:=vb (zz n)
def qD:Bs->Nat
 | []=>0|c::r=>if 128<=c.toNat then qD r+1 else 0
def val:Bs->Nat->Nat
 | [],_=>0|c::_,0=>c.toNat % 128|c::r,k+1=>c.toNat % 128+128*val r k
def qix (b:Bs):Except Nat (Int×Nat) :=
 if 10<=qD b then .error 11
 else if qD b=b.length then .error 10
 else if (qD b=9/\1<(b.getD (qD b) 0).toNat)\/(0<qD b/\(b.getD (qD b) 0).toNat=0)then .error 11
 else .ok (uz (val b (qD b)),qD b+1)
def qq8 {n:Nat} (h:n<256):(UInt8.ofNat n).toNat=n:=by simp[qVN h]
def qHo (b:Bs):qD b<=b.length:=by
 induction b with
 | nil=>exact qTF _|cons c r ih=>simp only[qD,qT9]; split<;>omega
def qq9:∀(z:Nat) (rest:Bs),qD (vb z++rest)+1=(vb z).length/\val (vb z++rest) (qD (vb z++rest))=z/\((vb z++rest).getD (qD (vb z++rest)) 0).toNat<128 /\
  (0<qD (vb z++rest)->((vb z++rest).getD (qD (vb z++rest)) 0).toNat≠0)/\z<128 ^ (vb z).length/\(1<(vb z).length->128 ^ ((vb z).length - 1)<=z) /\
  ((vb z++rest).getD (qD (vb z++rest)) 0).toNat*128 ^ ((vb z).length - 1)<=z:=by
 intro z
 induction z using Nat.strongRecOn with
 | _ z ih =>
  intro rest;rw[vb]
  by_cases h:z<128
  ·rw[dif_pos h];have e:(UInt8.ofNat z).toNat=z:=qq8 (by omega);have hl:qD ([UInt8.ofNat z]++rest)=0:=by
    show(if 128<=(UInt8.ofNat z).toNat then qD rest+1 else 0)=0;rw[e,if_neg (by omega)]
   rw[hl];refine⟨rfl,?_,?_,fun h=>absurd h (by omega),?_,fun h=>absurd h (by simp),?_⟩
   ·show(UInt8.ofNat z).toNat % 128=z;rw[e]; omega
   ·show(UInt8.ofNat z).toNat<128;rw[e]; exact h
   ·show z<128 ^ 1;omega
   ·show(UInt8.ofNat z).toNat*128 ^ 0<=z;rw[e]; simp
  ·rw[dif_neg h];obtain⟨h1,h2,h3,h4,h5,h6,h7⟩:=ih (z / 128) (by omega) rest;have e:(UInt8.ofNat (z % 128+128)).toNat=z % 128+128:=qq8 (by omega);have hl:qD (UInt8.ofNat (z % 128+128)::vb (z / 128)++rest)=qD (vb (z / 128)++rest)+1:=by
    show(if 128<=(UInt8.ofNat (z % 128+128)).toNat then qD (vb (z / 128)++rest)+1 else 0)=_;rw[e,if_pos (by omega)]
   rw[hl];have hg:(UInt8.ofNat (z % 128+128)::vb (z / 128)++rest).getD (qD (vb (z / 128)++rest)+1) 0=(vb (z / 128)++rest).getD (qD (vb (z / 128)++rest)) 0:=rfl;rw[hg];have hlen:(UInt8.ofNat (z % 128+128)::vb (z / 128)).length=(vb (z / 128)).length+1:=rfl;have hpos:1<=(vb (z / 128)).length:=by omega
   rw[hlen];have hp:128 ^ (vb (z / 128)).length=128*128 ^ ((vb (z / 128)).length - 1):=by
    conv=>lhs; rw[show(vb (z / 128)).length=((vb (z / 128)).length - 1)+1 by omega,qVq]
    exact Nat.mul_comm _ _
   refine⟨by omega,?_,h3,fun _=>?_,?_,fun _=>?_,?_⟩
   ·show(UInt8.ofNat (z % 128+128)).toNat % 128+128*val (vb (z / 128)++rest) (qD (vb (z / 128)++rest))=z;rw[e,h2]; omega
   ·by_cases h0:0<qD (vb (z / 128)++rest)
    ·exact h4 h0
    ·
     have hz:qD (vb (z / 128)++rest)=0:=by omega
     rw[hz]at h2 ⊢;have hne:vb (z / 128)≠[]:=by intro h; rw[h]at h1; simp at h1
     cases hv:vb (z / 128)with
     | nil=>exact absurd hv hne|cons c r =>
      rw[hv]at h2;have h2':c.toNat % 128=z / 128:=h2;show c.toNat≠0;omega
   ·rw[qVq];omega
   ·simp only[Nat.add_sub_cancel]
    by_cases h0:1<(vb (z / 128)).length
    ·have:=h6 h0;rw[hp];omega
    ·have:(vb (z / 128)).length=1:=by omega
     rw[this]; omega
   ·simp only[Nat.add_sub_cancel];rw[hp];have h8:=h7;generalize ((vb (z / 128)++rest).getD (qD (vb (z / 128)++rest)) 0).toNat=c at h8 ⊢;generalize 128 ^ ((vb (z / 128)).length - 1)=p at h8 ⊢;have:c*(128*p)=128*(c*p):=by rw[<-qWi,Nat.mul_comm c 128,qWi]
    rw[this];omega
def qra {z:Nat} (h:z<18446744073709551616):(vb z).length<=10:=by
 obtain⟨h1,_,_,_,_,h6,_⟩:=qq9 z [];rcases qTQ 10 (vb z).length with hl|hl
 ·have:=h6 (by omega);have hp:128 ^ 10<=128 ^ ((vb z).length - 1):=Nat.pow_le_pow_right (by omega) (by omega);have:(128:Nat) ^ 10=1180591620717411303424:=by decide
  omega
 ·exact hl
def qHp {n:Int} (h:qy n) (rest:Bs):qix (enc n++rest)=.ok (n,(enc n).length):=by
 obtain⟨h1,h2,h3,h4,h5,h6,h7⟩:=qq9 (zz n) rest;have hl:=qra (qiw h);have hz:=qiw h;unfold qix enc;rw[if_neg (by omega),if_neg (by simp; omega),if_neg,h2,qq7,h1]
 rintro(⟨h8,h9⟩|⟨h8,h9⟩)
 ·have e:(vb (zz n)).length - 1=9:=by omega
  rw[e]at h7;have:(128:Nat) ^ 9=9223372036854775808:=by decide
  rw[this]at h7;omega
 ·exact h4 h8 h9
def qxC:∀(b:Bs),qD b<b.length->(0<qD b->(b.getD (qD b) 0).toNat≠0)->b.take (qD b+1)=vb (val b (qD b))
 | [],h,_=>absurd h (by simp)
 | c::r,h,h0=>by
  by_cases hc:128<=c.toNat
  ·have hl:qD (c::r)=qD r+1:=by simp only[qD]; rw[if_pos hc]
   rw[hl]at h h0 ⊢;have h1:qD r<r.length:=by simpa using h
   have h2:(r.getD (qD r) 0).toNat≠0:=h0 (by omega);have ih:=qxC r h1 (fun _=>h2);show c::r.take (qD r+1)=vb (c.toNat % 128+128*val r (qD r));have hv:0<val r (qD r):=by
    have:∀(k:Nat) (r:Bs),(r.getD k 0).toNat≠0->(r.getD k 0).toNat<128->0<val r k:=by
     intro k
     induction k with
     | zero =>
      intro r hr hr2
      cases r with
      | nil=>simp at hr|cons d r =>
       show 0<d.toNat % 128;have h3:d.toNat≠0:=hr;have h4:d.toNat<128:=hr2;omega
     | succ k ih =>
      intro r hr hr2
      cases r with
      | nil=>simp at hr|cons d r =>
       show 0<d.toNat % 128+128*val r k;have:=ih r hr hr2;omega
    refine this _ _ h2 ?_;have last:∀(r:Bs),qD r<r.length->(r.getD (qD r) 0).toNat<128:=by
     intro r
     induction r with
     | nil=>intro h; exact absurd h (by simp)
     | cons d r ih =>
      intro h
      by_cases hd:128<=d.toNat
      ·have hl2:qD (d::r)=qD r+1:=by simp only[qD]; rw[if_pos hd]
       rw[hl2]at h ⊢;exact ih (by simpa using h)
      ·have hl2:qD (d::r)=0:=by simp only[qD]; rw[if_neg hd]
       rw[hl2];show d.toNat<128;omega
    exact last r h1
   rw[vb,dif_neg (by omega),ih];have e1:(c.toNat % 128+128*val r (qD r)) % 128+128=c.toNat:=by
    have:=c.toNat_lt; omega
   have e2:(c.toNat % 128+128*val r (qD r)) / 128=val r (qD r):=by omega
   rw[e1,e2];simp
  ·have hl:qD (c::r)=0:=by simp only[qD]; rw[if_neg hc]
   rw[hl];show[c]=vb (c.toNat % 128);rw[vb,dif_pos (by omega)];have:c.toNat % 128=c.toNat:=by omega
   rw[this]; simp
def qxD:∀(k:Nat) (b:Bs),val b k<128 ^ (k+1)
 | 0,[]=>by simp[val]
 | 0,c::r=>by show c.toNat % 128<128 ^ 1; omega
 | k+1,[]=>by simp only[val]; exact Nat.pow_pos (by omega)
 | k+1,c::r=>by
  have:=qxD k r;show c.toNat % 128+128*val r k<128 ^ (k+1+1);rw[qVq 128 (k+1)];omega
def qxE:∀(k:Nat) (b:Bs),(b.getD k 0).toNat<=1->val b k<2*128 ^ k
 | 0,[],_=>by simp[val]
 | 0,c::r,h=>by
  have h:c.toNat<=1:=h;show c.toNat % 128<2*128 ^ 0;omega
 | k+1,[],_=>by simp only[val]; have:0<128 ^ (k+1):=Nat.pow_pos (by omega); omega
 | k+1,c::r,h=>by
  have:=qxE k r h;show c.toNat % 128+128*val r k<2*128 ^ (k+1);rw[qVq 128 k];omega
def qHq {b:Bs} {n:Int} {u:Nat} (h:qix b=.ok (n,u)):qy n/\1<=u/\u<=b.length/\b.take u=enc n:=by
 unfold qix at h;split at h
 ·cases h
 split at h
 ·cases h
 split at h
 ·cases h
 rename_i h1 h2 h3;injection h with h
 injection h with h4 h5
 have hle:=qHo b;have hlt:qD b<b.length:=by omega
 have hz:val b (qD b)<18446744073709551616:=by
  by_cases h9:qD b=9
  ·have h10:(b.getD (qD b) 0).toNat<=1:=by
    rcases qTQ 1 (b.getD (qD b) 0).toNat with h|h
    ·exact absurd (.inl ⟨h9,h⟩) h3
    ·exact h
   have:=qxE (qD b) b h10;rw[h9]at this ⊢;have e:(128:Nat) ^ 9=9223372036854775808:=by decide
   omega
  ·have:=qxD (qD b) b;have hp:128 ^ (qD b+1)<=128 ^ 9:=Nat.pow_le_pow_right (by omega) (by omega);have e:(128:Nat) ^ 9=9223372036854775808:=by decide
   omega
 have hb:=qxC b hlt (fun h0 h=>h3 (.inr ⟨h0,h⟩));subst h4; subst h5;refine⟨qHn hz,by omega,by omega,?_⟩;rw[hb,enc,qHm]
def qgw (n:Int):1<=(enc n).length:=by
 obtain⟨h1,_⟩:=qq9 (zz n) [];unfold enc; omega
def qiy (b:Bs) (least:Nat):Except Nat (Nat×Nat) :=
 match qix b with
 | .error e=>.error e|.ok (n,u)=>if n<0 then .error 11 else if (b.length - u) / least<n.toNat then .error 10 else .ok (n.toNat,u)
def qrb (b:Bs):Except Nat (Bs×Nat) :=
 match qiy b 1 with
 | .error e=>.error e|.ok (n,u)=>.ok ((b.drop u).take n,u+n)
def qC (s:Bs):Bs:=enc s.length++s
def YL (l:List Int):Bs:=enc l.length++l.flatMap enc
def qbD (l:List Bs):Bs:=enc l.length++l.flatMap qC
def short (n:Nat):Prop:=n<=4611686018427387904
def qHr {n:Nat} (h:short n) (rest:Bs) (hr:n<=rest.length):qiy (enc n++rest) 1=.ok (n,(enc n).length):=by
 unfold qiy short at *
 rw[qHp (by unfold qy; omega)];simp only;rw[if_neg (by omega),if_neg (by simp; omega)];simp
def qHs {b:Bs} {n u:Nat} (h:qiy b 1=.ok (n,u)):1<=u/\u+n<=b.length/\b.take u=enc n:=by
 unfold qiy at h;split at h
 ·cases h
 ·rename_i m u' hg;obtain⟨h1,h2,h3,h4⟩:=qHq hg;split at h
  ·cases h
  split at h
  ·cases h
  rename_i h5 h6;injection h with h
  injection h with h7 h8
  subst h8;have e:(n:Int)=m:=by omega
  refine⟨h2,?_,by rw[h4,e]⟩;rw[Nat.div_one]at h6;omega
structure Fit {α:Type} (one:Bs->Except Nat (α×Nat)) (wr:α->Bs) (ok:α->Prop):Prop where
 read:∀x rest,ok x->one (wr x++rest)=.ok (x,(wr x).length)
 back:∀b x u,short b.length->one b=.ok (x,u)->u<=b.length/\b.take u=wr x/\ok x
 pos:∀x,1<=(wr x).length
def qHt:Fit qrb qC (fun s=>short s.length) :=
 ⟨fun x rest h=>by
  unfold qrb qC;rw[qTW,qHr h _ (by simp)];simp,fun b x u hb h=>by
  unfold qrb at h;split at h
  ·cases h
  ·rename_i n a hl;obtain⟨h1,h2,h3⟩:=qHs hl;injection h with h
   injection h with e1 e2
   subst e1; subst e2;have hlen:((b.drop a).take n).length=n:=by simp; omega
   refine⟨h2,?_,?_⟩
   ·unfold qC;rw[hlen,List.take_add,h3]
   ·show short _;rw[hlen];unfold short at *
    omega,fun s=>by have:=qgw s.length; simp[qC]; omega⟩
end Go.Aev.M44
namespace Go.Aev.M44
open Go Go.Aev
def w64 (n:Int):IntKind.u64.wrap n=n % 18446744073709551616:=by simp[IntKind.wrap,IntKind.bits,IntKind.signed]
def w8 (n:Int):IntKind.u8.wrap n=n % 256:=by simp[IntKind.wrap,IntKind.bits,IntKind.signed]
def qZ (l:Bs):(qe l).length=l.length:=by unfold qe; simp
def qis (a b:Bs):qe (a++b)=qe a++qe b:=by unfold qe; simp
def qgt {l:Bs}:List.take l.length (List.drop 0 (qe l))=qe l:=by
 rw[qTY,<-qZ l,qUM]
def qxa {l:Bs} {r:Nat} {rows:Aev.Rows} {ro:Bool} (h:qp rows r=some (.dat 1 (qe l) ro)):qcB (qp rows) (.sl r 1 0 l.length l.length false)=some (LB l):=by
 have:qbY (qp rows) (.sl r 1 0 l.length l.length false)=some (.list (qe l),[(r,.live (.dat 1 (qe l) true))]):=by
  simp only[qbY,h];rw[if_pos ⟨trivial,by rw[qZ]; omega⟩,qTY,<-qZ l,qUM]
 simp only[qcB,qgd,qgc,this]
def YG (l:Bs) (v:V) (rows:Aev.Rows):Prop:=∃r,v=.sl r 1 0 l.length l.length false/\qp rows r=some (.dat 1 (qe l) false)
def YG.conv {l:Bs} {v:V} {rows:Aev.Rows} (h:YG l v rows):qcB (qp rows) v=some (LB l):=by
 obtain⟨r,rfl,h2⟩:=h;exact qxa h2
def qbe (l:Bs) (v:V) (rows:Aev.Rows):Prop:=v=Yy l/\rows=YH l
def YG.new {P:Program} {g:FuncId} {args:List V} {l:Bs} (h:qM P g 0 args [] (YG l)):qM P g 0 args [] (qbe l):=by
 refine h.sel fun v rows' hb=>?_
 obtain⟨r,rfl,h2⟩:=hb;refine⟨[r],Yy l,YH l,rfl,?_,?_,rfl,rfl⟩
 ·simp only[qz,h2,qP]; rfl
 ·simp only[qA,q9,Yy];simp
def qd6 {n:Nat} (h:n<256):Yq (UInt8.ofNat n)=.int .u8 (n:Int):=by unfold Yq; rw[qq8 h]
def qGF:∀b:_root_.Fin 256,((BitVec.ofInt 8 (b.val:Int))|||(BitVec.ofInt 8 128)).toNat=b.val % 128+128:=by decide
def qxb (z:Nat):IntKind.u8.wrap (((BitVec.ofInt 8 (IntKind.u8.wrap (z:Int)))|||(BitVec.ofInt 8 128)).toNat:Int)=((z % 128+128:Nat):Int):=by
 rw[w8 (z:Int)];have e:((z:Int) % 256)=(((⟨z % 256,by omega⟩:_root_.Fin 256).val:Nat):Int):=by show(z:Int) % 256=((z % 256:Nat):Int); omega
 rw[e,qGF];show IntKind.u8.wrap ((z % 256 % 128+128:Nat):Int)=_;rw[w8]; omega
def qxc (z:Nat):IntKind.u8.wrap (IntKind.u8.wrap ((z:Int).tmod 128)+128)=((z % 128+128:Nat):Int):=by
 rw[w8,w8,qWq (by omega)]; omega
def qq2 {z:Nat} (h:z<128):IntKind.u8.wrap (z:Int)=(z:Int):=by rw[w8]; omega
def qxd (z:Nat):(z:Int).fdiv ((2:Int) ^ 7)=((z / 128:Nat):Int):=by
 rw[qWo _ (by decide)]; rfl
def qxe {z:Nat} (h:z<18446744073709551616):IntKind.u64.wrap ((z:Int).tdiv 128)=((z / 128:Nat):Int):=by
 rw[qWr (by omega),w64]; omega
def qGG {n:Int} (h:qy n):IntKind.u64.wrap (((BitVec.ofInt 64 (IntKind.u64.wrap (IntKind.u64.wrap n*(2:Int) ^ 1)))^^^(BitVec.ofInt 64 (IntKind.u64.wrap (n.fdiv ((2:Int) ^ 63))))).toNat:Int)=(zz n:Int):=by
 unfold qy at h;rw[qWo _ (by decide)];have e63:((2:Int) ^ 63)=9223372036854775808:=by decide
 rw[e63,w64 n]
 by_cases hn:n<0
 ·have e1:n / 9223372036854775808=-1:=by omega
  rw[e1];have e2:BitVec.ofInt 64 (IntKind.u64.wrap (-1))=BitVec.allOnes 64:=by rw[w64]; decide
  rw[e2,BitVec.xor_allOnes,BitVec.toNat_not];have e3:(BitVec.ofInt 64 (IntKind.u64.wrap (n % 18446744073709551616*2 ^ 1))).toNat=(2*n+18446744073709551616).toNat:=by
   rw[BitVec.toNat_ofInt,w64]
   congr 1
   have:(((2 ^ 64:Nat)):Int)=18446744073709551616:=by decide
   omega
  rw[e3,w64];unfold zz;rw[if_pos hn];have:(2:Nat) ^ 64=18446744073709551616:=by decide
  omega
 ·have e1:n / 9223372036854775808=0:=by omega
  rw[e1];have e2:BitVec.ofInt 64 (IntKind.u64.wrap 0)=0#64:=by rw[w64]; decide
  rw[e2,BitVec.xor_zero];have e3:(BitVec.ofInt 64 (IntKind.u64.wrap (n % 18446744073709551616*2 ^ 1))).toNat=(2*n).toNat:=by
   rw[BitVec.toNat_ofInt,w64]
   congr 1
   have:(((2 ^ 64:Nat)):Int)=18446744073709551616:=by decide
   omega
  rw[e3,w64];unfold zz;rw[if_neg hn];omega
def qxf {n:Int} (h:qy n) (hn:n<0):IntKind.u64.wrap (IntKind.u64.wrap (IntKind.u64.wrap (-1 - n)*2)+1)=(zz n:Int):=by
 unfold qy at h; unfold zz; rw[if_pos hn,w64,w64,w64]; omega
def qxg {n:Int} (h:qy n) (hn:¬n<0):IntKind.u64.wrap (IntKind.u64.wrap n*2)=(zz n:Int):=by
 unfold qy at h; unfold zz; rw[if_neg hn,w64,w64]; omega
def qxh {l:Bs} {n:Nat} (h:n<256) {x:Int} (e:x=(n:Int)):List.take l.length (List.drop 0 (qe l))++[D.int .u8 x]=qe (l++[UInt8.ofNat n]):=by
 rw[qgt,qis,e,<-qd6 h]; rfl
def qlp {l:Bs} {z:Nat} (h:z<128) {r0 r1:qc}:YG (l++[UInt8.ofNat z]) (.sl 2 1 0 (l.length+1) (l.length+1) false) [r0,r1,.live (.dat 1 (List.take l.length (List.drop 0 (qe l))++[D.int .u8 (IntKind.u8.wrap (z:Int))]) false)]:=by
 rw[qxh (n:=z) (by omega) (qq2 h)];exact⟨2,by rw[qTN]; rfl,rfl⟩
def qxi {l:Bs} {n:Nat} (h:n<256) {x:Int} (e:x=(n:Int)) {P:V->Aev.Rows->Prop} (hp:P (Yy (l++[UInt8.ofNat n])) (YH (l++[UInt8.ofNat n]))) :
  P (.sl 0 1 0 (l.length+1) (l.length+1) false) [.live (.dat 1 (List.take l.length (List.drop 0 (qe l))++[D.int .u8 x]) false)]:=by
 rw[qxh h e];unfold Yy YH at hp;rw[qTN]at hp;exact hp
def qGH:∀(k z:Nat) (l:Bs),z<128 ^ (k+1)->l.length+k<=1000->qb c0 0 (H90 (z:Int) (Yy l) (YH l)) (YG (l++vb z)):=by
 intro k
 induction k with
 | zero =>
  intro z l hz hl;have hz':z<128:=by simpa using hz
  rw[vb,dif_pos hz'];refine qxn ⟨decide_eq_false (by omega),⟨rfl,rfl,by omega⟩,⟨by omega,by omega,rfl,rfl,by rw[qZ]; omega,by omega,by omega,by omega⟩,trivial⟩ (qlp hz')
 | succ k ih =>
  intro z l hz hl
  by_cases hz':z<128
  ·rw[vb,dif_pos hz'];refine qxn ⟨decide_eq_false (by omega),⟨rfl,rfl,by omega⟩,⟨by omega,by omega,rfl,rfl,by rw[qZ]; omega,by omega,by omega,by omega⟩,trivial⟩ (qlp hz')
  ·rw[vb,dif_neg hz'];refine qGO ⟨decide_eq_true (by omega),⟨rfl,rfl,by omega⟩,⟨by omega,by omega,rfl,rfl,by rw[qZ]; omega,by omega,by omega,by omega⟩,by omega,trivial⟩ ?_;rw[qxd];refine qxi (P:=fun v rows=>qb c0 0 (hd 107 qit 27 [(3,U64 ((z / 128:Nat):Int)),(4,v)] rows) _) (n:=z % 128+128) (by omega) (qxb z) ?_;have:=ih (z / 128) (l++[UInt8.ofNat (z % 128+128)]) (by rw[qVq]at hz; omega) (by simp; omega);rw[qTW]at this;exact this
def qxj {n:Int} (h:qy n):qb c0 0 (start c0 107 [I n] []) (YG (enc n)):=by
 refine qGL ⟨by omega,by omega,trivial⟩ ?_;rw[qGG h];have hz:=qiw h;unfold enc
 by_cases hz':zz n<128
 ·rw[vb,dif_pos hz'];refine qGN (z:=(zz n:Int)) ⟨decide_eq_false (by omega),trivial⟩ ?_;rw[qq2 hz',<-qd6 (n:=zz n) (by omega)];exact⟨1,rfl,rfl⟩
 ·rw[vb,dif_neg hz'];refine qGM (z:=(zz n:Int)) ⟨decide_eq_true (by omega),by omega,trivial⟩ ?_;rw[qxd,qxb,<-qd6 (n:=zz n % 128+128) (by omega)];exact qGH 20 (zz n / 128) [UInt8.ofNat (zz n % 128+128)] (by
   have:(128:Nat) ^ 21=178405961588244985132285746181186892047843328:=by decide
   omega) (by simp)
def qGI {n:Int} (h:qy n):RCs PP 107 [I n] [] (LB (enc n)):=qd4 qS (by kernel_rfl) ((qxj h).mono fun _ _ h=>h.conv)
def qxk {n:Int} (h:qy n):qM PP 107 0 [I n] [] (qbe (enc n)):=YG.new (qb1 qS (by kernel_rfl) (qxj h))
def qGJ:∀(k z:Nat) (l:Bs),z<18446744073709551616->z<128 ^ (k+1)->l.length+k<=1000->qb c0 0 (H93 (z:Int) (Yy l) (YH l)) (YG (l++vb z)):=by
 intro k
 induction k with
 | zero =>
  intro z l h64 hz hl;have hz':z<128:=by simpa using hz
  rw[vb,dif_pos hz'];refine qxp ⟨decide_eq_false (by omega),⟨rfl,rfl,by omega⟩,⟨by omega,by omega,rfl,rfl,by rw[qZ]; omega,by omega,by omega,by omega⟩,trivial⟩ (qlp hz')
 | succ k ih =>
  intro z l h64 hz hl
  by_cases hz':z<128
  ·rw[vb,dif_pos hz'];refine qxp ⟨decide_eq_false (by omega),⟨rfl,rfl,by omega⟩,⟨by omega,by omega,rfl,rfl,by rw[qZ]; omega,by omega,by omega,by omega⟩,trivial⟩ (qlp hz')
  ·rw[vb,dif_neg hz'];refine qGS ⟨decide_eq_true (by omega),rfl,by decide,⟨rfl,rfl,by omega⟩,⟨by omega,by omega,rfl,rfl,by rw[qZ]; omega,by omega,by omega,by omega⟩,rfl,by decide,trivial⟩ ?_;rw[qxe h64];refine qxi (P:=fun v rows=>qb c0 0 (hd 110 qfb 31 [(3,U64 ((z / 128:Nat):Int)),(4,v)] rows) _) (n:=z % 128+128) (by omega) (qxc z) ?_;have:=ih (z / 128) (l++[UInt8.ofNat (z % 128+128)]) (by omega) (by rw[qVq]at hz; omega) (by simp; omega);rw[qTW]at this;exact this
def qlq {z:Nat} (hz:z<18446744073709551616):qb c0 0 (H93 (z:Int) .nil []) (YG (vb z)):=by
 by_cases hz':z<128
 ·rw[vb,dif_pos hz'];refine qGR (z:=(z:Int)) ⟨decide_eq_false (by omega),trivial⟩ ?_;rw[qq2 hz',<-qd6 (n:=z) (by omega)];exact⟨1,rfl,rfl⟩
 ·rw[vb,dif_neg hz'];refine qGQ (z:=(z:Int)) ⟨decide_eq_true (by omega),rfl,by decide,rfl,by decide,trivial⟩ ?_;rw[qxe hz,qxc,<-qd6 (n:=z % 128+128) (by omega)];exact qGJ 20 (z / 128) [UInt8.ofNat (z % 128+128)] (by omega) (by
   have:(128:Nat) ^ 21=178405961588244985132285746181186892047843328:=by decide
   omega) (by simp)
def qxl {n:Int} (h:qy n):qb c0 0 (start c0 110 [I n] []) (YG (enc n)):=by
 have hz:=qiw h
 by_cases hn:n<0
 ·refine qGP ⟨decide_eq_true hn,by unfold qy at h; unfold qi; omega,trivial⟩ ?_;rw[qxf h hn];exact qlq hz
 ·refine qxo ⟨decide_eq_false hn,trivial⟩ ?_;rw[qxg h hn];exact qlq hz
def qGK {n:Int} (h:qy n):RCs PP 110 [I n] [] (LB (enc n)):=qd4 qS (by kernel_rfl) ((qxl h).mono fun _ _ h=>h.conv)
def qxm {n:Int} (h:qy n):qM PP 110 0 [I n] [] (qbe (enc n)):=YG.new (qb1 qS (by kernel_rfl) (qxl h))
def qdh (s:Bs):D:=.str ⟨s.toArray⟩
def qrd (g:FuncId) (args:List V) (_rows:Aev.Rows):Option (List Prop×V) :=
 match g,args with
 | 107,[.d (.int .i64 n)]=>some ([qy n],LB (enc n))|110,[.d (.int .i64 n)]=>some ([qy n],LB (enc n))|_,_=>none
def cG:qt:=mk (fun _=>true) qrd
def qII {g:FuncId} {args:List V} {rows:Aev.Rows} {ps:List Prop} {v:V} (h:qrd g args rows=some (ps,v)) (hp:qh ps):RCs PP g args rows v:=by
 unfold qrd at h;split at h
 ·cases h;exact(qGI hp.1).of_lists (.cons (.data _) .nil)
 ·cases h;exact(qGK hp.1).of_lists (.cons (.data _) .nil)
 ·cases h
def qre (b:Bs):(List.all (qe b) fun e=>List.length (D.cells e)==1)=true:=by
 rw[qTI];intro e he;obtain⟨c,_,rfl⟩:=qTV.1 he;rfl
def qIJ:COK cG.cfg:=qd5 fun g args rows ps v h hp=>qII h hp
end Go.Aev.M44
namespace Go.Aev.M44
open Go Go.Aev
def JW (t:Nat) (s:AS):Bool:=match s.fr.todo with
 | .it (.inRegion ops (_::j::_))::_=>match ops[j]? with
  | some o=>match o.dst with
   | some d=>Nat.beq d t|none=>false
  | none=>false
 | _=>false
def Jm (s:AS) (v:V) (rows:Aev.Rows):AS:=(qcH s v rows).getD s
def qb.callB {c:qt} (hc:COK c.cfg) {k:Nat} {s:AS} {Q:V->Aev.Rows->Prop} {g:FuncId} {ar:List V} {l:Bs} (hat:qij c.cfg s=some (g,ar,[],[]))
  (hd:qM c.P g 0 ar [] (qbe l)) (hb:(qcH s (Yy l) (YH l)).isSome=true) (h:qb c k (Jm s (Yy l) (YH l)) Q):qb c k s Q:=by
 refine qb.callN hc hat hd ?_
 rintro v rows ⟨rfl,rfl⟩
 obtain⟨s',hs⟩:=qVx.1 hb;unfold Jm at h;rw[hs]at h;exact⟨s',hs,h⟩
end Go.Aev.M44
namespace Go.Aev.M44
open Go Go.Aev
def qaz (l:List Bs):List D:=l.map qdh
def elS (l:List Bs):Nat->D:=fun i=>qdh (l.getD i [])
def cW:qt:=cG
def qgv:COK cW.cfg:=qIJ
end Go.Aev.M44
namespace Go.Aev.M44
open Go Go.Aev
def C92 (s:List UInt8):AS:=JC (sTo c0 (ql []) (JW 5) 300 (start c0 104 [.d (qdh s)] []))
def C94 (s:List UInt8):AS:=JC (sTo c0 (ql []) (JW 5) 300 (start c0 191 [.d (qdh s)] []))
end Go.Aev.M44
namespace Go.Aev.M44
def qHG {s l:List UInt8} {Q:V->Aev.Rows->Prop} (hp:qh [1=1,0<1/\List.length (Ye {data:=List.toArray s})≠0/\1=1/\1=1/\0+l.length<=List.length (qe l)/\¬l.length+List.length (Ye {data:=List.toArray s})<=l.length/\2*(l.length+List.length (Ye {data:=List.toArray s}))*1<=281474976710656/\l.length+List.length (Ye {data:=List.toArray s})<=4611686018427387904]) (h:Q (V.sl (1) (1) (0) (l.length+List.length (Ye {data:=List.toArray s})) (l.length+List.length (Ye {data:=List.toArray s})) false) ([qc.dead,qc.live (Row.dat (1) (List.take l.length (List.drop (0) (qe l))++Ye {data:=List.toArray s}) false)])):qb c0 0 (Jm (C92 s) (Yy l) (YH l)) Q :=
 qb.toFin qS (ql [] [] [] 1 false true) qr 140 (by kernel_rfl) hp h
def qHH {s l:List UInt8} {Q:V->Aev.Rows->Prop} (hp:qh [1=1,0<1/\List.length (Ye {data:=List.toArray s})≠0/\1=1/\1=1/\0+l.length<=List.length (qe l)/\¬l.length+List.length (Ye {data:=List.toArray s})<=l.length/\2*(l.length+List.length (Ye {data:=List.toArray s}))*1<=281474976710656/\l.length+List.length (Ye {data:=List.toArray s})<=4611686018427387904]) (h:Q (V.sl (1) (1) (0) (l.length+List.length (Ye {data:=List.toArray s})) (l.length+List.length (Ye {data:=List.toArray s})) false) ([qc.dead,qc.live (Row.dat (1) (List.take l.length (List.drop (0) (qe l))++Ye {data:=List.toArray s}) false)])):qb c0 0 (Jm (C94 s) (Yy l) (YH l)) Q :=
 qb.toFin qS (ql [] [] [] 1 false true) qr 140 (by kernel_rfl) hp h
end Go.Aev.M44
namespace Go.Aev.M44
open Go Go.Aev
end Go.Aev.M44
namespace Go.Aev.M44
def qHI {l:List UInt8} {Q:V->Aev.Rows->Prop} (hp:qh []) (h:Q (V.sl (0) (1) (0) l.length l.length false) ([qc.live (Row.dat (1) (qe l) false)])):qb c0 0 (Jm (C92 []) (Yy l) (YH l)) Q :=
 qb.toFin qS (ql [] [] [] 0 false true) qr 140 (by kernel_rfl) hp h
def qHJ {l:List UInt8} {Q:V->Aev.Rows->Prop} (hp:qh []) (h:Q (V.sl (0) (1) (0) l.length l.length false) ([qc.live (Row.dat (1) (qe l) false)])):qb c0 0 (Jm (C94 []) (Yy l) (YH l)) Q :=
 qb.toFin qS (ql [] [] [] 0 false true) qr 140 (by kernel_rfl) hp h
end Go.Aev.M44
namespace Go.Aev.M44
open Go Go.Aev
def Jv (n:Nat):Prop:=n<=70368744177664
def qdg (s:Bs):Ye ⟨s.toArray⟩=qe s:=by unfold Ye; simp
def qxJ (s:Bs):ByteArray.size ⟨s.toArray⟩=s.length:=by simp[ByteArray.size]
def qxK {l s:Bs} {r0:qc}:YG (l++s) (.sl 1 1 0 (l.length+(Ye ⟨s.toArray⟩).length) (l.length+(Ye ⟨s.toArray⟩).length) false) [r0,.live (.dat 1 (List.take l.length (List.drop 0 (qe l))++Ye ⟨s.toArray⟩) false)]:=by
 rw[qgt,qdg,<-qis,qZ];exact⟨1,by rw[qTN],rfl⟩
def qlw {s:Bs} (h:Jv s.length):qy (s.length:Int):=by unfold Jv at h; unfold qy; omega
def qcI {n:Int} (h:qy n):(enc n).length<=10:=qra (qiw h)
def qHE {s:Bs} (h:Jv s.length):qb c0 0 (start c0 104 [.d (qdh s)] []) (YG (qC s)):=by
 refine qb.to qS (ql []) (JW 5) 300 (ps:=[]) (s':=C92 s) (by kernel_rfl) trivial ?_;refine qb.callB qS (g:=107) (ar:=[I (ByteArray.size ⟨s.toArray⟩:Nat)]) (l:=enc s.length) (by kernel_rfl) (by rw[qxJ]; exact qxk (qlw h)) (by kernel_rfl) ?_;have he:=qcI (qlw h);have hq:=qgw (s.length:Int);unfold Jv at h
 cases s with
 | nil =>
  refine qHI (by trivial) ?_;show YG (enc _++[]) _ _;rw[qT7];exact⟨0,rfl,rfl⟩
 | cons c r =>
  refine qHG ⟨rfl,⟨by omega,by rw[qdg,qZ]; simp,rfl,rfl,by rw[qZ]; omega,by rw[qdg,qZ]; simp,by rw[qdg,qZ]; omega,by rw[qdg,qZ]; omega⟩,trivial⟩ ?_;exact qxK
def qHF {s:Bs} (h:Jv s.length):qb c0 0 (start c0 191 [.d (qdh s)] []) (YG (qC s)):=by
 refine qb.to qS (ql []) (JW 5) 300 (ps:=[]) (s':=C94 s) (by kernel_rfl) trivial ?_;refine qb.callB qS (g:=110) (ar:=[I (ByteArray.size ⟨s.toArray⟩:Nat)]) (l:=enc s.length) (by kernel_rfl) (by rw[qxJ]; exact qxm (qlw h)) (by kernel_rfl) ?_;have he:=qcI (qlw h);have hq:=qgw (s.length:Int);unfold Jv at h
 cases s with
 | nil =>
  refine qHJ (by trivial) ?_;show YG (enc _++[]) _ _;rw[qT7];exact⟨0,rfl,rfl⟩
 | cons c r =>
  refine qHH ⟨rfl,⟨by omega,by rw[qdg,qZ]; simp,rfl,rfl,by rw[qZ]; omega,by rw[qdg,qZ]; simp,by rw[qdg,qZ]; omega,by rw[qdg,qZ]; omega⟩,trivial⟩ ?_;exact qxK
def qxL {s:Bs} (h:Jv s.length):RCs PP 104 [.d (qdh s)] [] (LB (qC s)):=qd4 qS (by kernel_rfl) ((qHE h).mono fun _ _ h=>h.conv)
def qxM {s:Bs} (h:Jv s.length):RCs PP 191 [.d (qdh s)] [] (LB (qC s)):=qd4 qS (by kernel_rfl) ((qHF h).mono fun _ _ h=>h.conv)
end Go.Aev.M44
namespace Go.Aev.M44
open Go Go.Aev Go.Aev.R29
section
def cS (d:D):qt:=kA (fun g=>match Nat.beq g 103 with|true=>some fun _=>.d d|false=>none)
def Yb (d:D):COK (cS d).cfg:=qR _
def qHQ:List qL:=(JC (sTo (cS .nilp) {ql [] [] [] 0 false true with wr:=true} qr 300 (start (cS .nilp) 105 [.d (stm (fun _=>0) (fun _=>0) 0)] []))).fr.todo
def BX (a b:Nat->Int) (n:Int):qc:=.live (.box ((ww8 a++(qb2 b++[D.int .u64 n])).map V.d) false)
def OX (c:Nat->Int):qc:=.live (.box ((List.range 32).map fun i=>V.d (.int .u8 (c i))) false)
def H1g (a b:Nat->Int) (n:Int) (es:List D) (len:Nat) (ex:Bool):AS:=hd 105 qHQ 58 [(1,.pt 0 0 0 0),(2,.pt 1 0 0 0),(3,U64 (IntKind.wrap IntKind.u64 ((8:Int)*n))),(4,.sl 2 1 0 len len ex)] [BX a b n,OX (fun _=>0),.live (.dat 1 es false)]
def H1 (a b:Nat->Int) (n:Int) (o:List UInt8) (ex:Bool):AS:=H1g a b n (qe o) o.length ex
def qHR:List qL:=(JC (sTo (cS .nilp) {ql [(19,false)] [] [] 0 false true with wr:=true} qr 300 (H1 (fun _=>0) (fun _=>0) 0 [] false))).fr.todo
def H2g (a b:Nat->Int) (n:Int) (es:List D) (len:Nat) (ex:Bool) (i:Int):AS:=hd 105 qHR 58 [(1,.pt 0 0 0 0),(2,.pt 1 0 0 0),(3,U64 (IntKind.wrap IntKind.u64 ((8:Int)*n))),(4,.sl 2 1 0 len len ex),(23,I i)] [BX a b n,OX (fun _=>0),.live (.dat 1 es false)]
def H2 (a b:Nat->Int) (n:Int) (o:List UInt8) (ex:Bool) (i:Int):AS:=H2g a b n (qe o) o.length ex i
def qHS:List qL:=(JC (sTo (cS (stm (fun _=>0) (fun _=>0) 0)) (ql [(24,false)] [] [] 0 false true) qr 300 (H2 (fun _=>0) (fun _=>0) 0 [] true 8))).fr.todo
def H3 (c e:Nat->Int) (q:Int) (i:Nat):AS:=hd 105 qHS 58 [(1,.pt 0 0 0 0),(2,.pt 1 0 0 0),(40,I i),(6,.pt 2 0 0 0)] [BX c e q,OX (fun _=>0),.live (.box ((Y0 (ww8 c) i).map V.d) false)]
def qfd (o:List UInt8):Prop:=0<1/\1≠0/\1=1/\1=1/\0+o.length<=List.length (qe o)/\¬o.length+1<=o.length/\2*(o.length+1)*1<=281474976710656/\o.length+1<=4611686018427387904
def qHT {a b:Nat->Int} {n:Int} {d:D} {Q:V->Aev.Rows->Prop} (h:qb (cS d) 0 (H1 a b n [128] true) Q):qb (cS d) 0 (start (cS d) 105 [.d (stm a b n)] []) Q :=
 qb.turn (Yb d) (ql [] [] [] 0 false true true) qr 300 [0,1,2] [1,2,3,4] (ps:=[]) (by kernel_rfl) trivial h
def byB (z:Int):D:=.int .u8 z
def qd8 (o:List UInt8) (z:Int):List D:=List.take o.length (List.drop 0 (qe o))++[byB z]
def qHU {a b c e:Nat->Int} {n q:Int} {o:List UInt8} {Q:V->Aev.Rows->Prop} (hp:qh [qi (IntKind.wrap IntKind.i64 n+(↑o.length:Int)),IntKind.i64=IntKind.i64,(64:Int)≠(0:Int),(Int.tmod (IntKind.wrap IntKind.i64 n+(↑o.length:Int)) (64:Int) != (56:Int))=true,1=1/\1=1/\1<=1,qfd o]) (h:qb (cS (stm c e q)) 0 (H1g a b n (qd8 o 0) (o.length+1) false) Q):qb (cS (stm c e q)) 0 (H1 a b n o true) Q :=
 qb.turn (Yb (stm c e q)) (ql [(19,true)] [] [] 1 false true) qr 300 [0,1,4] [1,2,3,4] (by kernel_rfl) hp h
def qHV {a b c e:Nat->Int} {n q:Int} {o:List UInt8} {Q:V->Aev.Rows->Prop} (hp:qh [qi (IntKind.wrap IntKind.i64 n+(↑o.length:Int)),IntKind.i64=IntKind.i64,(64:Int)≠(0:Int),(Int.tmod (IntKind.wrap IntKind.i64 n+(↑o.length:Int)) (64:Int) != (56:Int))=false]) (h:qb (cS (stm c e q)) 0 (H2 a b n o true 0) Q):qb (cS (stm c e q)) 0 (H1 a b n o true) Q :=
 qb.turn (Yb (stm c e q)) (ql [(19,false)] [] [] 0 false true) qr 300 [0,1,2] [1,2,3,4,23] (by kernel_rfl) hp h
def qHW {a b c e:Nat->Int} {n q:Int} {o:List UInt8} {Q:V->Aev.Rows->Prop} {i:Int} (hp:qh [decide (i<(8:Int))=true,qi ((8:Int)*i),qi ((56:Int) - (8:Int)*i),(0:Int)<=(56:Int) - (8:Int)*i,1=1/\1=1/\1<=1,qfd o,qi (i+(1:Int))]) (h:qb (cS (stm c e q)) 0 (H2g a b n (qd8 o (IntKind.wrap IntKind.u8 (Int.fdiv (IntKind.wrap IntKind.u64 ((8:Int)*n)) ((2:Int) ^ min (Int.toNat ((56:Int) - (8:Int)*i)) (64))))) (o.length+1) false (i+1)) Q):qb (cS (stm c e q)) 0 (H2 a b n o true i) Q :=
 qb.turn (Yb (stm c e q)) (ql [(24,true)] [] [] 1 false true) qr 300 [0,1,4] [1,2,4,3,23] (by kernel_rfl) hp h
def qHX {a b c e:Nat->Int} {n q:Int} {o:List UInt8} {Q:V->Aev.Rows->Prop} (hp:qh [qi (IntKind.wrap IntKind.i64 n+(↑o.length:Int)),IntKind.i64=IntKind.i64,(64:Int)≠(0:Int),(Int.tmod (IntKind.wrap IntKind.i64 n+(↑o.length:Int)) (64:Int) != (56:Int))=true,1=1/\1=1/\1<=1,qfd o]) (h:qb (cS (stm c e q)) 0 (H1g a b n (qd8 o 0) (o.length+1) false) Q):qb (cS (stm c e q)) 0 (H1 a b n o false) Q :=
 qb.turn (Yb (stm c e q)) (ql [(19,true)] [] [] 1 false true) qr 300 [0,1,4] [1,2,3,4] (by kernel_rfl) hp h
def qHY {a b c e:Nat->Int} {n q:Int} {o:List UInt8} {Q:V->Aev.Rows->Prop} (hp:qh [qi (IntKind.wrap IntKind.i64 n+(↑o.length:Int)),IntKind.i64=IntKind.i64,(64:Int)≠(0:Int),(Int.tmod (IntKind.wrap IntKind.i64 n+(↑o.length:Int)) (64:Int) != (56:Int))=false]) (h:qb (cS (stm c e q)) 0 (H2 a b n o false 0) Q):qb (cS (stm c e q)) 0 (H1 a b n o false) Q :=
 qb.turn (Yb (stm c e q)) (ql [(19,false)] [] [] 0 false true) qr 300 [0,1,2] [1,2,3,4,23] (by kernel_rfl) hp h
def qHZ {a b c e:Nat->Int} {n q:Int} {o:List UInt8} {Q:V->Aev.Rows->Prop} {i:Int} (hp:qh [decide (i<(8:Int))=true,qi ((8:Int)*i),qi ((56:Int) - (8:Int)*i),(0:Int)<=(56:Int) - (8:Int)*i,1=1/\1=1/\1<=1,qfd o,qi (i+(1:Int))]) (h:qb (cS (stm c e q)) 0 (H2g a b n (qd8 o (IntKind.wrap IntKind.u8 (Int.fdiv (IntKind.wrap IntKind.u64 ((8:Int)*n)) ((2:Int) ^ min (Int.toNat ((56:Int) - (8:Int)*i)) (64))))) (o.length+1) false (i+1)) Q):qb (cS (stm c e q)) 0 (H2 a b n o false i) Q :=
 qb.turn (Yb (stm c e q)) (ql [(24,true)] [] [] 1 false true) qr 300 [0,1,4] [1,2,4,3,23] (by kernel_rfl) hp h
def qH0 {a b c e:Nat->Int} {n q:Int} {o:List UInt8} {Q:V->Aev.Rows->Prop} (hp:qh [1=1,1=1,0+o.length<=List.length (qe o),List.take o.length (List.drop (0) (qe o))=qe (List.map unB (List.take o.length (List.drop (0) (qe o)))),RCs PP 103 [.d (stm a b n),.d (.str ⟨⟨List.map unB (List.take o.length (List.drop (0) (qe o)))⟩⟩)] [] (.d (stm c e q))]) (h:qb (cS (stm c e q)) 0 (H3 c e q 0) Q):qb (cS (stm c e q)) 0 (H2 a b n o false 8) Q :=
 qb.turn (Yb (stm c e q)) (ql [] [] [] 0 false true) qr 300 [0,1,3] [1,2,40,6] (by kernel_rfl) hp h
def qH1 {c e:Nat->Int} {q:Int} {Q:V->Aev.Rows->Prop} {d:D} (h:qb (cS d) 0 (H3 c e q 1) Q):qb (cS d) 0 (H3 c e q 0) Q :=
 qb.turn (Yb d) (ql [] [] [] 0 false true) qr 300 [0,1,2] [1,2,40,6] (ps:=[IntKind.i64=IntKind.i64,(4:Int)≠(0:Int),IntKind.i64=IntKind.i64,(4:Int)≠(0:Int),qi (0:Int),qi (24:Int),(0:Int)<=(24:Int),qi (1:Int)]) (by kernel_rfl) ⟨rfl,by decide,rfl,by decide,⟨by decide,by decide⟩,⟨by decide,by decide⟩,by decide,⟨by decide,by decide⟩,trivial⟩ h
def qH2 {c e:Nat->Int} {q:Int} {Q:V->Aev.Rows->Prop} {d:D} (h:qb (cS d) 0 (H3 c e q 2) Q):qb (cS d) 0 (H3 c e q 1) Q :=
 qb.turn (Yb d) (ql [] [] [] 0 false true) qr 300 [0,1,2] [1,2,40,6] (ps:=[IntKind.i64=IntKind.i64,(4:Int)≠(0:Int),IntKind.i64=IntKind.i64,(4:Int)≠(0:Int),qi (8:Int),qi (16:Int),(0:Int)<=(16:Int),qi (2:Int)]) (by kernel_rfl) ⟨rfl,by decide,rfl,by decide,⟨by decide,by decide⟩,⟨by decide,by decide⟩,by decide,⟨by decide,by decide⟩,trivial⟩ h
def qH3 {c e:Nat->Int} {q:Int} {Q:V->Aev.Rows->Prop} {d:D} (h:qb (cS d) 0 (H3 c e q 3) Q):qb (cS d) 0 (H3 c e q 2) Q :=
 qb.turn (Yb d) (ql [] [] [] 0 false true) qr 300 [0,1,2] [1,2,40,6] (ps:=[IntKind.i64=IntKind.i64,(4:Int)≠(0:Int),IntKind.i64=IntKind.i64,(4:Int)≠(0:Int),qi (16:Int),qi (8:Int),(0:Int)<=(8:Int),qi (3:Int)]) (by kernel_rfl) ⟨rfl,by decide,rfl,by decide,⟨by decide,by decide⟩,⟨by decide,by decide⟩,by decide,⟨by decide,by decide⟩,trivial⟩ h
def qH4 {c e:Nat->Int} {q:Int} {Q:V->Aev.Rows->Prop} {d:D} (h:qb (cS d) 0 (H3 c e q 4) Q):qb (cS d) 0 (H3 c e q 3) Q :=
 qb.turn (Yb d) (ql [] [] [] 0 false true) qr 300 [0,1,2] [1,2,40,6] (ps:=[IntKind.i64=IntKind.i64,(4:Int)≠(0:Int),IntKind.i64=IntKind.i64,(4:Int)≠(0:Int),qi (24:Int),qi (0:Int),(0:Int)<=(0:Int),qi (4:Int)]) (by kernel_rfl) ⟨rfl,by decide,rfl,by decide,⟨by decide,by decide⟩,⟨by decide,by decide⟩,by decide,⟨by decide,by decide⟩,trivial⟩ h
def qH5 {c e:Nat->Int} {q:Int} {Q:V->Aev.Rows->Prop} {d:D} (h:qb (cS d) 0 (H3 c e q 5) Q):qb (cS d) 0 (H3 c e q 4) Q :=
 qb.turn (Yb d) (ql [] [] [] 0 false true) qr 300 [0,1,2] [1,2,40,6] (ps:=[IntKind.i64=IntKind.i64,(4:Int)≠(0:Int),IntKind.i64=IntKind.i64,(4:Int)≠(0:Int),qi (0:Int),qi (24:Int),(0:Int)<=(24:Int),qi (5:Int)]) (by kernel_rfl) ⟨rfl,by decide,rfl,by decide,⟨by decide,by decide⟩,⟨by decide,by decide⟩,by decide,⟨by decide,by decide⟩,trivial⟩ h
def qH6 {c e:Nat->Int} {q:Int} {Q:V->Aev.Rows->Prop} {d:D} (h:qb (cS d) 0 (H3 c e q 6) Q):qb (cS d) 0 (H3 c e q 5) Q :=
 qb.turn (Yb d) (ql [] [] [] 0 false true) qr 300 [0,1,2] [1,2,40,6] (ps:=[IntKind.i64=IntKind.i64,(4:Int)≠(0:Int),IntKind.i64=IntKind.i64,(4:Int)≠(0:Int),qi (8:Int),qi (16:Int),(0:Int)<=(16:Int),qi (6:Int)]) (by kernel_rfl) ⟨rfl,by decide,rfl,by decide,⟨by decide,by decide⟩,⟨by decide,by decide⟩,by decide,⟨by decide,by decide⟩,trivial⟩ h
def qH7 {c e:Nat->Int} {q:Int} {Q:V->Aev.Rows->Prop} {d:D} (h:qb (cS d) 0 (H3 c e q 7) Q):qb (cS d) 0 (H3 c e q 6) Q :=
 qb.turn (Yb d) (ql [] [] [] 0 false true) qr 300 [0,1,2] [1,2,40,6] (ps:=[IntKind.i64=IntKind.i64,(4:Int)≠(0:Int),IntKind.i64=IntKind.i64,(4:Int)≠(0:Int),qi (16:Int),qi (8:Int),(0:Int)<=(8:Int),qi (7:Int)]) (by kernel_rfl) ⟨rfl,by decide,rfl,by decide,⟨by decide,by decide⟩,⟨by decide,by decide⟩,by decide,⟨by decide,by decide⟩,trivial⟩ h
def qH8 {c e:Nat->Int} {q:Int} {Q:V->Aev.Rows->Prop} {d:D} (h:qb (cS d) 0 (H3 c e q 8) Q):qb (cS d) 0 (H3 c e q 7) Q :=
 qb.turn (Yb d) (ql [] [] [] 0 false true) qr 300 [0,1,2] [1,2,40,6] (ps:=[IntKind.i64=IntKind.i64,(4:Int)≠(0:Int),IntKind.i64=IntKind.i64,(4:Int)≠(0:Int),qi (24:Int),qi (0:Int),(0:Int)<=(0:Int),qi (8:Int)]) (by kernel_rfl) ⟨rfl,by decide,rfl,by decide,⟨by decide,by decide⟩,⟨by decide,by decide⟩,by decide,⟨by decide,by decide⟩,trivial⟩ h
def qH9 {c e:Nat->Int} {q:Int} {Q:V->Aev.Rows->Prop} {d:D} (h:qb (cS d) 0 (H3 c e q 9) Q):qb (cS d) 0 (H3 c e q 8) Q :=
 qb.turn (Yb d) (ql [] [] [] 0 false true) qr 300 [0,1,2] [1,2,40,6] (ps:=[IntKind.i64=IntKind.i64,(4:Int)≠(0:Int),IntKind.i64=IntKind.i64,(4:Int)≠(0:Int),qi (0:Int),qi (24:Int),(0:Int)<=(24:Int),qi (9:Int)]) (by kernel_rfl) ⟨rfl,by decide,rfl,by decide,⟨by decide,by decide⟩,⟨by decide,by decide⟩,by decide,⟨by decide,by decide⟩,trivial⟩ h
def qIa {c e:Nat->Int} {q:Int} {Q:V->Aev.Rows->Prop} {d:D} (h:qb (cS d) 0 (H3 c e q 10) Q):qb (cS d) 0 (H3 c e q 9) Q :=
 qb.turn (Yb d) (ql [] [] [] 0 false true) qr 300 [0,1,2] [1,2,40,6] (ps:=[IntKind.i64=IntKind.i64,(4:Int)≠(0:Int),IntKind.i64=IntKind.i64,(4:Int)≠(0:Int),qi (8:Int),qi (16:Int),(0:Int)<=(16:Int),qi (10:Int)]) (by kernel_rfl) ⟨rfl,by decide,rfl,by decide,⟨by decide,by decide⟩,⟨by decide,by decide⟩,by decide,⟨by decide,by decide⟩,trivial⟩ h
def qIb {c e:Nat->Int} {q:Int} {Q:V->Aev.Rows->Prop} {d:D} (h:qb (cS d) 0 (H3 c e q 11) Q):qb (cS d) 0 (H3 c e q 10) Q :=
 qb.turn (Yb d) (ql [] [] [] 0 false true) qr 300 [0,1,2] [1,2,40,6] (ps:=[IntKind.i64=IntKind.i64,(4:Int)≠(0:Int),IntKind.i64=IntKind.i64,(4:Int)≠(0:Int),qi (16:Int),qi (8:Int),(0:Int)<=(8:Int),qi (11:Int)]) (by kernel_rfl) ⟨rfl,by decide,rfl,by decide,⟨by decide,by decide⟩,⟨by decide,by decide⟩,by decide,⟨by decide,by decide⟩,trivial⟩ h
def qIc {c e:Nat->Int} {q:Int} {Q:V->Aev.Rows->Prop} {d:D} (h:qb (cS d) 0 (H3 c e q 12) Q):qb (cS d) 0 (H3 c e q 11) Q :=
 qb.turn (Yb d) (ql [] [] [] 0 false true) qr 300 [0,1,2] [1,2,40,6] (ps:=[IntKind.i64=IntKind.i64,(4:Int)≠(0:Int),IntKind.i64=IntKind.i64,(4:Int)≠(0:Int),qi (24:Int),qi (0:Int),(0:Int)<=(0:Int),qi (12:Int)]) (by kernel_rfl) ⟨rfl,by decide,rfl,by decide,⟨by decide,by decide⟩,⟨by decide,by decide⟩,by decide,⟨by decide,by decide⟩,trivial⟩ h
def qId {c e:Nat->Int} {q:Int} {Q:V->Aev.Rows->Prop} {d:D} (h:qb (cS d) 0 (H3 c e q 13) Q):qb (cS d) 0 (H3 c e q 12) Q :=
 qb.turn (Yb d) (ql [] [] [] 0 false true) qr 300 [0,1,2] [1,2,40,6] (ps:=[IntKind.i64=IntKind.i64,(4:Int)≠(0:Int),IntKind.i64=IntKind.i64,(4:Int)≠(0:Int),qi (0:Int),qi (24:Int),(0:Int)<=(24:Int),qi (13:Int)]) (by kernel_rfl) ⟨rfl,by decide,rfl,by decide,⟨by decide,by decide⟩,⟨by decide,by decide⟩,by decide,⟨by decide,by decide⟩,trivial⟩ h
def qIe {c e:Nat->Int} {q:Int} {Q:V->Aev.Rows->Prop} {d:D} (h:qb (cS d) 0 (H3 c e q 14) Q):qb (cS d) 0 (H3 c e q 13) Q :=
 qb.turn (Yb d) (ql [] [] [] 0 false true) qr 300 [0,1,2] [1,2,40,6] (ps:=[IntKind.i64=IntKind.i64,(4:Int)≠(0:Int),IntKind.i64=IntKind.i64,(4:Int)≠(0:Int),qi (8:Int),qi (16:Int),(0:Int)<=(16:Int),qi (14:Int)]) (by kernel_rfl) ⟨rfl,by decide,rfl,by decide,⟨by decide,by decide⟩,⟨by decide,by decide⟩,by decide,⟨by decide,by decide⟩,trivial⟩ h
def qIf {c e:Nat->Int} {q:Int} {Q:V->Aev.Rows->Prop} {d:D} (h:qb (cS d) 0 (H3 c e q 15) Q):qb (cS d) 0 (H3 c e q 14) Q :=
 qb.turn (Yb d) (ql [] [] [] 0 false true) qr 300 [0,1,2] [1,2,40,6] (ps:=[IntKind.i64=IntKind.i64,(4:Int)≠(0:Int),IntKind.i64=IntKind.i64,(4:Int)≠(0:Int),qi (16:Int),qi (8:Int),(0:Int)<=(8:Int),qi (15:Int)]) (by kernel_rfl) ⟨rfl,by decide,rfl,by decide,⟨by decide,by decide⟩,⟨by decide,by decide⟩,by decide,⟨by decide,by decide⟩,trivial⟩ h
def qIg {c e:Nat->Int} {q:Int} {Q:V->Aev.Rows->Prop} {d:D} (h:qb (cS d) 0 (H3 c e q 16) Q):qb (cS d) 0 (H3 c e q 15) Q :=
 qb.turn (Yb d) (ql [] [] [] 0 false true) qr 300 [0,1,2] [1,2,40,6] (ps:=[IntKind.i64=IntKind.i64,(4:Int)≠(0:Int),IntKind.i64=IntKind.i64,(4:Int)≠(0:Int),qi (24:Int),qi (0:Int),(0:Int)<=(0:Int),qi (16:Int)]) (by kernel_rfl) ⟨rfl,by decide,rfl,by decide,⟨by decide,by decide⟩,⟨by decide,by decide⟩,by decide,⟨by decide,by decide⟩,trivial⟩ h
def qIh {c e:Nat->Int} {q:Int} {Q:V->Aev.Rows->Prop} {d:D} (h:qb (cS d) 0 (H3 c e q 17) Q):qb (cS d) 0 (H3 c e q 16) Q :=
 qb.turn (Yb d) (ql [] [] [] 0 false true) qr 300 [0,1,2] [1,2,40,6] (ps:=[IntKind.i64=IntKind.i64,(4:Int)≠(0:Int),IntKind.i64=IntKind.i64,(4:Int)≠(0:Int),qi (0:Int),qi (24:Int),(0:Int)<=(24:Int),qi (17:Int)]) (by kernel_rfl) ⟨rfl,by decide,rfl,by decide,⟨by decide,by decide⟩,⟨by decide,by decide⟩,by decide,⟨by decide,by decide⟩,trivial⟩ h
def qIi {c e:Nat->Int} {q:Int} {Q:V->Aev.Rows->Prop} {d:D} (h:qb (cS d) 0 (H3 c e q 18) Q):qb (cS d) 0 (H3 c e q 17) Q :=
 qb.turn (Yb d) (ql [] [] [] 0 false true) qr 300 [0,1,2] [1,2,40,6] (ps:=[IntKind.i64=IntKind.i64,(4:Int)≠(0:Int),IntKind.i64=IntKind.i64,(4:Int)≠(0:Int),qi (8:Int),qi (16:Int),(0:Int)<=(16:Int),qi (18:Int)]) (by kernel_rfl) ⟨rfl,by decide,rfl,by decide,⟨by decide,by decide⟩,⟨by decide,by decide⟩,by decide,⟨by decide,by decide⟩,trivial⟩ h
def qIj {c e:Nat->Int} {q:Int} {Q:V->Aev.Rows->Prop} {d:D} (h:qb (cS d) 0 (H3 c e q 19) Q):qb (cS d) 0 (H3 c e q 18) Q :=
 qb.turn (Yb d) (ql [] [] [] 0 false true) qr 300 [0,1,2] [1,2,40,6] (ps:=[IntKind.i64=IntKind.i64,(4:Int)≠(0:Int),IntKind.i64=IntKind.i64,(4:Int)≠(0:Int),qi (16:Int),qi (8:Int),(0:Int)<=(8:Int),qi (19:Int)]) (by kernel_rfl) ⟨rfl,by decide,rfl,by decide,⟨by decide,by decide⟩,⟨by decide,by decide⟩,by decide,⟨by decide,by decide⟩,trivial⟩ h
def qIk {c e:Nat->Int} {q:Int} {Q:V->Aev.Rows->Prop} {d:D} (h:qb (cS d) 0 (H3 c e q 20) Q):qb (cS d) 0 (H3 c e q 19) Q :=
 qb.turn (Yb d) (ql [] [] [] 0 false true) qr 300 [0,1,2] [1,2,40,6] (ps:=[IntKind.i64=IntKind.i64,(4:Int)≠(0:Int),IntKind.i64=IntKind.i64,(4:Int)≠(0:Int),qi (24:Int),qi (0:Int),(0:Int)<=(0:Int),qi (20:Int)]) (by kernel_rfl) ⟨rfl,by decide,rfl,by decide,⟨by decide,by decide⟩,⟨by decide,by decide⟩,by decide,⟨by decide,by decide⟩,trivial⟩ h
def qIl {c e:Nat->Int} {q:Int} {Q:V->Aev.Rows->Prop} {d:D} (h:qb (cS d) 0 (H3 c e q 21) Q):qb (cS d) 0 (H3 c e q 20) Q :=
 qb.turn (Yb d) (ql [] [] [] 0 false true) qr 300 [0,1,2] [1,2,40,6] (ps:=[IntKind.i64=IntKind.i64,(4:Int)≠(0:Int),IntKind.i64=IntKind.i64,(4:Int)≠(0:Int),qi (0:Int),qi (24:Int),(0:Int)<=(24:Int),qi (21:Int)]) (by kernel_rfl) ⟨rfl,by decide,rfl,by decide,⟨by decide,by decide⟩,⟨by decide,by decide⟩,by decide,⟨by decide,by decide⟩,trivial⟩ h
def qIm {c e:Nat->Int} {q:Int} {Q:V->Aev.Rows->Prop} {d:D} (h:qb (cS d) 0 (H3 c e q 22) Q):qb (cS d) 0 (H3 c e q 21) Q :=
 qb.turn (Yb d) (ql [] [] [] 0 false true) qr 300 [0,1,2] [1,2,40,6] (ps:=[IntKind.i64=IntKind.i64,(4:Int)≠(0:Int),IntKind.i64=IntKind.i64,(4:Int)≠(0:Int),qi (8:Int),qi (16:Int),(0:Int)<=(16:Int),qi (22:Int)]) (by kernel_rfl) ⟨rfl,by decide,rfl,by decide,⟨by decide,by decide⟩,⟨by decide,by decide⟩,by decide,⟨by decide,by decide⟩,trivial⟩ h
def qIn {c e:Nat->Int} {q:Int} {Q:V->Aev.Rows->Prop} {d:D} (h:qb (cS d) 0 (H3 c e q 23) Q):qb (cS d) 0 (H3 c e q 22) Q :=
 qb.turn (Yb d) (ql [] [] [] 0 false true) qr 300 [0,1,2] [1,2,40,6] (ps:=[IntKind.i64=IntKind.i64,(4:Int)≠(0:Int),IntKind.i64=IntKind.i64,(4:Int)≠(0:Int),qi (16:Int),qi (8:Int),(0:Int)<=(8:Int),qi (23:Int)]) (by kernel_rfl) ⟨rfl,by decide,rfl,by decide,⟨by decide,by decide⟩,⟨by decide,by decide⟩,by decide,⟨by decide,by decide⟩,trivial⟩ h
def qIo {c e:Nat->Int} {q:Int} {Q:V->Aev.Rows->Prop} {d:D} (h:qb (cS d) 0 (H3 c e q 24) Q):qb (cS d) 0 (H3 c e q 23) Q :=
 qb.turn (Yb d) (ql [] [] [] 0 false true) qr 300 [0,1,2] [1,2,40,6] (ps:=[IntKind.i64=IntKind.i64,(4:Int)≠(0:Int),IntKind.i64=IntKind.i64,(4:Int)≠(0:Int),qi (24:Int),qi (0:Int),(0:Int)<=(0:Int),qi (24:Int)]) (by kernel_rfl) ⟨rfl,by decide,rfl,by decide,⟨by decide,by decide⟩,⟨by decide,by decide⟩,by decide,⟨by decide,by decide⟩,trivial⟩ h
def qIp {c e:Nat->Int} {q:Int} {Q:V->Aev.Rows->Prop} {d:D} (h:qb (cS d) 0 (H3 c e q 25) Q):qb (cS d) 0 (H3 c e q 24) Q :=
 qb.turn (Yb d) (ql [] [] [] 0 false true) qr 300 [0,1,2] [1,2,40,6] (ps:=[IntKind.i64=IntKind.i64,(4:Int)≠(0:Int),IntKind.i64=IntKind.i64,(4:Int)≠(0:Int),qi (0:Int),qi (24:Int),(0:Int)<=(24:Int),qi (25:Int)]) (by kernel_rfl) ⟨rfl,by decide,rfl,by decide,⟨by decide,by decide⟩,⟨by decide,by decide⟩,by decide,⟨by decide,by decide⟩,trivial⟩ h
def qIq {c e:Nat->Int} {q:Int} {Q:V->Aev.Rows->Prop} {d:D} (h:qb (cS d) 0 (H3 c e q 26) Q):qb (cS d) 0 (H3 c e q 25) Q :=
 qb.turn (Yb d) (ql [] [] [] 0 false true) qr 300 [0,1,2] [1,2,40,6] (ps:=[IntKind.i64=IntKind.i64,(4:Int)≠(0:Int),IntKind.i64=IntKind.i64,(4:Int)≠(0:Int),qi (8:Int),qi (16:Int),(0:Int)<=(16:Int),qi (26:Int)]) (by kernel_rfl) ⟨rfl,by decide,rfl,by decide,⟨by decide,by decide⟩,⟨by decide,by decide⟩,by decide,⟨by decide,by decide⟩,trivial⟩ h
def qIr {c e:Nat->Int} {q:Int} {Q:V->Aev.Rows->Prop} {d:D} (h:qb (cS d) 0 (H3 c e q 27) Q):qb (cS d) 0 (H3 c e q 26) Q :=
 qb.turn (Yb d) (ql [] [] [] 0 false true) qr 300 [0,1,2] [1,2,40,6] (ps:=[IntKind.i64=IntKind.i64,(4:Int)≠(0:Int),IntKind.i64=IntKind.i64,(4:Int)≠(0:Int),qi (16:Int),qi (8:Int),(0:Int)<=(8:Int),qi (27:Int)]) (by kernel_rfl) ⟨rfl,by decide,rfl,by decide,⟨by decide,by decide⟩,⟨by decide,by decide⟩,by decide,⟨by decide,by decide⟩,trivial⟩ h
def qIs {c e:Nat->Int} {q:Int} {Q:V->Aev.Rows->Prop} {d:D} (h:qb (cS d) 0 (H3 c e q 28) Q):qb (cS d) 0 (H3 c e q 27) Q :=
 qb.turn (Yb d) (ql [] [] [] 0 false true) qr 300 [0,1,2] [1,2,40,6] (ps:=[IntKind.i64=IntKind.i64,(4:Int)≠(0:Int),IntKind.i64=IntKind.i64,(4:Int)≠(0:Int),qi (24:Int),qi (0:Int),(0:Int)<=(0:Int),qi (28:Int)]) (by kernel_rfl) ⟨rfl,by decide,rfl,by decide,⟨by decide,by decide⟩,⟨by decide,by decide⟩,by decide,⟨by decide,by decide⟩,trivial⟩ h
def qIt {c e:Nat->Int} {q:Int} {Q:V->Aev.Rows->Prop} {d:D} (h:qb (cS d) 0 (H3 c e q 29) Q):qb (cS d) 0 (H3 c e q 28) Q :=
 qb.turn (Yb d) (ql [] [] [] 0 false true) qr 300 [0,1,2] [1,2,40,6] (ps:=[IntKind.i64=IntKind.i64,(4:Int)≠(0:Int),IntKind.i64=IntKind.i64,(4:Int)≠(0:Int),qi (0:Int),qi (24:Int),(0:Int)<=(24:Int),qi (29:Int)]) (by kernel_rfl) ⟨rfl,by decide,rfl,by decide,⟨by decide,by decide⟩,⟨by decide,by decide⟩,by decide,⟨by decide,by decide⟩,trivial⟩ h
def qIu {c e:Nat->Int} {q:Int} {Q:V->Aev.Rows->Prop} {d:D} (h:qb (cS d) 0 (H3 c e q 30) Q):qb (cS d) 0 (H3 c e q 29) Q :=
 qb.turn (Yb d) (ql [] [] [] 0 false true) qr 300 [0,1,2] [1,2,40,6] (ps:=[IntKind.i64=IntKind.i64,(4:Int)≠(0:Int),IntKind.i64=IntKind.i64,(4:Int)≠(0:Int),qi (8:Int),qi (16:Int),(0:Int)<=(16:Int),qi (30:Int)]) (by kernel_rfl) ⟨rfl,by decide,rfl,by decide,⟨by decide,by decide⟩,⟨by decide,by decide⟩,by decide,⟨by decide,by decide⟩,trivial⟩ h
def qIv {c e:Nat->Int} {q:Int} {Q:V->Aev.Rows->Prop} {d:D} (h:qb (cS d) 0 (H3 c e q 31) Q):qb (cS d) 0 (H3 c e q 30) Q :=
 qb.turn (Yb d) (ql [] [] [] 0 false true) qr 300 [0,1,2] [1,2,40,6] (ps:=[IntKind.i64=IntKind.i64,(4:Int)≠(0:Int),IntKind.i64=IntKind.i64,(4:Int)≠(0:Int),qi (16:Int),qi (8:Int),(0:Int)<=(8:Int),qi (31:Int)]) (by kernel_rfl) ⟨rfl,by decide,rfl,by decide,⟨by decide,by decide⟩,⟨by decide,by decide⟩,by decide,⟨by decide,by decide⟩,trivial⟩ h
def qIw {c e:Nat->Int} {q:Int} {Q:V->Aev.Rows->Prop} {d:D} (h:qb (cS d) 0 (H3 c e q 32) Q):qb (cS d) 0 (H3 c e q 31) Q :=
 qb.turn (Yb d) (ql [] [] [] 0 false true) qr 300 [0,1,2] [1,2,40,6] (ps:=[IntKind.i64=IntKind.i64,(4:Int)≠(0:Int),IntKind.i64=IntKind.i64,(4:Int)≠(0:Int),qi (24:Int),qi (0:Int),(0:Int)<=(0:Int),qi (32:Int)]) (by kernel_rfl) ⟨rfl,by decide,rfl,by decide,⟨by decide,by decide⟩,⟨by decide,by decide⟩,by decide,⟨by decide,by decide⟩,trivial⟩ h
def qIx {c e:Nat->Int} {q:Int} {d:D}:qb (cS d) 0 (H3 c e q 32) (Fin (.d (.agg (Y0 (ww8 c) 32)))) :=
 qb.fin' (Yb d) (ql [] [] [] 0 false true) (fun _=>false) 300 (ps:=[]) (qs:=[]) (by kernel_rfl) trivial trivial
def qIy {c e:Nat->Int} {q:Int} {d:D}:qb (cS d) 0 (H3 c e q 0) (Fin (.d (.agg (Y0 (ww8 c) 32)))) :=
 qH1 (qH2 (qH3 (qH4 (qH5 (qH6 (qH7 (qH8 (qH9 (qIa (qIb (qIc (qId (qIe (qIf (qIg (qIh (qIi (qIj (qIk (qIl (qIm (qIn (qIo (qIp (qIq (qIr (qIs (qIt (qIu (qIv (qIw (qIx))))))))))))))))))))))))))))))))
def qxN {o:List UInt8} {z:Int} {y:UInt8} (h:z=y.toNat):qd8 o z=qe (o++[y]):=by
 unfold qd8;rw[qgt,qis,h]; rfl
def qIz {a b:Nat->Int} {n:Int} {o:List UInt8} {ex:Bool} {z:Int} {y:UInt8} (h:z=y.toNat):H1g a b n (qd8 o z) (o.length+1) ex=H1 a b n (o++[y]) ex:=by
 unfold H1;rw[qxN h,qTN]; rfl
def qIA {a b:Nat->Int} {n:Int} {o:List UInt8} {ex:Bool} {i z:Int} {y:UInt8} (h:z=y.toNat):H2g a b n (qd8 o z) (o.length+1) ex i=H2 a b n (o++[y]) ex i:=by
 unfold H2;rw[qxN h,qTN]; rfl
def qxO {o:List UInt8} (h:o.length<=100):qfd o:=⟨by omega,by omega,rfl,rfl,by rw[qZ]; omega,by omega,by omega,by omega⟩
def qfe (L:Nat):List UInt8:=[0,0,0,0,0,0,UInt8.ofNat (8*L / 256),UInt8.ofNat (8*L % 256)]
def qxP:Bool:=(List.range 56).all fun L=>(List.range 8).all fun i=>decide (IntKind.wrap IntKind.u8 (Int.fdiv (IntKind.wrap IntKind.u64 ((8:Int)*(L:Nat))) ((2:Int) ^ min (Int.toNat ((56:Int) - (8:Int)*(i:Nat))) 64))=((((qfe L).getD i 0).toNat:Nat):Int))
def qIB:qxP=true:=by kernel_rfl
def qIC {L i:Nat} (hL:L<56) (hi:i<8):IntKind.wrap IntKind.u8 (Int.fdiv (IntKind.wrap IntKind.u64 ((8:Int)*(L:Nat))) ((2:Int) ^ min (Int.toNat ((56:Int) - (8:Int)*(i:Nat))) 64))=((((qfe L).getD i 0).toNat:Nat):Int):=by
 have h:=qIB;unfold qxP at h;have h:=qTI.1 h L (qU2.2 hL);have h:=qTI.1 h i (qU2.2 hi);exact of_decide_eq_true h
def qxQ {L:Nat} (h:L<56):IntKind.wrap IntKind.i64 (L:Int)=(L:Int):=qib (by unfold qi; omega)
def qID {m:Nat} (h:m<56):((Int.tmod (m:Int) 64) != (56:Int))=true:=by
 have e:Int.tmod (m:Int) 64=(m:Int):=by rw[qWq (by omega)]; omega
 rw[e,bne_iff_ne]; omega
def qb5:∀o:List UInt8,List.map unB (qe o)=o
 | []=>rfl|y::o=>by
  have e:unB (Yq y)=y:=by
   unfold unB Yq;simp
  show unB (Yq y)::List.map unB (qe o)=_;rw[e,qb5 o]
variable {a b c e:Nat->Int} {q:Int} {L:Nat}
def qcJ (L:Nat):List UInt8:=128::(List.replicate (55 - L) 0++qfe L)
def qIE {o:List UInt8} (h:RCs PP 103 [.d (stm a b L),.d (.str ⟨⟨o⟩⟩)] [] (.d (stm c e q))):qb (cS (stm c e q)) 0 (H2 a b L o false 8) (Fin (.d (.agg (Y0 (ww8 c) 32)))) :=
 qH0 ⟨rfl,rfl,by rw[qZ]; omega,by rw[qgt,qb5],by rw[qgt,qb5]; exact h,trivial⟩ qIy
def qd9 {Q:V->Aev.Rows->Prop} {o:List UInt8} {i:Nat} (hL:L<56) (ho:o.length<=100) (hi:i<8) (ex:Bool) (h:qb (cS (stm c e q)) 0 (H2 a b L (o++[(qfe L).getD i 0]) false (i+1:Nat)) Q):qb (cS (stm c e q)) 0 (H2 a b L o ex (i:Nat)) Q:=by
 have hp:qh [decide ((i:Int)<(8:Int))=true,qi ((8:Int)*(i:Nat)),qi ((56:Int) - (8:Int)*(i:Nat)),(0:Int)<=(56:Int) - (8:Int)*(i:Nat),1=1/\1=1/\1<=1,qfd o,qi ((i:Int)+(1:Int))]:=⟨decide_eq_true (by omega),by unfold qi; omega,by unfold qi; omega,by omega,⟨rfl,rfl,by omega⟩,qxO ho,by unfold qi; omega,trivial⟩
 have h':=h;rw[<-qIA (qIC hL hi)]at h'
 cases ex with
 | true=>exact qHW hp h'|false=>exact qHZ hp h'
def qIF {o:List UInt8} (hL:L<56) (ho:o.length<=80) (ex:Bool) (h:RCs PP 103 [.d (stm a b L),.d (.str ⟨⟨o++qfe L⟩⟩)] [] (.d (stm c e q))):qb (cS (stm c e q)) 0 (H2 a b L o ex 0) (Fin (.d (.agg (Y0 (ww8 c) 32)))):=by
 refine qd9 (i:=0) hL (by omega) (by decide) ex ?_;refine qd9 (i:=1) hL (by simp; omega) (by decide) false ?_;refine qd9 (i:=2) hL (by simp; omega) (by decide) false ?_;refine qd9 (i:=3) hL (by simp; omega) (by decide) false ?_;refine qd9 (i:=4) hL (by simp; omega) (by decide) false ?_;refine qd9 (i:=5) hL (by simp; omega) (by decide) false ?_;refine qd9 (i:=6) hL (by simp; omega) (by decide) false ?_;refine qd9 (i:=7) hL (by simp; omega) (by decide) false ?_;refine qIE ?_;simp only[qTW];exact h
def qIG (hL:L<56):∀(j:Nat) (o:List UInt8) (ex:Bool),L+o.length+j=56->RCs PP 103 [.d (stm a b L),.d (.str ⟨⟨o++(List.replicate j 0++qfe L)⟩⟩)] [] (.d (stm c e q))->qb (cS (stm c e q)) 0 (H1 a b L o ex) (Fin (.d (.agg (Y0 (ww8 c) 32)))):=by
 intro j
 induction j with
 | zero =>
  intro o ex hj h;have hp:qh [qi (IntKind.wrap IntKind.i64 (L:Int)+(↑o.length:Int)),IntKind.i64=IntKind.i64,(64:Int)≠(0:Int),(Int.tmod (IntKind.wrap IntKind.i64 (L:Int)+(↑o.length:Int)) (64:Int) != (56:Int))=false]:=by
   rw[qxQ hL,show(L:Int)+(↑o.length:Int)=56 by omega];exact⟨by unfold qi; omega,rfl,by decide,by decide,trivial⟩
  have h2:=qIF (a:=a) (b:=b) (c:=c) (e:=e) (q:=q) hL (o:=o) (by omega) ex h
  cases ex with
  | true=>exact qHV hp h2|false=>exact qHY hp h2
 | succ j ih =>
  intro o ex hj h;have hp:qh [qi (IntKind.wrap IntKind.i64 (L:Int)+(↑o.length:Int)),IntKind.i64=IntKind.i64,(64:Int)≠(0:Int),(Int.tmod (IntKind.wrap IntKind.i64 (L:Int)+(↑o.length:Int)) (64:Int) != (56:Int))=true,1=1/\1=1/\1<=1,qfd o]:=by
   rw[qxQ hL,show(L:Int)+(↑o.length:Int)=((L+o.length:Nat):Int) by omega];exact⟨by unfold qi; omega,rfl,by decide,qID (by omega),⟨rfl,rfl,by omega⟩,qxO (by omega),trivial⟩
  have h2:=ih (o++[0]) false (by simp; omega) (by rw[qTW]; exact h);rw[<-qIz (z:=0) (y:=0) rfl]at h2
  cases ex with
  | true=>exact qHU hp h2|false=>exact qHX hp h2
def qIH (hL:L<56) (h:RCs PP 103 [.d (stm a b L),.d (.str ⟨⟨qcJ L⟩⟩)] [] (.d (stm c e q))):RCs PP 105 [.d (stm a b L)] [] (.d (.agg (Y0 (ww8 c) 32))) :=
 qE (Yb (stm c e q)) (by kernel_rfl) (qHT (qIG hL (55 - L) [128] true (by show L+1+(55 - L)=56; omega) h))
end
section
def qHb (S1 S2 S3:D) (G:ByteArray->List UInt8) (r:List D) (g:FuncId):Option (List V->V):=match Nat.beq g 102,Nat.beq g 103,Nat.beq g 104,Nat.beq g 105 with
 | true,_,_,_=>some fun _=>.d (stm iv0 (fun _=>0) 0)
 | _,true,_,_=>some fun args=>match args with
  | [.d (.agg cs),_]=>match cs.getD 72 .nilp with
   | .int _ (Int.ofNat 0)=>.d S1|.int _ (Int.ofNat 1)=>.d S2|_=>.d S3
  | _=>.nil
 | _,_,true,_=>some fun args=>match args with
  | [.d (.str t)]=>LB (G t)|_=>.nil
 | _,_,_,true=>some fun _=>.d (.agg r)
 | _,_,_,_=>none
def cO (S1 S2 S3:D) (G:ByteArray->List UInt8) (r:List D):qt:=kA (qHb S1 S2 S3 G r)
def qdf (S1 S2 S3:D) (G:ByteArray->List UInt8) (r:List D):COK (cO S1 S2 S3 G r).cfg:=qR _
def qHc:List qL:=(JC (sTo (cO (stm iv0 iv0 1) .nilp .nilp (fun _=>[]) []) (ql [] [] [] 0 false true) qr 300 (start (cO (stm iv0 iv0 1) .nilp .nilp (fun _=>[]) []) 48 [I 291,.d (.list [.str ⟨⟨[]⟩⟩])] []))).fr.todo
def Q1 (a b:Nat->Int) (n:Int) (ts:List D) (k:Int):AS:=hd 48 qHc 32 [(4,.pt 0 0 0 0),(5,.pt 1 0 0 0),(15,.d (.list ts)),(16,I ts.length),(17,I k)] [.live (.box ((List.range 16).map fun _=>V.d (.int .u8 0)) false),BX a b n]
def r32 (r:Nat->Int):List D:=(List.range 32).map fun i=>.int .u8 (r i)
def r16 (r:Nat->Int):List D:=(List.range 16).map fun i=>.int .u8 (r i)
variable {a1 b1 a2 b2 a3 b3:Nat->Int} {n2 n3:Int} {S2 S3:D} {G:ByteArray->List UInt8} {r:Nat->Int} {t u:ByteArray} {Q:V->Aev.Rows->Prop}
def JO (s:D) (x:ByteArray) (s':D):Prop:=RCs PP 103 [.d s,.d (.str x)] [] (.d s')
def qHd (h1:JO (stm iv0 (fun _=>0) 0) ⟨⟨[35]⟩⟩ (stm a1 b1 1)) (h:qb (cO (stm a1 b1 1) S2 S3 G (r32 r)) 0 (Q1 a1 b1 1 [.str t] 0) Q):qb (cO (stm a1 b1 1) S2 S3 G (r32 r)) 0 (start (cO (stm a1 b1 1) S2 S3 G (r32 r)) 48 [I 291,.d (.list [.str t])] []) Q :=
 qb.turn (qdf (stm a1 b1 1) S2 S3 G (r32 r)) (ql [] [] [] 0 false true) qr 600 [0,7] [4,5,15,16,17] (ps:=[RCs PP 102 [] [] (.d (stm iv0 (fun _=>0) 0)),1=1,1=1,1<=1,[D.int IntKind.u8 (35:Int)]=[D.int IntKind.u8 (35:Int)],JO (stm iv0 (fun _=>0) 0) ⟨⟨[35]⟩⟩ (stm a1 b1 1)]) (by kernel_rfl) ⟨qw1,rfl,rfl,by omega,rfl,h1,trivial⟩ h
def qHe (h1:JO (stm iv0 (fun _=>0) 0) ⟨⟨[31]⟩⟩ (stm a1 b1 1)) (h:qb (cO (stm a1 b1 1) S2 S3 G (r32 r)) 0 (Q1 a1 b1 1 [.str t,.str u] 0) Q):qb (cO (stm a1 b1 1) S2 S3 G (r32 r)) 0 (start (cO (stm a1 b1 1) S2 S3 G (r32 r)) 48 [I 31,.d (.list [.str t,.str u])] []) Q :=
 qb.turn (qdf (stm a1 b1 1) S2 S3 G (r32 r)) (ql [] [] [] 0 false true) qr 600 [0,7] [4,5,15,16,17] (ps:=[RCs PP 102 [] [] (.d (stm iv0 (fun _=>0) 0)),1=1,1=1,1<=1,[D.int IntKind.u8 (31:Int)]=[D.int IntKind.u8 (31:Int)],JO (stm iv0 (fun _=>0) 0) ⟨⟨[31]⟩⟩ (stm a1 b1 1)]) (by kernel_rfl) ⟨qw1,rfl,rfl,by omega,rfl,h1,trivial⟩ h
def txB (G:ByteArray->List UInt8) (t:ByteArray):ByteArray:=⟨⟨List.map unB (qe (G t))⟩⟩
def qq6:txB G t=⟨⟨G t⟩⟩:=by unfold txB; rw[qb5]
def qHf (h1:RCs PP 104 [.d (.str t)] [] (LB (G t))) (h2:JO (stm a1 b1 1) ⟨⟨G t⟩⟩ (stm a2 b2 n2)) (h:qb (cO (stm a1 b1 1) (stm a2 b2 n2) S3 G (r32 r)) 0 (Q1 a2 b2 n2 [.str t] 1) Q):qb (cO (stm a1 b1 1) (stm a2 b2 n2) S3 G (r32 r)) 0 (Q1 a1 b1 1 [.str t] 0) Q :=
 qb.turn (qdf (stm a1 b1 1) (stm a2 b2 n2) S3 G (r32 r)) (ql [] [] [] 0 false true) qr 600 [0,1] [4,5,15,16,17] (ps:=[RCs PP 104 [.d (.str t)] [] (LB (G t)),qe (G t)=qe (List.map unB (qe (G t))),JO (stm a1 b1 1) (txB G t) (stm a2 b2 n2),qi (1:Int)]) (by kernel_rfl) ⟨h1,by rw[qb5],by rw[qq6]; exact h2,⟨by decide,by decide⟩,trivial⟩ h
def qHg (h1:RCs PP 104 [.d (.str t)] [] (LB (G t))) (h2:JO (stm a1 b1 1) ⟨⟨G t⟩⟩ (stm a2 b2 n2)) (h:qb (cO (stm a1 b1 1) (stm a2 b2 n2) S3 G (r32 r)) 0 (Q1 a2 b2 n2 [.str t,.str u] 1) Q):qb (cO (stm a1 b1 1) (stm a2 b2 n2) S3 G (r32 r)) 0 (Q1 a1 b1 1 [.str t,.str u] 0) Q :=
 qb.turn (qdf (stm a1 b1 1) (stm a2 b2 n2) S3 G (r32 r)) (ql [] [] [] 0 false true) qr 600 [0,1] [4,5,15,16,17] (ps:=[RCs PP 104 [.d (.str t)] [] (LB (G t)),qe (G t)=qe (List.map unB (qe (G t))),JO (stm a1 b1 1) (txB G t) (stm a2 b2 n2),qi (1:Int)]) (by kernel_rfl) ⟨h1,by rw[qb5],by rw[qq6]; exact h2,⟨by decide,by decide⟩,trivial⟩ h
def qHh (h1:RCs PP 104 [.d (.str u)] [] (LB (G u))) (h2:JO (stm a2 b2 18) ⟨⟨G u⟩⟩ (stm a3 b3 n3)) (h:qb (cO (stm a1 b1 1) (stm a2 b2 18) (stm a3 b3 n3) G (r32 r)) 0 (Q1 a3 b3 n3 [.str t,.str u] 2) Q):qb (cO (stm a1 b1 1) (stm a2 b2 18) (stm a3 b3 n3) G (r32 r)) 0 (Q1 a2 b2 18 [.str t,.str u] 1) Q :=
 qb.turn (qdf (stm a1 b1 1) (stm a2 b2 18) (stm a3 b3 n3) G (r32 r)) (ql [] [] [] 0 false true) qr 600 [0,1] [4,5,15,16,17] (ps:=[RCs PP 104 [.d (.str u)] [] (LB (G u)),qe (G u)=qe (List.map unB (qe (G u))),JO (stm a2 b2 18) (txB G u) (stm a3 b3 n3),qi (2:Int)]) (by kernel_rfl) ⟨h1,by rw[qb5],by rw[qq6]; exact h2,⟨by decide,by decide⟩,trivial⟩ h
def qHi {S1:D} (h1:RCs PP 105 [.d (stm a2 b2 n2)] [] (.d (.agg (r32 r)))):qb (cO S1 S2 S3 G (r32 r)) 0 (Q1 a2 b2 n2 [.str t] 1) (Fin (.d (.agg (r16 r)))) :=
 qb.fin' (qdf S1 S2 S3 G (r32 r)) (ql [] [] [] 0 false true) (fun _=>false) 600 (ps:=[RCs PP 105 [.d (stm a2 b2 n2)] [] (.d (.agg (r32 r)))]) (qs:=[]) (by kernel_rfl) ⟨h1,trivial⟩ trivial
def qHj {S1:D} (h1:RCs PP 105 [.d (stm a3 b3 n3)] [] (.d (.agg (r32 r)))):qb (cO S1 S2 S3 G (r32 r)) 0 (Q1 a3 b3 n3 [.str t,.str u] 2) (Fin (.d (.agg (r16 r)))) :=
 qb.fin' (qdf S1 S2 S3 G (r32 r)) (ql [] [] [] 0 false true) (fun _=>false) 600 (ps:=[RCs PP 105 [.d (stm a3 b3 n3)] [] (.d (.agg (r32 r)))]) (qs:=[]) (by kernel_rfl) ⟨h1,trivial⟩ trivial
def qHk (h0:JO (stm iv0 (fun _=>0) 0) ⟨⟨[35]⟩⟩ (stm a1 b1 1)) (h1:RCs PP 104 [.d (.str t)] [] (LB (G t))) (h2:JO (stm a1 b1 1) ⟨⟨G t⟩⟩ (stm a2 b2 n2)) (h3:RCs PP 105 [.d (stm a2 b2 n2)] [] (.d (.agg (r32 r)))):RCs PP 48 [I 291,.d (.list [.str t])] [] (.d (.agg (r16 r))) :=
 qE (qdf (stm a1 b1 1) (stm a2 b2 n2) .nilp G (r32 r)) (by kernel_rfl) (qHd h0 (qHf h1 h2 (qHi h3)))
def qHl (h0:JO (stm iv0 (fun _=>0) 0) ⟨⟨[31]⟩⟩ (stm a1 b1 1)) (h1:RCs PP 104 [.d (.str t)] [] (LB (G t))) (h2:JO (stm a1 b1 1) ⟨⟨G t⟩⟩ (stm a2 b2 18)) (h4:RCs PP 104 [.d (.str u)] [] (LB (G u))) (h5:JO (stm a2 b2 18) ⟨⟨G u⟩⟩ (stm a3 b3 n3)) (h3:RCs PP 105 [.d (stm a3 b3 n3)] [] (.d (.agg (r32 r)))):RCs PP 48 [I 31,.d (.list [.str t,.str u])] [] (.d (.agg (r16 r))) :=
 qE (qdf (stm a1 b1 1) (stm a2 b2 18) (stm a3 b3 n3) G (r32 r)) (by kernel_rfl) (qHe h0 (qHg h1 h2 (qHh h4 h5 (qHj h3))))
end
section
def y16 (y:Nat->UInt8):List D:=(List.range 16).map fun i=>Yq (y i)
def qG8 (b:List UInt8) (r:D) (g:FuncId):Option (List V->V):=match Nat.beq g 48,Nat.beq g 49 with
 | true,_=>some fun _=>.d r
 | _,true=>some fun _=>LB b
 | _,_=>none
def cN (b:List UInt8) (r:D):qt:=kA (qG8 b r)
def qlu (b:List UInt8) (r:D):COK (cN b r).cfg:=qR _
def hN (y z:Nat->UInt8):qw:={ql [] [] [] 1 false true with arr:=fun r=>match r with|0=>some (16,y16 y,fun _=>.nilp) | 1=>some (16,y16 z,fun _=>.nilp) | _=>none}
def qb4 (y:Nat->UInt8):List D:=List.take 16 (List.drop 0 (y16 y))
def txY (y:Nat->UInt8):ByteArray:=⟨⟨List.map unB (qb4 y)⟩⟩
def qxB (y:Nat->UInt8):qb4 y=qe (List.map unB (qb4 y)):=by
 have e:qb4 y=qe ((List.range 16).map y):=by
  unfold qb4;rw[qTY,qTX (by simp[y16])];unfold y16 qe;rw[qUs]; rfl
 rw[e,qb5]
variable {y z:Nat->UInt8} {r:Nat->Int} {b:List UInt8} {k n:Int}
def qG9 (h:RCs PP 48 [I 31,.d (.list [.str (txY y),.str (txY z)])] [] (.d (.agg (r16 r)))):RCs PP 113 [.d (.agg (y16 y)),.d (.agg (y16 z))] [] (.d (.agg (r16 r))) :=
 qE (qlu [] (.agg (r16 r))) (by kernel_rfl) (qb.fin' (qlu [] (.agg (r16 r))) (hN y z) (fun _=>false) 200
  (ps:=[(y16 y).map V.d=(y16 y).map V.d,0<=16,16<=16,16<=16,1<=16,1=1,(y16 y).map V.d=(y16 y).map V.d,16<=16,qb4 y=qe (List.map unB (qb4 y)),(y16 z).map V.d=(y16 z).map V.d,0<=16,16<=16,16<=16,1<=16,1=1,(y16 z).map V.d=(y16 z).map V.d,16<=16,qb4 z=qe (List.map unB (qb4 z)),1=1/\2<=2,RCs PP 48 [I 31,.d (.list [.str (txY y),.str (txY z)])] [] (.d (.agg (r16 r)))]) (qs:=[]) (by kernel_rfl)
  ⟨rfl,by omega,by omega,by omega,by omega,rfl,rfl,by omega,qxB y,rfl,by omega,by omega,by omega,by omega,rfl,rfl,by omega,qxB z,⟨rfl,by omega⟩,h,trivial⟩ trivial)
def qHa (h:RCs PP 49 [.d (.list [.int .i64 k,.int .i64 n])] [] (LB b)) (h2:RCs PP 48 [I 291,.d (.list [.str ⟨⟨b⟩⟩])] [] (.d (.agg (r16 r)))):RCs PP 16 [I k,I n] [] (.d (.agg (r16 r))) :=
 qE (qlu b (.agg (r16 r))) (by kernel_rfl) (qb.fin' (qlu b (.agg (r16 r))) (ql [] [] [] 0 false true) (fun _=>false) 200
  (ps:=[1=1/\2<=2,RCs PP 49 [.d (.list [.int .i64 k,.int .i64 n])] [] (LB b),qe b=qe (List.map unB (qe b)),1=1/\1<=1,RCs PP 48 [I 291,.d (.list [.str ⟨⟨List.map unB (qe b)⟩⟩])] [] (.d (.agg (r16 r)))]) (qs:=[]) (by kernel_rfl)
  ⟨⟨rfl,by omega⟩,h,by rw[qb5],⟨rfl,by omega⟩,by rw[qb5]; exact h2,trivial⟩ trivial)
end
abbrev c_ (x:D) (n:Nat):D:=(x.cells).getD n .nilp
def nI (d:D):Int:=match d with
 | .int _ n=>n|_=>0
def lI (d:D):List D:=match d with
 | .list l=>l|_=>[]
def qbC (s:Nat->D):D:=.agg [s 0,s 1,s 2,s 3,s 4,s 5,s 6,s 7,s 8,s 9,s 10,s 11,s 12,s 13,s 14,s 15,s 16]
def qiu (x:D):D:=.agg [.int .i64 (nI (c_ x 0)),.int .i64 (nI (c_ x 1)),.int .i64 (nI (c_ x 2)),.int .i64 (nI (c_ x 3)),.int .i64 (nI (c_ x 4)),.int .i64 (nI (c_ x 5)),.int .i64 (nI (c_ x 6)),.list (lI (c_ x 7)),.list (lI (c_ x 8))]
def Y3 (a b:Int):D:=.agg [.int .i64 a,.int .i64 b]
def elE (es:List D):Nat->D:=fun i=>qiu (es.getD i .nilp)
def qxr (es:List D) (g:FuncId):Option (List V->V):=match Nat.beq g 22 with
 | true=>some fun _=>.d (.list es)
 | false=>none
def c22 (es:List D):qt:=kA (qxr es)
def qlt (es:List D):COK (c22 es).cfg:=qR _
def kq (k:D) (a b:Int):Bool:=match k with
 | .agg [.int .i64 x,.int .i64 y]=>x==a&&y==b|_=>false
def fk (a b:Int):List (D×V)->Nat->Option (Nat×V)
 | [],_=>none|(k,v)::r,i=>match kq k a b with
  | true=>some (i,v)|false=>fk a b r (i+1)
def KM (m:List (D×V)):Prop:=∀p∈m,∃a b:Int,∃d:D,p=(Y3 a b,.d d)
def qiv (x y a b:Int):kq (Y3 x y) a b=(x==a&&y==b):=rfl
def qGZ (a b x y:Int):qeS (Y3 a b) (Y3 x y)=some (kq (Y3 x y) a b):=by
 show qaf [.int .i64 a,.int .i64 b] [.int .i64 x,.int .i64 y]=_;simp only[qaf,qa3,if_true,qiv];rw[show(a==x)=(x==a) from Bool.beq_comm,show(b==y)=(y==b) from Bool.beq_comm];cases (x==a)<;>cases (y==b)<;>rfl
def qq4 (a b:Int):∀{m:List (D×V)} (i:Nat),KM m->qas (Y3 a b) m i=some (fk a b m i)
 | [],i,_=>rfl|(k,v)::r,i,h=>by
  obtain⟨x,y,d,e⟩:=h _ qTR;obtain⟨rfl,rfl⟩:=Prod.mk.inj e;have ih:=qq4 a b (m:=r) (i+1) fun p hp=>h p (qTG _ hp)
  unfold qas fk;rw[qGZ];cases kq (Y3 x y) a b
  ·exact ih
  ·rfl
def qaQ (a b:Int) (d:D):List (D×V)->List (D×V)
 | []=>[(Y3 a b,.d d)]|(k,v)::r=>match kq k a b with
  | true=>(Y3 a b,.d d)::r|false=>(k,v)::qaQ a b d r
def qxs {a b:Int} {d:D}:∀{m:List (D×V)} {i:Nat},fk a b m i=none->qaQ a b d m=m++[(Y3 a b,.d d)]
 | [],_,_=>rfl|(k,v)::r,i,h=>by
  unfold fk at h;unfold qaQ
  cases e:kq k a b with
  | true=>rw[e]at h; cases h
  | false =>
   rw[e]at h;show(k,v)::qaQ a b d r=_;rw[qxs h]; rfl
def qxt {a b:Int}:∀{m:List (D×V)} {i j:Nat} {v:V},fk a b m i=some (j,v)->i<=j
 | [],_,_,_,h=>by cases h
 | (k,u)::r,i,j,v,h=>by
  unfold fk at h
  cases e:kq k a b with
  | true=>rw[e]at h; cases h; exact qTF _
  | false =>
   rw[e]at h;have:=qxt h;omega
def qxu {a b:Int} {d:D}:∀{m:List (D×V)} {i j:Nat} {v:V},fk a b m i=some (j,v)->qaQ a b d m=m.set (j - i) (Y3 a b,.d d)
 | [],_,_,_,h=>by cases h
 | (k,u)::r,i,j,v,h=>by
  unfold fk at h;unfold qaQ
  cases e:kq k a b with
  | true=>rw[e]at h; cases h; rw[Nat.sub_self]; rfl
  | false =>
   rw[e]at h;have hl:=qxt h;show(k,u)::qaQ a b d r=_;rw[qxu h,show j - i=(j - (i+1))+1 by omega]; rfl
def qG0 {a b:Int} {d:D} {m:List (D×V)} (h:KM m):qic m m.length (Y3 a b) (.d d) (qaQ a b d m):=by
 unfold qic qqt;rw[qq4 a b 0 h]
 cases e:fk a b m 0 with
 | none =>
  show some (m++[(Y3 a b,V.d d)],m.length+1)=_;rw[qxs e,qTN]; rfl
 | some p =>
  obtain⟨j,v⟩:=p;show some (m.set j (Y3 a b,V.d d),m.length)=_;have:=qxu (d:=d) e;rw[qUO]at this;rw[this,qUI]
def qxv {a b:Int} {d:D}:∀{m:List (D×V)},KM m->KM (qaQ a b d m)
 | [],_=>fun p hp=>by
  rw[qUJ.1 hp]; exact⟨a,b,d,rfl⟩
 | (k,v)::r,h=>by
  unfold qaQ
  cases kq k a b with
  | true =>
   intro p hp;rcases qTD.1 hp with rfl|hp
   ·exact⟨a,b,d,rfl⟩
   ·exact h p (qTG _ hp)
  | false =>
   intro p hp;rcases qTD.1 hp with rfl|hp
   ·exact h _ qTR
   ·exact qxv (fun p hp=>h p (qTG _ hp)) p hp
def qq5 (a b x y:Int) (i:Nat) (d:D) (o:Option (Nat×V)):(match a==x&&b==y with|true=>some (i,V.d d) | false=>o).map Prod.snd=if a=x/\b=y then some (V.d d)else o.map Prod.snd:=by
 by_cases h:a=x/\b=y
 ·obtain⟨rfl,rfl⟩:=h;simp
 ·have e:(a==x&&b==y)=false:=by
   cases e:(a==x&&b==y)with
   | false=>rfl|true =>
    simp only[qTC,beq_iff_eq]at e;exact absurd e h
  rw[e,if_neg h]
def qxw {a b x y:Int} {d:D}:∀{m:List (D×V)} (i:Nat),KM m->(fk x y (qaQ a b d m) i).map Prod.snd=if a=x/\b=y then some (V.d d)else(fk x y m i).map Prod.snd
 | [],i,_=>by
  show(match kq (Y3 a b) x y with|true=>some (i,V.d d) | false=>fk x y [] (i+1)).map Prod.snd=_;rw[qiv];exact qq5 a b x y i d none
 | (k,v)::r,i,h=>by
  obtain⟨p,q,u,e⟩:=h _ qTR;obtain⟨rfl,rfl⟩:=Prod.mk.inj e;have ih:=qxw (a:=a) (b:=b) (x:=x) (y:=y) (d:=d) (m:=r) (i+1) fun p hp=>h p (qTG _ hp)
  unfold qaQ
  cases e1:kq (Y3 p q) a b with
  | true =>
   show(match kq (Y3 a b) x y with|true=>some (i,V.d d) | false=>fk x y r (i+1)).map Prod.snd=if a=x/\b=y then some (V.d d)else(match kq (Y3 p q) x y with|true=>some (i,V.d u) | false=>fk x y r (i+1)).map Prod.snd
   rw[qiv]at e1 ⊢;rw[qiv];simp only[qTC,beq_iff_eq]at e1;obtain⟨rfl,rfl⟩:=e1;rw[qq5,qq5];split<;>rfl
  | false =>
   show(match kq (Y3 p q) x y with|true=>some (i,V.d u) | false=>fk x y (qaQ a b d r) (i+1)).map Prod.snd=if a=x/\b=y then some (V.d d)else(match kq (Y3 p q) x y with|true=>some (i,V.d u) | false=>fk x y r (i+1)).map Prod.snd
   cases e2:kq (Y3 p q) x y with
   | false=>exact ih|true =>
    rw[qiv]at e1 e2;simp only[qTC,beq_iff_eq]at e2;obtain⟨rfl,rfl⟩:=e2
    by_cases h1:a=p<;>by_cases h2:b=q<;>simp[h1,h2]at e1 ⊢
def qak (es:List D):Nat->List (D×V)
 | 0=>[]|k+1=>qaQ (nI (c_ (es.getD k .nilp) 0)) (nI (c_ (es.getD k .nilp) 1)) (.int .i64 (k:Nat)) (qak es k)
def qgu (es:List D):∀k,KM (qak es k)
 | 0=>fun p hp=>by cases hp
 | k+1=>qxv (qgu es k)
def qb3 (es:List D) (a b:Int):Nat->Option Nat
 | 0=>none|k+1=>if nI (c_ (es.getD k .nilp) 0)=a/\nI (c_ (es.getD k .nilp) 1)=b then some k else qb3 es a b k
def qxx (es:List D) (a b:Int):∀k,(fk a b (qak es k) 0).map Prod.snd=(qb3 es a b k).map fun j=>V.d (.int .i64 (j:Nat))
 | 0=>rfl|k+1=>by
  unfold qak qb3;rw[qxw 0 (qgu es k),qxx es a b k];split<;>rfl
def vD (v:V):D:=match v with
 | .d x=>x|_=>.nilp
def qxy {m:List (D×V)} (h:KM m):m.map Prod.snd=(m.map fun p=>vD p.2).map V.d:=by
 rw[qUs];refine qUv fun p hp=>?_
 obtain⟨a,b,d,rfl⟩:=h p hp;rfl
def qxz:List qL:=(JC (sTo (c22 []) (ql []) qr 300 (start (c22 []) 38 [.d (qbC fun _=>.nilp)] []))).fr.todo
def HP (es:List D) (m:List (D×V)) (k:Int):AS:=hd 38 qxz 24 [(3,.mp 0),(8,.d (.list es)),(9,I es.length),(10,I k)] [.live (.map m m.length false)]
def qG1 {s:Nat->D} {es:List D} {Q:V->Aev.Rows->Prop} (hp:qh [RCs PP 22 [.d (qbC s)] [] (.d (.list es))]) (h:qb (c22 es) 0 (hd 38 qxz 24 [(3,V.mp 0),(8,.d (.list es)),(9,.d (.int .i64 (es.length:Int))),(10,.d (.int .i64 0))] [.live (.map [] 0 false)]) Q):qb (c22 es) 0 (start (c22 es) 38 [.d (qbC s)] []) Q :=
 qb.turnA (qlt es) ({ql [] [] [] 0 false true with mv:=fun _=>none}) qr 140 [1] [3,8,9,10] (by kernel_rfl) hp h
def qG2 {es:List D} {m m':List (D×V)} {k:Int} {Q:V->Aev.Rows->Prop} (hp:qh [decide (k<(es.length:Int))=true,(0:Int)<=k/\k<(es.length:Int),es[k.toNat]?=some (elE es k.toNat),9=9,qic m m.length (Y3 (nI (c_ (es.getD k.toNat .nilp) 0)) (nI (c_ (es.getD k.toNat .nilp) 1))) (.d (.int .i64 k)) m',qi (k+1),m'.map Prod.snd=(m'.map fun p=>vD p.2).map V.d])
  (h:qb (c22 es) 0 (HP es m' (k+1)) Q):qb (c22 es) 0 (HP es m k) Q :=
 qb.turnA (qlt es) ({ql [(11,true)] [(8,elE es)] [] 0 false true with mput:=fun _=>some m',mv:=fun _=>some (m'.map fun p=>vD p.2)}) qr 140 [0] [3,8,9,10] (by kernel_rfl) hp h
def qG3 {es:List D} {m:List (D×V)} {k:Int} {Q:V->Aev.Rows->Prop} (hp:qh [decide (k<(es.length:Int))=false]) (h:Q (V.mp 0) [.live (.map m m.length false)]):qb (c22 es) 0 (HP es m k) Q :=
 qb.toFin (qlt es) ({ql [(11,false)] [(8,elE es)] [] 0 false true with mput:=fun _=>none}) qr 140 (by kernel_rfl) hp h
def qfc (es:List D):Prop:=∀j,j<es.length->es[j]?=some (elE es j)
def qxA {es:List D} (hE:qfc es) (hl:es.length<=100000):∀n k,k+n=es.length->qb (c22 es) 0 (HP es (qak es k) (k:Nat)) (fun v rows=>v=.mp 0/\rows=[.live (.map (qak es es.length) (qak es es.length).length false)])
 | 0,k,h=>by
  have e:k=es.length:=by omega
  subst e;exact qG3 ⟨decide_eq_false (by omega),trivial⟩ ⟨rfl,rfl⟩
 | n+1,k,h=>by
  refine qG2 (m':=qak es (k+1)) ⟨decide_eq_true (by omega),by omega,?_,rfl,?_,by unfold qi; omega,qxy (qgu es _),trivial⟩ ?_
  ·rw[qTK]; exact hE k (by omega)
  ·rw[qTK]; exact qG0 (qgu es k)
  ·exact qxA hE hl n (k+1) (by omega)
def qG4 {s:Nat->D} {es:List D} (h22:RCs PP 22 [.d (qbC s)] [] (.d (.list es))) (hE:qfc es) (hl:es.length<=100000) :
  qM PP 38 0 [.d (qbC s)] [] (fun v rows=>v=.mp 0/\rows=[.live (.map (qak es es.length) (qak es es.length).length false)]):=by
 have h0:qM PP 38 0 [.d (qbC s)] [] (fun v rows=>v=.mp 0/\rows=[.live (.map (qak es es.length) (qak es es.length).length false)]):=by
  refine qb1 (qlt es) (by kernel_rfl) ?_;refine qG1 ⟨h22,trivial⟩ ?_;exact qxA hE hl es.length 0 (by omega)
 exact h0
def qG5 {s:AS} {m:List (D×V)} {ds:List D} {c:Nat} (h:m.map Prod.snd=ds.map V.d):qcH s (.mp 0) [.live (.map m c false)]=(qcH s (.mp 0) [.live (.map [] c false)]).map fun s'=>{s' with rows:=s.rows++[.live (.map m c false)]}:=by
 unfold qcH;split
 ·split
  ·have e1:qz (qe8 s.rows.length) [.live (.map m c false)]=some [.live (.map m c false)]:=by
    simp only[qz,qe8,qP];rw[qqL h]; rfl
   have e2:qz (qe8 s.rows.length) [.live (.map [] c false)]=some [.live (.map [] c false)]:=rfl;rw[e1,e2];rfl
  ·rfl
 ·rfl
def C8 (s:Nat->D) (a b:Int):AS:=JC (sTo c0 (ql []) (JW 12) 300 (start c0 8 [.d (qbC s),I a,I b] []))
def A8 (s:Nat->D) (a b:Int) (m:List (D×V)) (n:Nat):AS:={Jm (C8 s a b) (.mp 0) [.live (.map [] n false)]with rows:=(C8 s a b).rows++[.live (.map m n false)]}
def qG6 {s:Nat->D} {a b:Int} {m:List (D×V)} {n:Nat} {j:Int} {f:Bool} (hp:qh [qid m (Y3 a b) (I 0) true (.tup [I j,B f])]):qb c0 0 (A8 s a b m n) (Fin (.tup [I j,B f])) :=
 qb.fin' qS ({ql [] [] [] 0 false true with mget:=fun _=>some (.tup [I j,B f])}) (fun _=>false) 140 (ps:=[qid m (Y3 a b) (I 0) true (.tup [I j,B f])]) (qs:=[]) (by kernel_rfl) hp trivial
def Ya (es:List D) (a b:Int):Int×Bool:=match qb3 es a b es.length with
 | some j=>((j:Nat),true)|none=>(0,false)
def qG7 {s:Nat->D} {es:List D} {a b:Int} (h22:RCs PP 22 [.d (qbC s)] [] (.d (.list es))) (hE:qfc es) (hl:es.length<=100000) :
  RCs PP 8 [.d (qbC s),I a,I b] [] (.tup [I (Ya es a b).1,B (Ya es a b).2]):=by
 refine qE qS (by kernel_rfl) ?_;refine qb.to qS (ql []) (JW 12) 300 (ps:=[]) (s':=C8 s a b) (by kernel_rfl) trivial ?_;refine qb.callN qS (by kernel_rfl:qij c0.cfg (C8 s a b)=some (38,[.d (qbC s)],[],[])) (qG4 h22 hE hl) ?_
 rintro v rows ⟨rfl,rfl⟩
 have hb:(qcH (C8 s a b) (.mp 0) [.live (.map [] (qak es es.length).length false)]).isSome=true:=by kernel_rfl
 obtain⟨s1,hs1⟩:=qVx.1 hb;refine⟨A8 s a b (qak es es.length) (qak es es.length).length,?_,?_⟩
 ·rw[qG5 (qxy (qgu es es.length)),hs1];unfold A8 Jm;rw[hs1]; rfl
 ·refine qG6 ⟨?_,trivial⟩;unfold qid qqu;rw[qq4 a b 0 (qgu es es.length)];have hm:=qxx es a b es.length;unfold Ya
  cases e:fk a b (qak es es.length) 0 with
  | none =>
   rw[e]at hm
   cases e2:qb3 es a b es.length with
   | none=>rfl|some j=>rw[e2]at hm; cases hm
  | some p =>
   obtain⟨j,v⟩:=p;rw[e]at hm
   cases e2:qb3 es a b es.length with
   | none=>rw[e2]at hm; cases hm
   | some q =>
    rw[e2]at hm;have hm:some v=some (V.d (.int .i64 (q:Nat))):=hm;cases hm;rfl
section
def qe9 (l:List D) (ex:Bool):V:=.sl 0 9 0 l.length l.length ex
def qfa (l:List D):Aev.Rows:=[.live (.dat 9 l false)]
def qqU (l:List D) (v:V) (rows:Aev.Rows):Prop:=(l=[]/\v=.nil/\rows=[])\/∃ex,v=qe9 l ex/\rows=qfa l
def qgq (l:List D):Prop:=(l.all fun e=>e.cells.length==9)=true
def qll:AS:=JC (sTo c0 (ql []) (JW 4) 300 (start c0 117 [.d (.list [])] []))
def qw4 (b:Bool):AS:=(anyNil c0.cfg qll b).getD qll
def qGh {l:List D} (hl:l≠[]) (h9:qgq l) (hn:l.length<=100000):qM PP 117 0 [.d (.list l)] [] (qqU l):=by
 have hp:l.length≠0:=fun h=>hl (qVS.1 h)
 refine qM.sel (R:=fun v rows=>v=.sl 1 9 0 (0+l.length) (0+l.length) false/\rows=[.live (.dat 9 [] false),.live (.dat 9 ([]++l) false)]) ?_ ?_
 ·refine qb1 qS (by kernel_rfl) ?_;exact qb.toFin (v:=.sl 1 9 0 (0+l.length) (0+l.length) false) (rows:=[.live (.dat 9 [] false),.live (.dat 9 ([]++l) false)]) (ps:=[l≠[],(l.all fun e=>e.cells.length==9)=true,0<9/\l.length≠0/\9=9/\9=9/\0<=0/\¬0+l.length<=0/\2*(0+l.length)*104<=281474976710656/\0+l.length<=4611686018427387904]) qS (ql [] [] [] 1 false true) (fun _=>false) 140 (by kernel_rfl)
   ⟨hl,h9,by omega,trivial⟩ ⟨rfl,rfl⟩
 ·rintro v rows' ⟨rfl,rfl⟩
  refine⟨[1],qe9 l false,qfa l,rfl,by simp only[qz,qp]; rfl,?_,.inr ⟨false,rfl,rfl⟩⟩;rw[qT6]; rfl
def qGi:qM PP 117 0 [.d (.list [])] [] (qqU []):=by
 refine qb1 qS (by kernel_rfl) ?_;refine qb.to qS (ql []) (JW 4) 300 (ps:=[]) (s':=qll) (by kernel_rfl) trivial ?_;refine qb.anyNil qS fun b=>?_
 have hb:(anyNil c0.cfg qll b).isSome=true:=by cases b<;>kernel_rfl
 obtain⟨s1,hs1⟩:=qVx.1 hb;have e:qw4 b=s1:=by unfold qw4; rw[hs1]; rfl
 refine⟨s1,hs1,?_⟩;rw[<-e]
 cases b with
 | true=>exact qb.toFin (v:=.nil) (rows:=[]) (ps:=[]) qS (ql [] [] [] 1 false true) (fun _=>false) 140 (by kernel_rfl) trivial (.inl ⟨rfl,rfl,rfl⟩)
 | false=>exact qb.toFin (v:=qe9 [] true) (rows:=qfa []) (ps:=[]) qS (ql [] [] [] 0 false true) (fun _=>false) 140 (by kernel_rfl) trivial (.inr ⟨true,rfl,rfl⟩)
def qGj {l:List D} (h9:qgq l) (hn:l.length<=100000):qM PP 117 0 [.d (.list l)] [] (qqU l):=by
 by_cases h:l=[]
 ·subst h; exact qGi
 ·exact qGh h h9 hn
def qiq (x:D):D:=.agg [.int .i64 (nI (c_ x 0)),.list (lI (c_ x 1)),.list (lI (c_ x 2)),.list (lI (c_ x 3)),.int .i64 (nI (c_ x 4)),.int .i64 (nI (c_ x 5)),.int .i64 (nI (c_ x 6)),.int .i64 (nI (c_ x 7)),.int .i64 (nI (c_ x 8)),.list (lI (c_ x 9)),.list (lI (c_ x 10)),.list (lI (c_ x 11))]
def elN (l:List D):Nat->D:=fun i=>qiq (l.getD i .nilp)
def qGk (F:D->List D) (g:FuncId):Option (List V->V):=match Nat.beq g 59 with
 | true=>some fun args=>match args with
  | [.d x]=>.d (.list (F x))|_=>.nil
 | false=>none
def c59 (F:D->List D):qt:=kA (qGk F)
def qbB (F:D->List D):COK (c59 F).cfg:=qR _
def C59 (F:D->List D) (x:D):AS:=JC (sTo (c59 F) (ql []) (JW 8) 300 (start (c59 F) 59 [.d (qiq x)] []))
def qqV:List qL:=(JC (sTo (c59 fun _=>[]) (ql []) qr 300 (Jm (C59 (fun _=>[]) .nilp) .nil []))).fr.todo
def HN (subs:List D) (k:Int):AS:=hd 59 qqV 22 [(3,.nil),(10,.d (.list subs)),(11,I subs.length),(12,I k)] []
def HS (subs l:List D) (ex:Bool) (k:Int):AS:=hd 59 qqV 22 [(3,qe9 l ex),(10,.d (.list subs)),(11,I subs.length),(12,I k)] (qfa l)
variable {subs l:List D} {ex:Bool} {k:Int} {F:D->List D} {Q:V->Aev.Rows->Prop} {x:D}
def qGl (h:qb (c59 F) 0 (HN (lI (c_ x 10)) 0) Q):qb (c59 F) 0 (Jm (C59 F x) .nil []) Q :=
 qb.turn (qbB F) (ql [] [] [] 0 false true) qr 140 [] [3,10,11,12] (ps:=[]) (by kernel_rfl) trivial h
def qGm (h:qb (c59 F) 0 (HS (lI (c_ x 10)) l ex 0) Q):qb (c59 F) 0 (Jm (C59 F x) (qe9 l ex) (qfa l)) Q :=
 qb.turn (qbB F) (ql [] [] [] 0 false true) qr 140 [1] [3,10,11,12] (ps:=[]) (by kernel_rfl) trivial h
def qGn (hp:decide (k<(subs.length:Int))=false):qb (c59 F) 0 (HN subs k) (Fin (.d (.list []))) :=
 qb.fin' (qbB F) (ql [(13,false)] [] [] 0 false true) qr 140 (ps:=[decide (k<(subs.length:Int))=false]) (qs:=[]) (by kernel_rfl) ⟨hp,trivial⟩ trivial
def qGo (hp:decide (k<(subs.length:Int))=false):qb (c59 F) 0 (HS subs l ex k) (Fin (.d (.list ((l.drop 0).take l.length)))) :=
 qb.fin' (qbB F) (ql [(13,false)] [] [] 0 false true) qr 140 (ps:=[decide (k<(subs.length:Int))=false]) (qs:=[9=9/\0+l.length<=l.length]) (by kernel_rfl) ⟨hp,trivial⟩ ⟨⟨rfl,by omega⟩,trivial⟩
def qir (subs:List D) (k:Int) (F:D->List D) (ys:List D):Prop:=decide (k<(subs.length:Int))=true/\(0<=k/\k<(subs.length:Int))/\subs[k.toNat]?=some (elN subs k.toNat)/\RCs PP 59 [.d (elN subs k.toNat)] [] (.d (.list (F (elN subs k.toNat))))/\qgq (F (elN subs k.toNat))/\qi (k+1)/\F (elN subs k.toNat)=ys
def qGp (hp:qir subs k F []) (h:qb (c59 F) 0 (HN subs (k+1)) Q):qb (c59 F) 0 (HN subs k) Q:=by
 obtain⟨h1,h2,h3,h4,h5,h6,h7⟩:=hp;exact qb.turn (qbB F) (ql [(13,true)] [(10,elN subs)] [] 3 false true) qr 140 [] [3,10,11,12] (ps:=[decide (k<(subs.length:Int))=true,0<=k/\k<(subs.length:Int),subs[k.toNat]?=some (elN subs k.toNat),12=12,RCs PP 59 [.d (elN subs k.toNat)] [] (.d (.list (F (elN subs k.toNat)))),((F (elN subs k.toNat)).all fun e=>e.cells.length==9)=true,0<9/\(F (elN subs k.toNat)).length<=0,qi (k+1)]) (by kernel_rfl)
  ⟨h1,h2,h3,rfl,h4,h5,⟨by omega,by rw[h7]; exact qTF _⟩,h6,trivial⟩ h
def qGq {ys:List D} (hp:qir subs k F ys) (hy:ys.length≠0) (hb:ys.length<=100000) (h:qb (c59 F) 0 (HS subs ys false (k+1)) Q):qb (c59 F) 0 (HN subs k) Q:=by
 obtain⟨h1,h2,h3,h4,h5,h6,rfl⟩:=hp;exact qb.turn (qbB F) (ql [(13,true)] [(10,elN subs)] [] 1 false true) qr 140 [1] [3,10,11,12] (ps:=[decide (k<(subs.length:Int))=true,0<=k/\k<(subs.length:Int),subs[k.toNat]?=some (elN subs k.toNat),12=12,RCs PP 59 [.d (elN subs k.toNat)] [] (.d (.list (F (elN subs k.toNat)))),((F (elN subs k.toNat)).all fun e=>e.cells.length==9)=true,0<9/\(F (elN subs k.toNat)).length≠0/\2*(F (elN subs k.toNat)).length*104<=281474976710656/\(F (elN subs k.toNat)).length<=4611686018427387904,qi (k+1)]) (by kernel_rfl)
  ⟨h1,h2,h3,rfl,h4,h5,by omega,h6,trivial⟩ h
def qGr (hp:qir subs k F []) (h:qb (c59 F) 0 (HS subs l ex (k+1)) Q):qb (c59 F) 0 (HS subs l ex k) Q:=by
 obtain⟨h1,h2,h3,h4,h5,h6,h7⟩:=hp;exact qb.turn (qbB F) (ql [(13,true)] [(10,elN subs)] [] 3 false true) qr 140 [0] [3,10,11,12] (ps:=[decide (k<(subs.length:Int))=true,0<=k/\k<(subs.length:Int),subs[k.toNat]?=some (elN subs k.toNat),12=12,RCs PP 59 [.d (elN subs k.toNat)] [] (.d (.list (F (elN subs k.toNat)))),((F (elN subs k.toNat)).all fun e=>e.cells.length==9)=true,0<9/\(F (elN subs k.toNat)).length<=0,qi (k+1)]) (by kernel_rfl)
  ⟨h1,h2,h3,rfl,h4,h5,⟨by omega,by rw[h7]; exact qTF _⟩,h6,trivial⟩ h
def qGs {ys:List D} (hp:qir subs k F ys) (hy:ys.length≠0) (hb:l.length+ys.length<=100000) (h:qb (c59 F) 0 (HS subs (l++ys) false (k+1)) Q):qb (c59 F) 0 (HS subs l ex k) Q:=by
 obtain⟨h1,h2,h3,h4,h5,h6,rfl⟩:=hp;have h':qb (c59 F) 0 (hd 59 qqV 22 [(3,.sl 0 9 0 (l.length+(F (elN subs k.toNat)).length) (l.length+(F (elN subs k.toNat)).length) false),(10,.d (.list subs)),(11,I subs.length),(12,I (k+1))] [.live (.dat 9 ((l.drop 0).take l.length++F (elN subs k.toNat)) false)]) Q:=by
  rw[qTY,qTX (qTF _),<-qTN];exact h
 cases ex with
 | true=>exact qb.turn (qbB F) (ql [(13,true)] [(10,elN subs)] [] 1 false true) qr 140 [2] [3,10,11,12] (ps:=[decide (k<(subs.length:Int))=true,0<=k/\k<(subs.length:Int),subs[k.toNat]?=some (elN subs k.toNat),12=12,RCs PP 59 [.d (elN subs k.toNat)] [] (.d (.list (F (elN subs k.toNat)))),((F (elN subs k.toNat)).all fun e=>e.cells.length==9)=true,0<9/\(F (elN subs k.toNat)).length≠0/\9=9/\9=9/\0+l.length<=l.length/\¬l.length+(F (elN subs k.toNat)).length<=l.length/\2*(l.length+(F (elN subs k.toNat)).length)*104<=281474976710656/\l.length+(F (elN subs k.toNat)).length<=4611686018427387904,qi (k+1)]) (by kernel_rfl) ⟨h1,h2,h3,rfl,h4,h5,by omega,h6,trivial⟩ h'
 | false=>exact qb.turn (qbB F) (ql [(13,true)] [(10,elN subs)] [] 1 false true) qr 140 [2] [3,10,11,12] (ps:=[decide (k<(subs.length:Int))=true,0<=k/\k<(subs.length:Int),subs[k.toNat]?=some (elN subs k.toNat),12=12,RCs PP 59 [.d (elN subs k.toNat)] [] (.d (.list (F (elN subs k.toNat)))),((F (elN subs k.toNat)).all fun e=>e.cells.length==9)=true,0<9/\(F (elN subs k.toNat)).length≠0/\9=9/\9=9/\0+l.length<=l.length/\¬l.length+(F (elN subs k.toNat)).length<=l.length/\2*(l.length+(F (elN subs k.toNat)).length)*104<=281474976710656/\l.length+(F (elN subs k.toNat)).length<=4611686018427387904,qi (k+1)]) (by kernel_rfl) ⟨h1,h2,h3,rfl,h4,h5,by omega,h6,trivial⟩ h'
def qgr (subs:List D) (F:D->List D):Prop:=subs.length<=100000/\∀j,j<subs.length->subs[j]?=some (elN subs j)/\RCs PP 59 [.d (elN subs j)] [] (.d (.list (F (elN subs j))))/\qgq (F (elN subs j))
def qgr.at (h:qgr subs F) {j:Nat} (hj:j<subs.length):qir subs (j:Nat) F (F (elN subs j)):=by
 obtain⟨h0,h⟩:=h;obtain⟨h1,h2,h3⟩:=h j hj;refine⟨decide_eq_true (by omega),by omega,?_,?_,?_,by unfold qi; omega,?_⟩<;>rw[qTK]<;>assumption
def qw5 (h:qgr subs F) {j:Nat} (hj:j<subs.length):(subs.drop j).flatMap F=F (elN subs j)++(subs.drop (j+1)).flatMap F:=by
 have:=(h.2 j hj).1;rw[qTE hj]at this;rw[qV7 hj,qUq,Option.some.inj this]
def qlm (h:qgr subs F):∀(n j:Nat) (l:List D) (ex:Bool),j+n=subs.length->l.length+((subs.drop j).flatMap F).length<=100000->qb (c59 F) 0 (HS subs l ex (j:Nat)) (Fin (.d (.list (l++(subs.drop j).flatMap F))))
 | 0,j,l,ex,hj,hb=>by
  rw[qVf (by omega),qV6,qT7];have:=qGo (F:=F) (subs:=subs) (l:=l) (ex:=ex) (k:=(j:Nat)) (decide_eq_false (by omega));rw[qTY,qTX (qTF _)]at this;exact this
 | n+1,j,l,ex,hj,hb=>by
  have hjl:j<subs.length:=by omega
  have ha:=h.at hjl;rw[qw5 h hjl]at hb ⊢;rw[qTN]at hb
  by_cases hz:(F (elN subs j)).length=0
  ·have hz':=qVS.1 hz;rw[hz']at ha ⊢;rw[qUG];exact qGr ha (qlm h n (j+1) l ex (by omega) (by omega))
  ·rw[<-qTW];exact qGs ha hz (by omega) (qlm h n (j+1) _ false (by omega) (by rw[qTN]; omega))
def qw6 (h:qgr subs F):∀(n j:Nat),j+n=subs.length->((subs.drop j).flatMap F).length<=100000->qb (c59 F) 0 (HN subs (j:Nat)) (Fin (.d (.list ((subs.drop j).flatMap F))))
 | 0,j,hj,hb=>by
  rw[qVf (by omega),qV6];exact qGn (decide_eq_false (by omega))
 | n+1,j,hj,hb=>by
  have hjl:j<subs.length:=by omega
  have ha:=h.at hjl;rw[qw5 h hjl]at hb ⊢;rw[qTN]at hb
  by_cases hz:(F (elN subs j)).length=0
  ·have hz':=qVS.1 hz;rw[hz']at ha ⊢;rw[qUG];exact qGp ha (qw6 h n (j+1) (by omega) (by omega))
  ·exact qGq ha hz (by omega) (qlm h n (j+1) _ false (by omega) (by omega))
def qGt (h:qgr (lI (c_ x 10)) F) (h9:qgq (lI (c_ x 11))) (hb:(lI (c_ x 11)++(lI (c_ x 10)).flatMap F).length<=100000):RCs PP 59 [.d (qiq x)] [] (.d (.list (lI (c_ x 11)++(lI (c_ x 10)).flatMap F))):=by
 rw[qTN]at hb;refine qE (qbB F) (by kernel_rfl) ?_;refine qb.to (qbB F) (ql []) (JW 8) 300 (ps:=[]) (s':=C59 F x) (by kernel_rfl) trivial ?_;refine qb.callN (qbB F) (by kernel_rfl:qij (c59 F).cfg (C59 F x)=some (117,[.d (.list (lI (c_ x 11)))],[],[])) (qGj h9 (by omega)) ?_
 rintro v rows (⟨e,rfl,rfl⟩|⟨ex,rfl,rfl⟩)
 ·have hb':(qcH (C59 F x) .nil []).isSome=true:=by kernel_rfl
  obtain⟨s1,hs1⟩:=qVx.1 hb';refine⟨s1,hs1,?_⟩;have e1:Jm (C59 F x) .nil []=s1:=by unfold Jm; rw[hs1]; rfl
  rw[<-e1,e,qUG];exact qGl (qw6 h (lI (c_ x 10)).length 0 (by omega) (by rw[qTY]; omega))
 ·have hb':(qcH (C59 F x) (qe9 (lI (c_ x 11)) ex) (qfa (lI (c_ x 11)))).isSome=true:=by kernel_rfl
  obtain⟨s1,hs1⟩:=qVx.1 hb';refine⟨s1,hs1,?_⟩;have e1:Jm (C59 F x) (qe9 (lI (c_ x 11)) ex) (qfa (lI (c_ x 11)))=s1:=by unfold Jm; rw[hs1]; rfl
  rw[<-e1];exact qGm (qlm h (lI (c_ x 10)).length 0 _ ex (by omega) (by rw[qTY]; omega))
end
section
def qbf (es:List D):qt:=mk (fun g=>Nat.beq g 22) (qjX PP (qxr es))
def qgx (es:List D):COK (qbf es).cfg:=qd5 (fun g args rows ps v h hp=>quK h hp)
def qd7 (s:Nat->D) (died:List D):D:=.agg [s 0,s 1,s 2,s 3,s 4,s 5,s 6,s 7,s 8,s 9,s 10,s 11,s 12,s 13,s 14,s 15,.list died]
def qlv (s:AS):Bool:=match s.fr.todo with
 | .it (.inLoop _)::_=>Nat.beq s.fr.fn 101|.it (.code (.loop _))::_=>Nat.beq s.fr.fn 101|_=>false
def T14 (s:Nat->D) (died es:List D):AS:=((qpx (qbf es) (ql []) qlv 300 0 [0,1,2,3,4] [0,1,6,7,8] (start (qbf es) 14 [.d (qd7 s died)] [])).2).getD ⟨⟨0,[],[],none,[],[]⟩,[],[]⟩
def R14 (s:Nat->D) (died es l:List D) (k:Int):AS:={T14 s died es with fr:={(T14 s died es).fr with env:=(T14 s died es).fr.env.set 8 (I k)},rows:=(T14 s died es).rows.set 1 (.live (.box [.sl 5 10 0 l.length l.length false] false))++[.live (.dat 10 l false)]}
def elX (l:List D):Nat->D:=fun i=>.int .i64 (nI (l.getD i .nilp))
def rwV (e x:D):D:=.agg ((qiu e).cells++[.int .i64 (nI x)])
variable {s:Nat->D} {died es l:List D} {k:Int} {Q:V->Aev.Rows->Prop}
def qHu (hp:RCs PP 22 [.d (qd7 s died)] [] (.d (.list es))) (h:qb (qbf es) 0 (T14 s died es) Q):qb (qbf es) 0 (start (qbf es) 14 [.d (qd7 s died)] []) Q :=
 qb.turnS (qgx es) (ql []) qlv 300 [0,1,2,3,4] [0,1,6,7,8] (ps:=[RCs PP 22 [.d (qd7 s died)] [] (.d (.list es))]) (by kernel_rfl) ⟨hp,trivial⟩ h
def qrc (died es:List D) (k:Int):Prop:=decide (k<(es.length:Int))=true/\(0<=k/\k<(es.length:Int))/\es[k.toNat]?=some (elE es k.toNat)/\(0<=k/\k<(died.length:Int))/\died[k.toNat]?=some (elX died k.toNat)/\qi (k+1)
def qHv (hp:qrc died es 0) (h:qb (qbf es) 0 (R14 s died es [rwV (es.getD 0 .nilp) (died.getD 0 .nilp)] 1) Q):qb (qbf es) 0 (T14 s died es) Q:=by
 obtain⟨h1,h2,h3,h4,h5,h6⟩:=hp;exact qb.turnS (qgx es) (ql [(9,true)] [(6,elE es),(17,elX died)] [] 1 false true) qlv 300 [0,1,2,3,4,19] [0,1,6,7,8] (ps:=[decide ((0:Int)<(es.length:Int))=true,(0:Int)<=0/\(0:Int)<(es.length:Int),es[0]?=some (elE es 0),9=9,(0:Int)<=0/\(0:Int)<(died.length:Int),died[0]?=some (elX died 0),1=1,10=10/\10=10/\1<=1,0<10/\1≠0/\224<=281474976710656/\1<=4611686018427387904,qi (1:Int)]) (by kernel_rfl)
  ⟨h1,h2,h3,rfl,h4,h5,rfl,by omega,by omega,h6,trivial⟩ h
def qHw (hp:qrc died es k) (hb:l.length<=100000) (h:qb (qbf es) 0 (R14 s died es (l++[rwV (es.getD k.toNat .nilp) (died.getD k.toNat .nilp)]) (k+1)) Q):qb (qbf es) 0 (R14 s died es l k) Q:=by
 obtain⟨h1,h2,h3,h4,h5,h6⟩:=hp;refine qb.turnS (s':={T14 s died es with fr:={(T14 s died es).fr with env:=(T14 s died es).fr.env.set 8 (I (k+1))},rows:=(T14 s died es).rows.set 1 (.live (.box [.sl 5 10 0 (l.length+1) (l.length+1) false] false))++[.live (.dat 10 ((l.drop 0).take l.length++[rwV (es.getD k.toNat .nilp) (died.getD k.toNat .nilp)]) false)]}) (qgx es) (ql [(9,true)] [(6,elE es),(17,elX died)] [] 1 false true) qlv 300 [0,1,2,3,4,20] [0,1,6,7,8] (ps:=[decide (k<(es.length:Int))=true,0<=k/\k<(es.length:Int),es[k.toNat]?=some (elE es k.toNat),9=9,0<=k/\k<(died.length:Int),died[k.toNat]?=some (elX died k.toNat),1=1,10=10/\10=10/\1<=1,0<10/\1≠0/\10=10/\10=10/\0+l.length<=l.length/\¬l.length+1<=l.length/\2*(l.length+1)*112<=281474976710656/\l.length+1<=4611686018427387904,qi (k+1)]) (by kernel_rfl)
  ⟨h1,h2,h3,rfl,h4,h5,rfl,by omega,by omega,h6,trivial⟩ ?_
 have e:(l++[rwV (es.getD k.toNat .nilp) (died.getD k.toNat .nilp)]).length=l.length+1:=by simp
 unfold R14 at h;rw[e]at h;rw[qTY,qTX (qTF _)];exact h
def qHx (hp:decide ((0:Int)<(es.length:Int))=false):qb (qbf es) 0 (T14 s died es) (Fin (.d (.list []))) :=
 qb.fin' (qgx es) (ql [(9,false)]) (fun _=>false) 300 (ps:=[decide ((0:Int)<(es.length:Int))=false]) (qs:=[]) (by kernel_rfl) ⟨hp,trivial⟩ trivial
def qHy (hp:decide (k<(es.length:Int))=false):qb (qbf es) 0 (R14 s died es l k) (Fin (.d (.list ((l.drop 0).take l.length)))) :=
 qb.fin' (qgx es) (ql [(9,false)]) (fun _=>false) 300 (ps:=[decide (k<(es.length:Int))=false]) (qs:=[10=10/\0+l.length<=l.length]) (by kernel_rfl) ⟨hp,trivial⟩ ⟨⟨rfl,by omega⟩,trivial⟩
def qbE (es died:List D) (n:Nat):List D:=(List.range n).map fun j=>rwV (es.getD j .nilp) (died.getD j .nilp)
def qHz (n:Nat):qbE es died (n+1)=qbE es died n++[rwV (es.getD n .nilp) (died.getD n .nilp)]:=by
 unfold qbE;rw[List.range_succ,qUC]; rfl
def qHA (n:Nat):(qbE es died n).length=n:=by unfold qbE; simp
def qxF (hE:qfc es) (hd:∀j,j<died.length->died[j]?=some (elX died j)) (hl:es.length<=died.length) (hb:es.length<=100000) {j:Nat} (hj:j<es.length):qrc died es (j:Nat):=by
 refine⟨decide_eq_true (by omega),by omega,?_,by omega,?_,by unfold qi; omega⟩<;>rw[qTK]
 ·exact hE j hj
 ·exact hd j (by omega)
def qxG (hE:qfc es) (hd:∀j,j<died.length->died[j]?=some (elX died j)) (hl:es.length<=died.length) (hb:es.length<=100000):∀n k,k+n=es.length->qb (qbf es) 0 (R14 s died es (qbE es died k) (k:Nat)) (Fin (.d (.list (qbE es died es.length))))
 | 0,k,h=>by
  have e:k=es.length:=by omega
  subst e;have:=qHy (s:=s) (died:=died) (es:=es) (l:=qbE es died es.length) (k:=(es.length:Nat)) (decide_eq_false (by omega));rw[qTY,qTX (qTF _)]at this;exact this
 | n+1,k,h=>by
  refine qHw (qxF hE hd hl hb (by omega)) (by rw[qHA]; omega) ?_;rw[qTK,<-qHz];exact qxG hE hd hl hb n (k+1) (by omega)
def qHB (h22:RCs PP 22 [.d (qd7 s died)] [] (.d (.list es))) (hE:qfc es) (hd:∀j,j<died.length->died[j]?=some (elX died j)) (hl:es.length<=died.length) (hb:es.length<=100000) :
  RCs PP 14 [.d (qd7 s died)] [] (.d (.list (qbE es died es.length))):=by
 refine qE (qgx es) (by kernel_rfl) (qHu h22 ?_)
 by_cases h0:es.length=0
 ·rw[h0];exact qHx (decide_eq_false (by omega))
 ·have ha:=qxF hE hd hl hb (j:=0) (by omega);refine qHv ha ?_;have e:[rwV (es.getD 0 .nilp) (died.getD 0 .nilp)]=qbE es died 1:=rfl;rw[e];exact qxG hE hd hl hb (es.length - 1) 1 (by omega)
end
end Go.Aev.M44
namespace Go.Aev.M44
open Go Go.Aev
def C89 (l:List Int):AS:=JC (sTo cW (ql []) (JW 10) 300 (start cW 106 [L l,.fn 107 []] []))
def qls:List qL:=(JC (sTo cW (ql []) qr 300 (Jm (C89 []) (Yy [0]) (YH [0])))).fr.todo
def H89 (l:List Int) (o:List UInt8) (k:Int):AS:=hd 106 qls 24 [(1,.fn 107 []),(5,Yy o),(11,L l),(12,I (YN l).length),(13,I k)] (YH o)
end Go.Aev.M44
namespace Go.Aev.M44
def qGW {l:List Int} {o:List UInt8} {Q:V->Aev.Rows->Prop} (hp:qh []) (h:qb cW 0 (hd 106 qls 24 [(1,V.fn (107) []),(5,V.sl (0) (1) (0) o.length o.length false),(11,V.d (D.list (YN l))),(12,V.d (D.int IntKind.i64 (↑(List.length (YN l)):Int))),(13,V.d (D.int IntKind.i64 (0:Int)))] [qc.live (Row.dat (1) (qe o) false)]) Q):qb cW 0 (Jm (C89 l) (Yy o) (YH o)) Q :=
 qb.turn qgv (ql [] [] [] 0 false true) qr 140 [0] [1,5,11,12,13] (by kernel_rfl) hp h
def qGX {l:List Int} {o:List UInt8} {k:Int} {Q:V->Aev.Rows->Prop} (hp:qh [decide (k<(↑(List.length (YN l)):Int))=true,(0:Int)<=k/\k<(↑(List.length (YN l)):Int),(YN l)[Int.toNat k]?=some (D.int IntKind.i64 (List.getD l (Int.toNat k) (0:Int))),1=1,qy (List.getD l (Int.toNat k) (0:Int)),(List.all (qe (enc (List.getD l (Int.toNat k) (0:Int)))) fun e=>List.length (D.cells e)==1)=true,0<1/\List.length (qe (enc (List.getD l (Int.toNat k) (0:Int))))≠0/\1=1/\1=1/\0+o.length<=List.length (qe o)/\¬o.length+List.length (qe (enc (List.getD l (Int.toNat k) (0:Int))))<=o.length/\2*(o.length+List.length (qe (enc (List.getD l (Int.toNat k) (0:Int)))))*1<=281474976710656/\o.length+List.length (qe (enc (List.getD l (Int.toNat k) (0:Int))))<=4611686018427387904,qi (k+(1:Int))]) (h:qb cW 0 (hd 106 qls 24 [(1,V.fn (107) []),(5,V.sl (0) (1) (0) (o.length+List.length (qe (enc (List.getD l (Int.toNat k) (0:Int))))) (o.length+List.length (qe (enc (List.getD l (Int.toNat k) (0:Int))))) false),(11,V.d (D.list (YN l))),(12,V.d (D.int IntKind.i64 (↑(List.length (YN l)):Int))),(13,V.d (D.int IntKind.i64 (k+(1:Int))))] [qc.live (Row.dat (1) (List.take o.length (List.drop (0) (qe o))++qe (enc (List.getD l (Int.toNat k) (0:Int)))) false)]) Q):qb cW 0 (H89 l o k) Q :=
  qb.turn qgv (ql [(14,true)] [(11,elI (l))] [] 1 false true) qr 140 [1] [1,
 5,
 11,
 12,
 13] (by kernel_rfl) hp h
def qGY {l:List Int} {o:List UInt8} {k:Int} {Q:V->Aev.Rows->Prop} (hp:qh [decide (k<(↑(List.length (YN l)):Int))=false]) (h:Q (V.sl (0) (1) (0) o.length o.length false) ([qc.live (Row.dat (1) (qe o) false)])):qb cW 0 (H89 l o k) Q :=
 qb.toFin qgv (ql [(14,false)] [] [] 0 false true) qr 140 (by kernel_rfl) hp h
end Go.Aev.M44
namespace Go.Aev.M44
open Go Go.Aev
def qq3 {o s:Bs} {P:V->Aev.Rows->Prop} (hp:P (Yy (o++s)) (YH (o++s))) :
  P (.sl 0 1 0 (o.length+(qe s).length) (o.length+(qe s).length) false) [.live (.dat 1 (List.take o.length (List.drop 0 (qe o))++qe s) false)]:=by
 rw[qgt,<-qis,qZ];unfold Yy YH at hp;rw[qTN]at hp;exact hp
def qlr {α:Type} {l:List α} {k:Nat} (h:k<l.length) (d:α):l.drop k=l.getD k d::l.drop (k+1):=by
 rw[qV7 h]; simp[List.getD,h]
def qxq {α:Type} {l:List α} {k:Nat} (h:k<l.length) (d:α):l.getD k d∈l:=by
 simp[List.getD,h]
def fits (n:Nat):Prop:=n<=1073741824
def qGT {l:List Int} (hl:fits l.length) (ha:∀x∈l,qy x):∀(n k:Nat) (o:Bs),k+n=l.length->o.length+10*n<=21474836480->qb cW 0 (H89 l o (k:Nat)) (YG (o++(l.drop k).flatMap enc)):=by
 intro n;unfold fits at hl
 induction n with
 | zero =>
  intro k o hk ho;rw[qVf (by omega),qV6,qT7];exact qGY ⟨by rw[qd3]; exact decide_eq_false (by omega),trivial⟩ ⟨0,rfl,rfl⟩
 | succ n ih =>
  intro k o hk ho;have hx:=ha _ (qxq (show k<l.length by omega) 0);have he:=qcI hx;have hp:=qgw (l.getD k 0);refine qGX ⟨by rw[qd3]; exact decide_eq_true (by omega),by rw[qd3]; omega,qwR (by omega),rfl,hx,qre _,⟨by omega,by rw[qZ,qTK]; omega,rfl,rfl,by rw[qZ]; omega,by rw[qZ,qTK]; omega,by rw[qZ,qTK]; omega,by rw[qZ,qTK]; omega⟩,by unfold qi; omega,trivial⟩ ?_;rw[qTK];refine qq3 (P:=fun v rows=>qb cW 0 (hd 106 qls 24 [(1,V.fn 107 []),(5,v),(11,V.d (D.list (YN l))),(12,V.d (D.int IntKind.i64 ((YN l).length:Int))),(13,V.d (D.int IntKind.i64 ((k:Int)+1)))] rows) _) ?_;have:=ih (k+1) (o++enc (l.getD k 0)) (by omega) (by rw[qTN]; omega);rw[qTW]at this;rw[qlr (show k<l.length by omega) 0,qUq];exact this
def qGU {l:List Int} (hl:fits l.length) (ha:∀x∈l,qy x):qb cW 0 (start cW 106 [L l,.fn 107 []] []) (YG (YL l)):=by
 refine qb.to qgv (ql []) (JW 10) 300 (ps:=[]) (s':=C89 l) (by kernel_rfl) trivial ?_;have hl':=hl;unfold fits at hl';have h64:qy (l.length:Int):=by unfold qy; omega
 have he:=qcI h64;refine qb.callB qgv (g:=107) (ar:=[I ((YN l).length:Nat)]) (l:=enc l.length) (by kernel_rfl) (by rw[qd3]; exact qxk h64) (by kernel_rfl) ?_;refine qGW trivial ?_;exact qGT hl ha l.length 0 (enc l.length) (by omega) (by omega)
def qGV {l:List Int} (hl:fits l.length) (ha:∀x∈l,qy x):qM PP 106 0 [L l,.fn 107 []] [] (qbe (YL l)):=YG.new (qb1 qgv (by kernel_rfl) (qGU hl ha))
def qrf (g:FuncId) (args:List V) (_rows:Aev.Rows):Option (List Prop×V) :=
 match g,args with
 | 104,[.d (.str s)]=>some ([Jv s.data.toList.length],LB (qC s.data.toList))|191,[.d (.str s)]=>some ([Jv s.data.toList.length],LB (qC s.data.toList))|_,_=>none
def cB:qt:=mk (fun _=>true) qrf
def qIK {g:FuncId} {args:List V} {rows:Aev.Rows} {ps:List Prop} {v:V} (h:qrf g args rows=some (ps,v)) (hp:qh ps):RCs PP g args rows v:=by
 unfold qrf at h;split at h
 ·rename_i s;cases h;exact(qxL (s:=s.data.toList) hp.1).of_lists (.cons (.data _) .nil)
 ·rename_i s;cases h;exact(qxM (s:=s.data.toList) hp.1).of_lists (.cons (.data _) .nil)
 ·cases h
def qgy:COK cB.cfg:=qd5 fun g args rows ps v h hp=>qIK h hp
def qlz (l:List Bs):(qaz l).length=l.length:=by simp[qaz]
def qIL {l:List Bs} {i:Nat} (h:i<l.length):(qaz l)[i]?=some (qdh (l.getD i [])):=by simp[qaz,h]
abbrev LS (l:List Bs):V:=.d (.list (qaz l))
end Go.Aev.M44
namespace Go.Aev.M44
open Go Go.Aev
def C35 (l:List Bs):AS:=JC (sTo cB (ql []) (JW 7) 300 (start cB 188 [LS l] []))
def qly:List qL:=(JC (sTo cB (ql []) qr 300 (Jm (C35 []) (Yy [0]) (YH [0])))).fr.todo
def H35 (l:List Bs) (o:List UInt8) (k:Int):AS:=hd 188 qly 22 [(0,LS l),(3,Yy o),(4,I k)] (YH o)
end Go.Aev.M44
namespace Go.Aev.M44
def qHN {l:List Bs} {o:List UInt8} {Q:V->Aev.Rows->Prop} (hp:qh []) (h:qb cB 0 (hd 188 qly 22 [(0,V.d (D.list (qaz l))),(3,V.sl (0) (1) (0) o.length o.length false),(4,V.d (D.int IntKind.i64 (0:Int)))] [qc.live (Row.dat (1) (qe o) false)]) Q):qb cB 0 (Jm (C35 l) (Yy o) (YH o)) Q :=
 qb.turn qgy (ql [] [] [] 0 false true) qr 140 [0] [0,3,4] (by kernel_rfl) hp h
def qHO {l:List Bs} {o:List UInt8} {k:Int} {Q:V->Aev.Rows->Prop} (hp:qh [decide (k<(↑(List.length (qaz l)):Int))=true,(0:Int)<=k/\k<(↑(List.length (qaz l)):Int),(qaz l)[Int.toNat k]?=some (elS l (Int.toNat k)),1=1,Jv (List.length (Array.toList (ByteArray.data {data:=List.toArray (List.getD l (Int.toNat k) [])}))),(List.all (qe (qC (Array.toList (ByteArray.data {data:=List.toArray (List.getD l (Int.toNat k) [])})))) fun e=>List.length (D.cells e)==1)=true,0<1/\List.length (qe (qC (Array.toList (ByteArray.data {data:=List.toArray (List.getD l (Int.toNat k) [])}))))≠0/\1=1/\1=1/\0+o.length<=List.length (qe o)/\¬o.length+List.length (qe (qC (Array.toList (ByteArray.data {data:=List.toArray (List.getD l (Int.toNat k) [])}))))<=o.length/\2*(o.length+List.length (qe (qC (Array.toList (ByteArray.data {data:=List.toArray (List.getD l (Int.toNat k) [])})))))*1<=281474976710656/\o.length+List.length (qe (qC (Array.toList (ByteArray.data {data:=List.toArray (List.getD l (Int.toNat k) [])}))))<=4611686018427387904,qi (k+(1:Int))]) (h:qb cB 0 (hd 188 qly 22 [(0,V.d (D.list (qaz l))),(3,V.sl (0) (1) (0) (o.length+List.length (qe (qC (Array.toList (ByteArray.data {data:=List.toArray (List.getD l (Int.toNat k) [])}))))) (o.length+List.length (qe (qC (Array.toList (ByteArray.data {data:=List.toArray (List.getD l (Int.toNat k) [])}))))) false),(4,V.d (D.int IntKind.i64 (k+(1:Int))))] [qc.live (Row.dat (1) (List.take o.length (List.drop (0) (qe o))++qe (qC (Array.toList (ByteArray.data {data:=List.toArray (List.getD l (Int.toNat k) [])})))) false)]) Q):qb cB 0 (H35 l o k) Q :=
 qb.turn qgy (ql [(11,true)] [(15,elS (l))] [] 1 false true) qr 140 [1] [0,3,4] (by kernel_rfl) hp h
def qHP {l:List Bs} {o:List UInt8} {k:Int} {Q:V->Aev.Rows->Prop} (hp:qh [decide (k<(↑(List.length (qaz l)):Int))=false]) (h:Q (V.sl (0) (1) (0) o.length o.length false) ([qc.live (Row.dat (1) (qe o) false)])):qb cB 0 (H35 l o k) Q :=
 qb.toFin qgy (ql [(11,false)] [] [] 0 false true) qr 140 (by kernel_rfl) hp h
end Go.Aev.M44
namespace Go.Aev.M44
open Go Go.Aev
def qlx (s:Bs):Array.toList (ByteArray.data {data:=List.toArray s})=s:=rfl
def qHK {l:List Bs} (hl:fits l.length) (ha:∀x∈l,Jv x.length):∀(n k:Nat) (o:Bs),k+n=l.length->o.length+((l.drop k).flatMap qC).length<=70368744177664->qb cB 0 (H35 l o (k:Nat)) (YG (o++(l.drop k).flatMap qC)):=by
 intro n;unfold fits at hl
 induction n with
 | zero =>
  intro k o hk ho;rw[qVf (by omega),qV6,qT7];exact qHP ⟨by rw[qlz]; exact decide_eq_false (by omega),trivial⟩ ⟨0,rfl,rfl⟩
 | succ n ih =>
  intro k o hk ho;have hx:=ha _ (qxq (show k<l.length by omega) []);have hp:=qHt.pos (l.getD k []);rw[qlr (show k<l.length by omega) [],qUq,qTN]at ho;refine qHO ⟨by rw[qlz]; exact decide_eq_true (by omega),by rw[qlz]; omega,qIL (by omega),rfl,hx,qre _,⟨by omega,by rw[qZ,qTK,qlx]; omega,rfl,rfl,by rw[qZ]; omega,by rw[qZ,qTK,qlx]; omega,by rw[qZ,qTK,qlx]; omega,by rw[qZ,qTK,qlx]; omega⟩,by unfold qi; omega,trivial⟩ ?_;rw[qTK];refine qq3 (s:=qC (l.getD k [])) (P:=fun v rows=>qb cB 0 (hd 188 qly 22 [(0,V.d (D.list (qaz l))),(3,v),(4,V.d (D.int IntKind.i64 ((k:Int)+1)))] rows) _) ?_;have:=ih (k+1) (o++qC (l.getD k [])) (by omega) (by rw[qTN]; omega);rw[qTW]at this;rw[qlr (show k<l.length by omega) [],qUq];exact this
def qHL {l:List Bs} (hl:fits l.length) (ha:∀x∈l,Jv x.length) (hs:Jv (qbD l).length):qb cB 0 (start cB 188 [LS l] []) (YG (qbD l)):=by
 refine qb.to qgy (ql []) (JW 7) 300 (ps:=[]) (s':=C35 l) (by kernel_rfl) trivial ?_;have hl':=hl;unfold fits at hl';have h64:qy (l.length:Int):=by unfold qy; omega
 have he:=qcI h64;refine qb.callB qgy (g:=110) (ar:=[I ((qaz l).length:Nat)]) (l:=enc l.length) (by kernel_rfl) (by rw[qlz]; exact qxm h64) (by kernel_rfl) ?_;refine qHN trivial ?_;exact qHK hl ha l.length 0 (enc l.length) (by omega) (by unfold Jv qbD at hs; rw[qTN]at hs; exact hs)
def qHM {l:List Bs} (hl:fits l.length) (ha:∀x∈l,Jv x.length) (hs:Jv (qbD l).length):qM PP 188 0 [LS l] [] (qbe (qbD l)):=YG.new (qb1 qgy (by kernel_rfl) (qHL hl ha hs))
def zzA (n:Int):Nat:=(if n<0 then IntKind.u64.wrap (IntKind.u64.wrap (IntKind.u64.wrap (IntKind.i64.wrap (-1 - n))*2)+1)else IntKind.u64.wrap (IntKind.u64.wrap n*2)).toNat
def qqW (n:Int):zzA n<18446744073709551616:=by
 unfold zzA;split<;>rw[w64]<;>omega
def qw7 {n:Int} (h:n<0):IntKind.u64.wrap (IntKind.u64.wrap (IntKind.u64.wrap (IntKind.i64.wrap (-1 - n))*2)+1)=(zzA n:Int):=by
 unfold zzA;rw[if_pos h,w64]; omega
def qw8 {n:Int} (h:¬n<0):IntKind.u64.wrap (IntKind.u64.wrap n*2)=(zzA n:Int):=by
 unfold zzA;rw[if_neg h,w64]; omega
def qqX {n:Int} (h:qy n):zzA n=zz n:=by
 have e:IntKind.i64.wrap (-1 - n)=-1 - n:=qib (by unfold qy at h; unfold qi; omega)
 by_cases hn:n<0
 ·have:=qw7 hn;rw[e,qxf h hn]at this;omega
 ·have:=qw8 hn;rw[qxg h hn]at this;omega
def YT (n:Int):Bs:=vb (zzA n)
def qqY {n:Int} (h:qy n):YT n=enc n:=by unfold YT enc; rw[qqX h]
def qln (n:Int):(YT n).length<=10:=qra (qqW n)
def qGu (n:Int):0<(YT n).length:=by
 unfold YT;rw[vb];split<;>simp
def qGv {n:Int} {Q:V->Aev.Rows->Prop} (hp:qh [decide (n<(0:Int))=true]) (h:qb c0 0 (hd 110 qfb 31 [(3,V.d (D.int IntKind.u64 (IntKind.wrap IntKind.u64 (IntKind.wrap IntKind.u64 (IntKind.wrap IntKind.u64 (IntKind.wrap IntKind.i64 ((-1:Int) - n))*(2:Int))+(1:Int))))),(4,V.nil)] []) Q):qb c0 0 (start c0 110 [I n] []) Q :=
 qb.turn qS {ql [(9,true)] [] [] 0 false true with wr:=true} qr 300 [] [3,4] (by kernel_rfl) hp h
def qw9 (n:Int):qb c0 0 (start c0 110 [I n] []) (YG (YT n)):=by
 by_cases hn:n<0
 ·refine qGv ⟨decide_eq_true hn,trivial⟩ ?_;rw[qw7 hn];exact qlq (qqW n)
 ·refine qxo ⟨decide_eq_false hn,trivial⟩ ?_;rw[qw8 hn];exact qlq (qqW n)
def qGw (n:Int):RCs PP 110 [I n] [] (LB (YT n)):=qd4 qS (by kernel_rfl) ((qw9 n).mono fun _ _ h=>h.conv)
def qGx (n:Int):qM PP 110 0 [I n] [] (qbe (YT n)):=YG.new (qb1 qS (by kernel_rfl) (qw9 n))
def qqZ (g:FuncId) (args:List V) (_rows:Aev.Rows):Option (List Prop×V) :=
 match g,args with
 | 110,[.d (.int .i64 n)]=>some ([],LB (YT n))|_,_=>none
def cA:qt:=mk (fun _=>true) qqZ
def qGy {g:FuncId} {args:List V} {rows:Aev.Rows} {ps:List Prop} {v:V} (h:qqZ g args rows=some (ps,v)) (hp:qh ps):RCs PP g args rows v:=by
 unfold qqZ at h;split at h
 ·cases h;exact(qGw _).of_lists (.cons (.data _) .nil)
 ·cases h
def qgs:COK cA.cfg:=qd5 fun g args rows ps v h hp=>qGy h hp
def qq0 (l:List Int):AS:=JC (sTo cA (ql []) (JW 7) 300 (start cA 51 [L l] []))
def qlo:List qL:=(JC (sTo cA (ql []) qr 300 (Jm (qq0 []) (Yy [0]) (YH [0])))).fr.todo
def qq1 (l:List Int) (o:List UInt8) (k:Int):AS:=hd 51 qlo 22 [(0,L l),(3,Yy o),(4,I k)] (YH o)
def qGz {l:List Int} {o:List UInt8} {Q:V->Aev.Rows->Prop} (hp:qh []) (h:qb cA 0 (hd 51 qlo 22 [(0,V.d (D.list (YN l))),(3,V.sl (0) (1) (0) o.length o.length false),(4,V.d (D.int IntKind.i64 (0:Int)))] [qc.live (Row.dat (1) (qe o) false)]) Q):qb cA 0 (Jm (qq0 l) (Yy o) (YH o)) Q :=
 qb.turn qgs (ql [] [] [] 0 false true) qr 140 [0] [0,3,4] (by kernel_rfl) hp h
def qGA {l:List Int} {o:List UInt8} {k:Int} {Q:V->Aev.Rows->Prop} (hp:qh [decide (k<(↑(List.length (YN l)):Int))=true,(0:Int)<=k/\k<(↑(List.length (YN l)):Int),(YN l)[Int.toNat k]?=some (D.int IntKind.i64 (List.getD l (Int.toNat k) (0:Int))),1=1,(List.all (qe (YT (List.getD l (Int.toNat k) (0:Int)))) fun e=>List.length (D.cells e)==1)=true,0<1/\List.length (qe (YT (List.getD l (Int.toNat k) (0:Int))))≠0/\1=1/\1=1/\0+o.length<=List.length (qe o)/\¬o.length+List.length (qe (YT (List.getD l (Int.toNat k) (0:Int))))<=o.length/\2*(o.length+List.length (qe (YT (List.getD l (Int.toNat k) (0:Int)))))*1<=281474976710656/\o.length+List.length (qe (YT (List.getD l (Int.toNat k) (0:Int))))<=4611686018427387904,qi (k+(1:Int))]) (h:qb cA 0 (hd 51 qlo 22 [(0,V.d (D.list (YN l))),(3,V.sl (0) (1) (0) (o.length+List.length (qe (YT (List.getD l (Int.toNat k) (0:Int))))) (o.length+List.length (qe (YT (List.getD l (Int.toNat k) (0:Int))))) false),(4,V.d (D.int IntKind.i64 (k+(1:Int))))] [qc.live (Row.dat (1) (List.take o.length (List.drop (0) (qe o))++qe (YT (List.getD l (Int.toNat k) (0:Int)))) false)]) Q):qb cA 0 (qq1 l o k) Q :=
 qb.turn qgs (ql [(11,true)] [(15,elI (l))] [] 1 false true) qr 140 [1] [0,3,4] (by kernel_rfl) hp h
def qGB {l:List Int} {o:List UInt8} {k:Int} {Q:V->Aev.Rows->Prop} (hp:qh [decide (k<(↑(List.length (YN l)):Int))=false]) (h:Q (V.sl (0) (1) (0) o.length o.length false) ([qc.live (Row.dat (1) (qe o) false)])):qb cA 0 (qq1 l o k) Q :=
 qb.toFin qgs (ql [(11,false)] [] [] 0 false true) qr 140 (by kernel_rfl) hp h
def qaj (l:List Int):Bs:=YT l.length++l.flatMap YT
def qGC {l:List Int} (hl:fits l.length):∀(n k:Nat) (o:Bs),k+n=l.length->o.length+10*n<=21474836480->qb cA 0 (qq1 l o (k:Nat)) (YG (o++(l.drop k).flatMap YT)):=by
 intro n;unfold fits at hl
 induction n with
 | zero =>
  intro k o hk ho;rw[qVf (by omega),qV6,qT7];exact qGB ⟨by rw[qd3]; exact decide_eq_false (by omega),trivial⟩ ⟨0,rfl,rfl⟩
 | succ n ih =>
  intro k o hk ho;have he:=qln (l.getD k 0);have hp:=qGu (l.getD k 0);refine qGA ⟨by rw[qd3]; exact decide_eq_true (by omega),by rw[qd3]; omega,qwR (by omega),rfl,qre _,⟨by omega,by rw[qZ,qTK]; omega,rfl,rfl,by rw[qZ]; omega,by rw[qZ,qTK]; omega,by rw[qZ,qTK]; omega,by rw[qZ,qTK]; omega⟩,by unfold qi; omega,trivial⟩ ?_;rw[qTK];refine qq3 (P:=fun v rows=>qb cA 0 (hd 51 qlo 22 [(0,V.d (D.list (YN l))),(3,v),(4,V.d (D.int IntKind.i64 ((k:Int)+1)))] rows) _) ?_;have:=ih (k+1) (o++YT (l.getD k 0)) (by omega) (by rw[qTN]; omega);rw[qTW]at this;rw[qlr (show k<l.length by omega) 0,qUq];exact this
def qGD {l:List Int} (hl:fits l.length):qb cA 0 (start cA 51 [L l] []) (YG (qaj l)):=by
 refine qb.to qgs (ql []) (JW 7) 300 (ps:=[]) (s':=qq0 l) (by kernel_rfl) trivial ?_;have hl':=hl;unfold fits at hl';have h64:qy (l.length:Int):=by unfold qy; omega
 have he:=qln l.length;refine qb.callB qgs (g:=110) (ar:=[I ((YN l).length:Nat)]) (l:=YT l.length) (by kernel_rfl) (by rw[qd3]; exact qGx _) (by kernel_rfl) ?_;refine qGz trivial ?_;exact qGC hl l.length 0 (YT l.length) (by omega) (by omega)
def qGE {l:List Int} (hl:fits l.length):qM PP 51 0 [L l] [] (qbe (qaj l)):=YG.new (qb1 qgs (by kernel_rfl) (qGD hl))
end Go.Aev.M44
namespace Go.Aev.M44
open Go Go.Aev
def C30 (l:List Int):AS:=JC (sTo c0 (ql []) (JW 4) 300 (start c0 49 [L l] []))
end Go.Aev.M44
namespace Go.Aev.M44
def qIN {l:List Int} {o:List UInt8} {Q:V->Aev.Rows->Prop} (hp:qh []) (h:Q (V.sl (0) (1) (0) o.length o.length false) ([qc.live (Row.dat (1) (qe o) false)])):qb c0 0 (Jm (C30 l) (Yy o) (YH o)) Q :=
 qb.toFin qS (ql [] [] [] 0 false true) qr 140 (by kernel_rfl) hp h
end Go.Aev.M44
namespace Go.Aev.M44
open Go Go.Aev
def qIM {l:List Int} (hl:fits l.length) (ha:∀x∈l,qy x):qM PP 49 0 [L l] [] (qbe (YL l)):=by
 refine YG.new (qb1 qS (by kernel_rfl) ?_);refine qb.to qS (ql []) (JW 4) 300 (ps:=[]) (s':=C30 l) (by kernel_rfl) trivial ?_;exact qb.callB qS (g:=106) (ar:=[L l,.fn 107 []]) (l:=YL l) (by kernel_rfl) (qGV hl ha) (by kernel_rfl) (qIN trivial ⟨0,rfl,rfl⟩)
end Go.Aev.M44
namespace Go.Aev.R29
open Go Go.Aev Go.Aev.R Go.Aev.M44
variable [PW]
def qKI {s:List D} (h:qac s):∃c,ww8 c=s:=by
 obtain⟨a,b,c,d,e,f,g,h,rfl⟩:=h;exact⟨fun i=>match i with|0=>a|1=>b|2=>c|3=>d|4=>e|5=>f|6=>g|_=>h,rfl⟩
def qzz (a:Nat->Int):qac (ww8 a):=⟨_,_,_,_,_,_,_,_,rfl⟩
def qKJ {a:Nat->Int} {bl:List D} (hl:bl.length=64) (hb:∀d∈bl,∃c:UInt8,d=Yq c):qG qjl [.agg (ww8 a),.list bl]:=by
 refine⟨⟨rfl,fun i y hy=>?_⟩,fun f hf=>?_⟩
 ·match i,hy with
  | 0,hy =>
   cases hy;exact⟨_,rfl,_,_,rfl,⟨_,rfl⟩,_,_,rfl,⟨_,rfl⟩,_,_,rfl,⟨_,rfl⟩,_,_,rfl,⟨_,rfl⟩,_,_,rfl,⟨_,rfl⟩,_,_,rfl,⟨_,rfl⟩,_,_,rfl,⟨_,rfl⟩,_,_,rfl,⟨_,rfl⟩,rfl⟩
  | 1,hy =>
   cases hy;exact⟨_,rfl,by omega,hb⟩
  | i+2,hy=>cases hy
 ·simp only[qjl,qhe,qTD,qTJ,or_false]at hf;subst hf;show(64:Int).toNat<=((bl.length:Int)).toNat;omega
def qKK {d:D} {s:List D} (h:qac s) (hd:d=.agg s):qan qjl.rts d=.d (.agg s):=by
 obtain⟨a,b,c,d,e,f,g,h,rfl⟩:=h;subst hd;rfl
def qzA {a:Nat->Int} {bl:List D} (hl:bl.length=64) (hb:∀d∈bl,∃c:UInt8,d=Yq c) :
  ∃c,ww8 c=qao bl (ww8 a)/\RCs PP 189 [.d (.agg (ww8 a)),.d (.list bl)] [] (.d (.agg (ww8 c))):=by
 obtain⟨d,⟨_,hq⟩,hr⟩:=qOb _ (qKJ (a:=a) hl hb);have hq:d=.agg (qao bl (wds (.agg (ww8 a)))):=hq;rw[qMc (qzz a)]at hq;have he:=qMb bl (qzz a);have hr:RCs PP 189 [.d (.agg (ww8 a)),.d (.list bl)] [] (qan qjl.rts d):=hr;rw[qKK he hq]at hr;obtain⟨c,hc⟩:=qKI he;exact⟨c,hc,by rw[hc]; exact hr⟩
end Go.Aev.R29
namespace Go.Aev.R29
open Go Go.Aev Go.Aev.R
variable [PW]
def qfy (ds:List D) (d:D):Prop:=toL d=qe (M44.qC (toS (qa ds 0)))
def qsx (ds:List D) (d:D):Prop:=toL d=qe (M44.qaj ((toL (qa ds 0)).map toI))
def qzJ (ds:List D) (d:D):Prop:=toL d=qe (M44.qbD ((toL (qa ds 0)).map toS))
def qzK:Con:={pts:=[.s 1000000000],pre:=[],rts:=[.l 1000000010 .y8],post:=[.le Zi (.w 0 Zb5 (.u 7 0 Ze))]}
def qfz:Con:={qzK with fact:=qfy}
def qzL:Con:={pts:=[.l 90000000 (.i .i64)],pre:=[],rts:=[.l 900000010 .y8],post:=[.le Zi (.w 0 Zb5 (.w 2 Zb5 Zu))],nw:=true}
def qcQ:Con:={qzL with fact:=qsx}
def qzM:Con:={pts:=[.l 3000000 Zdl],pre:=[],rts:=[.l 933000010 .y8],post:=[.le Zi (.w 0 Zb5 (.w 2 (.i 311) Zu))],nw:=true}
def qep:Con:={qzM with fact:=qzJ}
def qsy {ds:List D} (h:ds.length=1):∃a,ds=[a]:=by
 match ds,h with
 | [a],_=>exact⟨a,rfl⟩
def qsz {l:List UInt8} {n:Nat} (h:l.length<=n):qd (.l n .y8) (.list (qe l)) :=
 ⟨_,rfl,by rw[M44.qZ]; exact h,fun x hx=>by
  obtain⟨c,_,rfl⟩:=qTV.1 hx;exact⟨c,rfl⟩⟩
def qzN {P:Program} {g:FuncId} {args:List V} {l:List UInt8} (h:qM P g 0 args [] (M44.qbe l)):qM P g 0 args [] (qgT (qe l)):=by
 have e:M44.qbe l=qgT (qe l):=by
  funext v rows
  unfold M44.qbe M44.Yy M44.YH qgT;rw[M44.qZ]
 rw[<-e]; exact h
def qKS {es:List D} (h:∀x∈es,qd (.i .i64) x):Go.Aev.YN (es.map toI)=es:=by
 unfold Go.Aev.YN;rw[qUs]
 conv=>rhs; rw[<-List.map_id es]
 refine qUv fun x hx=>?_
 obtain⟨n,rfl⟩:=h x hx;rfl
def qKT {n:Nat} {es:List D} (h:∀x∈es,qd (.s n) x):M44.qaz (es.map toS)=es:=by
 unfold M44.qaz;rw[qUs]
 conv=>rhs; rw[<-List.map_id es]
 refine qUv fun x hx=>?_
 obtain⟨l,rfl,_⟩:=h x hx;rfl
def qsA {α:Type} {f:α->List UInt8} {k:Nat}:∀{l:List α},(∀x∈l,(f x).length<=k)->(l.flatMap f).length<=k*l.length
 | [],_=>by simp
 | a::r,h=>by
  have h1:=h a qTR;have h2:=qsA (f:=f) (l:=r) fun x hx=>h x (qTG _ hx)
  rw[qUq,qTN,qT9,Nat.mul_succ];omega
def qi4 {n:Nat} (h:n<=1073741824):M44.qy (n:Int):=by unfold M44.qy; omega
def qKU:qm PP 191 qfz:=fun ds hp=>by
 obtain⟨a,rfl⟩:=qsy hp.1.1;obtain⟨l,rfl,hl⟩:qd (.s 1000000000) a:=hp.1.2 0 _ rfl;have h:=M44.qcI (qi4 (n:=l.length) (by omega));have e:(M44.qC l).length<=10+l.length:=by unfold M44.qC; rw[qTN]; omega
 refine⟨.list (qe (M44.qC l)),⟨⟨qsz (by omega),fun f hf=>?_⟩,rfl⟩,M44.qxM (s:=l) (by unfold M44.Jv; omega)⟩;simp only[qfz,qzK,qTD,qTJ,or_false]at hf;subst hf;show((qe (M44.qC l)).length:Int)<=10+(l.length:Int);rw[M44.qZ]; omega
def qsB:qm PP 51 qcQ:=fun ds hp=>by
 obtain⟨a,rfl⟩:=qsy hp.1.1;obtain⟨es,rfl,hl,ht⟩:qd (.l 90000000 (.i .i64)) a:=hp.1.2 0 _ rfl;have e:(M44.qaj (es.map toI)).length<=10+10*es.length:=by
  unfold M44.qaj;have:=M44.qln ((es.map toI).length:Nat);have h2:=qsA (f:=M44.YT) (k:=10) (l:=es.map toI) fun x _=>M44.qln x
  rw[qTS]at h2;rw[qTN]; omega
 have hd:=M44.qGE (l:=es.map toI) (by unfold M44.fits; rw[qTS]; omega);rw[show Go.Aev.L (es.map toI)=V.d (.list es) from congrArg (fun l=>V.d (.list l)) (qKS ht)]at hd;refine⟨.list (qe (M44.qaj (es.map toI))),⟨⟨qsz (by omega),fun f hf=>?_⟩,rfl⟩,qzN hd⟩;simp only[qcQ,qzL,qTD,qTJ,or_false]at hf;subst hf;show((qe (M44.qaj (es.map toI))).length:Int)<=10+10*(es.length:Int);rw[M44.qZ]; omega
def qzO:qm PP 188 qep:=fun ds hp=>by
 obtain⟨a,rfl⟩:=qsy hp.1.1;obtain⟨es,rfl,hl,ht⟩:qd (.l 3000000 (.s 301)) a:=hp.1.2 0 _ rfl;have hs:∀x∈es.map toS,x.length<=301:=by
  intro x hx;obtain⟨d,hd,rfl⟩:=qTV.1 hx;obtain⟨l,rfl,h⟩:=ht d hd;exact h
 have hb:∀x∈es.map toS,(M44.qC x).length<=311:=by
  intro x hx;have:=hs x hx;have h:=M44.qcI (qi4 (n:=x.length) (by omega));unfold M44.qC; rw[qTN]; omega
 have e:(M44.qbD (es.map toS)).length<=10+311*es.length:=by
  unfold M44.qbD;have h:=M44.qcI (qi4 (n:=(es.map toS).length) (by rw[qTS]; omega));have h2:=qsA (f:=M44.qC) (k:=311) hb;rw[qTS]at h2;rw[qTN]; omega
 have hd:=M44.qHM (l:=es.map toS) (by unfold M44.fits; rw[qTS]; omega) (fun x hx=>by have:=hs x hx; unfold M44.Jv; omega) (by unfold M44.Jv; omega);rw[show M44.LS (es.map toS)=V.d (.list es) from congrArg (fun l=>V.d (.list l)) (qKT ht)]at hd;refine⟨.list (qe (M44.qbD (es.map toS))),⟨⟨qsz (by omega),fun f hf=>?_⟩,rfl⟩,qzN hd⟩;simp only[qep,qzM,qTD,qTJ,or_false]at hf;subst hf;show((qe (M44.qbD (es.map toS))).length:Int)<=10+311*(es.length:Int);rw[M44.qZ]; omega
def qnu (s:D):List D:=qe (M44.qC (toS s))
def inP (k:Int) (l:List D) (i:Nat):List D:=.int .u8 (IntKind.u8.wrap k)::((l.take i).map qnu).flatten
def qBl (k:Int) {l:List D} {i:Nat} (h:i<l.length):inP k l (i+1)=inP k l i++qnu (l.getD i .nilp):=by
 unfold inP;rw[List.take_succ_eq_append_getElem h,qUC,List.flatten_append,zzG,qTE h];simp
def qnv (ds:List D) (d:D):Prop:=d=.list (inP (toI (qa ds 0)) (toL (qa ds 1)) (toL (qa ds 1)).length)
structure qQ1 (k:Int) (l:List D) (U:Nat->D):Prop where
 lo:0<=toI (U 2)
 hi:toI (U 2)<=l.length
 o:inP k l (toN (U 2))=[.int .u8 (IntKind.u8.wrap k)]
structure qQ2 (k:Int) (l:List D) (U:Nat->D):Prop where
 lo:0<=toI (U 4)
 hi:toI (U 4)<=l.length
 n:toN (U 2)=(inP k l (toN (U 4))).length
 o:toL (U 5)=inP k l (toN (U 4))
def qjr:Con:={pts:=[.i .i64,ZhZ],pre:=[],rts:=[Zb2],post:=[]}
def qnw:RFn:=mF 109 qjr [⟨3,[Zs,(5,.o (.sl 0 1 Za Zg Zg true)),(6,Zck)],[.dat 1 Zgm false],[.i .i64,ZhZ,.i .i64],[Z3,Zgn,.le ZbX (.w 0 Zg (.w 2 (.i 1000000010) Zb)),.nle (.w 0 Za ZbX) (.u 0 0 Zgm),.nle Zg ZbX],(Za,.w 1 Zi Zb,Zk,Za,Za,Za)⟩,⟨3,[Zs,Zh0,(6,.o ZgP)],[.dat 1 Zj false],[.i .i64,ZhZ,.i .i64,.i .i64,.i .i64,Zb2],[Zbf,.le Zf Zi,.le Zdd (.w 0 Zg (.w 2 (.i 1000000010) Zf)),.nle (.w 0 Za Zdd) Zan,.nle Zd Zdd],(Za,.w 1 Zi Zf,Zk,Za,Za,Za)⟩]
def qa1:Tab:=[(191,qfz)]
def qQ3:qH PP 109 qjr (Ev0 PP qnw qa1):=fe qnw qa1 (qj qKU (qo)) (by kernel_rfl) (by refine⟨?_,?_,?_,trivial⟩<;>intro<;>kernel_rfl)
def qtJ:Con:={qjr with post:=qjr.post++[],fact:=qnv}
def qQ4:TQ:=.next [] 0 [Ze,Zc,Za]
def qBm:TQ:=.fork (.w 10 Zb Zi) (.fork (.w 11 (.u 0 0 Zj9) Za) (.next [(191,[.mk .s ZaH])] 0 Zek) (.next [(191,[.mk .s ZaH])] 1 [Ze,Zc,.w 8 Zg (.u 0 0 Zj9),.w 8 Zg (.u 0 0 Zj9),Zej,.w 5 Zgm Zj9])) (.done [] Zgm)
def qBn:TQ:=.fork (.w 10 Zf Zi) (.fork (.w 11 (.u 0 0 Zka) Za) (.next [(191,[.mk .s Zbn])] 1 [Ze,Zc,Zb,Zd,ZeU,Zj]) (.next [(191,[.mk .s Zbn])] 1 [Ze,Zc,.w 8 Zb (.u 0 0 Zka),.w 8 Zb (.u 0 0 Zka),ZeU,.w 5 Zgo Zka])) (.done [] Zgo)
def qQ5:qN PP qnw qa1=[qQ4,qBm,qBn]:=by kernel_rfl
def qQ6 {ds:List D} {d:D} (hp:qG qjr ds) (h:Ev0 PP qnw qa1 ds d):qnv ds d:=by
 refine Yc qQ5 (I:=fun k U=>match k with
  | 0=>qQ1 (toI (qa ds 0)) (toL (qa ds 1)) U|_=>qQ2 (toI (qa ds 0)) (toL (qa ds 1)) U) (Q:=qnv ds) ?_ ?_ h
 ·intro k st q U d hst hq hg hi ht;have h0:=hg.arg 0 (by decide);have h1:=hg.arg 1 (by decide);rcases k with _|_|k
  ·have hq:qBm=q:=by simpa using hq
   subst hq;obtain⟨i1,i2,i3⟩:=hi;rcases ht with⟨hlt,ht⟩|⟨hge,_,rfl⟩
   ·have hlt:decide (toI (U 2)<((toL (U 1)).length:Int))=true:=hlt;have hlt:=of_decide_eq_true hlt;rw[h1]at hlt;have e1:(toI (U 2)+1).toNat=toN (U 2)+1:=by unfold toN; omega
    have el:toN (U 2)<(toL (qa ds 1)).length:=by unfold toN; omega
    have key:∀e:D,qfy [.str ⟨⟨toS ((toL (U 1)).getD (toN (U 2)) .nilp)⟩⟩] e->inP (toI (qa ds 0)) (toL (qa ds 1)) (toN (U 2)+1)=[.int .u8 (IntKind.u8.wrap (toI (qa ds 0)))]++toL e:=by
     intro e he;have he:toL e=qe (M44.qC (toS ((toL (U 1)).getD (toN (U 2)) .nilp))):=he;rw[qBl _ el,i3,he,h1];rfl
    rcases ht with⟨hz,hc,hn⟩|⟨hz,hc,hn⟩
    ·obtain⟨c1,_⟩:=hc;have f1:qfy _ _:=(c1 qfz rfl).2.2;have k1:=key _ f1;have hz:decide (((toL (wOf PP qa1 191 [.str ⟨⟨toS ((toL (U 1)).getD (toN (U 2)) .nilp)⟩⟩])).length:Int)<=0)=true:=hz;have hz:=of_decide_eq_true hz;have hz2:toL (wOf PP qa1 191 [.str ⟨⟨toS ((toL (U 1)).getD (toN (U 2)) .nilp)⟩⟩])=[]:=qUr (by omega);refine hn ⟨?_,?_,?_⟩
     ·show 0<=toI (U 2)+1;omega
     ·show toI (U 2)+1<=_;omega
     ·show inP _ _ (toI (U 2)+1).toNat=_;rw[e1,k1];show _++toL (wOf PP qa1 191 [.str ⟨⟨toS ((toL (U 1)).getD (toN (U 2)) .nilp)⟩⟩])=_;rw[hz2,qT7]
    ·obtain⟨c1,_⟩:=hc;have f1:qfy _ _:=(c1 qfz rfl).2.2;have k1:=key _ f1;refine hn ⟨?_,?_,?_,?_⟩
     ·show 0<=toI (U 2)+1;omega
     ·show toI (U 2)+1<=_;omega
     ·show((((1:Int).toNat+((toL (wOf PP qa1 191 [.str ⟨⟨toS ((toL (U 1)).getD (toN (U 2)) .nilp)⟩⟩])).length:Int).toNat:Nat):Int)).toNat=(inP _ _ (toI (U 2)+1).toNat).length;rw[e1,k1,qTN,qTK,qTK];rfl
     ·show[.int .u8 (IntKind.u8.wrap (toI (U 0)))]++toL (wOf PP qa1 191 [.str ⟨⟨toS ((toL (U 1)).getD (toN (U 2)) .nilp)⟩⟩])=inP _ _ (toI (U 2)+1).toNat;rw[e1,k1,h0];rfl
   ·have hge:decide (toI (U 2)<((toL (U 1)).length:Int))=false:=hge;have hge:=of_decide_eq_false hge;rw[h1]at hge;have e:toN (U 2)=(toL (qa ds 1)).length:=by unfold toN; omega
    rw[e]at i3;show D.list [.int .u8 (IntKind.u8.wrap (toI (U 0)))]=_;rw[h0,<-i3]
  ·have hq:qBn=q:=by simpa using hq
   subst hq;obtain⟨i1,i2,i3,i4⟩:=hi;rcases ht with⟨hlt,ht⟩|⟨hge,_,rfl⟩
   ·have hlt:decide (toI (U 4)<((toL (U 1)).length:Int))=true:=hlt;have hlt:=of_decide_eq_true hlt;rw[h1]at hlt;have e1:(toI (U 4)+1).toNat=toN (U 4)+1:=by unfold toN; omega
    have el:toN (U 4)<(toL (qa ds 1)).length:=by unfold toN; omega
    have key:∀e:D,qfy [.str ⟨⟨toS ((toL (U 1)).getD (toN (U 4)) .nilp)⟩⟩] e->inP (toI (qa ds 0)) (toL (qa ds 1)) (toN (U 4)+1)=inP (toI (qa ds 0)) (toL (qa ds 1)) (toN (U 4))++toL e:=by
     intro e he;have he:toL e=qe (M44.qC (toS ((toL (U 1)).getD (toN (U 4)) .nilp))):=he;rw[qBl _ el,he,h1];rfl
    rcases ht with⟨hz,hc,hn⟩|⟨hz,hc,hn⟩
    ·obtain⟨c1,_⟩:=hc;have f1:qfy _ _:=(c1 qfz rfl).2.2;have k1:=key _ f1;have hz:decide (((toL (wOf PP qa1 191 [.str ⟨⟨toS ((toL (U 1)).getD (toN (U 4)) .nilp)⟩⟩])).length:Int)<=0)=true:=hz;have hz:=of_decide_eq_true hz;have hz2:toL (wOf PP qa1 191 [.str ⟨⟨toS ((toL (U 1)).getD (toN (U 4)) .nilp)⟩⟩])=[]:=qUr (by omega);have k2:inP (toI (qa ds 0)) (toL (qa ds 1)) (toN (U 4)+1)=inP (toI (qa ds 0)) (toL (qa ds 1)) (toN (U 4)):=by
      rw[k1];show _++toL (wOf PP qa1 191 [.str ⟨⟨toS ((toL (U 1)).getD (toN (U 4)) .nilp)⟩⟩])=_;rw[hz2,qT7]
     refine hn ⟨?_,?_,?_,?_⟩
     ·show 0<=toI (U 4)+1;omega
     ·show toI (U 4)+1<=_;omega
     ·show toN (U 2)=(inP _ _ (toI (U 4)+1).toNat).length;rw[e1,k2,i3]
     ·show toL (U 5)=inP _ _ (toI (U 4)+1).toNat;rw[e1,k2,i4]
    ·obtain⟨c1,_⟩:=hc;have f1:qfy _ _:=(c1 qfz rfl).2.2;have k1:=key _ f1;refine hn ⟨?_,?_,?_,?_⟩
     ·show 0<=toI (U 4)+1;omega
     ·show toI (U 4)+1<=_;omega
     ·show(((toN (U 2)+((toL (wOf PP qa1 191 [.str ⟨⟨toS ((toL (U 1)).getD (toN (U 4)) .nilp)⟩⟩])).length:Int).toNat:Nat):Int)).toNat=(inP _ _ (toI (U 4)+1).toNat).length;rw[e1,k1,qTN,qTK,qTK,i3];rfl
     ·show((toL (U 5)).drop 0).take (toN (U 2))++toL (wOf PP qa1 191 [.str ⟨⟨toS ((toL (U 1)).getD (toN (U 4)) .nilp)⟩⟩])=inP _ _ (toI (U 4)+1).toNat;rw[e1,k1,qTY,i4,i3,qUM];rfl
   ·have hge:decide (toI (U 4)<((toL (U 1)).length:Int))=false:=hge;have hge:=of_decide_eq_false hge;rw[h1]at hge;have e:toN (U 4)=(toL (qa ds 1)).length:=by unfold toN; omega
    show D.list (((toL (U 5)).drop 0).take (toN (U 2)))=_;rw[qTY,i4,i3,qUM,e]
  ·simp at hq
 ·intro d ht;refine ht.2 ⟨?_,?_,?_⟩
  ·show(0:Int)<=0;decide
  ·show(0:Int)<=((toL (qa ds 1)).length:Int);omega
  ·rfl
def qQ7:qm PP 109 qtJ:=qQ3.more fun ds d hp _ h=>⟨fun f hf=>(by cases hf),qQ6 hp h⟩
def OfQ (ds:List D) (d:D):Prop:=qbs (inP (toI (qa ds 0)) (toL (qa ds 1)) (toL (qa ds 1)).length)->d=.agg (cpN (qaL (inP (toI (qa ds 0)) (toL (qa ds 1)) (toL (qa ds 1)).length)) 16)
def qt3 {ws:List D} (hl:ws.length=16) (hi:∀x∈ws,∃n:Int,x=.int .u8 n):((List.range 16).map fun i=>(K.i .u8).den (cel (.agg ws) i))=ws:=qBW hl hi
def qcU:Con:={pts:=[.i .i64,ZhZ],pre:=[],rts:=[Zdm],post:=[]}
def qnY:RFn:=mF 50 qcU []
def qbq:Tab:=[(109,qtJ),(108,qum)]
def qBD:qH PP 50 qcU (Ev0 PP qnY qbq):=fe qnY qbq (qj qQ7 (qj qXe (qo))) (by kernel_rfl) ⟨fun U=>by kernel_rfl,trivial⟩
def qnZ:qm PP 50 qcU:=qBD.ok
def qjA:Con:={qcU with post:=qcU.post++[],fact:=OfQ}
def qt4:TQ:=.done [(109,[ZaG,Zae]),(108,[ZkG])] (.u 2 0 (.w 4 (.mk (.i .u8) (.u 1 0 ZaA)) (.w 4 (.mk (.i .u8) (.u 1 1 ZaA)) (.w 4 (.mk (.i .u8) (.u 1 2 ZaA)) (.w 4 (.mk (.i .u8) (.u 1 3 ZaA)) (.w 4 (.mk (.i .u8) (.u 1 4 ZaA)) (.w 4 (.mk (.i .u8) (.u 1 5 ZaA)) (.w 4 (.mk (.i .u8) (.u 1 6 ZaA)) (.w 4 (.mk (.i .u8) (.u 1 7 ZaA)) (.w 4 (.mk (.i .u8) (.u 1 8 ZaA)) (.w 4 (.mk (.i .u8) (.u 1 9 ZaA)) (.w 4 (.mk (.i .u8) (.u 1 10 ZaA)) (.w 4 (.mk (.i .u8) (.u 1 11 ZaA)) (.w 4 (.mk (.i .u8) (.u 1 12 ZaA)) (.w 4 (.mk (.i .u8) (.u 1 13 ZaA)) (.w 4 (.mk (.i .u8) (.u 1 14 ZaA)) (.w 4 (.mk (.i .u8) (.u 1 15 ZaA)) .z)))))))))))))))))
def qSF:qN PP qnY qbq=[qt4]:=by kernel_rfl
def qhn:TQ->T
 | .done _ t=>t|_=>.z
def qSG (U:Nat->D):(qhn qt4).den (wOf PP qbq) U=.agg ((List.range 16).map fun i=>(K.i .u8).den (cel (wOf PP qbq 108 [.list (toL (wOf PP qbq 109 [.int .i64 (toI (U 0)),.list (toL (U 1))]))]) i)):=by kernel_rfl
def qSH {ds:List D} {d:D} (hp:qG qcU ds) (h:Ev0 PP qnY qbq ds d):OfQ ds d:=by
 intro hl;refine Yc qSF (I:=fun k U=>False) (Q:=fun d=>d=.agg (cpN (qaL (inP (toI (qa ds 0)) (toL (qa ds 1)) (toL (qa ds 1)).length)) 16)) (fun k st q U d hst hq hg hi ht=>hi.elim) ?_ h;intro d ht;obtain⟨⟨c1,c2,_⟩,rfl⟩:=ht;have f1:qnv _ _:=(c1 qtJ rfl).2.2;have f2:qul _ _:=(c2 qum rfl).2.2;have f1:wOf PP qbq 109 [.int .i64 (toI (qa ds 0)),.list (toL (qa ds 1))]=.list (inP (toI (qa ds 0)) (toL (qa ds 1)) (toL (qa ds 1)).length):=f1;have f2:qbs (toL (wOf PP qbq 109 [.int .i64 (toI (qa ds 0)),.list (toL (qa ds 1))]))->wOf PP qbq 108 [.list (toL (wOf PP qbq 109 [.int .i64 (toI (qa ds 0)),.list (toL (qa ds 1))]))]=.agg (cpN (qaL (toL (wOf PP qbq 109 [.int .i64 (toI (qa ds 0)),.list (toL (qa ds 1))]))) 16):=f2;show(qhn qt4).den (wOf PP qbq) (qa ds)=_;rw[f1]at f2;have f2:=f2 hl;rw[qSG,f1,f2,qt3 (qjG _ 16) (qjH _ 16)];rfl
def qBE:qm PP 50 qjA:=qBD.more fun ds d hp _ h=>⟨fun f hf=>(by cases hf),qSH hp h⟩
def txD (a:D):D:=.str ⟨⟨(((List.range 16).map fun i=>(K.i .u8).den (cel a i)).drop 0 |>.take 16).map unB⟩⟩
def qcn (a b:D):List D:=inP 31 [txD a,txD b] 2
def qBB (ds:List D) (d:D):Prop:=qbs (qcn (qa ds 0) (qa ds 1))->d=.agg (cpN (qaL (qcn (qa ds 0) (qa ds 1))) 16)
def qjz:Con:={pts:=[Zdm,Zdm],pre:=[],rts:=[Zdm],post:=[]}
def qnX:RFn:=mF 56 qjz []
def qeE:Tab:=[(50,qjA)]
def qSx:qH PP 56 qjz (Ev0 PP qnX qeE):=fe qnX qeE (qj qBE (qo)) (by kernel_rfl) ⟨fun U=>by kernel_rfl,trivial⟩
def qBC:Con:={qjz with post:=qjz.post++[],fact:=qBB}
def qt1:TQ:=.done [(50,[.mk (.i .i64) (.i 31),ZkE])] (.u 2 0 (.w 4 (.mk (.i .u8) (.u 1 0 Zaz)) (.w 4 (.mk (.i .u8) (.u 1 1 Zaz)) (.w 4 (.mk (.i .u8) (.u 1 2 Zaz)) (.w 4 (.mk (.i .u8) (.u 1 3 Zaz)) (.w 4 (.mk (.i .u8) (.u 1 4 Zaz)) (.w 4 (.mk (.i .u8) (.u 1 5 Zaz)) (.w 4 (.mk (.i .u8) (.u 1 6 Zaz)) (.w 4 (.mk (.i .u8) (.u 1 7 Zaz)) (.w 4 (.mk (.i .u8) (.u 1 8 Zaz)) (.w 4 (.mk (.i .u8) (.u 1 9 Zaz)) (.w 4 (.mk (.i .u8) (.u 1 10 Zaz)) (.w 4 (.mk (.i .u8) (.u 1 11 Zaz)) (.w 4 (.mk (.i .u8) (.u 1 12 Zaz)) (.w 4 (.mk (.i .u8) (.u 1 13 Zaz)) (.w 4 (.mk (.i .u8) (.u 1 14 Zaz)) (.w 4 (.mk (.i .u8) (.u 1 15 Zaz)) .z)))))))))))))))))
def qSy:qN PP qnX qeE=[qt1]:=by kernel_rfl
def qSz (U:Nat->D):(qhn qt1).den (wOf PP qeE) U=.agg ((List.range 16).map fun i=>(K.i .u8).den (cel (wOf PP qeE 50 [.int .i64 31,.list [txD (U 0),txD (U 1)]]) i)):=by kernel_rfl
def qSA {ds:List D} {d:D} (hp:qG qjz ds) (h:Ev0 PP qnX qeE ds d):qBB ds d:=by
 intro hl;refine Yc qSy (I:=fun k U=>False) (Q:=fun d=>d=.agg (cpN (qaL (qcn (qa ds 0) (qa ds 1))) 16)) (fun k st q U d hst hq hg hi ht=>hi.elim) ?_ h;intro d ht;obtain⟨⟨c1,_⟩,rfl⟩:=ht;have f1:OfQ _ _:=(c1 qjA rfl).2.2;have f1:qbs (qcn (qa ds 0) (qa ds 1))->wOf PP qeE 50 [.int .i64 31,.list [txD (qa ds 0),txD (qa ds 1)]]=.agg (cpN (qaL (qcn (qa ds 0) (qa ds 1))) 16):=f1;show(qhn qt1).den (wOf PP qeE) (qa ds)=_;rw[qSz,f1 hl,qt3 (qjG _ 16) (qjH _ 16)]
def qSB:qm PP 56 qBC:=qSx.more fun ds d hp _ h=>⟨fun f hf=>(by cases hf),qSA hp h⟩
def shI (s:D):List Int:=[toI (cel s 0),toI (cel s 1)]
def qet (f:D):List Int:=[toI (cel f 0),toI (cel f 1),toI (cel f 2),((toL (cel f 3)).length:Nat)]
def qdt (z:D):List Int:=[toI (cel z 0),toI (cel z 4),toI (cel z 5),toI (cel z 6),toI (cel z 7),toI (cel z 8),((toL (cel z 1)).length:Nat)]++(toL (cel z 1)).map toI++[(((toL (cel z 2)).length:Nat):Int)]++(toL (cel z 2)).map toI++[(((toL (cel z 3)).length:Nat):Int)]
def qhf (f:D):List (List UInt8):=(toL (cel f 3)).map toS
def qeu (z:D):List Int:=qdt z++(toL (cel z 3)).flatMap shI++[(((toL (cel z 9)).length:Nat):Int)]++(toL (cel z 9)).flatMap qet
def qfO (ds:List D) (d:D):Prop:=toL d=qe (M44.qaj (qeu (qa ds 0))++M44.qbD ((toL (cel (qa ds 0) 9)).flatMap qhf))
def qhg:Con:={pts:=[qea],pre:=[.rows 6 ZaW Zbj Zeo],rts:=[.l 1000000000 .y8],post:=[]}
def qev:RFn:=mF 185 qhg [⟨7,[Zal,ZdC,ZbR],[Zhv,Zfg],Zjs,[Zah,.le Zd (.i 301),.le ZQ (.w 0 (.i 613) (.w 2 ZT Zd)),ZdD,ZcN],(Zg,.w 1 Zc1 Zd,Zk,Za,Za,Za)⟩,⟨13,[Zal,ZdC,(5,ZcL),(6,ZbP)],[Zhv,Zfg],Zjs,[Zah,.le ZQ (.w 0 (.i 1216) (.w 2 Z4 Zd)),Zhw,ZcN,Zci,ZdF],(Za,.w 1 Zbj Zd,Zk,Za,Za,Za)⟩,⟨13,[Zal,ZdC,(5,Zjr),(6,Zdy)],[Zhv,Zen,Zd1],[qea,.i .i64,.i .i64,.i .i64,.i .i64,.i .i64,ZfN,.l 3000000 Zdl],[.le ZQ (.w 0 (.i 1216) (.w 2 Z4 Zj)),.le Zak (.w 2 Zeo Zj),.nle Zab ZQ,.nle Zcg Zak,.nle ZgW Zab,Zci,.nle Zhe Zcg,ZfD],(Za,.w 1 Zbj Zj,Zk,Za,Za,Za)⟩]
def qew:Tab:=[(51,qcQ),(188,qep)]
def qOm:qbh PP qev qew=true:=by kernel_rfl
def qOn:chX PP qev qew 0=true:=by kernel_rfl
def qOo:chX PP qev qew 1=true:=by kernel_rfl
def qOp:chX PP qev qew 2=true:=by kernel_rfl
def qA0:qH PP 185 qhg (Ev0 PP qev qew):=fe qev qew (qj qsB (qj qzO (qo))) (qb8 qOm ⟨qOn,qOo,qOp,trivial⟩) (by refine⟨?_,?_,?_,?_,trivial⟩<;>intro<;>kernel_rfl)
def qOq:qm PP 185 qhg:=qA0.ok
def qm6:Con:={qhg with post:=qhg.post++[],fact:=qfO}
def qA1:TQ:=.fork (.w 11 Zep Za) (.fork (.w 11 ZG Za) (.next [] 0 [Ze,.w 8 Zhy ZfO,.w 8 Zhy ZfO,Za,.w 5 Zju Zeq]) (.next [] 0 [Ze,Zjv,Zjv,Za,.w 5 (.w 6 (.w 8 Zhy ZG) (.w 7 Za (.w 5 Zju ZaR))) Zeq])) (.fork (.w 11 ZG Za) (.next [] 0 [Ze,.w 8 ZhC ZfO,.w 8 ZhC ZfO,Za,.w 5 Zjw Zeq]) (.next [] 0 [Ze,Zjx,Zjx,Za,.w 5 (.w 6 (.w 8 ZhC ZG) (.w 7 Za (.w 5 Zjw ZaR))) Zeq]))
def qtl:TQ:=.fork (.w 10 Zd Zc1) (.next [] 0 [Ze,.w 8 Zc (.u 0 0 Zjy),.w 8 Zc (.u 0 0 Zjy),ZaI,.w 5 Zc2 Zjy]) (.next [] 1 [Ze,.w 8 Zc (.u 0 0 Zjz),.w 8 Zc (.u 0 0 Zjz),Za,.w 5 Zc2 Zjz])
def qtm:TQ:=.fork (.w 10 Zd Zbj) (.fork (.w 11 ZfQ Za) (.next [] 1 [Ze,ZfR,ZfR,ZaI,.w 5 Zc2 ZjA]) (.next [] 2 [Ze,ZfR,ZfR,ZfQ,ZfQ,ZaI,.w 5 Zc2 ZjA,.u 1 3 ZfP])) (.fork (.w 11 (.u 0 0 ZjB) Za) (.done [(51,[ZcY]),(188,[.z])] ZjC) (.done [(51,[ZcY]),(188,[.z])] (.w 6 (.w 8 (.u 0 0 (.u 3 51 Zfw)) (.u 0 0 ZjB)) (.w 7 Za (.w 5 ZjC ZjB)))))
def qtn:TQ:=.fork (.w 10 Zj Zbj) (.fork (.w 11 ZhD Za) (.next [] 2 [Ze,ZfT,ZfT,Zd,Zf,Zed,ZjE,Zh]) (.next [] 2 [Ze,ZfT,ZfT,.w 8 Zd ZhD,.w 8 Zd ZhD,Zed,ZjE,.w 5 Zjc (.u 1 3 ZfS)])) (.fork (.w 11 (.u 0 0 ZjG) Za) (.done [(51,[.mk .l Zt]),(188,[.mk .l Zh])] ZjI) (.done [(51,[.mk .l Zt]),(188,[.mk .l Zh])] (.w 6 (.w 8 (.u 0 0 ZjH) (.u 0 0 ZjG)) (.w 7 Za (.w 5 ZjI ZjG)))))
def qOr:qN PP qev qew=[qA1,qtl,qtm,qtn]:=by kernel_rfl
def X0 (z:D) (k:Nat):List Int:=qdt z++((toL (cel z 3)).take k).flatMap shI
def X1 (z:D) (k:Nat):List Int:=qdt z++(toL (cel z 3)).flatMap shI++[(((toL (cel z 9)).length:Nat):Int)]++((toL (cel z 9)).take k).flatMap qet
def W1 (z:D) (k:Nat):List (List UInt8):=((toL (cel z 9)).take k).flatMap qhf
structure EI (n:Nat) (row:List D) (X:List Int):Prop where
 len:n=row.length
 eq:row.map toI=X
structure EW (n:Nat) (row:List D) (X:List (List UInt8)):Prop where
 len:n=row.length
 eq:row.map toS=X
def EI.snoc {n m:Nat} {row es:List D} {X Y:List Int} (h:EI n row X) (hm:es.length=m) (hy:X++es.map toI=Y):EI (n+m) (row.take n++es) Y:=by
 rw[qTX (by rw[h.len]; exact qTF _)];exact⟨by rw[h.len,qTN,hm],by rw[qUC,h.eq,hy]⟩
def EW.snoc {n m:Nat} {row es:List D} {X Y:List (List UInt8)} (h:EW n row X) (hm:es.length=m) (hy:X++es.map toS=Y):EW (n+m) (row.take n++es) Y:=by
 rw[qTX (by rw[h.len]; exact qTF _)];exact⟨by rw[h.len,qTN,hm],by rw[qUC,h.eq,hy]⟩
def qto {α:Type} {f:D->List α} {l:List D} {k:Nat} (hk:k<l.length):(l.take k).flatMap f++f (l.getD k .nilp)=(l.take (k+1)).flatMap f:=by
 rw[List.take_succ,List.flatMap_append,qTE hk,zzG,qTE hk];simp
def qOs {z:D} {k:Nat} (hk:k<(toL (cel z 3)).length):X0 z k++shI ((toL (cel z 3)).getD k .nilp)=X0 z (k+1):=by
 unfold X0; rw[qTW,qto hk]
def qm7 {z:D} {k:Nat} (hk:k<(toL (cel z 9)).length):X1 z k++qet ((toL (cel z 9)).getD k .nilp)=X1 z (k+1):=by
 unfold X1; rw[qTW,qto hk]
def qm8 {z:D} {k:Nat} (hk:k<(toL (cel z 9)).length):W1 z k++qhf ((toL (cel z 9)).getD k .nilp)=W1 z (k+1):=qto hk
def qOt {z:D} {k:Nat} (hk:¬k<(toL (cel z 3)).length):X0 z k++[(((toL (cel z 9)).length:Nat):Int)]=X1 z 0:=by
 unfold X0 X1; rw[qTX (by omega)]; simp
def qOu {z:D} {k:Nat} (hk:¬k<(toL (cel z 9)).length):X1 z k=qeu z:=by
 unfold X1 qeu; rw[qTX (by omega)]
def qOv {z:D} {k:Nat} (hk:¬k<(toL (cel z 9)).length):W1 z k=(toL (cel z 9)).flatMap qhf:=by
 unfold W1; rw[qTX (by omega)]
def qm9 {ds:List D} {d:D} {a w:D} {row1 row2:List D} {k:Nat} (hk:¬k<(toL (cel (qa ds 0) 9)).length) {n m:Nat} (h1:EI n row1 (X1 (qa ds 0) k)) (h2:EW m row2 (W1 (qa ds 0) k))
  (ha:qsx [.list row1] a) (hw:qzJ [.list row2] w) (hd:toL d=toL a++toL w):qfO ds d:=by
 have ha:toL a=qe (M44.qaj (row1.map toI)):=ha;have hw:toL w=qe (M44.qbD (row2.map toS)):=hw;unfold qfO;rw[hd,ha,hw,h1.eq,h2.eq,qOu hk,qOv hk,M44.qis]
def qOw {ds:List D} {d:D} (h:Ev0 PP qev qew ds d):qfO ds d:=by
 refine Yc qOr (I:=fun k U=>match k with
  | 0=>EI (toN (U 1)) (toL (U 4)) (X0 (qa ds 0) (toN (U 3)))|1=>EI (toN (U 1)) (toL (U 4)) (X1 (qa ds 0) (toN (U 3)))/\EW 0 [] (W1 (qa ds 0) (toN (U 3)))|_=>EI (toN (U 1)) (toL (U 6)) (X1 (qa ds 0) (toN (U 5)))/\EW (toN (U 3)) (toL (U 7)) (W1 (qa ds 0) (toN (U 5)))/\0<=toI (U 5)) (Q:=qfO ds) ?_ ?_ h
 ·intro k st q U d hst hq hg hi ht;have h0:=hg.arg 0 (by decide);rcases k with _|_|_|k
  ·have hq:qtl=q:=by simpa using hq
   subst hq;cases hst;have i3:0<=toI (U 3):=hg.inv (.le (.i 0) (.v 3)) (by simp);clear hg;have e3:(toI (U 3)+1).toNat=toN (U 3)+1:=by unfold toN; omega
   simp[qtl,YP,YO,YA,T.den,T.un,T.bi,T.bk,Ym,h0,e3,qUl,qUm,-List.getD_eq_getElem?_getD]at ht;rcases ht with⟨hlt,hn⟩|⟨hge,hn⟩
   ·have hlt:=of_decide_eq_true hlt;exact hn (hi.snoc rfl (qOs (by unfold toN; omega)))
   ·have hge:=of_decide_eq_false hge;exact hn (hi.snoc rfl (qOt (by unfold toN; omega))) ⟨rfl,rfl⟩
  ·have hq:qtm=q:=by simpa using hq
   subst hq;cases hst;have i3:0<=toI (U 3):=hg.inv (.le (.i 0) (.v 3)) (by simp);clear hg;have e3:(toI (U 3)+1).toNat=toN (U 3)+1:=by unfold toN; omega
   simp[qtm,YP,YO,YA,T.den,T.un,T.bi,T.bk,Ym,h0,e3,qUl,qUm,-List.getD_eq_getElem?_getD]at ht;obtain⟨i1,i2⟩:=hi;rcases ht with⟨hlt,⟨hw,hn⟩|⟨_,hn⟩⟩|⟨hge,⟨hw0,⟨hc1,hc2⟩,rfl⟩|⟨hw0,⟨hc1,hc2⟩,rfl⟩⟩
   ·have hlt:=of_decide_eq_true hlt;have hk:toN (U 3)<(toL (cel (qa ds 0) 9)).length:=by unfold toN; omega
    refine hn (i1.snoc rfl (qm7 hk)) ⟨rfl,?_⟩;rw[<-qm8 hk,<-i2.eq];unfold qhf;rw[hw]; rfl
   ·have hlt:=of_decide_eq_true hlt;have hk:toN (U 3)<(toL (cel (qa ds 0) 9)).length:=by unfold toN; omega
    refine hn (i1.snoc rfl (qm7 hk)) ⟨rfl,?_⟩ (by omega);rw[<-qm8 hk,<-i2.eq];rfl
   ·have hge:=of_decide_eq_false hge;refine qm9 (by unfold toN; omega) i1 i2 (hc1 qcQ rfl).2.2 (hc2 qep rfl).2.2 ?_;rw[hw0,qT7]; rfl
   ·have hge:=of_decide_eq_false hge;refine qm9 (by unfold toN; omega) i1 i2 (hc1 qcQ rfl).2.2 (hc2 qep rfl).2.2 ?_;exact qTX (by rw[qTN]; exact qTF _)
  ·have hq:qtn=q:=by simpa using hq
   subst hq;cases hst;obtain⟨i1,i2,i5⟩:=hi;clear hg;have e5:(toI (U 5)+1).toNat=toN (U 5)+1:=by unfold toN; omega
   simp[qtn,YP,YO,YA,T.den,T.un,T.bi,T.bk,Ym,h0,e5,qUl,qUm,-List.getD_eq_getElem?_getD]at ht;rcases ht with⟨hlt,⟨hw,hn⟩|⟨_,hn⟩⟩|⟨hge,⟨hw0,⟨hc1,hc2⟩,rfl⟩|⟨hw0,⟨hc1,hc2⟩,rfl⟩⟩
   ·have hlt:=of_decide_eq_true hlt;have hk:toN (U 5)<(toL (cel (qa ds 0) 9)).length:=by unfold toN; omega
    refine hn (i1.snoc rfl (qm7 hk)) ⟨i2.len,?_⟩ (by omega);rw[<-qm8 hk,<-i2.eq];unfold qhf;rw[hw]; simp
   ·have hlt:=of_decide_eq_true hlt;have hk:toN (U 5)<(toL (cel (qa ds 0) 9)).length:=by unfold toN; omega
    exact hn (i1.snoc rfl (qm7 hk)) (i2.snoc rfl (qm8 hk)) (by omega)
   ·have hge:=of_decide_eq_false hge;refine qm9 (by unfold toN; omega) i1 i2 (hc1 qcQ rfl).2.2 (hc2 qep rfl).2.2 ?_;rw[hw0,qT7]; rfl
   ·have hge:=of_decide_eq_false hge;refine qm9 (by unfold toN; omega) i1 i2 (hc1 qcQ rfl).2.2 (hc2 qep rfl).2.2 ?_;exact qTX (by rw[qTN]; exact qTF _)
  ·simp at hq
 ·intro d ht;simp[qA1,YP,YO,YA,T.den,T.un,T.bi,T.bk,Ym,qUl,qUm,-List.getD_eq_getElem?_getD]at ht;rcases ht with⟨a,⟨b,hn⟩|⟨_,hn⟩⟩|⟨_,⟨b,hn⟩|⟨_,hn⟩⟩
  ·exact hn ⟨by simp,by simp[X0,qdt,a,b]⟩
  ·refine hn (EI.snoc (EI.mk ?_ rfl) rfl ?_)
   ·simp; omega
   ·simp[X0,qdt,a]
  ·refine hn (EI.snoc (EI.snoc (EI.mk ?_ rfl) rfl rfl) rfl ?_)
   ·simp; omega
   ·simp[X0,qdt,b]
  ·refine hn (EI.snoc (EI.snoc (EI.snoc (EI.mk ?_ rfl) rfl rfl) rfl rfl) rfl ?_)
   ·simp; omega
   ·simp[X0,qdt]
def qOx:qm PP 185 qm6:=qA0.more fun ds d _ _ h=>⟨fun f hf=>(by cases hf),qOw h⟩
def qhr:Con:={pts:=[qea,qri],pre:=[.rows 6 ZaW Zbj Zeo,.rows 6 Zde ZeW Zeo],rts:=[.b],post:=[]}
def qod:RFn:=mF 224 qhr []
def qoe:Tab:=[(185,qm6)]
def qV4:qH PP 224 qhr (Ev0 PP qod qoe):=fe qod qoe (qj qOx (qo)) (by kernel_rfl) ⟨fun U=>by kernel_rfl,trivial⟩
def qBL:Con:={qhr with post:=qhr.post++[.imp Zb (.ifF (.has ZbN Zau) (.has ZdI Zau)),.imp Zb (.ifF Zij (.le Za Zbk)),.imp Zb (.ifF Zij (.le Zbk ZaY)),.imp Zb (.ifF (.and Zij (.le (.u 11 3 ZaW) Z6)) (.le (.u 11 3 Zde) Zbk)),.imp Zb (.le Zbj ZeW),.imp Zb (.le ZeW Zbj),.imp Zb (.le Zc1 Zbo),.imp Zb (.le Zbo Zc1)]}
def qV8:TQ:=.done [(185,[ZhK]),(185,[ZkT])] (.mk .b (.w 16 (.u 16 0 (.mk .l (.u 3 185 (.w 4 ZhK .z)))) (.u 16 0 (.mk .l (.u 3 185 (.w 4 ZkT .z))))))
def qWh:qN PP qod qoe=[qV8]:=by kernel_rfl
def qWj (b:ByteArray):∀(n i:Nat) (r:List UInt8),b.size - i=n->ByteArray.toList.loop b i r=r.reverse++b.data.toList.drop i:=by
 intro n
 induction n with
 | zero =>
  intro i r h;rw[ByteArray.toList.loop];have hb:b.size=b.data.toList.length:=rfl;rw[if_neg (by omega),qVf (by omega),qT7]
 | succ n ih =>
  intro i r h;rw[ByteArray.toList.loop];have hb:b.size=b.data.toList.length:=rfl;have hi:i<b.data.toList.length:=by omega
  rw[if_pos (by omega),ih (i+1) _ (by omega),qV7 hi,List.reverse_cons,qTW];have e:b.get! i=b.data.toList[i]:=by
   have hi':i<b.data.size:=hi;show b.data[i]! = _;rw[getElem!_pos b.data i hi'];simp
  rw[e]; rfl
def qBM (l:List UInt8):(⟨⟨l⟩⟩:ByteArray).toList=l:=by
 unfold ByteArray.toList;rw[qWj _ _ 0 [] rfl];simp
def qof {a:Nat} (h:a<128):M44.vb a=[UInt8.ofNat a]:=by rw[M44.vb,dif_pos h]
def qog {a:Nat} (h:¬a<128):M44.vb a=UInt8.ofNat (a % 128+128)::M44.vb (a / 128):=by rw[M44.vb,dif_neg h]
def qBN:∀(a b:Nat) (x y:List UInt8),M44.vb a++x=M44.vb b++y->a=b/\x=y:=by
 intro a
 induction a using Nat.strongRecOn with
 | _ a ih =>
  intro b x y h;have of:∀n:Nat,n<256->(UInt8.ofNat n).toNat=n:=fun n hn=>by simp; omega
  by_cases ha:a<128
  ·by_cases hb:b<128
   ·rw[qof ha,qof hb]at h;simp only[qVA,qUN]at h;have:=congrArg UInt8.toNat h.1;rw[of a (by omega),of b (by omega)]at this;exact⟨this,h.2⟩
   ·rw[qof ha,qog hb]at h;simp only[qVA,qUR,qUN]at h;have:=congrArg UInt8.toNat h.1;rw[of a (by omega),of _ (by omega)]at this;omega
  ·by_cases hb:b<128
   ·rw[qog ha,qof hb]at h;simp only[qVA,qUR,qUN]at h;have:=congrArg UInt8.toNat h.1;rw[of b (by omega),of _ (by omega)]at this;omega
   ·rw[qog ha,qog hb]at h;simp only[qUR,qUN]at h;have h1:=congrArg UInt8.toNat h.1;rw[of _ (by omega),of _ (by omega)]at h1;obtain⟨h2,h3⟩:=ih (a / 128) (by omega) (b / 128) x y h.2;exact⟨by omega,h3⟩
def qBO:∀{l m:List Int} {x y:List UInt8},l.length=m.length->l.flatMap M44.YT++x=m.flatMap M44.YT++y->l.map M44.zzA=m.map M44.zzA/\x=y
 | [],[],x,y,_,h=>⟨rfl,by simpa using h⟩
 | a::l,b::m,x,y,hl,h=>by
  rw[qUq,qUq,qTW,qTW]at h;obtain⟨h1,h2⟩:=qBN _ _ _ _ h;obtain⟨h3,h4⟩:=qBO (by simpa using hl) h2;exact⟨by rw[qUa,qUa,h1,h3],h4⟩
 | [],_::_,_,_,hl,_=>by simp at hl
 | _::_,[],_,_,hl,_=>by simp at hl
def qoh {a b:Int} (ha:M44.qy a) (hb:M44.qy b) (h:M44.zzA a=M44.zzA b):a=b:=by
 rw[M44.qqX ha,M44.qqX hb]at h;have:=congrArg M44.uz h;rwa[M44.qq7,M44.qq7]at this
def qhs {a b:Nat} (ha:a<=1073741824) (hb:b<=1073741824) (h:M44.zzA a=M44.zzA b):a=b:=by
 have:=qoh (qi4 ha) (qi4 hb) h;omega
def qWp {l m:List Int} {x y:List UInt8} (hl:l.length<=1073741824) (hm:m.length<=1073741824) (h:M44.qaj l++x=M44.qaj m++y):l.map M44.zzA=m.map M44.zzA:=by
 unfold M44.qaj at h;rw[qTW,qTW]at h;obtain⟨h1,h2⟩:=qBN _ _ _ _ h;exact(qBO (qhs hl hm h1) h2).1
def qoi:Y->Nat->Option Y
 | .ec c _,0=>some c|.ec _ r,n+1=>qoi r n|_,_=>none
def qWs {r:Y} {cs:List D} (h:qd r (.list cs)):∀{n:Nat} {y:Y},qoi r n=some y->qd y (cs.getD n .nilp):=by
 induction r generalizing cs with
 | ec c r _ ih2 =>
  obtain⟨x,xs,e,h1,h2⟩:=h;cases e;intro n y hy;rcases n with _|n
  ·simp[qoi]at hy;subst hy;exact h1
  ·exact ih2 h2 (n:=n) hy
 | _=>intro n y hy; cases n<;>cases hy
def qht {r:Y} {d:D} (h:qd (.g r) d) {n:Nat} {y:Y} (hy:qoi r n=some y):qd y (cel d n):=by
 obtain⟨cs,rfl,h⟩:=h;exact qWs h hy
structure qhu (a b:D):Prop where
 cnt:M44.zzA (toI (cel a 0))=M44.zzA (toI (cel b 0))
 sh:(toL (cel a 3)).flatMap (fun s=>(shI s).map M44.zzA)=(toL (cel b 3)).flatMap (fun s=>(shI s).map M44.zzA)
 shl:(toL (cel a 3)).length=(toL (cel b 3)).length
 fl:(toL (cel a 9)).flatMap (fun s=>(qet s).map M44.zzA)=(toL (cel b 9)).flatMap (fun s=>(qet s).map M44.zzA)
 fll:(toL (cel a 9)).length=(toL (cel b 9)).length
structure qhv (a:D):Prop where
 l1:(toL (cel a 1)).length<=301
 l2:(toL (cel a 2)).length<=301
 l3:(toL (cel a 3)).length<=301
 l9:(toL (cel a 9)).length<=301
def qjE {α:Type} {f:D->List α} {k:Nat} (hf:∀s,(f s).length=k):∀l:List D,(l.flatMap f).length=k*l.length
 | []=>by simp
 | a::r=>by rw[qUq,qTN,hf,qjE hf r,qT9,Nat.mul_succ]; omega
def qWv {a b:D} (ha:qhv a) (hb:qhv b) (h:(qeu a).map M44.zzA=(qeu b).map M44.zzA):qhu a b:=by
 unfold qeu qdt at h;simp only[qUC,qTW,qUa,qVg,qUR,qUG,qUN]at h;obtain⟨c0,_,_,_,_,_,e1,h⟩:=h;have e1:=qhs (by have:=ha.l1; omega) (by have:=hb.l1; omega) e1;obtain⟨_,h⟩:=qVH h (by simpa using e1);simp only[qUN]at h;obtain⟨e2,h⟩:=h;have e2:=qhs (by have:=ha.l2; omega) (by have:=hb.l2; omega) e2;obtain⟨_,h⟩:=qVH h (by simpa using e2);simp only[qUN]at h;obtain⟨e3,h⟩:=h;have e3:=qhs (by have:=ha.l3; omega) (by have:=hb.l3; omega) e3;obtain⟨hs,h⟩:=qVH h (by rw[qTS,qTS,qjE (k:=2) (fun _=>rfl),qjE (k:=2) (fun _=>rfl),e3]);simp only[qUN]at h;obtain⟨e9,h⟩:=h;have e9:=qhs (by have:=ha.l9; omega) (by have:=hb.l9; omega) e9;rw[List.map_flatMap,List.map_flatMap]at hs h;exact⟨c0,hs,e3,h,e9⟩
def qdE {f:D->List Nat} {k:Nat} (hf:∀s,(f s).length=k):∀{l m:List D},l.length=m.length->l.flatMap f=m.flatMap f->∀j,j<l.length->f (l.getD j .nilp)=f (m.getD j .nilp)
 | [],[],_,_,j,hj=>by simp at hj
 | a::l,b::m,hl,h,j,hj=>by
  rw[qUq,qUq]at h;obtain⟨h1,h2⟩:=qVH h (by rw[hf,hf]);rcases j with _|j
  ·exact h1
  ·exact qdE hf (by simpa using hl) h2 j (by simpa using hj)
 | [],_::_,hl,_,_,_=>by simp at hl
 | _::_,[],hl,_,_,_=>by simp at hl
def qWG {e1 e2:D} {X Y:List UInt8} (h1:toL e1=qe X) (h2:toL e2=qe Y) (h:toB (T.bi 16 (.str ⟨⟨(toL e1).map unB⟩⟩) (.str ⟨⟨(toL e2).map unB⟩⟩))=true):X=Y:=by
 have h:((⟨⟨(toL e1).map unB⟩⟩:ByteArray).toList==(⟨⟨(toL e2).map unB⟩⟩:ByteArray).toList)=true:=h;rw[h1,h2,qwE,qwE,qBM,qBM]at h;exact eq_of_beq h
def qWH {ds:List D} {d:D} (h:Ev0 PP qod qoe ds d) (hd:toB d=true) (ha:qhv (qa ds 0)) (hb:qhv (qa ds 1)):qhu (qa ds 0) (qa ds 1):=by
 refine Yc qWh (I:=fun k U=>False) (Q:=fun d=>toB d=true->qhu (qa ds 0) (qa ds 1)) (fun k st q U d hst hq hg hi ht=>hi.elim) ?_ h hd;intro d ht hd;obtain⟨⟨c1,c2,_⟩,e⟩:=ht;subst e;have f1:qfO _ _:=(c1 qm6 rfl).2.2;have f2:qfO _ _:=(c2 qm6 rfl).2.2;have hl:∀z,qhv z->(qeu z).length<=1073741824:=fun z hz=>by
  have:=hz.l1;have:=hz.l2;have:=hz.l3;have:=hz.l9;unfold qeu qdt;simp only[qTN,qTS,qT9,qV1,qjE (f:=shI) (k:=2) (fun _=>rfl),qjE (f:=qet) (k:=4) (fun _=>rfl)];omega
 exact qWv ha hb (qWp (hl _ ha) (hl _ hb) (qWG f1 f2 hd))
def qBP {a:D} (h:qd qea a):qhv a:=by
 have g:∀{n:Nat} {e:Y},qd (.l 301 e) (cel a n)->(toL (cel a n)).length<=301:=fun{n e} h=>by
  obtain⟨es,he,hl,_⟩:=h;rw[he]; exact hl
 exact⟨g (qht h (n:=1) rfl),g (qht h (n:=2) rfl),g (qht h (n:=3) rfl),g (qht h (n:=9) rfl)⟩
def qui {d:D} (h:qd (.rg (-9223372036854775808) 9223372036854775807) d):M44.qy (toI d)/\d=.int .i64 (toI d):=by
 obtain⟨n,rfl,h1,h2⟩:=h;exact⟨⟨h1,h2⟩,rfl⟩
def qWI {a b:D} (h:qhu a b) (ha:qd (.l 8 (qbF 301 301)) (cel a 3)) (hb:qd (.l 301 (.g (.ec (yJ 0) (.ec (yJ 0) .e0)))) (cel b 3)):cel a 3=cel b 3:=by
 obtain⟨l,el,_,tl⟩:=ha;obtain⟨m,em,_,tm⟩:=hb;have hl:=h.shl;have hs:=h.sh;rw[el,em]at hl hs;rw[el,em];have hl:l.length=m.length:=hl
 congr 1
 refine qU6 hl fun j h1 h2=>?_
 have hg:=qdE (f:=fun s=>(shI s).map M44.zzA) (k:=2) (fun _=>rfl) hl hs j h1;rw[zzG,qTE h1,zzG,qTE h2]at hg;simp only[shI,qTT,qUa,qVg,qUN,and_true]at hg;have t1:=tl _ (qTL h1);have t2:=tm _ (qTL h2);generalize l[j]=x at hg t1 ⊢;generalize m[j]=y at hg t2 ⊢;obtain⟨⟨cs,rfl,c0,r0,e0,⟨n0,hn0⟩,c1,r1,e1,⟨n1,hn1⟩,e2⟩,hr⟩:=t1;cases e0; cases e1; cases e2;subst hn0 hn1;obtain⟨cs',rfl,d0,s0,f0,k0,d1,s1,f1,k1,f2⟩:=t2;cases f0; cases f1; cases f2;obtain⟨p0,q0⟩:=qui k0;obtain⟨p1,q1⟩:=qui k1;have r0:(0:Int)<=n0:=hr (false,.i 0,.u 1 0 (.v 0)) (by simp[shR]);have r1:n0<=n1:=hr (false,.u 1 0 (.v 0),.u 1 1 (.v 0)) (by simp[shR]);have r2:n1<=134217728:=hr (false,.u 1 1 (.v 0),.i 134217728) (by simp[shR]);have g0:M44.zzA n0=M44.zzA (toI d0):=hg.1;have g1:M44.zzA n1=M44.zzA (toI d1):=hg.2;have i0:=qoh (by unfold M44.qy; omega) p0 g0;have i1:=qoh (by unfold M44.qy; omega) p1 g1;rw[q0,q1,<-i0,<-i1]
def qBQ {k:Nat}:∀{l m:List D},l.length=m.length->(∀j,j<l.length->(toL (cel (l.getD j .nilp) k)).length=(toL (cel (m.getD j .nilp) k)).length)->qaD k l=qaD k m
 | [],[],_,_=>rfl|a::l,b::m,hl,h=>by
  have h0:(toL (cel a k)).length=(toL (cel b k)).length:=h 0 (by simp);have:=qBQ (k:=k) (l:=l) (m:=m) (by simpa using hl) fun j hj=>h (j+1) (by simpa using hj)
  unfold qaD;rw[h0,this]
 | [],_::_,hl,_=>by simp at hl
 | _::_,[],hl,_=>by simp at hl
def qWJ {a b:D} (h:qhu a b) (hw:∀j,j<(toL (cel a 9)).length->(toL (cel ((toL (cel a 9)).getD j .nilp) 3)).length<=8192) (hw':∀j,j<(toL (cel b 9)).length->(toL (cel ((toL (cel b 9)).getD j .nilp) 3)).length<=8192):qaD 3 (toL (cel a 9))=qaD 3 (toL (cel b 9)):=by
 refine qBQ h.fll fun j hj=>?_
 have hg:=qdE (f:=fun s=>(qet s).map M44.zzA) (k:=4) (fun _=>rfl) h.fll h.fl j hj;simp only[qet,qUa,qVg,qUN,and_true]at hg;exact qhs (by have:=hw j hj; omega) (by have:=hw' j (by rw[<-h.fll]; exact hj); omega) hg.2.2.2
def qWK:qm PP 224 qBL:=qV4.more fun ds d hp hr h=>by
 refine⟨fun f hf=>?_,trivial⟩;obtain⟨a,b,rfl⟩:∃a b,ds=[a,b]:=by
  match ds,hp.1.1 with
  | [a,b],_=>exact⟨a,b,rfl⟩
 have ta:qd qea a:=hp.1.2 0 _ rfl;have tb:qd qri b:=hp.1.2 1 _ rfl;have tb':qd qea b:=Y.sub_ok (a:=qri) (by decide) tb;have w0:∀j,j<(toL (cel a 9)).length->(toL (cel ((toL (cel a 9)).getD j .nilp) 3)).length<=8192:=fun j hj=>hp.2 (.rows 6 (.u 1 9 (.v 0)) (.u 0 0 (.u 1 9 (.v 0))) (.i 8192)) (by simp[qhr]) j hj hj
 have w1:∀j,j<(toL (cel b 9)).length->(toL (cel ((toL (cel b 9)).getD j .nilp) 3)).length<=8192:=fun j hj=>hp.2 (.rows 6 (.u 1 9 (.v 1)) (.u 0 0 (.u 1 9 (.v 1))) (.i 8192)) (by simp[qhr]) j hj hj
 have S:toB d=true->qhu a b:=fun hd=>qWH h hd (qBP ta) (qBP tb')
 have hc:M44.qy (toI (cel b 0)):=(qui (qht tb (n:=0) rfl)).1;have C:toB d=true->0<=toI (cel a 0)->toI (cel a 0)<=4096->toI (cel a 0)=toI (cel b 0):=fun hd h0 h1=>qoh (by unfold M44.qy; omega) hc (S hd).cnt
 simp only[qTD,qTJ,or_false]at hf;rcases hf with rfl|rfl|rfl|rfl|rfl|rfl|rfl|rfl
 ·intro hd hs;have hs:qd (.l 8 (qbF 301 301)) (cel a 3):=hs;show qd (.l 8 (qbF 301 301)) (cel b 3);rw[<-qWI (S hd) hs (qht tb (n:=3) rfl)];exact hs
 ·rintro hd ⟨h0,h1⟩
  have:=C hd h0 h1;show 0<=toI (cel b 0);rw[<-this]; exact h0
 ·rintro hd ⟨h0,h1⟩
  have:=C hd h0 h1;show toI (cel b 0)<=4096;rw[<-this]; exact h1
 ·rintro hd ⟨⟨h0,h1⟩,h2⟩
  have:=C hd h0 h1;show((qaD 3 (toL (cel b 9)):Nat):Int)<=toI (cel b 0);rw[<-this,<-qWJ (S hd) w0 w1]; exact h2
 ·intro hd;exact qU7 (congrArg Int.ofNat (S hd).fll)
 ·intro hd;exact qU7 (congrArg Int.ofNat (S hd).fll.symm)
 ·intro hd;exact qU7 (congrArg Int.ofNat (S hd).shl)
 ·intro hd;exact qU7 (congrArg Int.ofNat (S hd).shl.symm)
def qm5:Con:={pts:=[ZcP],pre:=[],rts:=[.l 1000000 .y8],post:=[]}
def qOk:RFn:=mF 100 qm5 [⟨6,[Zal,ZdC,(4,ZcL),(5,ZbQ)],[Zhu,.dat 1 Zd false],[ZcP,.i .i64,.i .i64,ZfN],[Zbh,.le Za Zem,.le ZQ (.w 0 (.i 400) (.w 2 ZT Za)),.nle Zam ZQ,.nle ZQ Zam,ZdD,.le Za (.w 2 ZT Za),ZH,ZD,ZC],(Za,.w 1 Zem Za,Zk,Za,Za,Za)⟩,⟨6,[Zal,ZdC,(4,Zjr),(5,Zdy)],[Zhu,Zen,Zd1],[ZcP,.i .i64,.i .i64,.i .i64,.i .i64,.i .i64,ZfN,.l 100000 Zdl],[Zea,.le Zj Zem,.le ZQ (.w 0 (.i 400) (.w 2 ZT Zj)),.nle Zab ZQ,.nle ZQ Zab,ZdD,.le Zak (.w 2 ZT Zj),.nle Zcg Zak,ZdE,.nle Zf Zak],(Za,.w 1 Zem Zj,Zk,Za,Za,Za)⟩]
def qOl:Tab:=[(51,qcQ),(188,qep)]
def qAZ:qm PP 100 qm5:=(fe qOk qOl (qj qsB (qj qzO (qo))) (by kernel_rfl) (by refine⟨?_,?_,?_,trivial⟩<;>intro<;>kernel_rfl)).ok
def qtQ:Con:={pts:=[ZcP],pre:=[],rts:=[Zdm],post:=[]}
def qRB:RFn:=mF 278 qtQ []
def qRC:Tab:=[(100,qm5),(50,qcU)]
def qRD:qm PP 278 qtQ:=(fe qRB qRC (qj qAZ (qj qnZ (qo))) (by kernel_rfl) ⟨fun U=>by kernel_rfl,trivial⟩).ok
def qtS:Con:={pts:=[Zv],pre:=[],rts:=[Zdm],post:=[]}
def qRI:RFn:=mF 187 qtS [⟨3,[ZJ,Z2,(3,ZcL),(4,ZbQ)],[Zd7],[Zv],[Zbh,.le Za Zu,.nle (.w 0 Za Za) ZcT,ZC],(Za,.w 1 Zu Za,Zk,Za,Za,Za)⟩,⟨3,[ZJ,Z2,ZdC,ZbR],[Zd7,Zfg],[Zv,.i .i64,.i .i64,.i .i64,.l 301 (.s 16)],[Zah,Zgs,ZcO,Zks,ZdD],(Za,Zh9,Zk,Za,Za,Za)⟩]
def qRJ:Tab:=[(278,qtQ),(186,qjM),(50,qcU)]
def qRK:qm PP 187 qtS:=(fe qRI qRJ (qj qRD (qj qux (qj qnZ (qo)))) (by kernel_rfl) (by refine⟨?_,?_,?_,trivial⟩<;>intro<;>kernel_rfl)).ok
def quE:Con:={pts:=[qea,Zdm],pre:=[],rts:=[Zdm],post:=[]}
def qYV:RFn:=mF 97 quE []
def qYW:Tab:=[(185,qhg),(186,qjM),(50,qcU)]
def qYX:qm PP 97 quE:=(fe qYV qYW (qj qOq (qj qux (qj qnZ (qo)))) (by kernel_rfl) ⟨fun U=>by kernel_rfl,trivial⟩).ok
def qs9:Con:={pts:=[qfg],pre:=[],rts:=[Zdm],post:=[]}
def qjh:RFn:={g:=98,con:=qs9,wr:=false,pn:=14,rec':={ms:=[(98,.u 8 2 Zfe),(44,.w 0 (.u 8 2 Zfe) Zg)],cur:=.u 8 2 Zfe},sts:=[{id:=5,env:=[Zal,(2,ZcM),(3,ZcL),(4,ZbQ)],rows:=[Zd6,Zd7],tys:=[qfg],inv:=[],ms:=(Za,.w 1 Zch Za,Zk,Za,Za,Za)},{id:=5,env:=[Zal,(2,ZcM),(3,.o (.sl 2 1 Za Zc Zb false)),ZbR],rows:=[Zd6,Zd7,Zfg],tys:=[qfg,.i .i64,.i .i64,.i .i64,.l 301 Zdl],inv:=[ZcN,Zci,ZcO],ms:=(Za,.w 1 Zch Zd,Zk,Za,Za,Za)}]}
def qha:Con:={pts:=[qfg],pre:=[],rts:=[Zdm],post:=[]}
def qji:RFn:={g:=44,con:=qha,wr:=false,pn:=14,rec':={ms:=[(44,.w 0 (.u 8 2 Zfe) Zg),(98,.u 8 2 Zfe)],cur:=.w 0 (.u 8 2 Zfe) Zg},sts:=[]}
def qAG:Tab:=[(187,qtS),(186,qjM),(50,qcU),(97,quE)]
def qMX:qaA PP qAG:=qj qRK (qj qux (qj qnZ (qj qYX qo)))
def qhb:Tab:=(98,qs9)::(44,qha)::qAG
def qMY:J8 PP qjh qhb=true:=by kernel_rfl
def qMZ:J9 PP qjh qhb (qJ PP qjh):=by refine⟨?_,?_,?_,trivial⟩<;>intro<;>kernel_rfl
def qM0:J8 PP qji qhb=true:=by kernel_rfl
def qM1:J9 PP qji qhb (qJ PP qji):=⟨fun U=>by kernel_rfl,trivial⟩
def qM2:qH PP 98 qs9 (Ev0 PP qjh qhb)/\qH PP 44 qha (Ev0 PP qji qhb):=qJu (fa:=qjh) (fb:=qji) Yz mixed qMX rfl rfl rfl rfl qMY qMZ qM0 qM1
def qAH:qm PP 44 qha:=qM2.2.ok
def qom:Con:={pts:=[ZaN,ZaN],pre:=[],rts:=[.b],post:=[]}
def qon:RFn:=mF 12 qom []
def qbP:Tab:=[(42,qoz),(43,quf),(44,qha),(45,qot)]
def qWQ:qH PP 12 qom (Ev0 PP qon qbP):=fe qon qbP (qj qB7 (qj qTB (qj qAH (qj qBV (qo))))) (by kernel_rfl) ⟨fun U=>by kernel_rfl,trivial⟩
def qWR:Con:={qom with post:=qom.post++[],fact:=Jo}
def qWS:TQ:=.fork (.w 15 Z6 Zbk) (.done [] ZaV) (.fork (.w 15 Zbb Zet) (.done [] ZaV) (.fork (.u 6 0 (.u 3 42 (.w 4 Zbc (.w 4 Zcz .z)))) (.done [Zgx] ZaV) (.fork (.u 6 0 (.u 3 43 (.w 4 ZcH (.w 4 Zim .z)))) (.done [Zgx,(43,[ZcH,Zim])] ZaV) (.fork (.w 33 (.w 4 (.mk (.i .u8) (.u 1 0 ZaB)) (.w 4 (.mk (.i .u8) (.u 1 1 ZaB)) (.w 4 (.mk (.i .u8) (.u 1 2 ZaB)) (.w 4 (.mk (.i .u8) (.u 1 3 ZaB)) (.w 4 (.mk (.i .u8) (.u 1 4 ZaB)) (.w 4 (.mk (.i .u8) (.u 1 5 ZaB)) (.w 4 (.mk (.i .u8) (.u 1 6 ZaB)) (.w 4 (.mk (.i .u8) (.u 1 7 ZaB)) (.w 4 (.mk (.i .u8) (.u 1 8 ZaB)) (.w 4 (.mk (.i .u8) (.u 1 9 ZaB)) (.w 4 (.mk (.i .u8) (.u 1 10 ZaB)) (.w 4 (.mk (.i .u8) (.u 1 11 ZaB)) (.w 4 (.mk (.i .u8) (.u 1 12 ZaB)) (.w 4 (.mk (.i .u8) (.u 1 13 ZaB)) (.w 4 (.mk (.i .u8) (.u 1 14 ZaB)) (.w 4 (.mk (.i .u8) (.u 1 15 ZaB)) .z)))))))))))))))) ZkW) (.done [Zgx,(43,[ZcH,Zim]),(44,[ZgM]),(44,[Zgy]),(45,[.u 2 0 (.w 4 Zcf .z),Zgz])] (.mk .b (.u 3 45 (.w 4 (.u 2 0 (.w 4 Zcf .z)) (.w 4 Zgz .z))))) (.done [Zgx,(43,[ZcH,Zim]),(44,[ZgM]),(44,[Zgy])] ZaV)))))
def qWT:qN PP qon qbP=[qWS]:=by kernel_rfl
def qWU {ds:List D} {d:D} (h:Ev0 PP qon qbP ds d):Jo ds d:=by
 intro hab;refine Yc qWT (I:=fun _ _=>False) (Q:=fun d=>toB d=true) (fun k st q U d hst hq hg hi ht=>hi.elim) (fun d ht=>?_) h;have h42:YA PP qbP (qa ds) 42 [.mk .l (.u 1 2 (.v 0)),.mk .l (.u 1 2 (.v 1))]->toB (wOf PP qbP 42 [.list (toL (cel (qa ds 0) 2)),.list (toL (cel (qa ds 1) 2))])=true:=fun hc=>by
  have hf:Jo [.list (toL (cel (qa ds 0) 2)),.list (toL (cel (qa ds 1) 2))] (wOf PP qbP 42 [.list (toL (cel (qa ds 0) 2)),.list (toL (cel (qa ds 1) 2))]):=(hc qoz rfl).2.2;exact hf (congrArg (fun x=>D.list (toL (cel x 2))) hab)
 have h43:YA PP qbP (qa ds) 43 [.mk .l (.u 1 16 (.v 0)),.mk .l (.u 1 16 (.v 1))]->toB (wOf PP qbP 43 [.list (toL (cel (qa ds 0) 16)),.list (toL (cel (qa ds 1) 16))])=true:=fun hc=>by
  have hf:Jo [.list (toL (cel (qa ds 0) 16)),.list (toL (cel (qa ds 1) 16))] (wOf PP qbP 43 [.list (toL (cel (qa ds 0) 16)),.list (toL (cel (qa ds 1) 16))]):=(hc quf rfl).2.2;exact hf (congrArg (fun x=>D.list (toL (cel x 16))) hab)
 rcases ht with⟨c,_,rfl⟩|⟨_,⟨c,_,rfl⟩|⟨_,⟨c,⟨hc,_⟩,rfl⟩|⟨_,⟨c,⟨_,hc,_⟩,rfl⟩|⟨_,ht⟩⟩⟩⟩
 ·have c:(toI (cel (qa ds 0) 0) != toI (cel (qa ds 1) 0))=true:=c;rw[hab]at c; exact qci c
 ·have c:(toI (cel (qa ds 0) 1) != toI (cel (qa ds 1) 1))=true:=c;rw[hab]at c; exact qci c
 ·exact qjb c (h42 hc)
 ·exact qjb c (h43 hc)
 ·let f:D->List D:=fun x=>(List.range 16).map fun j=>K.den (.i .u8) (cel (wOf PP qbP 44 [(qdj 300 300).form (.agg ((List.range 12).map fun j=>cel x (3+j)))]) j)
  rcases ht with⟨_,⟨_,_,_,_,hc,_⟩,rfl⟩|⟨c,_,rfl⟩
  ·let g:D->D:=fun x=>.agg [.list (toL (cel x 15))]
   have hf:Jo [g (qa ds 0),g (qa ds 1)] (wOf PP qbP 45 [g (qa ds 0),g (qa ds 1)]):=(hc qot rfl).2.2;exact hf (congrArg g hab)
  ·have c:qbc (f (qa ds 0)) (f (qa ds 1))=false:=c;rw[hab,qAn (fun x hx=>by obtain⟨j,_,rfl⟩:=qTV.1 hx; exact⟨_,_,rfl⟩)]at c;cases c
def qWV:qm PP 12 qWR:=qWQ.more fun ds d hp _ h=>⟨fun f hf=>(by cases hf),qWU h⟩
def qob:Con:={pts:=[ZcP,ZcP],pre:=[],rts:=[.b],post:=[]}
def qoc:RFn:=mF 46 qob []
def qjD:Tab:=[(100,qm5)]
def qVp:qH PP 46 qob (Ev0 PP qoc qjD):=fe qoc qjD (qj qAZ (qo)) (by kernel_rfl) ⟨fun U=>by kernel_rfl,trivial⟩
def quh:Con:={qob with post:=qob.post++[],fact:=Jo}
def qVD:TQ:=.done [(100,[ZkS]),(100,[ZjO])] (.mk .b (.w 16 (.u 16 0 (.mk .l (.u 3 100 (.w 4 ZkS .z)))) (.u 16 0 (.mk .l (.u 3 100 (.w 4 ZjO .z))))))
def qVE:qN PP qoc qjD=[qVD]:=by kernel_rfl
def qVL {ds:List D} {d:D} (h:Ev0 PP qoc qjD ds d):Jo ds d:=by
 intro hab;refine Yc qVE (I:=fun _ _=>False) (Q:=fun d=>toB d=true) (fun k st q U d hst hq hg hi ht=>hi.elim) (fun d ht=>?_) h;obtain⟨_,rfl⟩:=ht
 let f:D->ByteArray:=fun x=>⟨⟨toS (D.str ⟨⟨(toL (wOf PP qjD 100 [(q5 301 301).form x])).map unB⟩⟩)⟩⟩
 show((f (qa ds 0)).toList==(f (qa ds 1)).toList)=true;rw[hab];exact beq_self_eq_true _
def qV3:qm PP 46 quh:=qVp.more fun ds d hp _ h=>⟨fun f hf=>(by cases hf),qVL h⟩
def qoA:Con:={pts:=[Zdr,Zdr],pre:=[],rts:=[.b],post:=[]}
def qoB:RFn:=mF 13 qoA [⟨4,Zei,[],[Zdr,Zdr,.i .i64],[Z3,Zds],(Za,.w 1 Zu Zb,Zk,Za,Za,Za)⟩]
def qfY:Tab:=[(46,quh)]
def qXW:qH PP 13 qoA (Ev0 PP qoB qfY):=fe qoB qfY (qj qV3 (qo)) (by kernel_rfl) (by refine⟨?_,?_,trivial⟩<;>intro<;>kernel_rfl)
def qXX:Con:={qoA with post:=qoA.post++[],fact:=Jo}
def qXY:TQ:=.fork (.w 15 Zu Zi) (.done [] ZaV) (.next [] 0 [Ze,Zc,Za])
def qB8:TQ:=.fork ZfG (.fork (.w 15 (.u 1 9 ZaQ) (.u 1 9 ZaH)) (.done [] ZaV) (.fork (.u 6 0 (.u 3 46 (.w 4 Zlu (.w 4 Zlv .z)))) (.done [(46,[Zlu,Zlv])] ZaV) (.next [(46,[Zlu,Zlv])] 0 Zek))) (.done [] (.mk .b (.t true)))
def qXZ:qN PP qoB qfY=[qXY,qB8]:=by kernel_rfl
def qB9 (v:Nat):T:=.u 2 0 (qX ((cellsOf (.w 3 (.v v) (.v 2)) (qzC (q5 301 301)) 0).map fun p=>.mk p.1 p.2))
def qX0 {ds:List D} {d:D} (h:Ev0 PP qoB qfY ds d):Jo ds d:=by
 intro hab;refine Yc qXZ (I:=fun _ _=>True) (Q:=fun d=>toB d=true) ?_ ?_ h
 ·intro k st q U d hst hq hg hi ht;have h0:=hg.arg 0 (by decide);have h1:=hg.arg 1 (by decide);have e:U 0=U 1:=h0.trans (hab.trans h1.symm);rcases k with _|k
  ·have hq:qB8=q:=by simpa using hq
   subst hq
   let f:D->D:=fun x=>(q5 301 301).form (.agg ((List.range 9).map (cel ((toL x).getD (toN (U 2)) .nilp))))
   have hr:YA PP qfY U 46 [qB9 0,qB9 1]->toB (wOf PP qfY 46 [f (U 0),f (U 1)])=true:=fun hc=>by
    have hf:Jo [f (U 0),f (U 1)] (wOf PP qfY 46 [f (U 0),f (U 1)]):=(hc quh rfl).2.2;exact hf (congrArg f e)
   rcases ht with⟨_,⟨c,_,rfl⟩|⟨_,⟨c,⟨hc,_⟩,rfl⟩|⟨_,_,h⟩⟩⟩|⟨_,_,rfl⟩
   ·have c:(toI (cel ((toL (U 0)).getD (toN (U 2)) .nilp) 9) != toI (cel ((toL (U 1)).getD (toN (U 2)) .nilp) 9))=true:=c;rw[e]at c; exact qci c
   ·exact qjb c (hr hc)
   ·exact h trivial
   ·rfl
  ·simp at hq
 ·intro d ht;rcases ht with⟨c,_,rfl⟩|⟨_,_,h⟩
  ·have c:((((toL (qa ds 0)).length:Nat):Int) != (((toL (qa ds 1)).length:Nat):Int))=true:=c;rw[hab]at c; exact qci c
  ·exact h trivial
def qX1:qm PP 13 qXX:=qXW.more fun ds d hp _ h=>⟨fun f hf=>(by cases hf),qX0 h⟩
end Go.Aev.R29
namespace Go.Aev.R29
open Go Go.Aev Go.Aev.R
def qsO {s:List UInt8} (h:s.length=16):M44.qC s=32::s:=by
 unfold M44.qC;rw[h];have:M44.enc (16:Nat)=[32]:=by
  unfold M44.enc;have z:M44.zz ((16:Nat):Int)=32:=by decide
  rw[z];unfold M44.vb;rfl
 rw[this];rfl
def qsP (a:D):(toS (txD a)).length=16:=by
 unfold txD;rfl
def qAa (a b:D):qcn a b=.int .u8 31::(qe (32::toS (txD a))++qe (32::toS (txD b))):=by
 unfold qcn inP qnu;show _::((qe (M44.qC (toS (txD a))))++((qe (M44.qC (toS (txD b))))++[]))=_;rw[qsO (qsP a),qsO (qsP b),qT7];rfl
def qLT (a b:D):(qcn a b).length=35:=by
 rw[qAa];unfold qe;simp[qsP]
def noV:T->Bool
 | .mk _ x=>noV x|.u o _ x=>!(Nat.beq o 3)&&noV x|.w _ x y=>noV x&&noV y|_=>true
def qcg {wf wf':Nat->List D->D} {U:Nat->D}:∀{t:T},noV t=true->t.den wf U=t.den wf' U:=by
 intro t
 induction t with
 | mk k x ih=>intro h; simp only[T.den,ih h]
 | u o k x ih =>
  intro h;simp only[noV,qTC,qUy]at h;simp only[T.den,ih h.2];have:o≠3:=fun e=>by rw[e]at h; cases h.1
  rcases o with _|_|_|_|o<;>first|rfl|exact absurd rfl this|skip
  unfold T.un;split<;>first|rfl|omega
 | w o x y ihx ihy =>
  intro h;simp only[noV,qTC]at h;simp only[T.den,ihx h.1,ihy h.2]
 | _=>intro _; rfl
def qbj:F->Bool
 | .le a b=>noV a&&noV b|.nle a b=>noV a&&noV b|.imp t f=>noV t&&qbj f|.ifF f g=>qbj f&&qbj g|.eqD a b=>noV a&&noV b|.has t _=>noV t|.rows e l i t=>Nat.blt e 3&&(noV l&&(noV i&&noV t))|_=>false
def qL2 {p p':PW} {e:Nat} (h:Nat.blt e 3=true) {v x:D}:@Yk rt p e v x↔@Yk rt p' e v x:=by
 rw[qT0]at h;rcases e with _|_|_|e
 ·exact qU5
 ·exact qU5
 ·exact qU5
 ·omega
def qAh {p p':PW} {wf wf':Nat->List D->D} {U:Nat->D} {rcP:Nat->List D->Prop}:∀{f:F},qbj f=true->(@F.den rt p wf rcP U f↔@F.den rt p' wf' rcP U f):=by
 intro f
 induction f with
 | le a b=>intro h; simp only[qbj,qTC]at h; simp only[F.den,qcg (wf:=wf) (wf':=wf') h.1,qcg (wf:=wf) (wf':=wf') h.2]
 | nle a b=>intro h; simp only[qbj,qTC]at h; simp only[F.den,qcg (wf:=wf) (wf':=wf') h.1,qcg (wf:=wf) (wf':=wf') h.2]
 | eqD a b=>intro h; simp only[qbj,qTC]at h; simp only[F.den,qcg (wf:=wf) (wf':=wf') h.1,qcg (wf:=wf) (wf':=wf') h.2]
 | has t y=>intro h; simp only[qbj]at h; simp only[F.den,qcg (wf:=wf) (wf':=wf') h]
 | imp t f ih=>intro h; simp only[qbj,qTC]at h; simp only[F.den,qcg (wf:=wf) (wf':=wf') h.1,ih h.2]
 | ifF f g ih1 ih2=>intro h; simp only[qbj,qTC]at h; simp only[F.den,ih1 h.1,ih2 h.2]
 | rows e l i t =>
  intro h;simp only[qbj,qTC]at h;simp only[F.den,qcg (wf:=wf) (wf':=wf') h.2.1,qcg (wf:=wf) (wf':=wf') h.2.2.1,qcg (wf:=wf) (wf':=wf') h.2.2.2,qL2 (p:=p) (p':=p') h.1]
 | _=>intro h; cases h
abbrev pw0:PW:=⟨fun _ _=>.nilp⟩
def pk (g:Nat) (c:Con) (ds:List D):D:=qlh fun d=>@JZ rt pw0 c ds d/\JS PP g c ds d
noncomputable instance pw:PW:=⟨fun g ds=>match g with
 | 1000222=>pk 222 qdw ds|1000030=>pk 30 qbl ds|1000212=>pk 212 JH ds|1000076=>pk 76 qeF ds|1000039=>.list (qx (qa ds 0))|_=>.nilp⟩
def qmG {g:Nat} {c:Con} (hn:(c.pre++c.post).all qbj=true) (h:@qm rt pw0 globs PP g c) {ds:List D} (hp:qG c ds):JZ c ds (pk g c ds)/\JS PP g c ds (pk g c ds):=by
 have hn:=qTI.1 hn;have hp0:@qG rt pw0 c ds:=⟨hp.1,fun f hf=>(qAh (hn f (qWw _ hf))).1 (hp.2 f hf)⟩
 obtain⟨⟨⟨h1,h2⟩,h3⟩,h4⟩:=qw0 (h ds hp0);exact⟨⟨⟨h1,fun f hf=>(qAh (hn f (List.mem_append_right _ hf))).1 (h2 f hf)⟩,h3⟩,h4⟩
def qmH {g:Nat} {c:Con} (hn:(c.pre++c.post).all qbj=true) (h:@qm rt pw0 globs PP g c) {qs:List F} (hf:c.fact=fun _ _=>True) (hq:∀ds,qG c ds->qd c.rt (pk g c ds)->∀f∈qs,f.den PW.wV rc0 (qa (ds++[pk g c ds]))):qm PP g {c with post:=c.post++qs}:=fun ds hp=>by
 obtain⟨⟨⟨h1,h2⟩,h3⟩,h4⟩:=qmG hn h hp;refine⟨pk g c ds,⟨⟨h1,fun f hf=>?_⟩,h3⟩,h4⟩;rcases qTH.1 hf with hf|hf
 ·exact h2 f hf
 ·exact hq ds hp h1 f hf
def two {ds:List D} (h:ds.length=2):∃a b,ds=[a,b]:=by
 match ds,h with
 | [a,b],_=>exact⟨a,b,rfl⟩
def qfE {n:Nat} {e:Y} {d:D} (h:qd (.l n e) d):D.list (toL d)=d:=by
 obtain⟨es,rfl,_⟩:=h;rfl
def qmI:qm PP 222 qeA:=qmH rfl (@qRn pw0) rfl fun ds hp _ f hf=>by
 simp only[qTD,qTJ,or_false]at hf;subst hf;obtain⟨a,b,c,rfl⟩:∃a b c,ds=[a,b,c]:=by
  match ds,hp.1.1 with
  | [a,b,c],_=>exact⟨a,b,c,rfl⟩
 show pk 222 qdw [a,b,c]=pk 222 qdw [a,.list (toL b),.list (toL c)];have e1:D.list (toL b)=b:=qfE (hp.1.2 1 Yr rfl);have e2:D.list (toL c)=c:=qfE (hp.1.2 2 Yr rfl);rw[e1,e2]
def qAi:qm PP 30 qtg:=qmH rfl (@qAL pw0) rfl fun ds hp _ f hf=>by
 obtain⟨a,rfl⟩:∃a,ds=[a]:=by
  match ds,hp.1.1 with
  | [a],_=>exact⟨a,rfl⟩
 have e:(Yu 140737488355328 140737488355328).form a=a:=YM rfl (hp.1.2 0 _ rfl);have k:toI (pk 30 qbl [a])=toI (pk 30 qbl [(Yu 140737488355328 140737488355328).form a]):=by rw[e]
 simp only[qTD,qTJ,or_false]at hf;rcases hf with rfl|rfl
 ·exact qU7 k
 ·exact qU7 k.symm
def qL3:qm PP 212 qA4:=qmH rfl (@qtp pw0) rfl fun ds hp _ f hf=>by
 obtain⟨a,b,rfl⟩:=two hp.1.1;have e1:(Yu 301 301).form a=a:=YM rfl (hp.1.2 0 _ rfl);have e2:(q5 301 301).form b=b:=YM rfl (hp.1.2 1 _ rfl);have k:pk 212 JH [a,b]=pk 212 JH [(Yu 301 301).form a,(q5 301 301).form b]:=by rw[e1,e2]
 simp only[qTD,qTJ,or_false]at hf;rcases hf with rfl|rfl|rfl
 ·exact k
 ·exact qU7 (congrArg toI k)
 ·exact qU7 (congrArg toI k.symm)
def qAj:qm PP 76 que:=qmH rfl (@qTm pw0) rfl fun ds hp ht f hf=>by
 obtain⟨a,b,rfl⟩:=two hp.1.1;have e1:(Yu 301 301).form a=a:=YM rfl (hp.1.2 0 _ rfl);have k:pk 76 qeF [a,b]=pk 76 qeF [(Yu 301 301).form a,.list (toL b)]:=by
  have e2:D.list (toL b)=b:=qfE (n:=301) (e:=.l 301 (.i .i64)) (hp.1.2 1 _ rfl);rw[e1,e2]
 simp only[qTD,qTJ,or_false]at hf;rcases hf with rfl|rfl
 ·intro h;exact(congrArg toB k).symm.trans h
 ·intro h;have h:(!toB (pk 76 qeF [a,b]))=true:=h;refine(congrArg toB k).symm.trans ?_;simpa using h
def qmJ:qm PP 39 qdu:=qOG.more fun ds d hp _ h=>by
 have hf:d=.list (qx (qa ds 0)):=qOJ h;refine⟨fun f hf'=>?_,hf⟩;obtain⟨a,rfl⟩:∃a,ds=[a]:=by
  match ds,hp.1.1 with
  | [a],_=>exact⟨a,rfl⟩
 have e:(qK 300 300).form a=a:=by
  have:=YM (y:=qjm.pts.getD 0 .b) rfl (hp.1.2 0 _ rfl);exact this
 have k:d=.list (qx ((qK 300 300).form a)):=by rw[e]; exact hf
 simp only[qTD,qTJ,or_false]at hf';rcases hf' with rfl|rfl|rfl
 ·exact k
 ·exact qU7 (congrArg (fun x=>(((toL x).length:Nat):Int)) k)
 ·exact qU7 (congrArg (fun x=>(((toL x).length:Nat):Int)) k.symm)
def qdp (x y:D):Prop:=¬(toI (cel x 0)=toI (cel y 0)/\toI (cel x 1)=toI (cel y 1))
def qfw (l:List D):Prop:=l.Pairwise qdp
def qzB (l:List D):Prop:=∀j,j<l.length->1<=toI (cel (l.getD j .nilp) 6)
structure qcP (l:List D):Prop where
 d:qfw l
 b:qzB l
def qKL {l:List D} (hs:l.Pairwise leE) (h:∀j,j+1<l.length->qdp (l.getD (j+1) .nilp) (l.getD j .nilp)):qfw l:=by
 have adj:∀j,j+1<l.length->ltE (l.getD j .nilp) (l.getD (j+1) .nilp):=fun j hj=>by
  have h1:=qWB.1 hs j (j+1) (by omega) hj (by omega);have h2:=h j hj;rw[zzG,zzG,qTE hj,qTE (by omega)]at h2 ⊢;have h2:qdp l[j+1] l[j]:=h2;show ltE l[j] l[j+1];unfold leE at h1; unfold qdp at h2; unfold ltE;omega
 have all:∀d j,j+d+1<l.length->ltE (l.getD j .nilp) (l.getD (j+d+1) .nilp):=by
  intro d
  induction d with
  | zero=>intro j hj; exact adj j hj
  | succ d ih =>
   intro j hj;have h1:=ih j (by omega);have h2:=adj (j+d+1) (by omega);have e:j+(d+1)+1=j+d+1+1:=by omega
   rw[e];unfold ltE at *
   omega
 refine qWB.2 fun i j hi hj hij=>?_
 have:=all (j - i - 1) i (by omega);rw[show i+(j - i - 1)+1=j by omega,zzG,zzG,qTE hi,qTE hj]at this;have this:ltE l[i] l[j]:=this;unfold ltE at this; unfold qdp;omega
def qfw.perm {l k:List D} (h:qfw l) (hp:l.Perm k):qfw k :=
 (hp.pairwise_iff (fun{x y} (hxy:qdp x y)=>(show qdp y x from fun h=>hxy ⟨h.1.symm,h.2.symm⟩))).1 h
def qi2 (d:D):M44.lI d=toL d:=by cases d<;>rfl
def qsv (d:D):M44.nI d=toI d:=by cases d<;>rfl
def qzD {x:D} (h:qd (qdj 300 300) x):M44.qiq x=x:=by
 have e:=YM (y:=qdj 300 300) (by rfl) h;refine Eq.trans ?_ e;unfold M44.qiq;simp only[qi2,qsv];rfl
def qzE {x:D} (h:qd (q5 300 300) x):M44.qiu x=x:=by
 have e:=YM (y:=q5 300 300) (by rfl) h;refine Eq.trans ?_ e;unfold M44.qiu;simp only[qi2,qsv];rfl
def qsw {r:Y} {x:D} {k n:Nat} {e:Y} (h:qd (.g r) x) (hk:r.nth k=some (.l n e)):(toL (cel x k)).length<=n/\∀y∈toL (cel x k),qd e y:=by
 obtain⟨cs,rfl,hcs⟩:=h;obtain⟨y,hy,⟨es,rfl,h1,he⟩⟩:=Y.nth_ok hk hcs;have ec:cel (.agg cs) k=.list es:=by
  show cs.getD k .nilp=_;rw[zzG,hy]; rfl
 rw[ec];exact⟨h1,he⟩
def qzF {l:List D} (h:∀e∈l,qd (q5 300 300) e):M44.qgq l:=qTI.2 fun e he=>by
 rw[<-qzE (h e he)]; rfl
def qKN {l:List D} (h:∀y∈l,(YI y).length<=nsz y):(l.flatMap YI).length<=Yo 1000 l:=by
 induction l with
 | nil=>exact qTF _|cons x r ih =>
  rw[qUq,qTN];have h1:=h x qTR;have h2:=ih fun y hy=>h y (qTG _ hy)
  show _<=qce 1000 x+Yo 1000 r;have:qce 1000 x=nsz x:=rfl;omega
def qzG:∀(n:Nat) (x:D),SizeOf.sizeOf x<=n->qd (qdj 300 300) x->nsz x<=60->RCs PP 59 [.d x] [] (.d (.list (YI x)))/\(∀e∈YI x,qd (q5 300 300) e)/\(YI x).length<=nsz x
 | 0,x,h,_,_=>by cases x<;>simp at h<;>omega
 | n+1,x,h,hx,hz=>by
  obtain⟨a1,a2⟩:=qsw (k:=10) (n:=300) (e:=.nm 300) hx rfl;obtain⟨b1,b2⟩:=qsw (k:=11) (n:=300) (e:=q5 300 300) hx rfl;have hs:=qzs x;have hy:∀y∈toL (cel x 10),RCs PP 59 [.d y] [] (.d (.list (YI y)))/\(∀e∈YI y,qd (q5 300 300) e)/\(YI y).length<=nsz y:=fun y hy=>by
   have h1:=qft hy;have h2:nsz y<=Yo 1000 (toL (cel x 10)):=qso 1000 hy;exact qzG n y (by omega) (a2 y hy).un (by omega)
  have hl:=qKN fun y h=>(hy y h).2.2
  have hen:∀e∈YI x,qd (q5 300 300) e:=fun e he=>by
   rw[qfx]at he;rcases qTH.1 he with he|he
   ·exact b2 e he
   ·obtain⟨y,h1,h2⟩:=qUd.1 he;exact(hy y h1).2.1 e h2
  have hle:(YI x).length<=nsz x:=by
   rw[qfx,qTN,hs]; omega
  refine⟨?_,hen,hle⟩;have el:M44.lI (M44.c_ x 10)=toL (cel x 10):=qi2 _;have el2:M44.lI (M44.c_ x 11)=toL (cel x 11):=qi2 _;have:=M44.qGt (x:=x) (F:=YI) ?_ ?_ ?_
  ·rw[qzD hx,el,el2,<-qfx]at this;exact this
  ·rw[el];refine⟨by omega,fun j hj=>?_⟩;have hm:(toL (cel x 10)).getD j .nilp∈toL (cel x 10):=by
    rw[zzG,qTE hj];exact qTL _
   have e:M44.elN (toL (cel x 10)) j=(toL (cel x 10)).getD j .nilp:=qzD (a2 _ hm).un;obtain⟨r1,r2,_⟩:=hy _ hm;rw[e];refine⟨?_,r1,qzF r2⟩;rw[zzG,qTE hj]; rfl
  ·rw[el2]; exact qzF b2
  ·rw[el,el2,<-qfx]; omega
def qzH:Con:={pts:=[ZdZ],pre:=[.le Zd0 ZbM],rts:=Ze8,post:=[.le Zi Zd0]}
def qg1:Con:={qzH with fact:=qna}
def qKO:qm PP 59 qg1:=fun ds hp=>by
 obtain⟨a,rfl⟩:∃a,ds=[a]:=by
  match ds,hp.1.1 with
  | [a],_=>exact⟨a,rfl⟩
 have hz:(((nsz a:Nat):Int))<=60:=hp.2 _ (by simp[qg1,qzH]:(F.le (.u 15 0 (.v 0)) (.i 60))∈qg1.pre);obtain⟨r1,r2,r3⟩:=qzG _ a (qTF _) (hp.1.2 0 _ rfl) (by omega);have hr:RCs PP 59 [.d a] [] (qan qg1.rts (.list (YI a))):=r1;refine⟨.list (YI a),⟨⟨⟨_,rfl,by omega,r2⟩,fun f hf=>?_⟩,rfl⟩,hr⟩;have hf:f∈[F.le (.u 0 0 (.v 1)) (.u 15 0 (.v 0))]:=hf;rw[qUJ.1 hf];show(((YI a).length:Nat):Int)<=((nsz a:Nat):Int);omega
def qKP (ds:List D) (d:D):Prop:=d=qa ds 0
def qzI:Con:={pts:=[Za8],pre:=[Zdk],rts:=[Za8],post:=[.le Zi Zu,.le Zu Zi],nw:=true}
def qi3:Con:={qzI with fact:=qKP}
def qKQ {l:List D} (hl:l≠[]) (h9:(l.all fun e=>e.cells.length==1)=true) (hn:l.length<=100000):qM PP 41 0 [.d (.list l)] [] (qgT l):=by
 have hp:l.length≠0:=fun h=>hl (qVS.1 h)
 refine qM.sel (R:=fun v rows=>v=.sl 1 1 0 (0+l.length) (0+l.length) false/\rows=[.live (.dat 1 [] false),.live (.dat 1 ([]++l) false)]) ?_ ?_
 ·refine qb1 M44.qS (by kernel_rfl) ?_;exact qb.toFin (v:=.sl 1 1 0 (0+l.length) (0+l.length) false) (rows:=[.live (.dat 1 [] false),.live (.dat 1 ([]++l) false)]) (ps:=[l≠[],(l.all fun e=>e.cells.length==1)=true,0<1/\l.length≠0/\1=1/\1=1/\0<=0/\¬0+l.length<=0/\2*(0+l.length)*8<=281474976710656/\0+l.length<=4611686018427387904]) M44.qS (ql [] [] [] 1 false true) (fun _=>false) 140 (by kernel_rfl)
   ⟨hl,h9,by omega,trivial⟩ ⟨rfl,rfl⟩
 ·rintro v rows' ⟨rfl,rfl⟩
  refine⟨[1],.sl 0 1 0 l.length l.length false,[.live (.dat 1 l false)],rfl,by simp only[qz,qp]; rfl,?_,rfl,rfl⟩;rw[qT6]; rfl
def qKR:qm PP 41 qi3:=fun ds hp=>by
 obtain⟨a,rfl⟩:∃a,ds=[a]:=by
  match ds,hp.1.1 with
  | [a],_=>exact⟨a,rfl⟩
 obtain⟨es,rfl,h1,h2⟩:qd (.l 300 (.i .i64)) a:=hp.1.2 0 _ rfl;have h0:1<=es.length:=hp.2 _ (by simp[qi3,qzI]:(F.nle (.i 1) (.u 0 0 (.v 0)))∈qi3.pre);refine⟨.list es,⟨⟨⟨es,rfl,h1,h2⟩,fun f hf=>?_⟩,rfl⟩,?_⟩
 ·have hf:f∈[F.le (.u 0 0 (.v 1)) (.u 0 0 (.v 0)),F.le (.u 0 0 (.v 0)) (.u 0 0 (.v 1))]:=hf;simp only[qTD,qTJ,or_false]at hf;rcases hf with rfl|rfl<;>exact qVY _
 ·exact qKQ (fun h=>by rw[h]at h0; cases h0) (qTI.2 fun e he=>by
   obtain⟨n,rfl⟩:=h2 e he; rfl) (by omega)
def qjn:Con:={pts:=[ZaN],pre:=[.le Ze9 ZbM],rts:=Ze8,post:=[]}
def qnh:RFn:=mF 22 qjn []
def qni:Tab:=[(59,qg1)]
def qOM:qH PP 22 qjn (Ev0 PP qnh qni):=fe qnh qni (qj qKO (qo)) (by kernel_rfl) ⟨fun U=>by kernel_rfl,trivial⟩
def qnj:Con:={qjn with post:=qjn.post++ZjN,fact:=qne}
def qON:TQ:=.done [(59,[ZgM])] (.mk .l (.u 3 59 (.w 4 ZgM .z)))
def qOO:qN PP qnh qni=[qON]:=by kernel_rfl
def qOP {ds:List D} {d:D} (h:Ev0 PP qnh qni ds d):qne ds d:=by
 refine Yc qOO (I:=fun _ _=>False) (Q:=fun d=>d=.list (qx (qa ds 0))) (fun k st q U d hst hq hg hi ht=>hi.elim) (fun d ht=>?_) h;obtain⟨⟨hc,_⟩,rfl⟩:=ht;obtain⟨_,_,hf⟩:=hc qg1 rfl;have hf:_=D.list (YI _):=hf;rw[qfx]at hf;exact congrArg (fun d=>D.list (toL d)) hf
def qA5:qm PP 22 qnj:=qOM.more fun ds d hp _ h=>by
 have hf:d=.list (qx (qa ds 0)):=qOP h;refine⟨fun f hf'=>?_,hf⟩;obtain⟨a,rfl⟩:∃a,ds=[a]:=by
  match ds,hp.1.1 with
  | [a],_=>exact⟨a,rfl⟩
 have e:(qK 300 300).form a=a:=YM (by rfl) (hp.1.2 0 _ rfl);have k:d=.list (qx ((qK 300 300).form a)):=by rw[e]; exact hf
 simp only[qTD,qTJ,or_false]at hf';rcases hf' with rfl|rfl|rfl
 ·exact k
 ·exact qU7 (congrArg (fun x=>(((toL x).length:Nat):Int)) k)
 ·exact qU7 (congrArg (fun x=>(((toL x).length:Nat):Int)) k.symm)
def qAy (ds:List D) (d:D):Prop:=d=.agg [.int .i64 (M44.Ya (qx (qa ds 0)) (toI (qa ds 1)) (toI (qa ds 2))).1,.bool (M44.Ya (qx (qa ds 0)) (toI (qa ds 1)) (toI (qa ds 2))).2]
def qg9:Con:={pts:=[ZaN,.i .i64,.i .i64],pre:=[.le Ze9 ZbM],rts:=[.i .i64,.b],post:=[ZcJ,.imp (.u 1 1 Zd) (.lt ZaS Zdq)]}
def qmT:Con:={qg9 with fact:=qAy}
def qad {c r:Y} {cs:List D} (h:qd (.ec c r) (.list cs)):∃x xs,cs=x::xs/\qd r (.list xs):=by
 obtain⟨x,xs,e,_,h2⟩:=h;cases e;exact⟨x,xs,rfl,h2⟩
def qsY {s:D} (h:qd (qK 300 300) s):M44.qbC (cel s)=s:=by
 obtain⟨cs,rfl,h0⟩:=h;obtain⟨c0,cs0,rfl,h1⟩:=qad h0;obtain⟨c1,cs1,rfl,h2⟩:=qad h1;obtain⟨c2,cs2,rfl,h3⟩:=qad h2;obtain⟨c3,cs3,rfl,h4⟩:=qad h3;obtain⟨c4,cs4,rfl,h5⟩:=qad h4;obtain⟨c5,cs5,rfl,h6⟩:=qad h5;obtain⟨c6,cs6,rfl,h7⟩:=qad h6;obtain⟨c7,cs7,rfl,h8⟩:=qad h7;obtain⟨c8,cs8,rfl,h9⟩:=qad h8;obtain⟨c9,cs9,rfl,h10⟩:=qad h9;obtain⟨c10,cs10,rfl,h11⟩:=qad h10;obtain⟨c11,cs11,rfl,h12⟩:=qad h11;obtain⟨c12,cs12,rfl,h13⟩:=qad h12;obtain⟨c13,cs13,rfl,h14⟩:=qad h13;obtain⟨c14,cs14,rfl,h15⟩:=qad h14;obtain⟨c15,cs15,rfl,h16⟩:=qad h15;obtain⟨c16,cs16,rfl,h17⟩:=qad h16;have h:D.list cs16=D.list []:=h17;cases h;rfl
def qAz {es:List D} {a b:Int}:∀{n j:Nat},M44.qb3 es a b n=some j->j<n
 | n+1,j,h=>by
  unfold M44.qb3 at h;split at h
  ·cases h; omega
  ·have:=qAz h; omega
def qAA {s:D} (h:qd (qK 300 300) s) (hz:qG qnj [s]):RCs PP 22 [.d s] [] (.d (.list (qx s)))/\(qx s).length<=100000/\∀e∈qx s,qd (q5 300 300) e:=by
 obtain⟨d,⟨⟨ht,_⟩,hf⟩,hr⟩:=qA5 [s] hz;have hf:d=.list (qx s):=hf;subst hf;obtain⟨es,e,h1,h2⟩:=ht;cases e;exact⟨hr,h1,h2⟩
def qAB {es:List D} (h:∀e∈es,qd (q5 300 300) e):M44.qfc es:=fun j hj=>by
 have hm:es.getD j .nilp∈es:=by
  rw[zzG,qTE hj];exact qTL _
 have e:M44.elE es j=es.getD j .nilp:=qzE (h _ hm);rw[e,zzG,qTE hj]; rfl
def qAC:qm PP 8 qmT:=fun ds hp=>by
 obtain⟨s,a,b,rfl⟩:∃s a b,ds=[s,a,b]:=by
  match ds,hp.1.1 with
  | [s,a,b],_=>exact⟨s,a,b,rfl⟩
 have hs:qd (qK 300 300) s:=hp.1.2 0 _ rfl;obtain⟨x,rfl⟩:qd (.i .i64) a:=hp.1.2 1 _ rfl;obtain⟨y,rfl⟩:qd (.i .i64) b:=hp.1.2 2 _ rfl;obtain⟨r1,r2,r3⟩:=qAA hs ⟨⟨rfl,fun i y hy=>by
  match i,hy with
  | 0,hy=>cases hy; exact hs
  | i+1,hy=>cases hy⟩,fun f hf=>by
  have hf':f∈qg9.pre:=hf;have h:=hp.2 f hf';rw[qUJ.1 (show f∈[_] from hf')]at h ⊢;exact h⟩
 have hr:=M44.qG7 (s:=cel s) (es:=qx s) (a:=x) (b:=y) (by rw[qsY hs]; exact r1) (qAB r3) r2;rw[qsY hs]at hr;have hr':RCs PP 8 [.d s,.d (.int .i64 x),.d (.int .i64 y)] [] (qan qmT.rts (.agg [.int .i64 (M44.Ya (qx s) x y).1,.bool (M44.Ya (qx s) x y).2])):=hr;have e39:(qK 300 300).form s=s:=YM (by rfl) hs;refine⟨_,⟨⟨⟨_,rfl,_,_,rfl,⟨_,rfl⟩,_,_,rfl,⟨_,rfl⟩,rfl⟩,fun f hf=>?_⟩,rfl⟩,hr'⟩;have hf:f∈qg9.post:=hf;simp only[qg9,qTD,qTJ,or_false]at hf;rcases hf with rfl|rfl
 ·show(0:Int)<=(M44.Ya (qx s) x y).1;unfold M44.Ya;split<;>simp
 ·show(M44.Ya (qx s) x y).2=true->(M44.Ya (qx s) x y).1<(((qx ((qK 300 300).form s)).length:Nat):Int);rw[e39];unfold M44.Ya;split
  ·rename_i j hj;intro _;have:=qAz hj;show((j:Nat):Int)<_;omega
  ·intro h; cases h
def qaH (es died:List D) (a b c:Int):List D×Int:=match (M44.Ya es a b).2 with
 | false=>(died,5)|true=>match toI (died.getD (M44.Ya es a b).1.toNat .nilp)==0 with
  | false=>(died,4)|true=>match c==0||!qdq (es.getD (M44.Ya es a b).1.toNat .nilp) c with
   | true=>(died,9)|false=>(died.set (M44.Ya es a b).1.toNat (.int .i64 c),0)
section
variable {es died:List D} {a b c:Int}
def qAD (h:(M44.Ya es a b).2=false):qaH es died a b c=(died,5):=by
 unfold qaH; rw[h]
def qAE (h:(M44.Ya es a b).2=true) (h2:(toI (died.getD (M44.Ya es a b).1.toNat .nilp)==0)=false):qaH es died a b c=(died,4):=by
 unfold qaH; rw[h,h2]
def qsZ (h:(M44.Ya es a b).2=true) (h2:(toI (died.getD (M44.Ya es a b).1.toNat .nilp)==0)=true) (h3:(c==0||!qdq (es.getD (M44.Ya es a b).1.toNat .nilp) c)=true):qaH es died a b c=(died,9):=by
 unfold qaH; rw[h,h2,h3]
def qAF (h:(M44.Ya es a b).2=true) (h2:(toI (died.getD (M44.Ya es a b).1.toNat .nilp)==0)=true) (h3:(c==0||!qdq (es.getD (M44.Ya es a b).1.toNat .nilp) c)=false):qaH es died a b c=(died.set (M44.Ya es a b).1.toNat (.int .i64 c),0):=by
 unfold qaH; rw[h,h2,h3]
end
def qzZ (es:List D) (a b:Int):∀n,(M44.qb3 es a b n=none/\∀j,j<n->isE (es.getD j .nilp) a b=false)\/∃k,k<n/\M44.qb3 es a b n=some k/\isE (es.getD k .nilp) a b=true
 | 0=>.inl ⟨rfl,fun j hj=>by omega⟩
 | n+1=>by
  unfold M44.qb3
  by_cases h:toI (cel (es.getD n .nilp) 0)=a/\toI (cel (es.getD n .nilp) 1)=b
  ·refine .inr ⟨n,by omega,if_pos h,?_⟩;unfold isE;rw[h.1,h.2,beq_self_eq_true,beq_self_eq_true]; rfl
  ·have hn:isE (es.getD n .nilp) a b=false:=by
    cases e:isE (es.getD n .nilp) a b with
    | false=>rfl|true =>
     unfold isE at e;rw[qTC,beq_iff_eq,beq_iff_eq]at e;exact absurd e h
   rcases qzZ es a b n with⟨h1,h2⟩|⟨k,h1,h2,h3⟩
   ·refine .inl ⟨(if_neg h).trans h1,fun j hj=>?_⟩
    by_cases e:j=n
    ·rw[e]; exact hn
    ·exact h2 j (by omega)
   ·exact .inr ⟨k,by omega,(if_neg h).trans h2,h3⟩
def qK6 {es:List D} (hd:qfw es) {a b:Int} {i j:Nat} (hi:i<es.length) (hj:j<es.length) (h1:isE (es.getD i .nilp) a b=true) (h2:isE (es.getD j .nilp) a b=true):i=j:=by
 have p:=qWB.1 hd;rw[zzG,qTE hi]at h1;rw[zzG,qTE hj]at h2;have h1:isE es[i] a b=true:=h1;have h2:isE es[j] a b=true:=h2;unfold isE at h1 h2;rw[qTC,beq_iff_eq,beq_iff_eq]at h1 h2;rcases qVX i j with h|h|h
 ·exact absurd ⟨h1.1.trans h2.1.symm,h1.2.trans h2.2.symm⟩ (p i j hi hj h)
 ·exact h
 ·exact absurd ⟨h2.1.trans h1.1.symm,h2.2.trans h1.2.symm⟩ (p j i hj hi h)
def qz0 {es:List D} (hd:qfw es) (a b:Int):(Yd es a b<0/\M44.Ya es a b=(0,false))\/∃k:Nat,k<es.length/\Yd es a b=(k:Int)/\M44.Ya es a b=((k:Int),true):=by
 unfold M44.Ya;rcases qzZ es a b es.length with⟨h1,h2⟩|⟨k,h1,h2,h3⟩
 ·refine .inl ⟨?_,by rw[h1]⟩;rw[qzR h2]; decide
 ·refine .inr ⟨k,h1,?_,by rw[h2]⟩;rcases qK2 es a b with⟨_,g⟩|⟨i,g1,g2,g3⟩
  ·have:=g k h1;rw[h3]at this; cases this
  ·rw[g2,qK6 hd g1 h1 g3 h3]
def qK7 {es:List D} (hg:qcP es) (died:List D) (a b c:Int):qaH es died a b c=qaF es died a b c:=by
 rcases qz0 hg.d a b with⟨h1,h2⟩|⟨k,h0,h1,h2⟩
 ·rw[qzT h1,qAD (by rw[h2])]
 ·have hn:¬Yd es a b<0:=by omega
  have hb:=hg.b k h0;have e1:(M44.Ya es a b).1=Yd es a b:=by rw[h1,h2]
  have e2:(M44.Ya es a b).2=true:=by rw[h2]
  cases h3:toI (died.getD (Yd es a b).toNat .nilp)==0 with
  | false=>rw[qzU hn h3,qAE e2 (by rw[e1]; exact h3)]
  | true =>
   have e4:(c==0||!qdq (es.getD (Yd es a b).toNat .nilp) c)=(decide (c<=toI (cel (es.getD (Yd es a b).toNat .nilp) 6))||decide (c>1073741824)):=by
    rw[h1,qTK];unfold qdq
    by_cases hc:c=0
    ·rw[decide_eq_true (show c<=toI (cel (es.getD k .nilp) 6) by omega),hc]; rfl
    ·rw[show(c==0)=false from beq_eq_false_iff_ne.2 hc,qVF,qVF,Bool.not_and]
     by_cases h5:c<=toI (cel (es.getD k .nilp) 6)
     ·rw[decide_eq_true h5,decide_eq_false (show ¬c>toI (cel (es.getD k .nilp) 6) by omega)]; rfl
     ·rw[decide_eq_false h5,decide_eq_true (show c>toI (cel (es.getD k .nilp) 6) by omega)]
      by_cases h6:c<=1073741824
      ·rw[decide_eq_true h6,decide_eq_false (show ¬c>1073741824 by omega)]; rfl
      ·rw[decide_eq_false h6,decide_eq_true (show c>1073741824 by omega)]; rfl
   cases h4:(decide (c<=toI (cel (es.getD (Yd es a b).toNat .nilp) 6))||decide (c>1073741824))with
   | true=>rw[qsH hn h3 h4,qsZ e2 (by rw[e1]; exact h3) (by rw[e1,e4]; exact h4)]
   | false=>rw[qzV hn h3 h4,qAF e2 (by rw[e1]; exact h3) (by rw[e1,e4]; exact h4),e1]
def qtx:Con:={pts:=[Zbt,ZK],pre:=[],rts:=[.b],post:=[.imp Zb (.has Ze Zw),.imp Zb ZbS,.imp Zb ZbT]}
def qPg:RFn:=mF 31 qtx []
def qPh:Tab:=[(75,qtu),(30,qtg),(76,que)]
def qPi:qm PP 31 qtx:=(fe qPg qPh (qj qO9 (qj qAi (qj qAj (qo)))) (by kernel_rfl) ⟨fun U=>by kernel_rfl,trivial⟩).ok
def qup:Con:={pts:=[Zw,ZdV,Zcs],pre:=[.nle Zg ZgB,.rows 0 Zc Zi ZgB],rts:=[Zcw],post:=[Zg1,Zg2,.le ZaS Zg,.le Zg ZaS,.le Zfp Zi,.le Zi Zfp]}
def qeI:RFn:=mF 213 qup [⟨3,[Zs,Z5,(5,ZcM),(6,ZcV),ZdB,(8,ZbQ)],Zlo,[Zw,ZdV,Zcs],[ZgD],(Zg,Zfs,Zk,Za,Za,Za)⟩,⟨3,[Zs,Z5,(5,ZcM),(6,ZcV),ZdB,(8,ZbP)],[Zq,Ze1,Ze2,.box [Ze3,Ze4,Ze5,Zlp,ZaT,ZaT,Zcx,ZaU,ZaU,.nil] false,ZbL,ZbL,.dat 2 Zt false],[Zw,ZdV,Zcs,.i .i64,.i .i64,.i .i64,Zau],[.le Zd Zf,Zcj,.le Zd Zi,Zg5,Zdt,.le Zd2 Zd,ZgD],(Zg,Zg6,Zk,Za,Za,Za)⟩,⟨8,[Z5,(5,ZcM),(6,ZcV),ZdB,(10,ZbQ)],Zlo,[Zw,ZdV,Zcs],[ZgD,.bool Zft false],(Za,.w 1 ZG Za,Zk,Za,Za,Za)⟩,⟨8,[Z5,(5,ZcM),(6,ZcV),ZdB,(10,ZbQ)],[Zq,Ze1,Ze2,.box [Ze3,Ze4,Ze5,.sl 6 2 Za Zd Zf false,ZaT,ZaT,Zcx,ZaU,ZaU,.nil] false,ZbL,ZbL,.dat 2 Zj false],[Zw,ZdV,Zcs,.i .i64,.i .i64,Zau],[.le Zi Zd,.nle Zhe Zan,ZfD,Zhf,.le Zak Zi,ZgD],(Za,.w 1 ZG Za,Zk,Za,Za,Za)⟩,⟨8,[Z5,(5,ZcM),(6,ZcV),ZdB,(10,ZbP)],[Zq,Ze1,Ze2,.box [Ze3,Ze4,Ze5,.nil,ZaT,ZaT,Zcx,ZaU,ZaU,.sl 6 4 Za Zf Zj false] false,ZbL,ZbL,.dat 4 Zt false],[Zw,ZdV,Zcs,.i .i64,.i .i64,.i .i64,ZeZ],[.rows 6 Zt Zab Zg,.le Zi Za,.le Zd ZG,Zg5,Zdt,.le Zd2 Zd,.le Zd Zd2],(Za,.w 1 ZG Zd,Zk,Za,Za,Za)⟩,⟨8,[Z5,(5,ZcM),(6,ZcV),ZdB,(10,ZbP)],[Zq,Ze1,Ze2,.box [Ze3,Ze4,Ze5,Zlp,ZaT,ZaT,Zcx,ZaU,ZaU,.sl 7 4 Za Zt Zh false] false,ZbL,ZbL,.dat 2 Z9 false,.dat 4 Zaj false],[Zw,ZdV,Zcs,.i .i64,.i .i64,.i .i64,.i .i64,.i .i64,Zau,ZeZ],[.rows 6 Zaj Za0 Zg,.le Zi Zf,.le Zd ZG,.nle Zfd ZbU,.le Zd2 Zi,.nle (.w 8 Za Zt) Za0,.nle Zh Zt,.le (.u 4 0 Zt) Zd,.le Zd (.u 4 0 Zt)],(Za,.w 1 ZG Zd,Zk,Za,Za,Za)⟩]
def qeJ:Tab:=[(222,qeA),(297,qtA)]
def qXf:qbh PP qeI qeJ=true:=by kernel_rfl
def qXg:chX PP qeI qeJ 0=true:=by kernel_rfl
def qXh:chX PP qeI qeJ 1=true:=by kernel_rfl
def qXi:chX PP qeI qeJ 2=true:=by kernel_rfl
def qXj:chX PP qeI qeJ 3=true:=by kernel_rfl
def qXk:chX PP qeI qeJ 4=true:=by kernel_rfl
def qXl:chX PP qeI qeJ 5=true:=by kernel_rfl
def qXm:qm PP 213 qup:=(fe qeI qeJ (qj qmI (qj qPq (qo))) (qb8 qXf ⟨qXg,qXh,qXi,qXj,qXk,qXl,trivial⟩) (by refine⟨?_,?_,?_,?_,?_,?_,?_,trivial⟩<;>intro<;>kernel_rfl)).ok
def qfU:Con:={pts:=[Zw,ZK,Zv],pre:=[],rts:=Zh2,post:=[.imp ZaL Zg1,.imp ZaL Zg2,.imp ZaL (.le ZaS Zx),.imp ZaL (.le Zx ZaS),.imp ZaL Zfj,.imp ZaL ZbS,.imp ZaL ZbT,.imp ZaL Zdu,.imp ZaL Zfi,.imp ZaL (.nle Zx ZaY),ZcJ,Zg3,.le ZaS ZaY,.ifF ZkI (.le (.u 1 10 Zd) Za),.ifF ZkI (.le Za (.u 1 10 Zd)),.imp ZaL (.le Zfp Zi),.imp ZaL (.le Zi Zfp)]}
def qSP:RFn:=mF 140 qfU [⟨4,[Zs,ZcK,Z5,(6,ZcM),(7,ZbP)],[Zq,ZeY],Zfh,[Zah,Ze0,Zid,Zie,.pre Zb Zd Zcs,.rows 905 Zb Zd Z6,.rows 920 Zb Zd ZS,ZbS,ZbT,Zdu],(Zg,.w 1 Zx Zd,Zk,Za,Za,Za)⟩,⟨14,[Zs,ZcK,Z5,(6,ZcM),(8,ZcV),(9,ZbP)],[Zq,ZeY,.box [ZgP,Zec,ZfZ,.c .l Zh,Zhi,Zhj,ZhS,.c (.i .i64) Zbu,.c (.i .i64) Zao,.c .l Zb0] false],[Zw,ZK,Zv,.i .i64,.i .i64,ZP,ZP,Zau,.i .i64,.i .i64,.i .i64,.i .i64,.i .i64,ZeZ],[Zcj,.le Zd Zx,.le Zx ZaY,Ze0,Zid,Zie,.pre Zb Zx Zcs,.rows 905 Zb Zx Z6,Zfj,ZbS,ZbT,Zdu,.le ZG (.u 0 0 Zb0),.le (.u 0 0 Zb0) ZG,Zbf,.le Zf Zd,.le Zd Zf,.le (.u 11 3 Zb0) Zf,.le Zcg Zi,.le Zi Zcg],(Za,.w 1 Zx Zd,Zk,Za,Za,Za)⟩]
def qSQ:Tab:=[(30,qtg),(76,que),(212,qA4),(213,qup),(214,qnx)]
def qt6:qm PP 140 qfU:=(fe qSP qSQ (qj qAi (qj qAj (qj qL3 (qj qXm (qj qBo (qo)))))) (by kernel_rfl) (by refine⟨?_,?_,?_,trivial⟩<;>intro<;>kernel_rfl)).ok
structure qfR (m:D) (l:List D) (v:D) (at_:Nat) (key:Int):Prop where
 lt:at_<l.length
 eq:key=KEY m (l.getD at_ .nilp) v
 le:∀i,i<l.length->key<=KEY m (l.getD i .nilp) v
 ls:∀i,i<at_->key<KEY m (l.getD i .nilp) v
def qfR.norm {m v:D} {l:List D} {a:Nat} {k:Int} (h:qfR ((K.i .i64).den m) l (K.l.den v) a k):qfR m l v a k:=⟨h.lt,h.eq,h.le,h.ls⟩
def qtY (m:D) (l:List D) (v:D) (n:Nat):Prop:=∀i,i<n->0<=KEY m (l.getD i .nilp) v/\(toL (l.getD i .nilp)=toL v->KEY m (l.getD i .nilp) v=0)
def qhl (ds:List D) (d:D):Prop:=qfR (qa ds 0) (toL (qa ds 1)) (qa ds 2) (toN (cel d 0)) (toI (cel d 1))/\qtY (qa ds 0) (toL (qa ds 1)) (qa ds 2) (toL (qa ds 1)).length
def qnS:Con:={pts:=[.i .i64,Z1,Yr],pre:=[Zcq,.rows 0 Zc Zi Zx],rts:=ZkB,post:=[ZcJ,.lt ZaS Zi,.le (.u 1 2 Zd) Za]}
def qnT:RFn:=mF 217 qnS [⟨3,[ZaX,Zs,ZcK,ZbV,(7,ZcM),(8,ZbP)],[.box [Zp,Zp,Zp] false,.box [ZgP,.c (.i .i64) Zj,Zp] false],[.i .i64,Z1,Yr,.i .i64,.i .i64,.i .i64],[Zah,Zbf,.lt Zf Zi],(Za,Zg6,Zk,Za,Za,Za)⟩]
def qnU:Tab:=[(222,qeA)]
def qSp:qH PP 217 qnS (Ev0 PP qnT qnU):=fe qnT qnU (qj qmI (qo)) (by kernel_rfl) (by refine⟨?_,?_,trivial⟩<;>intro<;>kernel_rfl)
def qjy:Con:={qnS with post:=qnS.post++[],fact:=qhl}
def qBx:TQ:=.next [(222,[ZaG,ZfB,ZcS])] 0 [Ze,Zc,Zb,Za,Za,.u 3 222 (.w 4 ZaG (.w 4 ZfB (.w 4 ZcS .z)))]
def qBy:TQ:=.fork (.w 10 Zd Zi) (.fork (.w 10 ZkC Zj) (.next [(222,[ZaG,Zhk,ZcS])] 0 [Ze,Zc,Zb,ZaI,Zd,ZkC]) (.next [(222,[ZaG,Zhk,ZcS])] 0 [Ze,Zc,Zb,ZaI,Zf,Zj])) (.done [] (.u 2 0 (.w 4 (.mk (.i .i64) Zf) (.w 4 (.mk (.i .i64) Zj) Zbi))))
def qSq:qN PP qnT qnU=[qBx,qBy]:=by kernel_rfl
structure qSr (m:D) (l:List D) (v:D) (i at_:Nat) (key:Int):Prop where
 eq:key=KEY m (l.getD at_ .nilp) v
 le:∀j,j<i->key<=KEY m (l.getD j .nilp) v
 ls:∀j,j<at_->key<KEY m (l.getD j .nilp) v
 ks:qtY m l v i
def qSs {ds:List D} {d:D} (h:Ev0 PP qnT qnU ds d):qhl ds d:=by
 refine Yc qSq (I:=fun k U=>k=0->qSr (qa ds 0) (toL (qa ds 1)) (qa ds 2) (toN (U 3)) (toN (U 4)) (toI (U 5))) (Q:=qhl ds) ?_ ?_ h
 ·intro k st q U d hst hq hg hi ht;have h0:=hg.arg 0 (by decide);have h1:=hg.arg 1 (by decide);have h2:=hg.arg 2 (by decide);rcases k with _|k
  ·simp at hq;subst hq;cases hst;have i3:0<=toI (U 3):=hg.inv (.le (.i 0) (.v 3)) (by simp);have i4:0<=toI (U 4):=hg.inv (.le (.i 0) (.v 4)) (by simp);have i5:toI (U 4)<((toL (U 1)).length:Int):=hg.inv (.lt (.v 4) (.u 0 0 (.v 1))) (by simp);obtain⟨j1,j2,j3,j4⟩:=hi rfl;simp[qBy,YP,YO,YA,T.den,T.un,T.bi,Ym,h0,h1,h2,qUl,qUm,-List.getD_eq_getElem?_getD]at ht;rw[h1]at i5;have hadd:∀{j:Nat},j<(toI (U 3)+1).toNat->j<toN (U 3)\/j=toN (U 3):=by
    intro j hj; unfold toN; omega
   rcases ht with⟨hlt,⟨hk,hc,hn⟩|⟨hk,hc,hn⟩⟩|⟨hge,rfl⟩
   ·obtain⟨c1,c2,c3⟩:=qtN rfl hc;rw[c1]at hk hn;refine hn ⟨rfl,fun j hj=>?_,fun j hj=>Int.lt_of_lt_of_le hk (j2 j hj),fun j hj=>?_⟩
    ·rcases hadd hj with hj|rfl
     ·exact Int.le_trans (Int.le_of_lt hk) (j2 j hj)
     ·exact qVY _
    ·rcases hadd hj with hj|rfl
     ·exact j4 j hj
     ·exact⟨c2,c3⟩
   ·obtain⟨c1,c2,c3⟩:=qtN rfl hc;rw[c1]at hk;refine hn ⟨j1,fun j hj=>?_,j3,fun j hj=>?_⟩
    ·rcases hadd hj with hj|rfl
     ·exact j2 j hj
     ·omega
    ·rcases hadd hj with hj|rfl
     ·exact j4 j hj
     ·exact⟨c2,c3⟩
   ·have hge:=of_decide_eq_false hge;have hl:(toL (qa ds 1)).length<=toN (U 3):=by unfold toN; omega
    refine⟨⟨?_,j1,fun j hj=>j2 j (by omega),j3⟩,fun j hj=>j4 j (by omega)⟩;show toN (U 4)<_;unfold toN; omega
  ·simp at hq
 ·intro d ht;simp[qBx,YP,YO,YA,T.den,T.un,T.bi,Ym,qUl,qUm,-List.getD_eq_getElem?_getD]at ht;obtain⟨c1,c2,c3⟩:=qtN rfl ht.1;exact ht.2 ⟨c1,fun j hj=>by omega,fun j hj=>by omega,fun j hj=>by omega⟩
def qBz:qm PP 217 qjy:=qSp.more fun ds d _ _ h=>⟨fun f hf=>(by cases hf),qSs h⟩
structure YQ (m:D) (V O C:List D):Prop where
 eq:C=O.map fun o=>K.l.den (V.getD (toN o) .nilp)
 ps:∀j,j<C.length->∀i,i<j->0<KEY m (C.getD i .nilp) (C.getD j .nilp)
def YQ.snoc {m:D} {V O C:List D} (h:YQ m V O C) {o:D} (hk:∀i,i<C.length->0<KEY m (C.getD i .nilp) (V.getD (toN o) .nilp)):YQ m V (O++[o]) (C++[K.l.den (V.getD (toN o) .nilp)]):=by
 refine⟨by rw[h.eq]; simp,fun j hj i hi=>?_⟩;have hj':j<C.length\/j=C.length:=by simp at hj; omega
 have gi:(C++[K.l.den (V.getD (toN o) .nilp)]).getD i .nilp=C.getD i .nilp:=by
  simp only[zzG,qTZ (show i<C.length by omega)]
 rw[gi];rcases hj' with hj' | rfl
 ·have gj:(C++[K.l.den (V.getD (toN o) .nilp)]).getD j .nilp=C.getD j .nilp:=by
   simp only[zzG,qTZ hj']
  rw[gj];exact h.ps j hj' i hi
 ·have gj:(C++[K.l.den (V.getD (toN o) .nilp)]).getD C.length .nilp=K.l.den (V.getD (toN o) .nilp):=by
   simp[zzG]
  rw[gj];exact hk i hi
def YQ.one (m:D) (V:List D) (o:D):YQ m V [o] [K.l.den (V.getD (toN o) .nilp)] :=
 ⟨rfl,fun j hj i hi=>by simp at hj; omega⟩
def YQ.nil (m:D) (V:List D):YQ m V [] []:=⟨rfl,fun j hj=>absurd hj (qWn _)⟩
def qmU (ds:List D) (d:D):Prop:=∃C,YQ (qa ds 0) (toL (qa ds 1)) (toL (cel d 0)) C
def qmV:Con:={pts:=Zfq,pre:=[],rts:=[qIR 301 301],post:=[.rows 2 ZaS (.u 0 0 ZaS) Zi,.ifF (.and Zee (.and Zef (.and Zhd (.and ZcX (.le Zb Zaf))))) (.le Zg (.u 0 0 ZaS)),.ifF Z3 (.le (.u 0 0 ZaS) Zb)]}
def qds:RFn:=mF 142 qmV [⟨5,[ZaX,Zs,ZaO,ZbV,Zi6,Zi7],Zi8,Zfq,[.le ZbX Zi,Zcm,Zdz,Zbr,Zcn],(Za,.w 1 Zb ZbX,Zk,Za,Za,Za)⟩,⟨9,[ZaX,Zs,ZaO,ZbV,Zi6,Zi7,(9,ZbP),Zfc,(11,Zdy)],Zi8,[.i .i64,ZK,.i .i64,.i .i64,.i .i64,.i .i64],[Zah,.lt Zd Zi,Zea,.lt ZbX Zb,Zcm,Zdz,Zbr,Zcn],(Za,.w 1 Zb ZbX,Za,Zg7,Zk,Za)⟩,⟨5,[ZaX,Zs,ZaO,ZbV,ZaF,(8,.o Zi9)],[Zcl,Zd1,ZdA],[.i .i64,ZK,.i .i64,.i .i64,.i .i64,.i .i64,.i .i64,ZP,Z1],[.rows 0 Z9 ZbU Zdx,.rows 2 Zh Zcg Zi,.nle Zhe Zcg,ZfD,Zhf,.le Zak Zb,.nle Zhg ZbU,Zhh,Zcm,Zdz,.nle Zd Zj,.nle Zj Zd,Zcq,Zbr,Zcn],(Za,.w 1 Zb Zak,Zk,Za,Za,Za)⟩,⟨9,[ZaX,Zs,ZaO,ZbV,ZaF,(8,.o Zi9),(9,.o Zg0),(10,.o Zhi),(11,.o Zhj)],[Zcl,.dat 1 Zac false,.dat 1 Zbu false],[.i .i64,ZK,.i .i64,.i .i64,.i .i64,.i .i64,.i .i64,.i .i64,.i .i64,.i .i64,ZP,Z1],[.rows 0 Zbu ZfE Zdx,.rows 2 Zac (.u 0 0 Zac) Zi,ZI,.lt Zh Zi,.le Za Zaj,.nle Zhe (.u 0 0 Zac),ZfD,Zhf,.lt Zak Zb,.nle Zhg ZfE,Zhh,Zcm,Zdz,.nle Zd Zj,.nle Zj Zd,Zbr,Zcn],(Za,.w 1 Zb Zak,Za,.w 1 Zi Zaj,Zk,Za)⟩]
def qbm:Tab:=[(215,qjv),(216,qjo),(217,qjy)]
def qNP:qbh PP qds qbm=true:=by kernel_rfl
def qNQ:chX PP qds qbm 0=true:=by kernel_rfl
def qNR:chX PP qds qbm 1=true:=by kernel_rfl
def qNS:chX PP qds qbm 2=true:=by kernel_rfl
def qNT:chX PP qds qbm 3=true:=by kernel_rfl
def qNU:qH PP 142 qmV (Ev0 PP qds qbm):=fe qds qbm (qj qtX (qj qty (qj qBz (qo)))) (qb8 qNP ⟨qNQ,qNR,qNS,qNT,trivial⟩) (by refine⟨?_,?_,?_,?_,?_,trivial⟩<;>intro<;>kernel_rfl)
def qmW:Con:={qmV with post:=qmV.post++[],fact:=qmU}
def qAM:TQ:=.fork (.u 6 0 (.u 3 215 (.w 4 ZaG .z))) (.done [(215,[ZaG])] (.u 2 0 (.w 4 .z ZiN))) (.fork (.u 6 0 (.u 3 216 Zd8)) (.done [(215,[ZaG]),(216,[Zae])] (.u 2 0 (.w 4 .z ZiN))) (.fork (.w 10 Zb Zg) (.done [(215,[ZaG]),(216,[Zae])] (.u 2 0 (.w 4 .z ZiN))) (.fork Zha (.done [(215,[ZaG]),(216,[Zae])] (.u 2 0 (.w 4 .z ZiN))) (.next [(215,[ZaG]),(216,[Zae])] 0 [Ze,Zc,Zb]))))
def qAN:TQ:=.fork (.w 10 ZbX Zb) (.next [] 1 [Ze,Zc,Zb,Za,Za,Za]) (.done [] (.u 2 0 (.w 4 Zbi Zbi)))
def qAO:TQ:=.fork (.w 10 Zj Zi) (.fork (.w 12 Zja Zf) (.next [(217,[ZaG,ZfC,.mk .l (.w 3 Zc Zj)])] 1 [Ze,Zc,Zb,Zj,Zja,Zed]) (.next [(217,[ZaG,ZfC,.mk .l (.w 3 Zc Zj)])] 1 [Ze,Zc,Zb,Zd,Zf,Zed])) (.fork (.w 14 Zf Za) (.done [] (.u 2 0 (.w 4 Zbi Zbi))) (.next [] 2 [Ze,Zc,Zb,.w 8 Zg (.u 0 0 Zeh),.w 8 Zg (.u 0 0 Zeh),Zjb,Zjb,.w 5 Zbi Zeh,.w 5 ZfC (.w 4 Zhk .z)]))
def qAP:TQ:=.fork (.w 10 Zak Zb) (.next [] 3 [Ze,Zc,Zb,Zd,Zf,Zj,Zt,Za,Za,Za,Zh,Z9]) (.done [] (.u 2 0 (.w 4 Zjc Zbi)))
def qAQ:TQ:=.fork (.w 10 Zaj Zi) (.fork (.w 12 Zjd Z9) (.next [(217,[ZaG,ZfF,.mk .l (.w 3 Zc Zaj)])] 3 [Ze,Zc,Zb,Zd,Zf,Zj,Zt,Zaj,Zjd,.w 0 Zaj Zg,Zac,Zbu]) (.next [(217,[ZaG,ZfF,.mk .l (.w 3 Zc Zaj)])] 3 [Ze,Zc,Zb,Zd,Zf,Zj,Zt,Zh,Z9,.w 0 Zaj Zg,Zac,Zbu])) (.fork (.w 14 Z9 Za) (.done [] (.u 2 0 (.w 4 Zje Zbi))) (.next [] 2 [Ze,Zc,Zb,.w 8 Zd (.u 0 0 Zjf),.w 8 Zd (.u 0 0 Zjf),.w 8 Zj (.u 0 0 Zjg),.w 8 Zj (.u 0 0 Zjg),.w 5 Zje Zjf,.w 5 ZfF Zjg]))
def qNV:qN PP qds qbm=[qAM,qAN,qAO,qAP,qAQ]:=by kernel_rfl
def qmX (n:Nat) (l:List D) (x:D):(l.take n++[x]).take (n+1)=l.take n++[x]:=qTX (by rw[qTN,qTU]; simp; omega)
def qmY (m:D) (V C:List D) (best:D) (far:Int):Prop:=far=0\/0<far/\∃at_,qfR m C (V.getD (toN best) .nilp) at_ far
def qmY.keys {m:D} {V C:List D} {best:D} {far:Int} (h:qmY m V C best far) (hf:¬far=0):∀i,i<C.length->0<KEY m (C.getD i .nilp) (V.getD (toN best) .nilp):=by
 obtain⟨hf,at_,hn⟩:=h.resolve_left hf;exact fun i hi=>Int.lt_of_lt_of_le hf (hn.le i hi)
def qAR {m C v:D} (h:∀c,qbm.get 217=some c->qG c [(K.i .i64).den m,C,K.l.den v]/\JZ c [(K.i .i64).den m,C,K.l.den v] (wOf PP qbm 217 [(K.i .i64).den m,C,K.l.den v])) :
  qfR m (toL C) v (toN (cel (wOf PP qbm 217 [(K.i .i64).den m,C,K.l.den v]) 0)) (toI (cel (wOf PP qbm 217 [(K.i .i64).den m,C,K.l.den v]) 1)):=by
 obtain⟨h1,_⟩:qhl _ _:=(h qjy rfl).2.2;exact h1.norm
def qNW {ds:List D} {d:D} (h:Ev0 PP qds qbm ds d):qmU ds d:=by
 refine Yc qNV (I:=fun k U=>match k with
  | 0=>True|1=>qmY (qa ds 0) (toL (qa ds 1)) [K.l.den ((toL (qa ds 1)).getD 0 .nilp)] (U 3) (toI (U 4))/\0<=toI (U 4)|2=>YQ (qa ds 0) (toL (qa ds 1)) ((toL (U 7)).take (toN (U 3))) ((toL (U 8)).take (toN (U 5)))|_=>YQ (qa ds 0) (toL (qa ds 1)) ((toL (U 10)).take (toN (U 3))) ((toL (U 11)).take (toN (U 5)))/\qmY (qa ds 0) (toL (qa ds 1)) ((toL (U 11)).take (toN (U 5))) (U 7) (toI (U 8))/\0<=toI (U 8)) (Q:=qmU ds) ?_ ?_ h
 ·intro k st q U d hst hq hg hi ht;have h0:=hg.arg 0 (by decide);have h1:=hg.arg 1 (by decide);have h2:=hg.arg 2 (by decide);rcases k with _|_|_|_|k
  ·simp at hq;subst hq;simp[qAN,YP,YO,YA,T.den,T.un,T.bi,Ym,h0,h1,h2,qUl,qUm,-List.getD_eq_getElem?_getD]at ht;rcases ht with⟨_,h⟩|⟨_,rfl⟩
   ·exact h (.inl rfl)
   ·exact⟨_,YQ.one _ _ _⟩
  ·simp at hq;subst hq;simp[qAO,YP,YO,YA,T.den,T.un,T.bi,Ym,h0,h1,h2,qUl,qUm,-List.getD_eq_getElem?_getD]at ht;obtain⟨i1,i2⟩:=hi;rcases ht with⟨_,⟨hk,hc,hn⟩|⟨_,_,hn⟩⟩|⟨_,⟨_,rfl⟩|⟨hf,hn⟩⟩
   ·have h2:=Int.lt_of_le_of_lt i2 hk;exact hn (.inr ⟨h2,_,qAR hc⟩) (Int.le_of_lt h2)
   ·exact hn i1 i2
   ·exact⟨_,YQ.one _ _ _⟩
   ·exact hn ((YQ.one _ _ _).snoc (i1.keys hf))
  ·simp at hq;subst hq;simp[qAP,YP,YO,YA,T.den,T.un,T.bi,Ym,h0,h1,h2,qUl,qUm,-List.getD_eq_getElem?_getD]at ht;rcases ht with⟨_,hn⟩|⟨_,rfl⟩
   ·exact hn hi (.inl rfl)
   ·exact⟨_,hi⟩
  ·simp at hq;subst hq;simp[qAQ,YP,YO,YA,T.den,T.un,T.bi,Ym,h0,h1,h2,qUl,qUm,-List.getD_eq_getElem?_getD]at ht;obtain⟨i0,i1,i2⟩:=hi;rcases ht with⟨_,⟨hk,hc,hn⟩|⟨_,_,hn⟩⟩|⟨_,⟨_,rfl⟩|⟨hf,hn⟩⟩
   ·have h2:=Int.lt_of_le_of_lt i2 hk;exact hn i0 (.inr ⟨h2,_,qAR hc⟩) (Int.le_of_lt h2)
   ·exact hn i0 i1 i2
   ·exact⟨_,i0⟩
   ·refine hn ?_;rw[qmX,qmX];exact i0.snoc (o:=(K.i .i64).den (U 7)) (i1.keys hf)
  ·simp at hq
 ·intro d ht;simp[qAM,YP,YO,YA,T.den,T.un,T.bi,Ym,qUl,qUm,-List.getD_eq_getElem?_getD]at ht;rcases ht with⟨_,_,rfl⟩|⟨_,⟨_,_,rfl⟩|⟨_,⟨_,_,rfl⟩|⟨_,⟨_,_,rfl⟩|⟨_,_,hn⟩⟩⟩⟩
  ·exact⟨[],YQ.nil _ _⟩
  ·exact⟨[],YQ.nil _ _⟩
  ·exact⟨[],YQ.nil _ _⟩
  ·exact⟨[],YQ.nil _ _⟩
  ·exact hn
def qAS:qm PP 142 qmW:=qNU.more fun ds d _ _ h=>⟨fun f hf=>(by cases hf),qNW h⟩
def qjj:Con:={pts:=[Zw,ZK,Zv],pre:=[],rts:=[qlE],post:=[.imp Zdw Zg1,.imp Zdw Zg2,.imp Zdw (.le ZaS Zx),.imp Zdw (.le Zx ZaS),.imp Zdw (.le Zfp Zi),.imp Zdw (.le Zi Zfp),ZcJ,Zg3,.le ZaS ZaY,.le (.u 13 0 Zd) Zg,.ifF ZiE (.le (.u 1 12 Zd) Za),.ifF ZiE (.le Za (.u 1 12 Zd))]}
def qNi:RFn:=mF 220 qjj []
def qNj:Tab:=[(140,qfU)]
def qta:qm PP 220 qjj:=(fe qNi qNj (qj qt6 (qo)) (by kernel_rfl) ⟨fun U=>by kernel_rfl,trivial⟩).ok
def qtZ (ds:List D) (d:D):Prop:=toI (cel d 2)<=0->qhl ds d
def qhm:Con:={pts:=[.i .i64,ZK,ZP],pre:=[],rts:=ZkB,post:=[.imp (.w 14 (.u 1 2 Zd) Za) ZcJ,.imp (.w 14 (.u 1 2 Zd) Za) (.lt ZaS Zi),ZcJ,.ifF Zcq (.lt ZaS Zi),.ifF (.and Zee (.and Zef (.and Ze0 (.and Zhd (.and (.has Zb Yr) (.and (.nle Zx Zdx) (.nle Zdx Zx))))))) (.le (.u 1 2 Zd) Za)]}
def qnV:RFn:=mF 398 qhm []
def qnW:Tab:=[(445,qud),(446,qs5),(217,qjy)]
def qSt:qH PP 398 qhm (Ev0 PP qnV qnW):=fe qnV qnW (qj qTj (qj qMN (qj qBz (qo)))) (by kernel_rfl) ⟨fun U=>by kernel_rfl,trivial⟩
def qt0:Con:={qhm with post:=qhm.post++[],fact:=qtZ}
def qBA:TQ:=.fork (.u 6 0 (.u 3 445 (.w 4 ZaG Zd8))) (.done [(445,[ZaG,Zae])] ZkD) (.fork (.u 6 0 (.u 3 446 (.w 4 ZfB (.w 4 ZcS .z)))) (.done [(445,[ZaG,Zae]),(446,[ZfB,ZcS])] ZkD) (.done [(445,[ZaG,Zae]),(446,[ZfB,ZcS]),(217,[ZaG,Zae,ZcS])] (.u 2 0 (.w 4 (.mk (.i .i64) (.u 1 0 Zib)) (.w 4 (.mk (.i .i64) (.u 1 1 Zib)) (.w 4 (.mk (.i .i64) (.u 1 2 Zib)) .z))))))
def qSu:qN PP qnV qnW=[qBA]:=by kernel_rfl
def qSv {ds:List D} {d:D} (h:Ev0 PP qnV qnW ds d):qtZ ds d:=by
 refine Yc qSu (I:=fun k U=>False) (Q:=qtZ ds) ?_ ?_ h
 ·intro k st q U d hst hq hg hi ht;exact hi.elim
 ·intro d ht;simp[qBA,YP,YO,YA,T.den,T.un,T.bi,Ym,qUl,qUm,-List.getD_eq_getElem?_getD]at ht;rcases ht with⟨_,_,rfl⟩|⟨_,⟨_,_,rfl⟩|⟨_,⟨_,_,hc⟩,rfl⟩⟩
  ·intro h; exact absurd h (show ¬(1:Int)<=0 by decide)
  ·intro h; exact absurd h (show ¬(1:Int)<=0 by decide)
  ·intro _;obtain⟨h1,h2⟩:qhl _ _:=(hc qjy rfl).2.2;exact⟨h1.norm,h2⟩
def qSw:qm PP 398 qt0:=qSt.more fun ds d _ _ h=>⟨fun f hf=>(by cases hf),qSv h⟩
def Y7 (e:D):D:=K.l.den (cel e 7)
def qBi (V:List D) (o:D):D:=K.l.den (V.getD (toN o) .nilp)
def qjq (ds:List D) (d:D):Prop:=Yo 0 (toL d)=(toL (qa ds 1)).length/\(∀x∈toL d,1<=(toL x).length/\(toL x).length+1<=(toL (qa ds 1)).length)/\(12<=toI (qa ds 2)->∀x∈toL d,2*(toL x).length<=(toL (qa ds 1)).length+1)
def qaq:Con:={pts:=[Zw,Zv,.i .i64],pre:=[.nle (.i 17) Zi,.nle Zi (.i 301),Z3,.le Zg Z6,.le Zg Zbb,.le Zbb Zai,.pre Zc Zi Zcs,.rows 905 Zc Zi Z6],rts:=[.l 4 Zv],post:=[Zeb,.rows 950 Zd Zam Zae]}
def qg:RFn:=mF 301 qaq [⟨3,[Zs,ZaO,Z5,(7,ZcL),(8,ZbQ)],[Zq],[Zw,Zv,.i .i64],[Zbh,Zc6,ZC,ZH,ZD,.rows 0 .z ZcT Z6],(ZT,Zfs,Zk,Za,Za,Za)⟩,⟨3,[Zs,ZaO,Z5,ZaF,(8,Zdy)],[Zq,Zen],[Zw,Zv,.i .i64,.i .i64,.i .i64,.i .i64,Z1],[Zea,.le Zj Zi,.nle Zak Zj,.nle Zj Zak,.nle Zf Zak,.nle Zab Zak,.nle Zak Zab,.rows 0 Zt Zab Z6],(ZT,Zg7,Zk,Za,Za,Za)⟩,⟨12,[Zs,Z5,ZaF,(9,ZcV),(11,ZcL),(12,ZbQ)],[Zq,.dat 1 Zj true,.box [ZfZ,Zg0] false],[Zw,Zv,.i .i64,.i .i64,.i .i64,Z1,ZP,.i .i64],[Zbh,ZC,ZH,ZD,Zy,.nle ZT Zab,.nle Zab Z4,.rows 2 Zt Zab Zi,.le Za Zab,Zz,.nle Zak Zan],(Zg,.w 1 Zab Za,Zk,Za,Za,Za)⟩,⟨12,[Zs,Z5,ZaF,(9,ZcV),(11,.o (.sl 3 1 Za Zj Zt false)),(12,.o Zg0)],[Zq,ZN,.box [.c .l Zaj,ZhS] false,.dat 1 Zbu false],[Zw,Zv,.i .i64,.i .i64,.i .i64,.i .i64,.i .i64,.i .i64,Z1,ZP,.i .i64,Z1],[ZI,.nle ZU Zh,.nle Zh ZU,.nle Zt ZU,.nle ZfE ZU,.nle ZU ZfE,Zy,.nle ZT Za0,.nle Za0 Z4,.rows 2 Zaj Za0 Zi,.le Zh Za0,Zz,ZO],(Zg,.w 1 Za0 Zh,Zk,Za,Za,Za)⟩,⟨17,[Zs,Z5,ZaF,(11,ZcL),(13,.o (.sl 2 1 Za Za Za true)),ZcW],[Zq,.dat 1 Zj true,.box [] false],[Zw,Zv,.i .i64,.i .i64,.i .i64,Z1],[Zbh,Zc6,Zy,Zz,.nle Zak Zan,ZD,.nle Za Z8,.nle Z8 Za,.nle ZT Za],(Za,Zfs,Zk,Za,Za,Za)⟩,⟨17,[Zs,Z5,ZaF,ZbZ,Zj4,ZcW],[Zq,ZeA,ZdA,.box [.nil] false],ZeB,[Zbh,Zc6,Zy,Zz,ZdE,Zdv,.nle ZU ZbX,.nle ZbX ZU,ZF,ZV,ZD,ZH,ZC,.nle Zg Za,Zf0,Zf1],(Za,Zfs,Zk,Za,Za,Za)⟩,⟨17,[Zs,Z5,ZaF,ZbZ,Zj5,ZcW],[Zq,ZeA,ZdA,.box [.nil,.nil] false],ZeB,[Zbh,Zc6,Zy,Zz,ZdE,Zdv,Zf2,Zf3,ZF,ZV,ZD,ZH,ZC,Zf0,Zf1,.le ZeC Za,.le Za ZeC],(Za,Zfs,Zk,Za,Za,Za)⟩,⟨17,[Zs,Z5,ZaF,ZbZ,Zj4,Zf4],[Zq,ZN,ZM,.box [ZW] false,Zbw],Zbx,[ZI,ZX,Zy,Zz,ZO,ZY,.nle ZU ZbX,.nle ZbX ZU,ZF,Zby,Zbz,ZbA,ZZ,Z0,ZaJ,Zf5],(Za,.w 1 Zi Zh,Zk,Za,Za,Za)⟩,⟨17,[Zs,Z5,ZaF,ZbZ,(13,.o (.sl 3 1 Za Za Za true)),ZcW],[Zq,ZeA,ZdA,.box [] false],ZeB,[Zbh,Zc6,Zy,Zz,ZdE,Zdv,.nle ZU Z8,.nle Z8 ZU,ZF],(Za,Zfs,Zk,Za,Za,Za)⟩,⟨17,[Zs,Z5,ZaF,ZbZ,Zj6,ZcW],[Zq,ZeA,ZdA,.box [.nil,.nil,.nil] false],ZeB,[Zbh,Zc6,Zy,Zz,ZdE,Zdv,Zct,Zcu,ZF,ZV,ZD,ZH,ZC,Zf0,Zf1,.le ZeC Za,.le Za ZeC,.le ZeE Za,.le Za ZeE],(Za,Zfs,Zk,Za,Za,Za)⟩,⟨17,[Zs,Z5,ZaF,ZbZ,Zj7,ZcW],[Zq,ZeA,ZdA,.box [.nil,.nil,.nil,.nil] false],ZeB,[Zbh,Zc6,Zy,Zz,ZdE,Zdv,Zap,Zaq,ZF,ZV,ZD,ZH,ZC,Zf0,Zf1,.le ZeC Za,.le Za ZeC,.le ZeE Za,.le Za ZeE,.le (.w 0 ZeE Z8) Za,.le Za (.w 0 ZeE Z8)],(Za,Zfs,Zk,Za,Za,Za)⟩,⟨17,ZhT,[Zq,ZN,ZM,.box [ZW,.nil] false,Zbw],Zbx,[ZI,ZX,Zy,Zz,ZO,ZY,Zf2,Zf3,ZF,Zby,Zbz,ZbA,ZZ,Z0,ZV,ZD,ZH,ZC,ZaJ,Zf5,Zc8,.le Zh Zf6],(Za,.w 1 Zi Zh,Zk,Za,Za,Za)⟩,⟨17,ZhT,[Zq,ZN,ZM,.box [.nil,ZW] false,Zbw],Zbx,[ZI,ZX,Zy,Zz,ZO,ZY,Zf2,Zf3,ZF,ZV,ZD,ZH,ZC,Zby,Zbz,ZbA,ZZ,Z0,Zbl,Zc9,.le Zh Zf7],(Za,.w 1 Zi Zh,Zk,Za,Za,Za)⟩,⟨17,Zda,[Zq,ZN,ZM,.box [ZW,.nil,.nil] false,Zbw],Zbx,[ZI,ZX,Zy,Zz,ZO,ZY,Zct,Zcu,ZF,Zby,Zbz,ZbA,ZZ,Z0,ZV,ZD,ZH,ZC,ZaJ,Zf5,Zc8,.le Zh Zf6,.le Zf8 Zh,.le Zh Zf8],(Za,.w 1 Zi Zh,Zk,Za,Za,Za)⟩,⟨17,Zda,[Zq,ZN,ZM,.box [.nil,ZW,.nil] false,Zbw],Zbx,[ZI,ZX,Zy,Zz,ZO,ZY,Zct,Zcu,ZF,ZV,ZD,ZH,ZC,Zby,Zbz,ZbA,ZZ,Z0,Zbl,Zc9,.le Zh Zf7,.le Zf9 Zh,.le Zh Zf9],(Za,.w 1 Zi Zh,Zk,Za,Za,Za)⟩,⟨17,Zda,[Zq,ZN,ZM,.box [.nil,.nil,ZW] false,Zbw],Zbx,[ZI,ZX,Zy,Zz,ZO,ZY,Zct,Zcu,ZF,ZV,ZD,ZH,ZC,Zby,Zbz,ZbA,ZZ,Z0,Zbl,Zga,.le Zgb Zh,.le Zh Zgb],(Za,.w 1 Zi Zh,Zk,Za,Za,Za)⟩,⟨17,ZaK,[Zq,ZN,ZM,.box [ZW,.nil,.nil,.nil] false,Zbw],Zbx,[ZI,ZX,Zy,Zz,ZO,ZY,Zap,Zaq,ZF,Zby,Zbz,ZbA,ZZ,Z0,ZV,ZD,ZH,ZC,ZaJ,Zf5,Zc8,.le Zh Zf6,.le Zf8 Zh,.le Zh Zf8,.le (.w 0 Zf8 Z8) Zh,.le Zh (.w 0 Zf8 Z8)],(Za,.w 1 Zi Zh,Zk,Za,Za,Za)⟩,⟨17,ZaK,[Zq,ZN,ZM,.box [.nil,ZW,.nil,.nil] false,Zbw],Zbx,[ZI,ZX,Zy,Zz,ZO,ZY,Zap,Zaq,ZF,ZV,ZD,ZH,ZC,Zby,Zbz,ZbA,ZZ,Z0,Zbl,Zc9,.le Zh Zf7,.le Zf9 Zh,.le Zh Zf9,.le (.w 0 Zf9 Z8) Zh,.le Zh (.w 0 Zf9 Z8)],(Za,.w 1 Zi Zh,Zk,Za,Za,Za)⟩,⟨17,ZaK,[Zq,ZN,ZM,.box [.nil,.nil,ZW,.nil] false,Zbw],Zbx,[ZI,ZX,Zy,Zz,ZO,ZY,Zap,Zaq,ZF,ZV,ZD,ZH,ZC,Zby,Zbz,ZbA,ZZ,Z0,Zbl,Zga,.le Zgb Zh,.le Zh Zgb,.le (.w 0 Zgb Z8) Zh,.le Zh (.w 0 Zgb Z8)],(Za,.w 1 Zi Zh,Zk,Za,Za,Za)⟩,⟨17,ZaK,[Zq,ZN,ZM,.box [.nil,.nil,.nil,ZW] false,Zbw],Zbx,[ZI,ZX,Zy,Zz,ZO,ZY,Zap,Zaq,ZF,ZV,ZD,ZH,ZC,Zby,Zbz,ZbA,ZZ,Z0,Zbl,Zga,.le ZeE Zh,.le (.w 0 ZeE Zc7) Zh,.le Zh (.w 0 ZeE Zc7)],(Za,.w 1 Zi Zh,Zk,Za,Za,Za)⟩,⟨17,ZhT,[Zq,ZN,ZM,.box [ZW,Zar] false,ZbB,ZbC],ZbD,[ZI,ZX,Zy,Zz,ZO,ZY,Zf2,Zf3,ZF,ZbE,ZbF,ZbG,ZZ,Z0,ZbH,ZbI,ZbJ,Zas,Zat,ZaJ,Zdb,.le Zh Zgc],(Za,.w 1 Zi Zh,Zk,Za,Za,Za)⟩,⟨17,Zda,[Zq,ZN,ZM,.box [ZW,Zar,.nil] false,ZbB,ZbC],ZbD,[ZI,ZX,Zy,Zz,ZO,ZY,Zct,Zcu,ZF,ZbE,ZbF,ZbG,ZZ,Z0,ZbH,ZbI,ZbJ,Zas,Zat,ZV,ZD,ZH,ZC,ZaJ,Zdb,.le Zh Zgc,.le Zgd Zh,.le Zh Zgd],(Za,.w 1 Zi Zh,Zk,Za,Za,Za)⟩,⟨17,Zda,[Zq,ZN,ZM,.box [ZW,.nil,Zar] false,ZbB,ZbC],ZbD,[ZI,ZX,Zy,Zz,ZO,ZY,Zct,Zcu,ZF,ZbE,ZbF,ZbG,ZZ,Z0,ZV,ZD,ZH,ZC,ZbH,ZbI,ZbJ,Zas,Zat,ZaJ,Zc8,.le Zge Zh,.le Zh Zge],(Za,.w 1 Zi Zh,Zk,Za,Za,Za)⟩,⟨17,Zda,[Zq,ZN,ZM,.box [.nil,ZW,Zar] false,ZbB,ZbC],ZbD,[ZI,ZX,Zy,Zz,ZO,ZY,Zct,Zcu,ZF,ZV,ZD,ZH,ZC,ZbE,ZbF,ZbG,ZZ,Z0,ZbH,ZbI,ZbJ,Zas,Zat,Zbl,Zc9,.le Zgf Zh,.le Zh Zgf],(Za,.w 1 Zi Zh,Zk,Za,Za,Za)⟩,⟨17,ZaK,[Zq,ZN,ZM,.box [ZW,Zar,.nil,.nil] false,ZbB,ZbC],ZbD,[ZI,ZX,Zy,Zz,ZO,ZY,Zap,Zaq,ZF,ZbE,ZbF,ZbG,ZZ,Z0,ZbH,ZbI,ZbJ,Zas,Zat,ZV,ZD,ZH,ZC,ZaJ,Zdb,.le Zh Zgc,.le Zgd Zh,.le Zh Zgd,.le (.w 0 Zgd Z8) Zh,.le Zh (.w 0 Zgd Z8)],(Za,.w 1 Zi Zh,Zk,Za,Za,Za)⟩,⟨17,ZaK,[Zq,ZN,ZM,.box [ZW,.nil,Zar,.nil] false,ZbB,ZbC],ZbD,[ZI,ZX,Zy,Zz,ZO,ZY,Zap,Zaq,ZF,ZbE,ZbF,ZbG,ZZ,Z0,ZV,ZD,ZH,ZC,ZbH,ZbI,ZbJ,Zas,Zat,ZaJ,Zc8,.le Zge Zh,.le Zh Zge,.le (.w 0 Zge Z8) Zh,.le Zh (.w 0 Zge Z8)],(Za,.w 1 Zi Zh,Zk,Za,Za,Za)⟩,⟨17,ZaK,[Zq,ZN,ZM,.box [ZW,.nil,.nil,Zar] false,ZbB,ZbC],ZbD,[ZI,ZX,Zy,Zz,ZO,ZY,Zap,Zaq,ZF,ZbE,ZbF,ZbG,ZZ,Z0,ZV,ZD,ZH,ZC,ZbH,ZbI,ZbJ,Zas,Zat,ZaJ,Zc8,.le Zf8 Zh,.le (.w 0 Zf8 ZdL) Zh,.le Zh (.w 0 Zf8 ZdL)],(Za,.w 1 Zi Zh,Zk,Za,Za,Za)⟩,⟨17,ZaK,[Zq,ZN,ZM,.box [.nil,ZW,Zar,.nil] false,ZbB,ZbC],ZbD,[ZI,ZX,Zy,Zz,ZO,ZY,Zap,Zaq,ZF,ZV,ZD,ZH,ZC,ZbE,ZbF,ZbG,ZZ,Z0,ZbH,ZbI,ZbJ,Zas,Zat,Zbl,Zc9,.le Zgf Zh,.le Zh Zgf,.le (.w 0 Zgf Z8) Zh,.le Zh (.w 0 Zgf Z8)],(Za,.w 1 Zi Zh,Zk,Za,Za,Za)⟩,⟨17,ZaK,[Zq,ZN,ZM,.box [.nil,ZW,.nil,Zar] false,ZbB,ZbC],ZbD,[ZI,ZX,Zy,Zz,ZO,ZY,Zap,Zaq,ZF,ZV,ZD,ZH,ZC,ZbE,ZbF,ZbG,ZZ,Z0,ZbH,ZbI,ZbJ,Zas,Zat,Zbl,Zc9,.le Zf9 Zh,.le (.w 0 Zf9 ZdL) Zh,.le Zh (.w 0 Zf9 ZdL)],(Za,.w 1 Zi Zh,Zk,Za,Za,Za)⟩,⟨17,ZaK,[Zq,ZN,ZM,.box [.nil,.nil,ZW,Zar] false,ZbB,ZbC],ZbD,[ZI,ZX,Zy,Zz,ZO,ZY,Zap,Zaq,ZF,ZV,ZD,ZH,ZC,ZbE,ZbF,ZbG,ZZ,Z0,ZbH,ZbI,ZbJ,Zas,Zat,Zbl,Zga,.le Zgb Zh,.le (.w 0 Zgb ZdL) Zh,.le Zh (.w 0 Zgb ZdL)],(Za,.w 1 Zi Zh,Zk,Za,Za,Za)⟩,⟨17,Zda,[Zq,ZN,ZM,.box [ZW,Zar,ZdM] false,ZeF,ZeG,ZdN],ZeH,[ZI,ZX,Zy,Zz,ZO,ZY,Zct,Zcu,ZF,ZeI,ZeJ,ZeK,ZZ,Z0,ZeL,ZeM,ZeN,Zas,Zat,ZdO,ZeP,ZeQ,ZdP,ZdQ,ZaJ,Zdb,.le Zgh Zh,.le Zh Zgh],(Za,.w 1 Zi Zh,Zk,Za,Za,Za)⟩,⟨17,ZaK,[Zq,ZN,ZM,.box [ZW,Zar,ZdM,.nil] false,ZeF,ZeG,ZdN],ZeH,[ZI,ZX,Zy,Zz,ZO,ZY,Zap,Zaq,ZF,ZeI,ZeJ,ZeK,ZZ,Z0,ZeL,ZeM,ZeN,Zas,Zat,ZdO,ZeP,ZeQ,ZdP,ZdQ,ZV,ZD,ZH,ZC,ZaJ,Zdb,.le Zgh Zh,.le Zh Zgh,.le (.w 0 Zgh Z8) Zh,.le Zh (.w 0 Zgh Z8)],(Za,.w 1 Zi Zh,Zk,Za,Za,Za)⟩,⟨17,ZaK,[Zq,ZN,ZM,.box [ZW,Zar,.nil,ZdM] false,ZeF,ZeG,ZdN],ZeH,[ZI,ZX,Zy,Zz,ZO,ZY,Zap,Zaq,ZF,ZeI,ZeJ,ZeK,ZZ,Z0,ZeL,ZeM,ZeN,Zas,Zat,ZV,ZD,ZH,ZC,ZdO,ZeP,ZeQ,ZdP,ZdQ,ZaJ,Zdb,.le Zgd Zh,.le (.w 0 Zgd Zgg) Zh,.le Zh (.w 0 Zgd Zgg)],(Za,.w 1 Zi Zh,Zk,Za,Za,Za)⟩,⟨17,ZaK,[Zq,ZN,ZM,.box [ZW,.nil,Zar,ZdM] false,ZeF,ZeG,ZdN],ZeH,[ZI,ZX,Zy,Zz,ZO,ZY,Zap,Zaq,ZF,ZeI,ZeJ,ZeK,ZZ,Z0,ZV,ZD,ZH,ZC,ZeL,ZeM,ZeN,Zas,Zat,ZdO,ZeP,ZeQ,ZdP,ZdQ,ZaJ,Zc8,.le Zge Zh,.le (.w 0 Zge Zgg) Zh,.le Zh (.w 0 Zge Zgg)],(Za,.w 1 Zi Zh,Zk,Za,Za,Za)⟩,⟨17,ZaK,[Zq,ZN,ZM,.box [.nil,ZW,Zar,ZdM] false,ZeF,ZeG,ZdN],ZeH,[ZI,ZX,Zy,Zz,ZO,ZY,Zap,Zaq,ZF,ZV,ZD,ZH,ZC,ZeI,ZeJ,ZeK,ZZ,Z0,ZeL,ZeM,ZeN,Zas,Zat,ZdO,ZeP,ZeQ,ZdP,ZdQ,Zbl,Zc9,.le Zgf Zh,.le (.w 0 Zgf Zgg) Zh,.le Zh (.w 0 Zgf Zgg)],(Za,.w 1 Zi Zh,Zk,Za,Za,Za)⟩,⟨17,ZaK,[Zq,ZN,ZM,.box [ZW,Zar,ZdM,.sl 7 9 Za Zb1 (.v 17) false] false,ZdN,.dat 9 (.v 19) false,.dat 9 (.v 20) false,.dat 9 (.v 21) false],[Zw,Zv,.i .i64,.i .i64,.i .i64,.i .i64,.i .i64,.i .i64,Z1,Z1,.i .i64,.i .i64,.i .i64,.i .i64,.i .i64,.i .i64,.i .i64,.i .i64,Zv,Zv,Zv,Zv],[ZI,ZX,Zy,Zz,ZO,ZY,Zap,Zaq,ZF,ZdO,.nle Zac ZeO,.nle ZeO Zac,ZZ,Z0,.rows 940 (.v 19) ZhW Zae,.nle Zao ZhW,.nle ZhW Zao,Zas,Zat,.rows 940 (.v 20) ZhX Zae,.nle Zbm ZhX,.nle ZhX Zbm,ZdP,ZdQ,.rows 940 (.v 21) ZhY Zae,.nle Zb1 ZhY,.nle ZhY Zb1,.nle (.v 17) Zb1,.nle Zg Zb1,ZaJ,Zdb,.le Zgh Zh,.le (.w 0 Zgh (.u 4 0 Zb1)) Zh,.le Zh (.w 0 Zgh (.u 4 0 Zb1))],(Za,.w 1 Zi Zh,Zk,Za,Za,Za)⟩]
def qk:Tab:=[(142,qmW),(398,qt0)]
def qPK:qaA PP qk:=qj qAS (qj qSw (qo))
end Go.Aev.R29
end
