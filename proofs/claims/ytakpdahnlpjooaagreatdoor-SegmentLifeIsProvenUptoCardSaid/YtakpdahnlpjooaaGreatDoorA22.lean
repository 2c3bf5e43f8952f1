/- Lemmas for the statements of this seat: an abstract machine that the model follows, and contracts of functions. Conditions: none. -/
import Derived.Test.YtakpdahnlpjooaaGreatDoorT29groups26P0
import Derived.Test.YtakpdahnlpjooaaGreatDoorT29groups26P1
import Derived.Test.YtakpdahnlpjooaaGreatDoorT29groups26P2
import Derived.Test.YtakpdahnlpjooaaGreatDoorT29groups26P3
import Derived.Test.YtakpdahnlpjooaaGreatDoorT29groups26P4
import Derived.Test.YtakpdahnlpjooaaGreatDoorT29groups26P5
set_option linter.all false
set_option maxRecDepth 1000000
set_option maxHeartbeats 0
noncomputable section
namespace Go.Aev.R29
open Go Go.Aev Go.Aev.R
def qrh:Con:={pts:=Zd9,pre:=[Zbs,.le Zd Zau],rts:=[qkL],post:=[]}
def qLo:RFn:=mF 145 qrh [⟨7,[(1,.o (.c .l Zc)),(2,.o (.c .l Zb)),(3,Zbb),(4,Zc4),(8,ZbL),(9,Zbo),(10,Zbc)],[Zp,Zhh],Zd9,[.bool (.w 10 Zd Zg) false,.bool (.w 12 Zd Zau) false],(Za,.w 1 Zw Za,Zk,Za,Za,Za)⟩,⟨7,[(1,.o (.c .l Zc)),(2,.o (.c .l Zb)),(3,Zbb),(4,Zc4),(8,ZbL),(9,.o (.sl 2 12 Za Zf Zj false)),(10,.o (.c (.i .i64) Zs))],[Zp,Zhh,.dat 12 Zh false],[Zv,ZK,Zu,.i .i64,.i .i64,.i .i64,.i .i64,Zda],[.rows 904 Zh Zbp ZF,.le Zbq Zs,ZfA,Zck],(Za,.w 1 Zw Zs,Zk,Za,Za,Za)⟩]
def qLp:Tab:=[(220,qiF),(221,qmz)]
theorem qLq:qp PP 145 qrh:=(fe qLo qLp (qm qrg (qm qy7 (qu))) (by kernel_rfl) (by refine⟨?_,?_,?_,trivial⟩<;>intro<;>kernel_rfl)).ok
def qrd:Con:={pts:=[.i .i64,ZW,Ys,.i .i64],pre:=[.rows 0 Zc Zi Zw],rts:=[ZH],post:=[]}
def qKJ:RFn:=mF 223 qrd [⟨3,[(0,.o (.c (.i .i64) Ze)),(1,.o (.c .l Zc)),(2,.o (.c .l Zb)),(3,Zbb),(9,Zbo),(10,Zcj)],[],[.i .i64,ZW,Ys,.i .i64,.i .i64],[ZaH],(Za,.w 1 Zi Zf,Zk,Za,Za,Za)⟩,⟨3,[(0,.o (.c (.i .i64) Ze)),(1,.o (.c .l Zc)),(2,.o (.c .l Zb)),(3,Zbb),(9,.o (.sl 0 1 Za Zf Zj false)),(10,.o (.c (.i .i64) Zs))],[Zc0],[.i .i64,ZW,Ys,.i .i64,.i .i64,.i .i64,.i .i64,ZH],[ZfA,Zck,.le Zbq Zs],(Za,.w 1 Zi Zs,Zk,Za,Za,Za)⟩]
def qKK:Tab:=[(222,qev)]
theorem qKL:qp PP 223 qrd:=(fe qKJ qKK (qm qlX (qu)) (by kernel_rfl) (by refine⟨?_,?_,?_,trivial⟩<;>intro<;>kernel_rfl)).ok
def qrj:Con:={pts:=Zej,pre:=[],rts:=[qFV 301 301],post:=[]}
def qcP:RFn:=mF 146 qrj [⟨5,[(0,.o (.c (.i .i64) Ze)),(1,.o (.c .l Zc)),(2,Zbr),(6,Zc4),(7,ZbL),(8,Zbc)],[Zbt,.box [.nil] false],Zej,[Zbu,Zek,ZaS,Zbv],(Za,Zel,Zk,Za,Za,Za)⟩,⟨9,[(0,.o (.c (.i .i64) Ze)),(1,.o (.c .l Zc)),(2,Zbr),(6,Zc4),(7,ZbL),(8,Zbc),(9,Zbb),(10,Zcj)],[Zbt,.box [.nil] false],[.i .i64,ZK,.i .i64,.i .i64,.i .i64],[ZaH,Zbu,Zek,.bool ZfT true,ZaS,Zbv],(Za,Zel,Za,.w 1 Zi Zf,Zk,Za)⟩,⟨5,[(0,.o (.c (.i .i64) Ze)),(1,.o (.c .l Zc)),(2,Zbr),(6,Zc4),(7,ZbL),(8,Zbb)],[Zbt,.box [.sl 2 2 Za Zf Zj false] false,.dat 2 Zs false],[.i .i64,ZK,.i .i64,.i .i64,.i .i64,.i .i64,.l 301 (qd3 301 301)],[Zbs,ZfU,Zck,.le Zbq Zd,Zbu,Zek,.le Zd Zbq,ZaS,Zbv],(Za,ZfV,Zk,Za,Za,Za)⟩,⟨9,[(0,.o (.c (.i .i64) Ze)),(1,.o (.c .l Zc)),(2,Zbr),(6,Zc4),(7,ZbL),(8,Zbb),(9,Zcj),(10,ZbS)],[Zbt,.box [.sl 2 2 Za Zs Zh false] false,.dat 2 ZD false],[.i .i64,ZK,.i .i64,.i .i64,.i .i64,.i .i64,.i .i64,.i .i64,.l 301 (qd3 301 301)],[.lt Zd Zi,Zcz,.nle (.w 8 Za Zs) Zbf,.nle Zh Zs,.le Zdc Zd,Zbu,Zek,.le Zd Zdc,ZaS,Zbv],(Za,ZfV,Za,ZfW,Zk,Za)⟩]
def qgM:Tab:=[(215,qiM),(216,qiH),(222,qev),(223,qrd)]
theorem qLu:qaT PP qcP qgM=true:=by kernel_rfl
theorem qLv:qy PP qcP qgM (qcP.sts.getD 0 default)=true:=by kernel_rfl
theorem qLw:qy PP qcP qgM (qcP.sts.getD 1 default)=true:=by kernel_rfl
theorem qLx:qy PP qcP qgM (qcP.sts.getD 2 default)=true:=by kernel_rfl
theorem qLy:qy PP qcP qgM (qcP.sts.getD 3 default)=true:=by kernel_rfl
theorem qLz:qp PP 146 qrj:=(fe qcP qgM (qm qr4 (qm qrC (qm qlX (qm qKL (qu))))) (qbC qLu ⟨qLv,qLw,qLx,qLy,trivial⟩) (by refine⟨?_,?_,?_,?_,?_,trivial⟩<;>intro<;>kernel_rfl)).ok
def YO:List D→Int→Int→Bool
 | [],_,_=>true|x::r,last,n=>!decide (toI x≤last)&&(!decide (toI x≥n)&&YO r (toI x) n)
def qlM (ds:List D) (d:D):Prop:=toB d=YO (toL (qa ds 0)) (-1) (toI (qa ds 1))
theorem qHM {l:List D} {i:Nat} (h:i<l.length):l.drop i=l.getD i .nilp::l.drop (i+1):=by
 rw[qV7 h,List.getD_eq_getElem?_getD,qTE h]; rfl
theorem qxn {l:List D} {i:Nat} (h:i<l.length) (a n:Int):YO (l.drop i) a n=(!decide (toI (l.getD i .nilp)≤a)&&(!decide (toI (l.getD i .nilp)≥n)&&YO (l.drop (i+1)) (toI (l.getD i .nilp)) n)):=by
 rw[qHM h]; rfl
theorem qxo {l:List D} {i:Nat} (h:l.length≤i) (a n:Int):YO (l.drop i) a n=true:=by
 rw[qVf h]; rfl
def J1 (a b:Int) (x:D):Bool:=decide (toI x≥a)&&decide (toI x<b)
def qxp (ds:List D) (d:D):Prop:=d=.list (((toL (qa ds 0)).filter (J1 (toI (qa ds 1)) (toI (qa ds 2)))).map fun x=>.int .i64 (toI x))
end Go.Aev.R29
end
noncomputable section
namespace Go.Aev.R29
open Go Go.Aev Go.Aev.R
variable [PW]
structure qKR (l:List D) (n:Int) (ρ:Nat→D):Prop where
 a0:toL (ρ 0)=l
 a1:toI (ρ 1)=n
 i0:0≤toI (ρ 3)
 f:YO l (-1) n=YO (l.drop (toN (ρ 3))) (toI (ρ 2)) n
def ql9:Con:={pts:=[ZH,.i .i64],pre:=[],rts:=[.b],post:=[]}
def qma:RFn:=mF 131 ql9 [⟨3,[(1,ZbK),(5,Zbr),(8,.o (.c .l Ze)),(9,.o (.c (.i .i64) Zt)),(10,Zbb)],[],Zhb,[Z6],(Za,ZfE,Zk,Za,Za,Za)⟩]
def qmb:Tab:=[]
theorem qKS:Ye PP 131 ql9 (Ev0 PP qma qmb):=fe qma qmb qu (by kernel_rfl) (by refine⟨?_,?_,trivial⟩<;>intro<;>kernel_rfl)
def qKT:Con:={ql9 with post:=ql9.post++[],fact:=qlM}
def qyz:TQ:=.next [] 0 [Ze,Zc,.i (-1),Za]
def qyA:TQ:=.fork (.w 10 Zd Zt) (.fork (.w 11 Zc2 Zb) (.done [] Zcl) (.fork (.w 13 Zc2 Zc) (.done [] Zcl) (.next [] 0 [Ze,Zc,Zc2,ZaI]))) (.done [] (.mk .b (.t true)))
theorem qKU:YF PP qma qmb=[qyz,qyA]:=by kernel_rfl
theorem qKV {ds:List D} {d:D} (h:Ev0 PP qma qmb ds d):qlM ds d:=by
 refine Jf qKU (I:=fun k ρ=>qKR (toL (qa ds 0)) (toI (qa ds 1)) ρ) (Q:=fun d=>toB d=YO (toL (qa ds 0)) (-1) (toI (qa ds 1))) ?_ ?_ h
 ·intro k st q ρ d hst hq hg hi ht;have i0:=hi.i0;rcases k with _|k
  ·simp at hq;subst hq;simp[qyA,Yi,Yo,T.den,T.un,T.bi,qV,-List.getD_eq_getElem?_getD]at ht;rw[hi.a0,hi.a1]at ht;have hn:((toN (ρ 3):Nat):Int)=toI (ρ 3):=by unfold toN; omega
   rcases ht with⟨h1,ht⟩|⟨h1,rfl⟩
   ·have h1:=of_decide_eq_true h1;have hl:toN (ρ 3)<(toL (qa ds 0)).length:=by omega
    have hf:=hi.f;rw[qxn hl]at hf;rcases ht with⟨h2,rfl⟩|⟨h2,⟨h3,rfl⟩|⟨h3,h4⟩⟩
    ·rw[hf,decide_eq_true h2]; rfl
    ·rw[hf,decide_eq_true h3,qUP,qU3,qU4]; rfl
    ·have e2:decide (toI ((toL (qa ds 0)).getD (toN (ρ 3)) .nilp)≤toI (ρ 2))=false:=decide_eq_false (by omega);have e3:decide (toI ((toL (qa ds 0)).getD (toN (ρ 3)) .nilp)≥toI (qa ds 1))=false:=decide_eq_false (by omega);rw[e2,e3,qVa,qUB,qUB]at hf;refine h4 ⟨hi.a0,hi.a1,by show 0≤toI (ρ 3)+1; omega,?_⟩;show _=YO ((toL (qa ds 0)).drop (toI (ρ 3)+1).toNat) (toI ((toL (ρ 0)).getD (toN (ρ 3)) .nilp)) _;rw[show(toI (ρ 3)+1).toNat=toN (ρ 3)+1 by omega,hi.a0];exact hf
   ·have h1:=of_decide_eq_false h1;rw[hi.f,qxo (by omega)]; rfl
  ·simp at hq
 ·intro d ht;simp[qyz,Yi,Yo,qV]at ht;exact ht ⟨rfl,rfl,by show(0:Int)≤0; decide,rfl⟩
theorem qKW:qp PP 131 qKT:=qKS.more fun ds d hp _ h=>⟨fun f hf=>(by cases hf),qKV h⟩
structure qyw (l:List D) (n:Int) (ρ:Nat→D):Prop where
 a0:toL (ρ 0)=l
 a1:toI (ρ 1)=n
 i0:0≤toI (ρ 2)
 f:∃a:Int,-1≤a∧(toI (ρ 2)=0→a=-1)∧(0<toI (ρ 2)→a=toI (l.getD (toN (ρ 2) - 1) .nilp))∧YO l (-1) n=YO (l.drop (toN (ρ 2))) a n
def ql6:Con:={pts:=[ZH,.i .i64],pre:=[],rts:=[.b],post:=[]}
def ql7:RFn:=mF 71 ql6 [⟨2,[(0,.o (.c .l Ze)),(1,ZbK),(5,Zbr)],[],[ZH,.i .i64,.i .i64],[ZZ],(Za,.w 1 Zt Zb,Zk,Za,Za,Za)⟩]
def ql8:Tab:=[]
theorem qKM:Ye PP 71 ql6 (Ev0 PP ql7 ql8):=fe ql7 ql8 qu (by kernel_rfl) (by refine⟨?_,?_,trivial⟩<;>intro<;>kernel_rfl)
def qKN:Con:={ql6 with post:=ql6.post++[],fact:=qlM}
def qyx:TQ:=.next [] 0 [Ze,Zc,Za]
def qyy:TQ:=.fork (.w 10 Zb Zt) (.fork (.w 10 ZfD Za) (.done [] Zcl) (.fork (.w 13 ZfD Zc) (.done [] Zcl) (.fork (.w 12 Zb Za) (.fork (.w 11 ZfD (.w 3 Ze (.w 1 Zb Zg))) (.done [] Zcl) (.next [] 0 [Ze,Zc,Zc1])) (.next [] 0 [Ze,Zc,Zc1])))) (.done [] (.mk .b (.t true)))
theorem qKO:YF PP ql7 ql8=[qyx,qyy]:=by kernel_rfl
theorem qKP {ds:List D} {d:D} (h:Ev0 PP ql7 ql8 ds d):qlM ds d:=by
 refine Jf qKO (I:=fun k ρ=>qyw (toL (qa ds 0)) (toI (qa ds 1)) ρ) (Q:=fun d=>toB d=YO (toL (qa ds 0)) (-1) (toI (qa ds 1))) ?_ ?_ h
 ·intro k st q ρ d hst hq hg hi ht;have i0:=hi.i0;rcases k with _|k
  ·simp at hq;subst hq;simp[qyy,Yi,Yo,T.den,T.un,T.bi,qV,-List.getD_eq_getElem?_getD]at ht;rw[hi.a0,hi.a1]at ht;have hn:((toN (ρ 2):Nat):Int)=toI (ρ 2):=by unfold toN; omega
   rcases ht with⟨h1,ht⟩|⟨h1,rfl⟩
   ·have h1:=of_decide_eq_true h1;have hl:toN (ρ 2)<(toL (qa ds 0)).length:=by omega
    obtain⟨a,b1,b2,b3,hf⟩:=hi.f;rw[qxn hl]at hf;have next:∀ρ':Nat→D,toL (ρ' 0)=toL (ρ 0)→toI (ρ' 1)=toI (ρ 1)→toI (ρ' 2)=toI (ρ 2)+1→¬toI ((toL (qa ds 0)).getD (toN (ρ 2)) .nilp)<0→¬toI ((toL (qa ds 0)).getD (toN (ρ 2)) .nilp)≤a→¬toI (qa ds 1)≤toI ((toL (qa ds 0)).getD (toN (ρ 2)) .nilp)→qyw (toL (qa ds 0)) (toI (qa ds 1)) ρ':=by
     intro ρ' c0 c1 c2 g0 g1 g2;have e2:toN (ρ' 2)=toN (ρ 2)+1:=by unfold toN at hn ⊢; omega
     rw[decide_eq_false g1,decide_eq_false (show ¬toI ((toL (qa ds 0)).getD (toN (ρ 2)) .nilp)≥toI (qa ds 1) from g2),qVa,qUB,qUB]at hf;refine⟨by rw[c0,hi.a0],by rw[c1,hi.a1],by omega,toI ((toL (qa ds 0)).getD (toN (ρ 2)) .nilp),by omega,fun h=>by omega,fun _=>by rw[e2]; rfl,by rw[e2]; exact hf⟩
    rcases ht with⟨h2,rfl⟩|⟨h2,ht⟩
    ·have h2:=of_decide_eq_true h2;rw[hf,decide_eq_true (show toI ((toL (qa ds 0)).getD (toN (ρ 2)) .nilp)≤a by omega)]; rfl
    ·have h2:=of_decide_eq_false h2;rcases ht with⟨h3,rfl⟩|⟨h3,ht⟩
     ·rw[hf,decide_eq_true (show toI ((toL (qa ds 0)).getD (toN (ρ 2)) .nilp)≥toI (qa ds 1) from h3),qUP,qU3,qU4]; rfl
     ·rcases ht with⟨h4,ht⟩|⟨h4,h5⟩
      ·have b3:=b3 h4;rw[show(toI (ρ 2)).toNat=toN (ρ 2) from rfl,←b3]at ht;rcases ht with⟨h5,rfl⟩|⟨h5,h6⟩
       ·rw[hf,decide_eq_true h5]; rfl
       ·exact h6 (next _ rfl rfl rfl (by omega) (by omega) (by omega))
      ·have:=b2 (by omega);exact h5 (next _ rfl rfl rfl (by omega) (by omega) (by omega))
   ·have h1:=of_decide_eq_false h1;obtain⟨a,b1,b2,b3,hf⟩:=hi.f;rw[hf,qxo (by omega)]; rfl
  ·simp at hq
 ·intro d ht;simp[qyx,Yi,Yo,qV]at ht;exact ht ⟨rfl,rfl,by show(0:Int)≤0; decide,-1,by decide,fun _=>rfl,fun h=>absurd (show(0:Int)<0 from h) (by decide),rfl⟩
theorem qKQ:qp PP 71 qKN:=qKM.more fun ds d hp _ h=>⟨fun f hf=>(by cases hf),qKP h⟩
def wiL (l:List D) (a b:Int) (i:Nat):List D:=((l.take i).filter (J1 a b)).map fun x=>.int .i64 (toI x)
theorem qzQ {l:List D} {a b:Int} {i:Nat} (h:i<l.length):wiL l a b (i+1)=wiL l a b i++(match J1 a b (l.getD i .nilp)with|true=>[.int .i64 (toI (l.getD i .nilp))] | false=>[]):=by
 unfold wiL;rw[List.take_add_one,List.getD_eq_getElem?_getD,qTE h,qV4,qUC]
 congr 1
 show List.map _ (List.filter (J1 a b) [l[i]])=match J1 a b l[i]with|true=>_|false=>_
 cases hw:J1 a b l[i]with
 | true=>rw[qVL hw]; rfl|false=>rw[qU8 (by rw[hw]; decide)]; rfl
structure WiA (l:List D) (a b:Int) (ρ:Nat→D):Prop where
 a0:toL (ρ 0)=l
 a1:toI (ρ 1)=a
 a2:toI (ρ 2)=b
 i0:0≤toI (ρ 3)
 f:wiL l a b (toN (ρ 3))=[]
structure WiB (l:List D) (a b:Int) (ρ:Nat→D):Prop where
 a0:toL (ρ 0)=l
 a1:toI (ρ 1)=a
 a2:toI (ρ 2)=b
 i0:0≤toI (ρ 5)
 f:(toL (ρ 6)).take (toN (ρ 3))=wiL l a b (toN (ρ 5))
 m:toN (ρ 3)≤(toL (ρ 6)).length
def qnn:Con:={pts:=[ZH,.i .i64,.i .i64],pre:=[],rts:=[ZH],post:=[]}
def qno:RFn:=mF 134 qnn [⟨3,[(0,.o (.c .l Ze)),(1,ZbK),(2,Zbr),(7,Zbo),(8,Zbb)],[],Zhb,[Z6],(Za,ZfE,Zk,Za,Za,Za)⟩,⟨3,[(0,.o (.c .l Ze)),(1,ZbK),(2,Zbr),(7,.o (.sl 0 1 Za Zd Zf false)),(8,ZbS)],[Zdj],[ZH,.i .i64,.i .i64,.i .i64,.i .i64,.i .i64,ZH],[.nle Zeq Z4,Zdg,.le Zaa Zj],(Za,.w 1 Zt Zj,Zk,Za,Za,Za)⟩]
def qgY:Tab:=[]
theorem qS9:Ye PP 134 qnn (Ev0 PP qno qgY):=fe qno qgY qu (by kernel_rfl) (by refine⟨?_,?_,?_,trivial⟩<;>intro<;>kernel_rfl)
def qTa:Con:={qnn with post:=qnn.post++[],fact:=qxp}
def qzR:TQ:=.next [] 0 [Ze,Zc,Zb,Za]
def qzS:TQ:=.fork (.w 10 Zd Zt) (.fork (.w 13 Zc2 Zc) (.fork (.w 10 Zc2 Zb) (.next [] 1 [Ze,Zc,Zb,.u 0 0 ZjD,.u 0 0 ZjD,ZaI,ZjD]) (.next [] 0 [Ze,Zc,Zb,ZaI])) (.next [] 0 [Ze,Zc,Zb,ZaI])) (.done [] .z)
def qzT:TQ:=.fork (.w 10 Zj Zt) (.fork (.w 13 Zg9 Zc) (.fork (.w 10 Zg9 Zb) (.next [] 1 [Ze,Zc,Zb,.w 8 Zd (.u 0 0 ZjE),.w 8 Zd (.u 0 0 ZjE),ZaU,.w 5 Zdt ZjE]) (.next [] 1 [Ze,Zc,Zb,Zd,Zf,ZaU,Zs])) (.next [] 1 [Ze,Zc,Zb,Zd,Zf,ZaU,Zs])) (.done [] Zdt)
theorem qTb:YF PP qno qgY=[qzR,qzS,qzT]:=by kernel_rfl
theorem qTc {ds:List D} {d:D} (h:Ev0 PP qno qgY ds d):qxp ds d:=by
 refine Jf qTb (I:=fun k ρ=>match k with|0=>WiA (toL (qa ds 0)) (toI (qa ds 1)) (toI (qa ds 2)) ρ|_=>WiB (toL (qa ds 0)) (toI (qa ds 1)) (toI (qa ds 2)) ρ) (Q:=fun d=>d=.list (wiL (toL (qa ds 0)) (toI (qa ds 1)) (toI (qa ds 2)) (toL (qa ds 0)).length)) ?_ ?_ h |> fun h=>by
  unfold wiL at h;rw[qUM]at h;exact h
 ·intro k st q ρ d hst hq hg hi ht;rcases k with _|_|k
  ·simp at hq;subst hq;have hi:WiA _ _ _ ρ:=hi;have i0:=hi.i0;simp[qzS,Yi,Yo,T.den,T.un,T.bi,qV,-List.getD_eq_getElem?_getD]at ht;rw[hi.a0,hi.a1,hi.a2]at ht;have hn:((toN (ρ 3):Nat):Int)=toI (ρ 3):=by unfold toN; omega
   rcases ht with⟨h1,ht⟩|⟨h1,rfl⟩
   ·have h1:=of_decide_eq_true h1;have hl:toN (ρ 3)<(toL (qa ds 0)).length:=by omega
    have hf:=qzQ (a:=toI (qa ds 1)) (b:=toI (qa ds 2)) hl;rw[hi.f,qUG]at hf;have hs:(toI (ρ 3)+1).toNat=toN (ρ 3)+1:=by omega
    have skip:J1 (toI (qa ds 1)) (toI (qa ds 2)) ((toL (qa ds 0)).getD (toN (ρ 3)) .nilp)=false→WiA (toL (qa ds 0)) (toI (qa ds 1)) (toI (qa ds 2)) (qV (wOf PP qgY) ρ [.v 0,.v 1,.v 2,.w 0 (.v 3) (.i 1)]):=fun hw=>by
     rw[hw]at hf;refine⟨hi.a0,hi.a1,hi.a2,by show 0≤toI (ρ 3)+1; omega,?_⟩;show wiL _ _ _ (toI (ρ 3)+1).toNat=[];rw[hs]; exact hf
    rcases ht with⟨h2,ht⟩|⟨h2,h3⟩
    ·rcases ht with⟨h3,h4⟩|⟨h3,h4⟩
     ·have hw:J1 (toI (qa ds 1)) (toI (qa ds 2)) ((toL (qa ds 0)).getD (toN (ρ 3)) .nilp)=true:=by
       unfold J1;rw[decide_eq_true (show toI ((toL (qa ds 0)).getD (toN (ρ 3)) .nilp)≥toI (qa ds 1) from h2),decide_eq_true h3]; rfl
      rw[hw]at hf;refine h4 ⟨hi.a0,hi.a1,hi.a2,by show 0≤toI (ρ 3)+1; omega,?_,by show 1≤1; omega⟩;show List.take 1 [D.int .i64 (toI ((toL (ρ 0)).getD (toN (ρ 3)) .nilp))]=wiL _ _ _ (toI (ρ 3)+1).toNat;rw[hs,hf,hi.a0]; rfl
     ·refine h4 (skip ?_);unfold J1;rw[decide_eq_false (show ¬toI ((toL (qa ds 0)).getD (toN (ρ 3)) .nilp)<toI (qa ds 2) by omega),qU4]
    ·refine h3 (skip ?_);unfold J1;rw[decide_eq_false (show ¬toI ((toL (qa ds 0)).getD (toN (ρ 3)) .nilp)≥toI (qa ds 1) by omega),qU3]
   ·have h1:=of_decide_eq_false h1;have hf:=hi.f;unfold wiL at hf ⊢;rw[qTX (by omega)]at hf;rw[qUM,hf]
  ·simp at hq;subst hq;have hi:WiB _ _ _ ρ:=hi;have i0:=hi.i0;have im:=hi.m;simp[qzT,Yi,Yo,T.den,T.un,T.bi,qV,-List.getD_eq_getElem?_getD]at ht;rw[hi.a0,hi.a1,hi.a2]at ht;have hn:((toN (ρ 5):Nat):Int)=toI (ρ 5):=by unfold toN; omega
   rcases ht with⟨h1,ht⟩|⟨h1,rfl⟩
   ·have h1:=of_decide_eq_true h1;have hl:toN (ρ 5)<(toL (qa ds 0)).length:=by omega
    have hf:=qzQ (a:=toI (qa ds 1)) (b:=toI (qa ds 2)) hl;have hs:(toI (ρ 5)+1).toNat=toN (ρ 5)+1:=by omega
    have skip:J1 (toI (qa ds 1)) (toI (qa ds 2)) ((toL (qa ds 0)).getD (toN (ρ 5)) .nilp)=false→WiB (toL (qa ds 0)) (toI (qa ds 1)) (toI (qa ds 2)) (qV (wOf PP qgY) ρ [.v 0,.v 1,.v 2,.v 3,.v 4,.w 0 (.v 5) (.i 1),.v 6]):=fun hw=>by
     rw[hw]at hf;refine⟨hi.a0,hi.a1,hi.a2,by show 0≤toI (ρ 5)+1; omega,?_,im⟩;show(toL (ρ 6)).take (toN (ρ 3))=wiL _ _ _ (toI (ρ 5)+1).toNat;rw[hs,hf,hi.f,qT7]
    rcases ht with⟨h2,ht⟩|⟨h2,h3⟩
    ·rcases ht with⟨h3,h4⟩|⟨h3,h4⟩
     ·have hw:J1 (toI (qa ds 1)) (toI (qa ds 2)) ((toL (qa ds 0)).getD (toN (ρ 5)) .nilp)=true:=by
       unfold J1;rw[decide_eq_true (show toI ((toL (qa ds 0)).getD (toN (ρ 5)) .nilp)≥toI (qa ds 1) from h2),decide_eq_true h3]; rfl
      rw[hw]at hf;have ht:((toL (ρ 6)).take (toN (ρ 3))).length=toN (ρ 3):=by rw[qTU]; omega
      refine h4 ⟨hi.a0,hi.a1,hi.a2,by show 0≤toI (ρ 5)+1; omega,?_,?_⟩
      ·show List.take (((toN (ρ 3)+1:Nat):Int)).toNat (((toL (ρ 6)).drop 0).take (toN (ρ 3))++[D.int .i64 (toI ((toL (ρ 0)).getD (toN (ρ 5)) .nilp))])=wiL _ _ _ (toI (ρ 5)+1).toNat;rw[hs,hf,←hi.f,hi.a0,qTY,qTK,qTX (by rw[qTN,ht]; exact qTF _)]
      ·show(((toN (ρ 3)+1:Nat):Int)).toNat≤(((toL (ρ 6)).drop 0).take (toN (ρ 3))++[D.int .i64 (toI ((toL (ρ 0)).getD (toN (ρ 5)) .nilp))]).length;rw[qTY,qTK,qTN,ht]; exact qTF _
     ·refine h4 (skip ?_);unfold J1;rw[decide_eq_false (show ¬toI ((toL (qa ds 0)).getD (toN (ρ 5)) .nilp)<toI (qa ds 2) by omega),qU4]
    ·refine h3 (skip ?_);unfold J1;rw[decide_eq_false (show ¬toI ((toL (qa ds 0)).getD (toN (ρ 5)) .nilp)≥toI (qa ds 1) by omega),qU3]
   ·have h1:=of_decide_eq_false h1;have hf:=hi.f;show D.list (((toL (ρ 6)).drop 0).take (toN (ρ 3)))=_;rw[qTY,hf];unfold wiL;rw[qTX (by omega),qUM]
  ·simp at hq
 ·intro d ht;simp[qzR,Yi,Yo,qV]at ht;exact ht ⟨rfl,rfl,rfl,by show(0:Int)≤0; decide,rfl⟩
theorem qTd:qp PP 134 qTa:=qS9.more fun ds d hp _ h=>⟨fun f hf=>(by cases hf),qTc h⟩
end Go.Aev.R29
end
section
namespace Go.Aev.R29
open Go Go.Aev Go.Aev.R
theorem qNe:Ye PP 301 qan (Ev0 PP qe ql):=fe qe ql qNx (qbC qNy ⟨qNL,qNY,qOa,qOm,qOy,qNz,qNM,qNZ,qOb,qOn,qOz,qNA,qNN,qN0,qOc,qOo,qOA,qNB,qNO,qN1,qOd,qOp,qOB,qNC,qNP,qN2,qOe,qOq,qOC,qND,qNQ,qN3,qOf,qOr,qOD,qNE,trivial⟩) ⟨qNR,qN4,qOg,qOs,qOE,qNF,qNS,qN5,qOh,qOt,qOF,qNG,qNT,qN6,qOi,qOu,qOG,qNH,qNU,qN7,qOj,qOv,qOH,qNI,qNV,qN8,qOk,qOw,qOI,qNJ,qNW,qN9,qOl,qOx,qOJ,qNK,qNX,trivial⟩
def qyT:Con:={qan with pre:=[.nle (.i 17) Zi,.nle Zi (.i 301),ZZ,.rows 920 Zc Zi ZaJ,ZaK,ZaL],post:=qan.post++[.le (.u 12 0 Zd) Zi,.le Zi (.u 12 0 Zd),.rows 913 Zd Zab Zi,.imp Zgw (.rows 914 Zd Zab Zi)]}
def qyU:TQ:=.next [] 0 [Ze,Zc,Zb]
def qrF:TQ:=.fork ZfT (.next [] 1 [Ze,Zc,Zb,.u 0 0 Zid,.u 0 0 Zid,Zgx,Zid]) (.fork Zgw (.done [(142,[ZbN,.z,Zgy])] Zie) (.fork (.w 14 (.u 0 0 (.u 1 0 (.u 3 142 (.w 4 ZbN (.w 4 .z (.w 4 Zgy .z)))))) Zg) (.done [(142,[ZbN,.z,Zgy])] Zie) .bad))
def qrG:TQ:=.fork (.w 10 Zj Zi) (.next [] 1 [Ze,Zc,Zb,.w 8 Zd (.u 0 0 Zif),.w 8 Zd (.u 0 0 Zif),ZaU,.w 5 Zdt Zif]) (.fork Zgw (.done [(142,[ZbN,Zdt,Zgy])] Zie) (.fork (.w 14 (.u 0 0 (.u 1 0 Zig)) Zg) (.done [(142,[ZbN,Zdt,Zgy])] Zie) (.next [(142,[ZbN,Zdt,Zgy])] 2 [Ze,Zc,Zb,Zd,Zf,Zs,.u 1 0 Zig,.u 1 1 Zig])))
def qrH:TQ:=.fork (.w 10 Za Z4) (.next [] 3 [Ze,Zc,Zb,Zd,Zf,.u 0 0 Zih,.u 0 0 Zih,Zgx,Zj,Zs,Zh,Zih]) (.next [] 4 [Ze,Zc,Zb,Zd,Zf,Zj])
def qrI:TQ:=.fork (.w 10 Zh Zay) (.next [] 3 [Ze,Zc,Zb,Zd,Zf,.w 8 Zj (.u 0 0 Zii),.w 8 Zj (.u 0 0 Zii),.w 0 Zh Zg,ZD,Z9,Z2,.w 5 Zet Zii]) (.fork (.w 10 ZP Zg) (.next [] 8 Zdu) (.fork (.w 10 ZP ZY) (.next [] 5 Zdu) (.fork (.w 10 ZP Zad) (.next [] 6 Zdu) (.fork (.w 10 ZP Z0) (.next [] 9 Zdu) (.next [] 10 Zdu)))))
theorem qNf:YF PP qe ql=[qyU,qrF,qrG,qrH,qrI]++(YF PP qe ql).drop 5:=by kernel_rfl
def qms (st:R.St) (t:Nat):R1:=match st.env.find? (fun p=>Nat.beq p.1 t)with
 | some (_,.o x)=>x|_=>.any
def qbE (st:R.St) (r:Nat):T:=match st.rows[r]? with
 | some (.dat _ e _)=>e|_=>.p
def J4 (st:R.St) (t:Nat):T:=match qms st t with
 | .sl r _ _ _ _ _=>qbE st r|_=>.p
def YE (st:R.St) (t:Nat):T:=match qms st t with
 | .sl _ _ _ n _ _=>n|_=>.p
def Yu (st:R.St):T:=match qms st 14 with
 | .c _ x=>x|_=>.p
def Y1 (st:R.St):List R1:=match qms st 13 with
 | .sl r _ _ _ _ _=>match st.rows[r]? with
  | some (.box cs _)=>cs|_=>[]
 | _=>[]
def qmt:R1→Bool
 | .nil=>true|_=>false
def qbl:R1→T
 | .sl _ _ _ n _ _=>n|_=>.p
def qmu (st:R.St):R1→T
 | .sl r _ _ _ _ _=>qbE st r|_=>.p
def JZ (st:R.St) (c:R1):T:=.w 6 (qbl c) (.w 7 (.i 0) (qmu st c))
def qiI (inv:List F) (a b:T):Bool:=inv.any fun f=>match f with
 | .le x y=>x.eq a&&y.eq b|_=>false
def qdv (inv:List F) (a b:T):Bool:=inv.any fun f=>match f with
 | .nle x y=>x.eq a&&y.eq b|_=>false
def qyV (inv:List F) (a b:T):Bool:=inv.any fun f=>match f with
 | .lt x y=>x.eq a&&y.eq b|_=>false
def YG:List T→T
 | []=>.i 0|n::ns=>ns.foldl (fun a n=>.w 0 a (.u 4 0 n)) (.u 4 0 n)
def atT (args:List T):T:=.u 1 0 (.u 3 398 (qW args))
def qrJ (ds:List (T×Bool)) (t:T) (v:Bool):Bool:=ds.any fun p=>p.1.eq t&&bEq p.2 v
def qyW (st:R.St) (cs:List (Nat×List T)):Bool:=match cs with
 | [(g,[a,b,c])]=>Nat.beq g 398&&(a.eq (.mk (.i .i64) (.u 1 1 (.v 0)))&&(b.eq (.w 6 (YE st 11) (.w 7 (.i 0) (J4 st 11)))&&c.eq (.mk .l (.w 3 (J4 st 7) (.w 8 (.i 0) (Yu st))))))|_=>false
def qyX:List (Nat×List T)→List T
 | [(_,l)]=>l|_=>[]
def qyY (ds:List (T×Bool)) (x:T) (j:Nat):Bool:=ds.any fun p=>match p.1 with
 | .w 10 y (.i z)=>y.eq x&&match p.2 with
  | true=>decide (z≤(j:Int))|false=>decide ((j:Int)+1≤z)
 | _=>false
def qmv (st:R.St):Bool:=(Nat.ble 2 (Y1 st).length&&Nat.ble (Y1 st).length 8)&&(qdv st.inv (.u 4 0 (.i ((Y1 st).length:Nat))) (.u 4 0 (YE st 11))&&(qdv st.inv (.u 4 0 (YE st 11)) (.u 4 0 (.i ((Y1 st).length:Nat)))&&(qdv st.inv (.u 4 0 (YE st 11)) (.u 0 0 (J4 st 11))&&qiI st.inv (.i 0) (Yu st))))
def qet (st:R.St):List (T×Bool)→TQ→Bool
 | ds,.fork t a b=>qet st ((t,true)::ds) a&&qet st ((t,false)::ds) b|ds,.next cs k σ=>match qe.sts[k]? with
  | some st'=>(Nat.ble 4 k&&(((J4 st' 7).sub σ).eq (J4 st 7)&&(((YE st' 7).sub σ).eq (YE st 7)&&(((J4 st' 11).sub σ).eq (J4 st 11)&&(((YE st' 11).sub σ).eq (YE st 11)&&((Yu st').sub σ).eq (.w 0 (Yu st) (.i 1))))))) &&
    (qyW st cs&&(qrJ ds (.w 10 (Yu st) (.u 0 0 (.v 1))) true&&((List.range (Y1 st').length).all fun j=>!qmt ((Y1 st').getD j .any)||(qmt ((Y1 st).getD j .any)&&qyY ds (atT (qyX cs)) j))))
  | none=>false
 | ds,.done _ r=>(qrJ ds (.w 10 (Yu st) (.u 0 0 (.v 1))) false&&(qyV st.inv (.v 2) (.i 12)&&qiI st.inv (Yu st) (.u 0 0 (.v 1)))) &&
   ((Y1 st).any qmt||(r.eq (qW ((Y1 st).map (JZ st)))&&(qiI st.inv (YG ((Y1 st).map qbl)) (Yu st)&&(qiI st.inv (Yu st) (YG ((Y1 st).map qbl)) &&
    (Y1 st).all fun c=>qdv st.inv (qbl c) (.u 0 0 (qmu st c))&&qdv st.inv (.i 1) (qbl c)))))
 | _,.bad=>true
def qrK (st:R.St):Bool:=qdv st.inv (.i 2) (.i 0)||(Nat.ble (Y1 st).length 1&&(qdv st.inv (.i 2) (.u 4 0 (YE st 11))&&qdv st.inv (.u 4 0 (YE st 11)) (.u 4 0 (.i ((Y1 st).length:Nat)))))
def qmw:List R.St→List TQ→Bool
 | [],[]=>true|s::r,q::qs=>(qrK s||qmv s&&qet s [] q)&&qmw r qs|_,_=>false
theorem qNg:qmw (qe.sts.drop 4) ((YF PP qe ql).drop 5)=true:=by kernel_rfl
theorem qyZ:∀{l:List R.St} {m:List TQ},qmw l m=true→∀{k:Nat} {s:R.St} {q:TQ},l[k]?=some s→m[k]?=some q→(qrK s||qmv s&&qet s [] q)=true
 | [],[],_,k,s,q,h,_=>by cases h
 | x::l,y::m,h,k,s,q,h1,h2=>by
  simp only[qmw,qTC]at h;rcases k with _|k
  ·simp at h1 h2;subst h1 h2;exact h.1
  ·exact qyZ h.2 (by simpa using h1) (by simpa using h2)
 | [],_::_,h,_,_,_,_,_=>by cases h
 | _::_,[],h,_,_,_,_,_=>by cases h
section
variable {wf:Nat→List D→D} {rcP:Nat→List D→Prop} {ρ:Nat→D}
theorem qmx {inv:List F} {a b:T} (h:qiI inv a b=true) (hi:∀f∈inv,f.den wf rcP ρ):toI (a.den wf ρ)≤toI (b.den wf ρ):=by
 obtain⟨f,hf,hb⟩:=qUb.1 h;split at hb
 ·rw[qTC]at hb;have:=hi _ hf;rw[←T.eq_eq hb.1,←T.eq_eq hb.2]; exact this
 ·cases hb
theorem qeu {inv:List F} {a b:T} (h:qdv inv a b=true) (hi:∀f∈inv,f.den wf rcP ρ):toN (a.den wf ρ)≤toN (b.den wf ρ):=by
 obtain⟨f,hf,hb⟩:=qUb.1 h;split at hb
 ·rw[qTC]at hb;have:=hi _ hf;rw[←T.eq_eq hb.1,←T.eq_eq hb.2]; exact this
 ·cases hb
theorem qNh {inv:List F} {a b:T} (h:qyV inv a b=true) (hi:∀f∈inv,f.den wf rcP ρ):toI (a.den wf ρ)<toI (b.den wf ρ):=by
 obtain⟨f,hf,hb⟩:=qUb.1 h;split at hb
 ·rw[qTC]at hb;have:=hi _ hf;rw[←T.eq_eq hb.1,←T.eq_eq hb.2]; exact this
 ·cases hb
theorem qy0 {ds:List (T×Bool)} {t:T} {v:Bool} (h:qrJ ds t v=true) (hd:∀p∈ds,toB (p.1.den wf ρ)=p.2):toB (t.den wf ρ)=v:=by
 obtain⟨p,hp,hb⟩:=qUb.1 h;rw[qTC]at hb;rw[←T.eq_eq hb.1,hd p hp,qgu hb.2]
theorem qNi {ds:List (T×Bool)} {x:T} {j:Nat} (h:qyY ds x j=true) (hd:∀p∈ds,toB (p.1.den wf ρ)=p.2):toI (x.den wf ρ)≠(j:Int):=by
 obtain⟨⟨t,v⟩,hp,hb⟩:=qUb.1 h;have hv:=hd _ hp;simp only at hb hv;split at hb
 ·rename_i y z;rw[qTC]at hb;have e:=T.eq_eq hb.1;subst e;have hv:decide (toI (y.den wf ρ)<z)=v:=hv;intro he;rw[he]at hv
  cases v with
  | true =>
   have h1:=of_decide_eq_true hv;have h2:=of_decide_eq_true hb.2;omega
  | false =>
   have h1:=of_decide_eq_false hv;have h2:=of_decide_eq_true hb.2;omega
 ·cases hb
theorem qNj:∀{ns:List T} {n:T},toI ((YG (n::ns)).den wf ρ)=(((n::ns).map fun n=>toN (n.den wf ρ)).sum:Nat):=by
 intro ns n;have key:∀(ns:List T) (a:T),toI ((ns.foldl (fun a n=>.w 0 a (.u 4 0 n)) a).den wf ρ)=toI (a.den wf ρ)+((ns.map fun n=>toN (n.den wf ρ)).sum:Nat):=by
  intro ns
  induction ns with
  | nil=>intro a; simp
  | cons x r ih =>
   intro a;rw[qUK,ih];have:toI ((T.w 0 a (.u 4 0 x)).den wf ρ)=toI (a.den wf ρ)+(toN (x.den wf ρ):Int):=rfl;rw[this,qUa,qVr]
   push_cast
   omega
 have:=key ns (.u 4 0 n);have e:toI ((T.u 4 0 n).den wf ρ)=(toN (n.den wf ρ):Int):=rfl;rw[e]at this;rw[qUa,qVr]
 push_cast at this ⊢
 exact this
end
theorem qNk {m:D} {V L C:List D} {v:D} {at_:Nat} {key:Int} (hp:YW m V L C) (hn:qfF m C v at_ key) (hk:qr5 m C v C.length) {j:Nat} (hj:j<C.length) (he:toL (C.getD j .nilp)=toL v):at_=j:=by
 have h0:=(hk j hj).2 he;have h1:=hn.le j hj;have h2:=(hk at_ hn.lt).1;rw[←hn.eq]at h2;rcases qVX at_ j with h|h|h
 ·have h3:=hp.ps j hj at_ h;have h4:KEY m (C.getD at_ .nilp) (C.getD j .nilp)=KEY m (C.getD at_ .nilp) v:=by
   unfold KEY;have:K.l.den (C.getD j .nilp)=K.l.den v:=congrArg D.list he;rw[this]
  rw[h4,←hn.eq]at h3;omega
 ·exact h
 ·have h3:=hn.ls j h;omega
def qrL:Y→Nat→Option Y
 | .ec c _,0=>some c|.ec _ r,n+1=>qrL r n|_,_=>none
theorem qNl {r:Y} {cs:List D} (h:qj r (.list cs)):∀{n:Nat} {y:Y},qrL r n=some y→qj y (cs.getD n .nilp):=by
 induction r generalizing cs with
 | ec c r _ ih2 =>
  obtain⟨x,xs,e,h1,h2⟩:=h;cases e;intro n y hy;rcases n with _|n
  ·simp[qrL]at hy;subst hy;exact h1
  ·exact ih2 h2 (n:=n) hy
 | _=>intro n y hy; cases n<;>cases hy
theorem qNm {e:D} (h:qj (qgf 301 301) e):qj Ys (cel e 7):=by
 obtain⟨cs,rfl,h⟩:=h;exact qNl h (n:=7) rfl
structure qNn (ds:List D):Prop where
 ty:∀e∈toL (qa ds 1),qj Ys (cel e 7)
 ln:∀e∈toL (qa ds 1),(toL (cel e 7)).length=toN (cel (qa ds 0) 0)
 d1:1≤toN (cel (qa ds 0) 0)
 m1:1≤toI (cel (qa ds 0) 1)
 m3:toI (cel (qa ds 0) 1)≤3
theorem qNo {ds:List D} (hp:qM qan ds):qNn ds:=by
 have h1:=hp.2 (.pre (.v 1) (.u 0 0 (.v 1)) (qgf 301 301)) (by simp[qan]);have h2:=hp.2 (.rows 905 (.v 1) (.u 0 0 (.v 1)) (.u 1 0 (.v 0))) (by simp[qan]);have h3:=hp.2 (.le (.i 1) (.u 1 0 (.v 0))) (by simp[qan]);have h4:=hp.2 (.le (.i 1) (.u 1 1 (.v 0))) (by simp[qan]);have h5:=hp.2 (.le (.u 1 1 (.v 0)) (.i 3)) (by simp[qan]);have h3:(1:Int)≤toI (cel (qa ds 0) 0):=h3;refine⟨fun e he=>?_,fun e he=>?_,by unfold toN; omega,h4,h5⟩
 ·obtain⟨j,hj,rfl⟩:=qUu he;have:=h1 j hj;have:qj (qgf 301 301) ((toL (qa ds 1)).getD j .nilp):=this;rw[List.getD_eq_getElem?_getD,qTE hj]at this;exact qNm this
 ·obtain⟨j,hj,rfl⟩:=qUu he;have:=h2 j hj hj;have this:Yf 905 (cel (qa ds 0) 0) ((toL (qa ds 1)).getD j .nilp):=this;rw[List.getD_eq_getElem?_getD,qTE hj]at this;have a:=this (true,.v 1,.u 0 0 (.u 1 7 (.v 0))) (qTR ..);have b:=this (true,.u 0 0 (.u 1 7 (.v 0)),.v 1) (qTG _ (qTR ..));have a:toN (cel (qa ds 0) 0)≤(toL (cel (toL (qa ds 1))[j] 7)).length:=a;have b:(toL (cel (toL (qa ds 1))[j] 7)).length≤toN (cel (qa ds 0) 0):=b;omega
theorem qrM:∀l:List D,Yz 0 l=(l.map fun x=>(toL x).length).sum
 | []=>rfl|x::r=>by
  rw[qUa,qVr,←qrM r];rfl
theorem qNp {l:List Nat} (h:∀n∈l,1≤n) (h2:2≤l.length) {n:Nat} (hn:n∈l):n+1≤l.sum:=by
 have low:∀l:List Nat,(∀n∈l,1≤n)→l.length≤l.sum:=by
  intro l
  induction l with
  | nil=>intro _; exact qTF _
  | cons a l ih =>
   intro h;have:=h a qTR;have:=ih fun n hn=>h n (qTG _ hn)
   simp only[qT9,qVr];omega
 have key:∀l:List Nat,(∀n∈l,1≤n)→n∈l→n+l.length≤l.sum+1:=by
  intro l
  induction l with
  | nil=>intro _ hn; cases hn
  | cons a l ih =>
   intro h hn;have h1:=h a qTR;have h2:=fun n hn=>h n (qTG a hn)
   simp only[qT9,qVr];rcases qTD.1 hn with rfl|hn
   ·have:=low l h2;omega
   ·have:=ih h2 hn;omega
 have:=key l h hn;omega
def I3 (ds:List D) (st:R.St) (ρ:Nat→D):Prop:=(toL ((J4 st 7).den (wOf PP ql) ρ)).take (toN ((YE st 7).den (wOf PP ql) ρ))=(toL (qa ds 1)).map Ja ∧
 ∃L C,YW (cel (qa ds 0) 1) ((toL (qa ds 1)).map Ja) L C∧(∀o∈L,0≤toI o∧toN o<(toL (qa ds 1)).length)∧(toL ((J4 st 11).den (wOf PP ql) ρ)).take (toN ((YE st 11).den (wOf PP ql) ρ))=C ∧
  ∀j,j<L.length→qmt ((Y1 st).getD j .any)=true→toI ((Yu st).den (wOf PP ql) ρ)≤toI (L.getD j .nilp)
def qNq (ds:List D) (k:Nat) (ρ:Nat→D) (d:D):Prop:=(∀st,qe.sts[k]?=some st→4≤k→I3 ds st ρ)→qiJ ds d
theorem qNr {ds:List D} (hp:qM qan ds) {st:R.St} {ρ:Nat→D} (hg:qea PP qe ql ds st.tys st.inv ρ) (hc:qmv st=true) (hi:I3 ds st ρ) {nx:Nat→(Nat→D)→D→Prop} (hnx:∀k ρ d,4≤k→nx k ρ d→qNq ds k ρ d) :
  ∀{q:TQ} {dec:List (T×Bool)} {d:D},(∀p∈dec,toB (p.1.den (wOf PP ql) ρ)=p.2)→qet st dec q=true→Yi PP ql nx ρ d q→qiJ ds d:=by
 have hv:=qNo hp;unfold qmv at hc;simp only[qTC]at hc;obtain⟨⟨c1,c2⟩,c3,c4,c5,c6⟩:=hc;have c1:=qT5 c1;have c2:=qT5 c2;have c3:=qeu c3 hg.inv;have c4:=qeu c4 hg.inv;have c5:=qeu c5 hg.inv;have c6:=qmx c6 hg.inv;have c3:(Y1 st).length≤toN ((YE st 11).den (wOf PP ql) ρ):=c3;have c4:toN ((YE st 11).den (wOf PP ql) ρ)≤(Y1 st).length:=c4;have c5:toN ((YE st 11).den (wOf PP ql) ρ)≤(toL ((J4 st 11).den (wOf PP ql) ρ)).length:=c5;have c6:0≤toI ((Yu st).den (wOf PP ql) ρ):=c6;have h0:=hg.arg 0 (by decide);have h1:=hg.arg 1 (by decide);have h2:=hg.arg 2 (by decide);obtain⟨i1,L,C,i2,i3,i4,i5⟩:=hi;have hCl:C.length=(Y1 st).length:=by rw[←i4,qTU]; omega
 have hLl:L.length=C.length:=by rw[i2.eq,qTS]
 intro q
 induction q with
 | fork t a b ih1 ih2 =>
  intro dec d hd h ht;simp only[qet,qTC]at h;rcases ht with⟨hb,ht⟩|⟨hb,ht⟩
  ·exact ih1 (fun p hp=>by
    rcases qTD.1 hp with rfl|hp
    ·exact hb
    ·exact hd p hp) h.1 ht
  ·exact ih2 (fun p hp=>by
    rcases qTD.1 hp with rfl|hp
    ·exact hb
    ·exact hd p hp) h.2 ht
 | bad=>intro dec d hd h ht; exact ht.elim
 | done cs r =>
  intro dec d hd h ht;simp only[qet,qTC]at h;obtain⟨⟨a1,a2,a3⟩,a4⟩:=h;have a1:=qy0 a1 hd;have a1:decide (toI ((Yu st).den (wOf PP ql) ρ)<((toL (ρ 1)).length:Int))=false:=a1;have a1:=of_decide_eq_false a1;have a2:toI (ρ 2)<12:=qNh a2 hg.inv;have a3:toI ((Yu st).den (wOf PP ql) ρ)≤((toL (ρ 1)).length:Int):=qmx a3 hg.inv;rw[h1]at a1 a3;rw[h2]at a2;rw[qTM]at a4;rcases a4 with a4|a4
  ·obtain⟨c,hcm,hcn⟩:=qUb.1 a4;obtain⟨j,hj,rfl⟩:=qUu hcm;have hjL:j<L.length:=by omega
   have:=i5 j hjL (by rw[List.getD_eq_getElem?_getD,qTE hj]; exact hcn);have hm:L.getD j .nilp∈L:=by rw[List.getD_eq_getElem?_getD,qTE hjL]; exact qTL _
   have:=i3 _ hm;unfold toN at this;omega
  ·simp only[qTC]at a4;obtain⟨r1,s1,s2,s3⟩:=a4;have hd2:=ht.2;rw[T.eq_eq r1,qlj,qUs]at hd2;have s1:=qmx s1 hg.inv;have s2:=qmx s2 hg.inv;have s3:=fun c hc=>by
    have:=qTI.1 s3 c hc;rw[qTC]at this;exact And.intro (qeu this.1 hg.inv) (qeu this.2 hg.inv)
   have hlen:∀c∈Y1 st,(toL ((JZ st c).den (wOf PP ql) ρ)).length=toN ((qbl c).den (wOf PP ql) ρ)∧1≤toN ((qbl c).den (wOf PP ql) ρ):=by
    intro c hc;obtain⟨q1,q2⟩:=s3 c hc;refine⟨?_,q2⟩;show(List.take (toN ((qbl c).den (wOf PP ql) ρ)) (List.drop 0 (toL ((qmu st c).den (wOf PP ql) ρ)))).length=_;rw[qTY,qTU];have q1:toN ((qbl c).den (wOf PP ql) ρ)≤(toL ((qmu st c).den (wOf PP ql) ρ)).length:=q1;omega
   have hsum:((Y1 st).map fun c=>toN ((qbl c).den (wOf PP ql) ρ)).sum=(toL (qa ds 1)).length:=by
    match hcl:Y1 st,c1 with
    | x::r,_ =>
     rw[hcl,qUa]at s1 s2;rw[qNj]at s1 s2;rw[←qUa,qUs]at s1 s2;have e:(List.map ((fun n=>toN (T.den (wOf PP ql) ρ n))∘qbl) (x::r)).sum=(List.map (fun c=>toN (T.den (wOf PP ql) ρ (qbl c))) (x::r)).sum:=rfl;rw[e]at s1 s2;omega
   have htl:toL d=(Y1 st).map fun c=>(JZ st c).den (wOf PP ql) ρ:=by rw[hd2]; rfl
   have hmap:((toL d).map fun x=>(toL x).length)=(Y1 st).map fun c=>toN ((qbl c).den (wOf PP ql) ρ):=by
    rw[htl,qUs];exact qUv fun c hc=>(hlen c hc).1
   have hone:∀n∈((toL d).map fun x=>(toL x).length),1≤n:=by
    rw[hmap];intro n hn;obtain⟨c,hc,rfl⟩:=qTV.1 hn;exact(hlen c hc).2
   have hs2:((toL d).map fun x=>(toL x).length).sum=(toL (qa ds 1)).length:=by rw[hmap,hsum]
   refine⟨by rw[qrM,hs2],fun x hx=>?_,fun hl=>by omega⟩;have hx':=qVi (f:=fun x=>(toL x).length) hx;refine⟨hone _ hx',?_⟩;rw[←hs2];refine qNp hone ?_ hx';rw[hmap,qTS]; exact c1
 | next cs k σ =>
  intro dec d hd h ht;simp only[qet]at h;split at h
  ·rename_i st' hst';simp only[qTC]at h;obtain⟨⟨b0,b1,b2,b3,b4,b5⟩,b6,b7,b8⟩:=h;have b7:decide (toI ((Yu st).den (wOf PP ql) ρ)<((toL (ρ 1)).length:Int))=true:=qy0 b7 hd;have b7:=of_decide_eq_true b7;rw[h1]at b7;have S:∀{t u:T},(t.sub σ).eq u=true→t.den (wOf PP ql) (qV (wOf PP ql) ρ σ)=u.den (wOf PP ql) ρ:=fun e=>by rw[←T.den_sub,T.eq_eq e]
   refine hnx _ _ _ (qT5 b0) ht.2 fun st2 hst2 _=>?_
   rw[hst']at hst2;cases hst2;unfold I3;rw[S b1,S b2,S b3,S b4,S b5];refine⟨i1,L,C,i2,i3,i4,fun j hj hn=>?_⟩;have hjc:j<(Y1 st').length:=by
    rcases qTQ j (Y1 st').length with q|q
    ·exact q
    ·rw[List.getD_eq_getElem?_getD,qUc q]at hn; cases hn
   have b8:=qTI.1 b8 j (qU2.2 hjc);rw[hn]at b8;simp only[qUP,qVF,qTC]at b8;have hle:=i5 j hj b8.1;have hne:=qNi b8.2 hd;have e0:toI ((T.w 0 (Yu st) (.i 1)).den (wOf PP ql) ρ)=toI ((Yu st).den (wOf PP ql) ρ)+1:=rfl;rw[e0];rcases Int.lt_or_eq_of_le hle with q|q
   ·omega
   ·exfalso;apply hne;unfold qyW at b6;split at b6
    ·rename_i g a b c;simp only[qTC]at b6;obtain⟨g1,ga,gb,gc⟩:=b6;have g1:=qTO g1;have ga:=T.eq_eq ga;have gb:=T.eq_eq gb;have gc:=T.eq_eq gc;subst g1 ga gb gc;have hK:toN ((Yu st).den (wOf PP ql) ρ)<(toL (qa ds 1)).length:=by unfold toN; omega
     have hrow:(toL ((J4 st 7).den (wOf PP ql) ρ)).getD (0+toN ((Yu st).den (wOf PP ql) ρ)) .nilp=Ja ((toL (qa ds 1))[toN ((Yu st).den (wOf PP ql) ρ)]):=by
      rw[qT6,List.getD_eq_getElem?_getD];have e:((toL ((J4 st 7).den (wOf PP ql) ρ)).take (toN ((YE st 7).den (wOf PP ql) ρ)))[toN ((Yu st).den (wOf PP ql) ρ)]?=some (Ja ((toL (qa ds 1))[toN ((Yu st).den (wOf PP ql) ρ)])):=by
       rw[i1,qT3,qTE hK]; rfl
      rw[qUh]at e;split at e
      ·rw[e]; rfl
      ·cases e
     have hcl:=ht.1.1 qr7 rfl;have hargs:[T.mk (.i .i64) (.u 1 1 (.v 0)),.w 6 (YE st 11) (.w 7 (.i 0) (J4 st 11)),.mk .l (.w 3 (J4 st 7) (.w 8 (.i 0) (Yu st)))].map (T.den (wOf PP ql) ρ) =
       [(K.i .i64).den (cel (qa ds 0) 1),.list C,K.l.den (Ja ((toL (qa ds 1))[toN ((Yu st).den (wOf PP ql) ρ)]))]:=by
      rw[←hrow,←i4,←h0];rfl
     rw[hargs]at hcl;have hat:(atT (qyX [(398,[T.mk (.i .i64) (.u 1 1 (.v 0)),.w 6 (YE st 11) (.w 7 (.i 0) (J4 st 11)),.mk .l (.w 3 (J4 st 7) (.w 8 (.i 0) (Yu st)))])])).den (wOf PP ql) ρ =
       cel (wOf PP ql 398 [(K.i .i64).den (cel (qa ds 0) 1),.list C,K.l.den (Ja ((toL (qa ds 1))[toN ((Yu st).den (wOf PP ql) ρ)]))]) 0:=by
      rw[←hargs];show cel (wOf PP ql 398 (toL ((qW _).den (wOf PP ql) ρ))) 0=_;rw[qlj]; rfl
     rw[hat];obtain⟨_,⟨_,hpost⟩,hfact⟩:=hcl;generalize wOf PP ql 398 _=w at hpost hfact ⊢;have hCe:∀i,i<C.length→qj Ys (C.getD i .nilp)∧(toL (C.getD i .nilp)).length=toN (cel (qa ds 0) 0):=by
      intro i hi;have hiL:i<L.length:=by omega
      have e:C.getD i .nilp=K.l.den (((toL (qa ds 1)).map Ja).getD (toN (L.getD i .nilp)) .nilp):=by
       rw[i2.eq];simp[List.getD_eq_getElem?_getD,hiL]
      have hm:L.getD i .nilp∈L:=by rw[List.getD_eq_getElem?_getD,qTE hiL]; exact qTL _
      have hb:=(i3 _ hm).2;rw[e];have e2:((toL (qa ds 1)).map Ja).getD (toN (L.getD i .nilp)) .nilp=Ja ((toL (qa ds 1))[toN (L.getD i .nilp)]):=by
       rw[List.getD_eq_getElem?_getD,qT3,qTE hb]; rfl
      rw[e2];have hme:(toL (qa ds 1))[toN (L.getD i .nilp)]∈toL (qa ds 1):=qTL _;have t1:=hv.ty _ hme;have t2:=hv.ln _ hme;have e3:Ja ((toL (qa ds 1))[toN (L.getD i .nilp)])=cel ((toL (qa ds 1))[toN (L.getD i .nilp)]) 7:=qfr t1;rw[e3];refine⟨?_,t2⟩;have e4:K.l.den (cel ((toL (qa ds 1))[toN (L.getD i .nilp)]) 7)=cel ((toL (qa ds 1))[toN (L.getD i .nilp)]) 7:=qfr t1;rw[e4]; exact t1
     have hCg:∀x∈C,qj Ys x∧(toL x).length=toN (cel (qa ds 0) 0):=by
      intro x hx;obtain⟨i,hi,rfl⟩:=qUu hx;have:=hCe i hi;rwa[List.getD_eq_getElem?_getD,qTE hi]at this
     have hC0:=(hCe 0 (by omega)).2;have hvm:(toL (qa ds 1))[toN ((Yu st).den (wOf PP ql) ρ)]∈toL (qa ds 1):=qTL _;have t1:=hv.ty _ hvm;have t2:=hv.ln _ hvm;have e3:Ja ((toL (qa ds 1))[toN ((Yu st).den (wOf PP ql) ρ)])=cel ((toL (qa ds 1))[toN ((Yu st).den (wOf PP ql) ρ)]) 7:=qfr t1;have e4:K.l.den (cel ((toL (qa ds 1))[toN ((Yu st).den (wOf PP ql) ρ)]) 7)=cel ((toL (qa ds 1))[toN ((Yu st).den (wOf PP ql) ρ)]) 7:=qfr t1;rw[e3,e4]at hpost;have p0:(0:Int)≤toI (cel w 0):=hpost qgR.post[2] (qWw _ (qTL _));have p4:toI (cel w 2)≤0:=by
      refine hpost qgR.post[4] (qWw _ (qTL _)) ⟨hv.m1,hv.m3,?_,⟨⟨C,rfl,?_,fun x hx=>(hCg x hx).1⟩,?_,?_,?_⟩,t1,?_,?_⟩
      ·show C.length≤8;omega
      ·omega
      ·intro i _ hi;have hi:i<C.length:=hi;show(toL (C.getD i .nilp)).length=(toL (C.getD 0 .nilp)).length;rw[(hCe i hi).2,hC0]
      ·show 1≤C.length;omega
      ·show 1≤(toL (C.getD 0 .nilp)).length;rw[hC0]; exact hv.d1
      ·show(toL (cel _ 7)).length≤(toL (C.getD 0 .nilp)).length;rw[hC0,t2]; exact qTF _
      ·show(toL (C.getD 0 .nilp)).length≤(toL (cel _ 7)).length;rw[hC0,t2]; exact qTF _
     obtain⟨n1,n2⟩:=hfact p4;have:=qNk i2 n1.norm n2 (show j<C.length by omega) ?_
     ·unfold toN at this;omega
     ·have hjm:L.getD j .nilp∈L:=by rw[List.getD_eq_getElem?_getD,qTE hj]; exact qTL _
      have hLj:=i3 _ hjm;have hKj:toN (L.getD j .nilp)=toN ((Yu st).den (wOf PP ql) ρ):=by unfold toN; omega
      have e:C.getD j .nilp=K.l.den (((toL (qa ds 1)).map Ja).getD (toN (L.getD j .nilp)) .nilp):=by
       rw[i2.eq];simp[List.getD_eq_getElem?_getD,hj]
      rw[e,hKj,List.getD_eq_getElem?_getD,qT3,qTE hK];rfl
    ·cases b6
  ·cases h
theorem YW.norm {m:D} {V L C:List D} (h:YW ((K.i .i64).den m) V L C):YW m V L C:=⟨h.eq,h.ps⟩
theorem qy1 {ds:List D} {x:Nat} (h1:17≤(toL (qa ds 1)).length) (hx:x=((toL (qa ds 1)).length+1) / 2) :
  qiJ ds (.list [.list ((toL (qa ds 1)).take x),.list (((toL (qa ds 1)).drop x).take ((toL (qa ds 1)).length - x))]):=by
 have e1:((toL (qa ds 1)).take x).length=x:=by rw[qTU]; omega
 have e2:(((toL (qa ds 1)).drop x).take ((toL (qa ds 1)).length - x)).length=(toL (qa ds 1)).length - x:=by rw[qTU,qT8]; omega
 refine⟨?_,fun y hy=>?_,fun _ y hy=>?_⟩
 ·rw[qrM];simp only[qb7,qUa,qVg,qVr,List.sum_nil,e1,e2];omega
 ·simp only[qb7,qTD,qTJ,or_false]at hy;rcases hy with rfl|rfl
  ·simp only[qb7,e1]; omega
  ·simp only[qb7,e2]; omega
 ·simp only[qb7,qTD,qTJ,or_false]at hy;rcases hy with rfl|rfl
  ·simp only[qb7,e1]; omega
  ·simp only[qb7,e2]; omega
theorem qNs {n:Nat} (h:n≤301):((qqL 0).wrap (((n:Int)+1).tdiv 2)).toNat=(n+1) / 2:=by
 have e:((n:Int)+1).tdiv 2=((n:Int)+1) / 2:=qWr (by omega);rw[e];have:=qtI (n:=((n:Int)+1) / 2) (by omega) (by omega);show(IntKind.wrap .i64 _).toNat=_;rw[this]; omega
theorem qy2 {row V:List D} {n i:Nat} (h:row.take n=V) (hi:i<V.length):row.getD i .nilp=V.getD i .nilp:=by
 rw[←h,List.getD_eq_getElem?_getD,List.getD_eq_getElem?_getD,qUh];rw[←h,qTU]at hi;rw[if_pos (by omega)]
theorem qy3 {f:D→D} {l:List D} {k:Nat} (hk:k<l.length):(l.take k).map f++[f (l.getD k .nilp)]=(l.take (k+1)).map f:=by
 rw[List.take_succ,qUC,qTE hk,List.getD_eq_getElem?_getD,qTE hk];rfl
theorem qNt {ds:List D} {st:R.St} {ρ ρ':Nat→D} {L C:List D} {n:Nat} (hn:¬n<L.length) (i1:(toL (ρ 8)).take (toN (ρ 3))=(toL (qa ds 1)).map Ja) (hC:YW (cel (qa ds 0) 1) ((toL (qa ds 1)).map Ja) L C)
  (hb:∀o∈L,0≤toI o∧toN o<(toL (qa ds 1)).length) (i3:(toL (ρ 11)).take (toN (ρ 5))=(L.take n).map (qy5 ((toL (qa ds 1)).map Ja)))
  (h1:(J4 st 7).den (wOf PP ql) ρ'=ρ 8) (h2:(YE st 7).den (wOf PP ql) ρ'=ρ 3) (h3:(J4 st 11).den (wOf PP ql) ρ'=ρ 11) (h4:(YE st 11).den (wOf PP ql) ρ'=ρ 5) (h5:toI ((Yu st).den (wOf PP ql) ρ')=0):I3 ds st ρ':=by
 unfold I3;rw[h1,h2,h3,h4,h5];refine⟨i1,L,C,hC,hb,?_,fun j hj _=>?_⟩
 ·rw[i3,qTX (by omega),hC.eq]; rfl
 ·have hm:L.getD j .nilp∈L:=by rw[List.getD_eq_getElem?_getD,qTE hj]; exact qTL _
  exact(hb _ hm).1
theorem qy4 {wf:Nat→List D→D} {rcP:Nat→List D→Prop} {ρ:Nat→D} {x y:T} {n:Nat} (h:F.den wf rcP ρ (.rows 2 x (.u 0 0 x) (.u 0 0 y))) (hn:(toL (y.den wf ρ)).length=n):∀o∈toL (x.den wf ρ),0≤toI o∧toN o<n:=by
 intro o ho;obtain⟨j,hj,rfl⟩:=qUu ho;have:=h j hj hj;rw[List.getD_eq_getElem?_getD,qTE hj]at this;obtain⟨a,b⟩:=this;have b:toI ((toL (x.den wf ρ))[j])<((toL (y.den wf ρ)).length:Int):=b;refine⟨a,?_⟩;unfold toN; rw[←hn];have a:0≤toI ((toL (x.den wf ρ))[j]):=a;omega
theorem qNu {ds:List D} {d:D} (hp:qM qan ds) (h:Ev0 PP qe ql ds d):qiJ ds d:=by
 have hlen:17≤(toL (qa ds 1)).length:=hp.2 (.nle (.i 17) (.u 0 0 (.v 1))) (by simp[qan]);have hlen2:(toL (qa ds 1)).length≤301:=hp.2 (.nle (.u 0 0 (.v 1)) (.i 301)) (by simp[qan])
 refine Jf qNf (I:=fun k ρ=>match k with
  | 0=>True|1=>(toL (ρ 6)).take (toN (ρ 3))=((toL (qa ds 1)).take (toN (ρ 5))).map Ja|2=>(toL (ρ 5)).take (toN (ρ 3))=(toL (qa ds 1)).map Ja∧∃C,YW (cel (qa ds 0) 1) ((toL (qa ds 1)).map Ja) (toL (ρ 6)) C|3=>(toL (ρ 8)).take (toN (ρ 3))=(toL (qa ds 1)).map Ja∧(∃C,YW (cel (qa ds 0) 1) ((toL (qa ds 1)).map Ja) (toL (ρ 9)) C)∧(toL (ρ 11)).take (toN (ρ 5))=((toL (ρ 9)).take (toN (ρ 7))).map (qy5 ((toL (qa ds 1)).map Ja))|k=>∀st,qe.sts[k]?=some st→4≤k→I3 ds st ρ) (Q:=qiJ ds) ?_ ?_ h
 ·intro k st q ρ d hst hq hg hi ht;have h0:=hg.arg 0 (by decide);have h1:=hg.arg 1 (by decide);have h2:=hg.arg 2 (by decide);rcases k with _|_|_|_|k
  ·have hq:qrF=q:=by simpa using hq
   subst hq;simp[qrF,Yi,Yo,YR,T.den,T.un,T.bi,T.bk,qV,h0,h1,h2,qUl,qUm,-List.getD_eq_getElem?_getD]at ht;rcases ht with⟨_,hn⟩|⟨he,_⟩
   ·refine hn ?_
    cases hl:toL (qa ds 1)with
    | nil=>rw[hl]at hlen; simp at hlen|cons x r=>rfl
   ·rw[he]at hlen; simp at hlen
  ·have hq:qrG=q:=by simpa using hq
   subst hq;simp[qrG,Yi,Yo,YR,T.den,T.un,T.bi,T.bk,qV,h0,h1,h2,qUl,qUm,-List.getD_eq_getElem?_getD]at ht;cases hst;have i5:0≤toI (ρ 5):=hg.inv (.le (.i 0) (.v 5)) (by simp);have hi:(toL (ρ 6)).take (toN (ρ 3))=((toL (qa ds 1)).take (toN (ρ 5))).map Ja:=hi;rw[qNs hlen2]at ht;rcases ht with⟨hlt,hn⟩|⟨hge,⟨_,_,rfl⟩|⟨_,⟨_,_,rfl⟩|⟨_,hc,hn⟩⟩⟩
   ·have hlt:=of_decide_eq_true hlt;refine hn ?_;have e:(toI (ρ 5)+1).toNat=toN (ρ 5)+1:=by unfold toN; omega
    rw[qmf,hi,e,←qUL];exact qy3 (by unfold toN; omega)
   ·exact qy1 hlen rfl
   ·exact qy1 hlen rfl
   ·have hge:=of_decide_eq_false hge;have hall:(toL (ρ 6)).take (toN (ρ 3))=(toL (qa ds 1)).map Ja:=by
     rw[hi,qTX (by unfold toN; omega)]
    obtain⟨C,hC⟩:qmc _ _:=(hc qme rfl).2.2;have this:=hC.norm;have gen:∀{V W X:List D},V=W→YW (cel (qa ds 0) 1) V X C→YW (cel (qa ds 0) 1) W X C:=fun e h=>e ▸ h
    exact hn hall C (gen hall this)
  ·have hq:qrH=q:=by simpa using hq
   subst hq;simp[qrH,Yi,Yo,YR,T.den,T.un,T.bi,T.bk,qV,h0,h1,h2,qUl,qUm,-List.getD_eq_getElem?_getD]at ht;cases hst;obtain⟨i1,C,hC⟩:=hi;have hb:=qy4 (n:=(toL (qa ds 1)).length) (hg.inv (.rows 2 (.v 6) (.u 0 0 (.v 6)) (.u 0 0 (.v 1))) (by simp)) (by show(toL (ρ 1)).length=_; rw[h1]);have h2L:2≤(toL (ρ 6)).length:=hg.inv (.nle (.i 2) (.u 0 0 (.v 6))) (by simp);rcases ht with⟨_,hn⟩|⟨he,_⟩
   ·refine hn i1 C hC ?_;have hb:∀o∈toL (ρ 6),0≤toI o∧toN o<(toL (qa ds 1)).length:=hb
    revert hb
    cases hL:toL (ρ 6)with
    | nil=>rw[hL]at h2L; simp at h2L|cons o r =>
     intro hb;have:=(hb o (by simp)).2;show[K.l.den ((toL (ρ 5)).getD (toN o) .nilp)]=[K.l.den (((toL (qa ds 1)).map Ja).getD (toN o) .nilp)];rw[qy2 i1 (by rw[qTS]; exact this)]
   ·rw[he]at h2L; simp at h2L
  ·have hq:qrI=q:=by simpa using hq
   subst hq;simp[qrI,Yi,Yo,YR,T.den,T.un,T.bi,T.bk,qV,h0,h1,h2,qUl,qUm,-List.getD_eq_getElem?_getD]at ht;cases hst;obtain⟨i1,⟨C,hC⟩,i3⟩:=hi;have hb:∀o∈toL (ρ 9),0≤toI o∧toN o<(toL (qa ds 1)).length:=qy4 (n:=(toL (qa ds 1)).length) (hg.inv (.rows 2 (.v 9) (.u 0 0 (.v 9)) (.u 0 0 (.v 1))) (by simp)) (by show(toL (ρ 1)).length=_; rw[h1]);have i7:0≤toI (ρ 7):=hg.inv (.le (.i 0) (.v 7)) (by simp);rcases ht with⟨hlt,hn⟩|⟨hge,ht⟩
   ·have hlt:=of_decide_eq_true hlt;refine hn i1 C hC ?_;have e:(toI (ρ 7)+1).toNat=toN (ρ 7)+1:=by unfold toN; omega
    have hk:toN (ρ 7)<(toL (ρ 9)).length:=by unfold toN; omega
    have hm:(toL (ρ 9)).getD (toN (ρ 7)) .nilp∈toL (ρ 9):=by rw[List.getD_eq_getElem?_getD,qTE hk]; exact qTL _
    have:=(hb _ hm).2;rw[qmf,i3,e,←qUL,qy2 i1 (by rw[qTS]; exact this)];exact qy3 hk
   ·have hge:=of_decide_eq_false hge;have hn7:¬toN (ρ 7)<(toL (ρ 9)).length:=by unfold toN; omega
    rcases ht with⟨_,hn⟩|⟨_,⟨_,hn⟩|⟨_,⟨_,hn⟩|⟨_,⟨_,hn⟩|⟨_,hn⟩⟩⟩⟩
    all_goals
     refine hn fun st hst=>?_
     cases hst;exact qNt hn7 i1 hC hb i3 rfl rfl rfl rfl rfl
  ·have hz:=qyZ qNg (k:=k) (s:=st) (q:=q) (by rw[qUk,Nat.add_comm]; exact hst) (by simpa using hq);rw[qTM]at hz;rcases hz with hz|hz
   ·exfalso;unfold qrK at hz;rw[qTM]at hz;rcases hz with hz|hz
    ·have:(2:Nat)≤0:=qeu hz hg.inv;omega
    ·simp only[qTC]at hz;have a:=qT5 hz.1;have b:=qeu hz.2.1 hg.inv;have c:=qeu hz.2.2 hg.inv;have b:2≤toN ((YE st 11).den (wOf PP ql) ρ):=b;have c:toN ((YE st 11).den (wOf PP ql) ρ)≤(Y1 st).length:=c;omega
   ·rw[qTC]at hz;refine qNr hp hg hz.1 (hi st hst (by omega)) (fun k' ρ' d' hk h hall=>?_) (dec:=[]) (fun p hp=>by cases hp) hz.2 ht;obtain⟨k',rfl⟩:∃m,k'=m+4:=⟨k' - 4,by omega⟩
    exact h fun st hst hk=>hall st hst hk
 ·intro d ht;simp[qyU,Yi,Yo,YR,T.den,T.un,T.bi,T.bk,qV,qUl,qUm,-List.getD_eq_getElem?_getD]at ht;exact ht
theorem qNv {e:D} (h:qj (qai 301 301) e) (hv:qj Ys (cel e 7)):qj (qgf 301 301) e:=by
 obtain⟨cs,rfl,h⟩:=h;obtain⟨x0,r0,e0,a0,h⟩:=h;cases e0;obtain⟨x1,r1,e1,a1,h⟩:=h;cases e1;obtain⟨x2,r2,e2,a2,h⟩:=h;cases e2;obtain⟨x3,r3,e3,a3,h⟩:=h;cases e3;obtain⟨x4,r4,e4,a4,h⟩:=h;cases e4;obtain⟨x5,r5,e5,a5,h⟩:=h;cases e5;obtain⟨x6,r6,e6,a6,h⟩:=h;cases e6;obtain⟨x7,r7,e7,a7,h⟩:=h;cases e7;exact⟨_,rfl,_,_,rfl,a0,_,_,rfl,a1,_,_,rfl,a2,_,_,rfl,a3,_,_,rfl,a4,_,_,rfl,a5,_,_,rfl,a6,_,_,rfl,hv,h⟩
theorem qNw:qp PP 301 qyT:=by
 intro ds hp;obtain⟨s,l,lev,rfl⟩:∃s l lev,ds=[s,l,lev]:=by
  match ds,hp.1.1 with
  | [a,b,c],_=>exact⟨a,b,c,rfl⟩
 have ts:qj (JB 301 301) s:=hp.1.2 0 _ rfl;have tl:qj (.l 301 (qai 301 301)) l:=hp.1.2 1 _ rfl;have es:(JB 301 301).form s=s:=qaz rfl ts;obtain⟨L,rfl,hlL,htL⟩:=tl;have p1:17≤L.length:=hp.2 _ (qTR ..);have p2:L.length≤301:=hp.2 _ (qTG _ (qTR ..));have p3:0≤toI lev:=hp.2 _ (qTG _ (qTG _ (qTR ..)));have p4:=hp.2 _ (qTG _ (qTG _ (qTG _ (qTR ..))));have p5:toI (PW.wV 1000030 [(JB 301 301).form s])≤0:=hp.2 _ (qTG _ (qTG _ (qTG _ (qTG _ (qTR ..)))));have p6:0≤toI (PW.wV 1000030 [(JB 301 301).form s]):=hp.2 _ (qTG _ (qTG _ (qTG _ (qTG _ (qTG _ (qTR ..))))));rw[es]at p5 p6;have p0:toI (pk 30 qbi [s])=0:=qVM p5 p6;have pc:qM qbi [s]:=⟨⟨rfl,fun i y hy=>by
  rcases i with _|i
  ·cases hy;exact Y.sub_ok (a:=JB 301 301) (by decide) ts
  ·cases i<;>cases hy⟩,fun f hf=>by cases hf⟩
 have hck:=(qq5 (g:=30) rfl (@qyC pw0) pc).1.1.2;have z:(toI (pk 30 qbi [s])==0)=true:=by rw[p0]; rfl
 have k1:1≤toI (cel s 0):=hck qbi.post[0] (qTL _) z;have k2:1≤toI (cel s 1):=hck qbi.post[1] (qTL _) z;have k3:toI (cel s 1)≤3:=hck qbi.post[2] (qTL _) z;have hel:∀e∈L,qj Ys (cel e 7)∧1≤(toL (cel e 7)).length∧(toL (cel e 7)).length=toN (cel s 0):=by
  intro e he;have te:=htL e he;have ee:(qai 301 301).form e=e:=qaz rfl te;obtain⟨j,hj,rfl⟩:=qUu he;have r:=p4 j hj hj;have r:Yf 920 ((JB 301 301).form s) (L.getD j .nilp):=r;rw[List.getD_eq_getElem?_getD,qTE hj,es]at r;have a:=r (false,qkM (.v 1) (.v 0),.i 0) (qTR ..);have b:=r (false,.i 0,qkM (.v 1) (.v 0)) (qTG _ (qTR ..));have a:toI (pk 212 qaG [(JB 301 301).form s,(qai 301 301).form L[j]])≤0:=a;have b:0≤toI (pk 212 qaG [(JB 301 301).form s,(qai 301 301).form L[j]]):=b;rw[es,ee]at a b;have pe:qM qaG [s,L[j]]:=⟨⟨rfl,fun i y hy=>by
   rcases i with _|_|i
   ·cases hy; exact ts
   ·cases hy; exact te
   ·cases i<;>cases hy⟩,fun f hf=>by cases hf⟩
  have hen:=(qq5 (g:=212) rfl (@qyR pw0) pe).1.1.2;have z:(toI (pk 212 qaG [s,L[j]])==0)=true:=by rw[qVM a b]; rfl
  have q1:qj Ys (cel L[j] 7):=hen qaG.post[0] (qTL _) z;have q2:1≤(toL (cel L[j] 7)).length:=hen qaG.post[1] (qTL _) z;have q3:(toL (cel L[j] 7)).length≤toN (cel s 0):=hen qaG.post[2] (qTL _) z;have q4:toN (cel s 0)≤(toL (cel L[j] 7)).length:=hen qaG.post[3] (qTL _) z;exact⟨q1,q2,by omega⟩
 have hp':qM qan [s,.list L,lev]:=by
  refine⟨hp.1,fun f hf=>?_⟩;simp only[qan,qTD,qTJ,or_false]at hf;rcases hf with rfl|rfl|rfl|rfl|rfl|rfl|rfl|rfl
  ·exact p1
  ·exact p2
  ·exact p3
  ·exact k1
  ·exact k2
  ·exact k3
  ·intro j hj;have hj:j<L.length:=hj;show qj (qgf 301 301) (L.getD j .nilp);rw[List.getD_eq_getElem?_getD,qTE hj];exact qNv (htL _ (qTL _)) (hel _ (qTL _)).1
  ·intro j _ hj;have hj:j<L.length:=hj;have:=hel _ (qTL hj);show Yf 905 (cel s 0) (L.getD j .nilp);rw[List.getD_eq_getElem?_getD,qTE hj];show ∀p∈([(true,.v 1,.u 0 0 (.u 1 7 (.v 0))),(true,.u 0 0 (.u 1 7 (.v 0)),.v 1),(true,.i 1,.u 0 0 (.u 1 7 (.v 0)))]:List (Bool×T×T)),qaD L[j] (toN (cel s 0)) p;intro p hp;simp only[qTD,qTJ,or_false]at hp;rcases hp with rfl|rfl|rfl
   ·show toN (cel s 0)≤(toL (cel L[j] 7)).length;omega
   ·show(toL (cel L[j] 7)).length≤toN (cel s 0);omega
   ·show 1≤(toL (cel L[j] 7)).length;omega
 obtain⟨d,⟨⟨⟨h1,h2⟩,_⟩,h3⟩,hev⟩:=qNe _ hp';obtain⟨g1,g2,g3⟩:=qNu hp' hev;have g1:Yz 0 (toL d)=L.length:=g1;refine⟨d,⟨⟨h1,fun f hf=>?_⟩,trivial⟩,h3⟩;rcases qTH.1 hf with hf|hf
 ·exact h2 f hf
 ·simp only[qTD,qTJ,or_false]at hf;rcases hf with rfl|rfl|rfl|rfl
  ·show(Yz 0 (toL d):Int)≤(L.length:Int);omega
  ·show(L.length:Int)≤(Yz 0 (toL d):Int);omega
  ·intro j _ hj;have hj:j<(toL d).length:=hj;show Yf 913 (N64 L.length) ((toL d).getD j .nilp);rw[List.getD_eq_getElem?_getD,qTE hj];show ∀p∈([(true,.i 1,.u 0 0 (.v 0)),(true,.w 8 (.u 0 0 (.v 0)) (.i 1),.v 1)]:List (Bool×T×T)),qaD (toL d)[j] L.length p;obtain⟨q1,q2⟩:=g2 _ (qTL hj);intro p hp;simp only[qTD,qTJ,or_false]at hp;rcases hp with rfl|rfl
   ·exact q1
   ·exact q2
  ·intro hl j _ hj;have hj:j<(toL d).length:=hj;have hl:decide (toI lev≥12)=true:=hl;show Yf 914 (N64 L.length) ((toL d).getD j .nilp);rw[List.getD_eq_getElem?_getD,qTE hj];show ∀p∈([(true,.u 8 2 (.u 0 0 (.v 0)),.w 8 (.v 1) (.i 1))]:List (Bool×T×T)),qaD (toL d)[j] L.length p;have q:=g3 (of_decide_eq_true hl) _ (qTL hj);intro p hp;simp only[qTD,qTJ,or_false]at hp;subst hp;exact q
end Go.Aev.R29
end
