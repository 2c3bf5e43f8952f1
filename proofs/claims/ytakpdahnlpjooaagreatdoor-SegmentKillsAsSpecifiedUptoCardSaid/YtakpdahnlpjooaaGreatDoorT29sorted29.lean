/- Lemmas: a machine that the model follows, and contracts. Conditions: none. -/
import Derived.Test.YtakpdahnlpjooaaGreatDoorK14
set_option linter.all false
set_option maxRecDepth 1000000
set_option maxHeartbeats 0
noncomputable section
namespace Go.Aev.R29
open Go Go.Aev Go.Aev.R
variable [PW]
def qow (ds:List D) (d:D):Prop:=(toL d).Perm (toL (qa ds 0))/\(toL d).Pairwise leE
def qjJ:Con:={pts:=[Zv],pre:=[],rts:=[Zv],post:=[.rows 940 Zc Zi Zdg,.le Zi Zu,.le Zu Zi]}
def Jf:RFn:=mF 141 qjJ [⟨3,[ZJ,(3,ZcL),(4,ZbQ)],[],[Zv],[],(Za,.w 1 Zu Za,Zk,Za,Za,Za)⟩,⟨6,[ZJ,(3,ZcL),(4,ZbQ),(5,ZbQ)],[],[Zv],[.bool Zif true],(Za,.w 1 Zu Za,Za,.w 1 Za Za,Zk,Za)⟩,⟨3,[ZJ,ZkJ,ZbR],[.dat 9 Zf false],[Zv,.i .i64,.i .i64,.i .i64,Zv],[ZcO,ZdF,.nle ZQ ZL,Zhw,.rows 940 Zf ZL Zdg,Zcj,Zgs,Zci,ZkK],(Za,Zh9,Zk,Za,Za,Za)⟩,⟨6,[ZJ,ZkJ,ZbR,(5,.o ZgP)],[.dat 9 Zj false],[Zv,.i .i64,.i .i64,.i .i64,.i .i64,Zv],[ZcO,ZdF,.nle ZQ Zan,.rows 940 Zj Zan Zdg,.lt Zd Zu,Zbf,ZkK,.le Zf ZQ],(Za,Zh9,Za,.w 1 Zf Za,Zk,Za)⟩]
def Jg:Tab:=[]
def qXu:qbh PP Jf Jg=true:=by kernel_rfl
def qXv:chX PP Jf Jg 0=true:=by kernel_rfl
def qXw:chX PP Jf Jg 1=true:=by kernel_rfl
def qXx:chX PP Jf Jg 2=true:=by kernel_rfl
def qXy:lqX PP Jf Jg 3 0=true:=by kernel_rfl
def qXz:lqX PP Jf Jg 3 1=true:=by kernel_rfl
def qXA:lqX PP Jf Jg 3 2=true:=by kernel_rfl
def qXB:lqX PP Jf Jg 3 3=true:=by kernel_rfl
def qXC:lqX PP Jf Jg 3 4=true:=by kernel_rfl
def qXD:lqX PP Jf Jg 3 5=true:=by kernel_rfl
def qXE:lqX PP Jf Jg 3 6=true:=by kernel_rfl
def qXF:lqX PP Jf Jg 3 7=true:=by kernel_rfl
def qXG:lqX PP Jf Jg 3 8=true:=by kernel_rfl
def qXH:lqX PP Jf Jg 3 9=true:=by kernel_rfl
def qXI:lqX PP Jf Jg 3 10=true:=by kernel_rfl
def qXJ:lqX PP Jf Jg 3 11=true:=by kernel_rfl
def qXK:lqX PP Jf Jg 3 12=true:=by kernel_rfl
def qXL:lqX PP Jf Jg 3 13=true:=by kernel_rfl
def qXM:chX PP Jf Jg 3=true:=qiH (n:=14) (by kernel_rfl) ⟨qXL,qXK,qXJ,qXI,qXH,qXG,qXF,qXE,qXD,qXC,qXB,qXA,qXz,qXy,trivial⟩
def qXN:qH PP 141 qjJ (Ev0 PP Jf Jg):=fe Jf Jg qo (qb8 qXu ⟨qXv,qXw,qXx,qXM,trivial⟩) (by refine⟨?_,?_,?_,?_,?_,trivial⟩<;>intro<;>kernel_rfl)
def qut:Con:={qjJ with post:=qjJ.post++[],fact:=qow}
def qXO:TQ:=.next [] 0 [Ze]
def qB2:TQ:=.fork Zif (.next [] 1 [Ze]) (.done [] .z)
def qB3:TQ:=.fork (.w 12 Za Za) .bad (.next [] 2 [Ze,.w 8 Za (.u 0 0 Zlq),.w 8 Za (.u 0 0 Zlq),ZcZ,Zlq])
def qB4:TQ:=.fork (.w 10 Zd Zu) (.next [] 3 [Ze,Zc,Zb,Zd,ZQ,Zf]) (.done [] Zc2)
def qB5:TQ:=.fork (.w 12 Zf Za) (.fork (.w 12 (.u 1 0 Zlr) (.u 1 0 Zb4)) (.next [] 3 [Ze,Zc,Zb,Zd,.w 1 Zf Zg,Zj]) (.fork (.w 14 (.u 1 0 Zlr) (.u 1 0 Zb4)) (.fork (.w 12 (.u 1 1 Zlr) (.u 1 1 Zb4)) (.next [] 3 [Ze,Zc,Zb,Zd,.w 1 Zf Zg,Zj]) (.fork (.w 11 (.u 0 0 Zls) Za) (.fork (.w 11 (.u 0 0 Ziq) Za) (.next [] 2 [Ze,ZgF,ZgF,ZaI,ZgE]) (.next [] 2 [Ze,.w 8 ZgF (.u 0 0 Ziq),.w 8 ZgF (.u 0 0 Ziq),ZaI,.w 5 (.w 6 ZgF (.w 7 Za ZgE)) Ziq])) (.fork (.w 11 (.u 0 0 Ziq) Za) (.next [] 2 [Ze,ZgG,ZgG,ZaI,Zlt]) (.next [] 2 [Ze,.w 8 ZgG (.u 0 0 Ziq),.w 8 ZgG (.u 0 0 Ziq),ZaI,.w 5 (.w 6 ZgG (.w 7 Za Zlt)) Ziq])))) (.fork (.w 11 (.u 0 0 Zls) Za) (.fork (.w 11 (.u 0 0 Ziq) Za) (.next [] 2 [Ze,ZgF,ZgF,ZaI,ZgE]) (.next [] 2 [Ze,.w 8 ZgF (.u 0 0 Ziq),.w 8 ZgF (.u 0 0 Ziq),ZaI,.w 5 (.w 6 ZgF (.w 7 Za ZgE)) Ziq])) (.fork (.w 11 (.u 0 0 Ziq) Za) (.next [] 2 [Ze,ZgG,ZgG,ZaI,Zlt]) (.next [] 2 [Ze,.w 8 ZgG (.u 0 0 Ziq),.w 8 ZgG (.u 0 0 Ziq),ZaI,.w 5 (.w 6 ZgG (.w 7 Za Zlt)) Ziq]))))) (.fork (.w 11 (.u 0 0 Zls) Za) (.fork (.w 11 (.u 0 0 Ziq) Za) (.next [] 2 [Ze,ZgF,ZgF,ZaI,ZgE]) (.next [] 2 [Ze,.w 8 ZgF (.u 0 0 Ziq),.w 8 ZgF (.u 0 0 Ziq),ZaI,.w 5 (.w 6 ZgF (.w 7 Za ZgE)) Ziq])) (.fork (.w 11 (.u 0 0 Ziq) Za) (.next [] 2 [Ze,ZgG,ZgG,ZaI,Zlt]) (.next [] 2 [Ze,.w 8 ZgG (.u 0 0 Ziq),.w 8 ZgG (.u 0 0 Ziq),ZaI,.w 5 (.w 6 ZgG (.w 7 Za Zlt)) Ziq])))
def qXP:qN PP Jf Jg=[qXO,qB2,qB3,qB4,qB5]:=by kernel_rfl
def qXQ {ds:List D} {d:D} (hp:qG qjJ ds) (h:Ev0 PP Jf Jg ds d):qow ds d:=by
 have hl:∀k:Nat,k<(toL (qa ds 0)).length->(q5 301 301).form ((toL (qa ds 0)).getD k .nilp)=(toL (qa ds 0)).getD k .nilp:=fun k hk=>by
  obtain⟨es,he,_,h2⟩:qd (.l 301 (q5 301 301)) (qa ds 0):=hp.1.2 0 _ rfl;rw[he]at hk ⊢;have hk:k<es.length:=hk;refine YM (y:=q5 301 301) (by rfl) ?_;show qd _ (es.getD k .nilp);rw[zzG,qTE hk];exact h2 _ (qTL hk)
 refine Yc qXP (I:=fun k U=>match k with
  | 0=>True|1=>0<(((toL (qa ds 0)).length:Nat):Int)|2=>qck (toL (qa ds 0)) (toN (U 1)) (toL (U 4)) (toI (U 3))|_=>qes (toL (qa ds 0)) (toN (U 1)) (toL (U 5)) (toI (U 3)) (toI (U 4))) (Q:=qow ds) ?_ ?_ h
 ·intro k st q U d hst hq hg hi ht;have h0:=hg.arg 0 (by decide);rcases k with _|_|_|_|k
  ·have hq:qB2=q:=by simpa using hq
   subst hq;rcases ht with⟨c,_,hn⟩|⟨c,_,rfl⟩
   ·have c:decide ((0:Int)<(((toL (U 0)).length:Nat):Int))=true:=c;rw[h0]at c;have c:=of_decide_eq_true c;exact hn c
   ·have c:decide ((0:Int)<(((toL (U 0)).length:Nat):Int))=false:=c;rw[h0]at c;have c:=of_decide_eq_false c;have e:toL (qa ds 0)=[]:=qVS.1 (by omega);show List.Perm [] (toL (qa ds 0))/\List.Pairwise leE [];rw[e];exact⟨List.Perm.refl _,List.Pairwise.nil⟩
  ·have hq:qB3=q:=by simpa using hq
   subst hq;have hi:0<(((toL (qa ds 0)).length:Nat):Int):=hi;rcases ht with⟨c,ht⟩|⟨c,_,hn⟩
   ·exact ht.elim
   ·have e:=qck.start hi;have ef:=hl 0 (by omega);rw[<-h0]at e ef;have e2:qck (toL (qa ds 0)) (0+[(q5 301 301).form ((toL (U 0)).getD 0 .nilp)].length) [(q5 301 301).form ((toL (U 0)).getD 0 .nilp)] (0+1):=by
     rw[ef,<-h0]; exact e
    exact hn e2
  ·have hq:qB4=q:=by simpa using hq
   subst hq;have hi:qck (toL (qa ds 0)) (toN (U 1)) (toL (U 4)) (toI (U 3)):=hi;rcases ht with⟨c,_,hn⟩|⟨c,_,rfl⟩
   ·have c:decide (toI (U 3)<(((toL (U 0)).length:Nat):Int))=true:=c;rw[h0]at c;exact hn (hi.ins (of_decide_eq_true c))
   ·have c:decide (toI (U 3)<(((toL (U 0)).length:Nat):Int))=false:=c;rw[h0]at c;have c:=of_decide_eq_false c;obtain⟨i1,i2,i3,i4,i5⟩:=hi;show List.Perm (((toL (U 4)).drop 0).take (toN (U 1))) _/\List.Pairwise leE (((toL (U 4)).drop 0).take (toN (U 1)));rw[qTY,qTX (by omega)];rw[qTX (by omega)]at i4;exact⟨i4,i5⟩
  ·have hq:qB5=q:=by simpa using hq
   subst hq;have hi:qes (toL (qa ds 0)) (toN (U 1)) (toL (U 5)) (toI (U 3)) (toI (U 4)):=hi;have a0:=hi.a0;have k1:=hi.k1;have i0:=hi.i.i0;have ex:(q5 301 301).form ((toL (U 0)).getD (toN (U 3)) .nilp)=(toL (qa ds 0)).getD (toI (U 3)).toNat .nilp:=by
    rw[h0]; exact hl _ (by unfold toN; omega)
   have fin:toI (U 4)<=0\/gtE ((toL (U 5)).getD (toI (U 4) - 1).toNat .nilp) ((toL (qa ds 0)).getD (toI (U 3)).toNat .nilp)=false->∀(n':Nat) (row':List D),
     (row'=((toL (U 5)).drop 0).take (toN (U 4) - 0)++(q5 301 301).form ((toL (U 0)).getD (toN (U 3)) .nilp)::((toL (U 5)).drop (0+toN (U 4))).take (toN (U 1) - toN (U 4))/\n'=row'.length)->qck (toL (qa ds 0)) n' row' (toI (U 3)+1):=fun hx n' row' hr=>by
    rw[ex]at hr;exact hi.done hx hr.1 hr.2
   have gt:toI (U 4) - 1=toI (U 4) - 1:=rfl;rcases ht with⟨c,ht⟩|⟨c,ht⟩
   ·have c:decide (toI (U 4)>0)=true:=c;have c:=of_decide_eq_true c;rcases ht with⟨c1,_,hn⟩|⟨c1,ht⟩
    ·have c1:decide (toI (cel ((toL (U 5)).getD (0+(toI (U 4) - 1).toNat) .nilp) 0)>toI (cel ((toL (U 0)).getD (toN (U 3)) .nilp) 0))=true:=c1;rw[qT6,h0]at c1;exact hn (hi.next c (by unfold gtE; unfold toN at c1; rw[c1]; rfl))
    ·have c1:decide (toI (cel ((toL (U 5)).getD (0+(toI (U 4) - 1).toNat) .nilp) 0)>toI (cel ((toL (U 0)).getD (toN (U 3)) .nilp) 0))=false:=c1;rw[qT6,h0]at c1;rcases ht with⟨c2,ht⟩|⟨c2,ht⟩
     ·have c2:(toI (cel ((toL (U 5)).getD (0+(toI (U 4) - 1).toNat) .nilp) 0)==toI (cel ((toL (U 0)).getD (toN (U 3)) .nilp) 0))=true:=c2;rw[qT6,h0]at c2;rcases ht with⟨c3,_,hn⟩|⟨c3,ht⟩
      ·have c3:decide (toI (cel ((toL (U 5)).getD (0+(toI (U 4) - 1).toNat) .nilp) 1)>toI (cel ((toL (U 0)).getD (toN (U 3)) .nilp) 1))=true:=c3;rw[qT6,h0]at c3;exact hn (hi.next c (by unfold gtE; unfold toN at c2 c3; rw[c2,c3,Bool.and_self,Bool.or_true]))
      ·have c3:decide (toI (cel ((toL (U 5)).getD (0+(toI (U 4) - 1).toNat) .nilp) 1)>toI (cel ((toL (U 0)).getD (toN (U 3)) .nilp) 1))=false:=c3;rw[qT6,h0]at c3;have hx:=fin (.inr (by unfold gtE; unfold toN at c1 c3; rw[c1,c3,Bool.and_false]; rfl));rcases ht with⟨b1,ht⟩|⟨b1,ht⟩
       ·rcases ht with⟨b2,_,hn⟩|⟨b2,_,hn⟩
        ·exact hn (hx _ _ (qs0 (of_decide_eq_true b1) (of_decide_eq_true b2)))
        ·exact hn (hx _ _ (qs1 (of_decide_eq_true b1)))
       ·rcases ht with⟨b2,_,hn⟩|⟨b2,_,hn⟩
        ·exact hn (hx _ _ (qs2 (of_decide_eq_true b2)))
        ·exact hn (hx _ _ qs3)
     ·have c2:(toI (cel ((toL (U 5)).getD (0+(toI (U 4) - 1).toNat) .nilp) 0)==toI (cel ((toL (U 0)).getD (toN (U 3)) .nilp) 0))=false:=c2;rw[qT6,h0]at c2;have hx:=fin (.inr (by unfold gtE; unfold toN at c1 c2; rw[c1,c2]; rfl));rcases ht with⟨b1,ht⟩|⟨b1,ht⟩
      ·rcases ht with⟨b2,_,hn⟩|⟨b2,_,hn⟩
       ·exact hn (hx _ _ (qs0 (of_decide_eq_true b1) (of_decide_eq_true b2)))
       ·exact hn (hx _ _ (qs1 (of_decide_eq_true b1)))
      ·rcases ht with⟨b2,_,hn⟩|⟨b2,_,hn⟩
       ·exact hn (hx _ _ (qs2 (of_decide_eq_true b2)))
       ·exact hn (hx _ _ qs3)
   ·have c:decide (toI (U 4)>0)=false:=c;have c:=of_decide_eq_false c;have hx:=fin (.inl (by omega));rcases ht with⟨b1,ht⟩|⟨b1,ht⟩
    ·rcases ht with⟨b2,_,hn⟩|⟨b2,_,hn⟩
     ·exact hn (hx _ _ (qs0 (of_decide_eq_true b1) (of_decide_eq_true b2)))
     ·exact hn (hx _ _ (qs1 (of_decide_eq_true b1)))
    ·rcases ht with⟨b2,_,hn⟩|⟨b2,_,hn⟩
     ·exact hn (hx _ _ (qs2 (of_decide_eq_true b2)))
     ·exact hn (hx _ _ qs3)
  ·simp at hq
 ·intro d ht;obtain⟨_,hn⟩:=ht;exact hn trivial
def qXR:qm PP 141 qut:=qXN.more fun ds d hp _ h=>⟨fun f hf=>(by cases hf),qXQ hp h⟩
end Go.Aev.R29
end
