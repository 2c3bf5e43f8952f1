/- Lemmas: a machine that the model follows, and contracts. Conditions: none. -/
import Derived.Test.YtakpdahnlpjooaaGreatDoorT29groups26P0
import Derived.Test.YtakpdahnlpjooaaGreatDoorT29groups26P1
import Derived.Test.YtakpdahnlpjooaaGreatDoorT29groups26P2
import Derived.Test.YtakpdahnlpjooaaGreatDoorT29groups26P3
import Derived.Test.YtakpdahnlpjooaaGreatDoorT29groups26P4
import Derived.Test.YtakpdahnlpjooaaGreatDoorT29groups26P5
set_option linter.all false
set_option maxRecDepth 1000000
set_option maxHeartbeats 0
noncomputable section
namespace Go.Aev.R29
open Go Go.Aev Go.Aev.R
def qPr:qH PP 301 qaq (Ev0 PP qg qk):=fe qg qk qPK (qb8 qPL ⟨qPY,qQb,qQn,qQz,qQL,qPM,qPZ,qQc,qQo,qQA,qQM,qPN,qP0,qQd,qQp,qQB,qQN,qPO,qP1,qQe,qQq,qQC,qQO,qPP,qP2,qQf,qQr,qQD,qQP,qPQ,qP3,qQg,qQs,qQE,qQQ,qPR,trivial⟩) ⟨qP4,qQh,qQt,qQF,qQR,qPS,qP5,qQi,qQu,qQG,qQS,qPT,qP6,qQj,qQv,qQH,qQT,qPU,qP7,qQk,qQw,qQI,qQU,qPV,qP8,qQl,qQx,qQJ,qQV,qPW,qP9,qQm,qQy,qQK,qQW,qPX,qQa,trivial⟩
def qA6:Con:={qaq with pre:=[.nle (.i 17) Zi,.nle Zi (.i 301),Z3,.rows 920 Zc Zi ZS,ZbS,ZbT],post:=qaq.post++[.le (.u 12 0 Zd) Zi,.le Zi (.u 12 0 Zd),.rows 913 Zd Zam Zi,.imp ZhO (.rows 914 Zd Zam Zi)]}
def qA7:TQ:=.next [] 0 [Ze,Zc,Zb]
def qtB:TQ:=.fork Zft (.next [] 1 [Ze,Zc,Zb,.u 0 0 ZjY,.u 0 0 ZjY,ZcZ,ZjY]) (.fork ZhO (.done [(142,[Zad,.z,ZhP])] ZjZ) (.fork (.w 14 (.u 0 0 (.u 1 0 (.u 3 142 (.w 4 Zad (.w 4 .z ZfX))))) Zg) (.done [(142,[Zad,.z,ZhP])] ZjZ) .bad))
def qtC:TQ:=.fork (.w 10 Zj Zi) (.next [] 1 [Ze,Zc,Zb,.w 8 Zd (.u 0 0 Zj0),.w 8 Zd (.u 0 0 Zj0),Zed,.w 5 ZhR Zj0]) (.fork ZhO (.done [(142,[Zad,ZhR,ZhP])] ZjZ) (.fork (.w 14 (.u 0 0 (.u 1 0 Zj1)) Zg) (.done [(142,[Zad,ZhR,ZhP])] ZjZ) (.next [(142,[Zad,ZhR,ZhP])] 2 [Ze,Zc,Zb,Zd,Zf,Zt,.u 1 0 Zj1,.u 1 1 Zj1])))
def qtD:TQ:=.fork (.w 10 Za Zab) (.next [] 3 [Ze,Zc,Zb,Zd,Zf,.u 0 0 Zj2,.u 0 0 Zj2,ZcZ,Zj,Zt,Zh,Zj2]) (.next [] 4 [Ze,Zc,Zb,Zd,Zf,Zj])
def qtE:TQ:=.fork (.w 10 Zh Za0) (.next [] 3 [Ze,Zc,Zb,Zd,Zf,.w 8 Zj (.u 0 0 Zj3),.w 8 Zj (.u 0 0 Zj3),.w 0 Zh Zg,Z9,Zaj,Zac,.w 5 ZfF Zj3]) (.fork (.w 10 ZU Zg) (.next [] 8 Zez) (.fork (.w 10 ZU ZT) (.next [] 5 Zez) (.fork (.w 10 ZU Zai) (.next [] 6 Zez) (.fork (.w 10 ZU Z4) (.next [] 9 Zez) (.next [] 10 Zez)))))
def qPs:qN PP qg qk=[qA7,qtB,qtC,qtD,qtE]++(qN PP qg qk).drop 5:=by kernel_rfl
def qnm (st:R.St) (t:Nat):R1:=match st.env.find? (fun p=>Nat.beq p.1 t)with
 | some (_,.o x)=>x|_=>.any
def qbI (st:R.St) (r:Nat):T:=match st.rows[r]? with
 | some (.dat _ e _)=>e|_=>.p
def J2 (st:R.St) (t:Nat):T:=match qnm st t with
 | .sl r _ _ _ _ _=>qbI st r|_=>.p
def Jq (st:R.St) (t:Nat):T:=match qnm st t with
 | .sl _ _ _ n _ _=>n|_=>.p
def Ys (st:R.St):T:=match qnm st 14 with
 | .c _ x=>x|_=>.p
def YW (st:R.St):List R1:=match qnm st 13 with
 | .sl r _ _ _ _ _=>match st.rows[r]? with
  | some (.box cs _)=>cs|_=>[]
 | _=>[]
def qnn:R1->Bool
 | .nil=>true|_=>false
def qbo:R1->T
 | .sl _ _ _ n _ _=>n|_=>.p
def qno (st:R.St):R1->T
 | .sl r _ _ _ _ _=>qbI st r|_=>.p
def JY (st:R.St) (c:R1):T:=.w 6 (qbo c) (.w 7 (.i 0) (qno st c))
def qjp (inv:List F) (a b:T):Bool:=inv.any fun f=>match f with
 | .le x y=>x.eq a&&y.eq b|_=>false
def qdv (inv:List F) (a b:T):Bool:=inv.any fun f=>match f with
 | .nle x y=>x.eq a&&y.eq b|_=>false
def qA8 (inv:List F) (a b:T):Bool:=inv.any fun f=>match f with
 | .lt x y=>x.eq a&&y.eq b|_=>false
def YB:List T->T
 | []=>.i 0|n::ns=>ns.foldl (fun a n=>.w 0 a (.u 4 0 n)) (.u 4 0 n)
def atT (args:List T):T:=.u 1 0 (.u 3 398 (qX args))
def qtF (ds:List (T×Bool)) (t:T) (v:Bool):Bool:=ds.any fun p=>p.1.eq t&&bEq p.2 v
def qA9 (st:R.St) (cs:List (Nat×List T)):Bool:=match cs with
 | [(g,[a,b,c])]=>Nat.beq g 398&&(a.eq (.mk (.i .i64) (.u 1 1 (.v 0)))&&(b.eq (.w 6 (Jq st 11) (.w 7 (.i 0) (J2 st 11)))&&c.eq (.mk .l (.w 3 (J2 st 7) (.w 8 (.i 0) (Ys st))))))|_=>false
def qBa:List (Nat×List T)->List T
 | [(_,l)]=>l|_=>[]
def qBb (ds:List (T×Bool)) (x:T) (j:Nat):Bool:=ds.any fun p=>match p.1 with
 | .w 10 y (.i z)=>y.eq x&&match p.2 with
  | true=>decide (z<=(j:Int))|false=>decide ((j:Int)+1<=z)
 | _=>false
def qnp (st:R.St):Bool:=(Nat.ble 2 (YW st).length&&Nat.ble (YW st).length 8)&&(qdv st.inv (.u 4 0 (.i ((YW st).length:Nat))) (.u 4 0 (Jq st 11))&&(qdv st.inv (.u 4 0 (Jq st 11)) (.u 4 0 (.i ((YW st).length:Nat)))&&(qdv st.inv (.u 4 0 (Jq st 11)) (.u 0 0 (J2 st 11))&&qjp st.inv (.i 0) (Ys st))))
def qey (st:R.St):List (T×Bool)->TQ->Bool
 | ds,.fork t a b=>qey st ((t,true)::ds) a&&qey st ((t,false)::ds) b|ds,.next cs k J=>match qg.sts[k]? with
  | some st'=>(Nat.ble 4 k&&(((J2 st' 7).sub J).eq (J2 st 7)&&(((Jq st' 7).sub J).eq (Jq st 7)&&(((J2 st' 11).sub J).eq (J2 st 11)&&(((Jq st' 11).sub J).eq (Jq st 11)&&((Ys st').sub J).eq (.w 0 (Ys st) (.i 1))))))) &&
    (qA9 st cs&&(qtF ds (.w 10 (Ys st) (.u 0 0 (.v 1))) true&&((List.range (YW st').length).all fun j=>!qnn ((YW st').getD j .any)||(qnn ((YW st).getD j .any)&&qBb ds (atT (qBa cs)) j))))
  | none=>false
 | ds,.done _ r=>(qtF ds (.w 10 (Ys st) (.u 0 0 (.v 1))) false&&(qA8 st.inv (.v 2) (.i 12)&&qjp st.inv (Ys st) (.u 0 0 (.v 1)))) &&
   ((YW st).any qnn||(r.eq (qX ((YW st).map (JY st)))&&(qjp st.inv (YB ((YW st).map qbo)) (Ys st)&&(qjp st.inv (Ys st) (YB ((YW st).map qbo)) &&
    (YW st).all fun c=>qdv st.inv (qbo c) (.u 0 0 (qno st c))&&qdv st.inv (.i 1) (qbo c)))))
 | _,.bad=>true
def qtG (st:R.St):Bool:=qdv st.inv (.i 2) (.i 0)||(Nat.ble (YW st).length 1&&(qdv st.inv (.i 2) (.u 4 0 (Jq st 11))&&qdv st.inv (.u 4 0 (Jq st 11)) (.u 4 0 (.i ((YW st).length:Nat)))))
def qnq:List R.St->List TQ->Bool
 | [],[]=>true|s::r,q::qs=>(qtG s||qnp s&&qey s [] q)&&qnq r qs|_,_=>false
def qPt:qnq (qg.sts.drop 4) ((qN PP qg qk).drop 5)=true:=by kernel_rfl
def qBc:∀{l:List R.St} {m:List TQ},qnq l m=true->∀{k:Nat} {s:R.St} {q:TQ},l[k]?=some s->m[k]?=some q->(qtG s||qnp s&&qey s [] q)=true
 | [],[],_,k,s,q,h,_=>by cases h
 | x::l,y::m,h,k,s,q,h1,h2=>by
  simp only[qnq,qTC]at h;rcases k with _|k
  ·simp at h1 h2;subst h1 h2;exact h.1
  ·exact qBc h.2 (by simpa using h1) (by simpa using h2)
 | [],_::_,h,_,_,_,_,_=>by cases h
 | _::_,[],h,_,_,_,_,_=>by cases h
section
variable {wf:Nat->List D->D} {rcP:Nat->List D->Prop} {U:Nat->D}
def qnr {inv:List F} {a b:T} (h:qjp inv a b=true) (hi:∀f∈inv,f.den wf rcP U):toI (a.den wf U)<=toI (b.den wf U):=by
 obtain⟨f,hf,hb⟩:=qUb.1 h;split at hb
 ·rw[qTC]at hb;have:=hi _ hf;rw[<-T.eq_eq hb.1,<-T.eq_eq hb.2]; exact this
 ·cases hb
def qez {inv:List F} {a b:T} (h:qdv inv a b=true) (hi:∀f∈inv,f.den wf rcP U):toN (a.den wf U)<=toN (b.den wf U):=by
 obtain⟨f,hf,hb⟩:=qUb.1 h;split at hb
 ·rw[qTC]at hb;have:=hi _ hf;rw[<-T.eq_eq hb.1,<-T.eq_eq hb.2]; exact this
 ·cases hb
def qPu {inv:List F} {a b:T} (h:qA8 inv a b=true) (hi:∀f∈inv,f.den wf rcP U):toI (a.den wf U)<toI (b.den wf U):=by
 obtain⟨f,hf,hb⟩:=qUb.1 h;split at hb
 ·rw[qTC]at hb;have:=hi _ hf;rw[<-T.eq_eq hb.1,<-T.eq_eq hb.2]; exact this
 ·cases hb
def qBd {ds:List (T×Bool)} {t:T} {v:Bool} (h:qtF ds t v=true) (hd:∀p∈ds,toB (p.1.den wf U)=p.2):toB (t.den wf U)=v:=by
 obtain⟨p,hp,hb⟩:=qUb.1 h;rw[qTC]at hb;rw[<-T.eq_eq hb.1,hd p hp,qgO hb.2]
def qPv {ds:List (T×Bool)} {x:T} {j:Nat} (h:qBb ds x j=true) (hd:∀p∈ds,toB (p.1.den wf U)=p.2):toI (x.den wf U)≠(j:Int):=by
 obtain⟨⟨t,v⟩,hp,hb⟩:=qUb.1 h;have hv:=hd _ hp;simp only at hb hv;split at hb
 ·rename_i y z;rw[qTC]at hb;have e:=T.eq_eq hb.1;subst e;have hv:decide (toI (y.den wf U)<z)=v:=hv;intro he;rw[he]at hv
  cases v with
  | true =>
   have h1:=of_decide_eq_true hv;have h2:=of_decide_eq_true hb.2;omega
  | false =>
   have h1:=of_decide_eq_false hv;have h2:=of_decide_eq_true hb.2;omega
 ·cases hb
def qPw:∀{ns:List T} {n:T},toI ((YB (n::ns)).den wf U)=(((n::ns).map fun n=>toN (n.den wf U)).sum:Nat):=by
 intro ns n;have key:∀(ns:List T) (a:T),toI ((ns.foldl (fun a n=>.w 0 a (.u 4 0 n)) a).den wf U)=toI (a.den wf U)+((ns.map fun n=>toN (n.den wf U)).sum:Nat):=by
  intro ns
  induction ns with
  | nil=>intro a; simp
  | cons x r ih =>
   intro a;rw[qUK,ih];have:toI ((T.w 0 a (.u 4 0 x)).den wf U)=toI (a.den wf U)+(toN (x.den wf U):Int):=rfl;rw[this,qUa,qVr]
   push_cast
   omega
 have:=key ns (.u 4 0 n);have e:toI ((T.u 4 0 n).den wf U)=(toN (n.den wf U):Int):=rfl;rw[e]at this;rw[qUa,qVr]
 push_cast at this ⊢
 exact this
end
def qPx {m:D} {V L C:List D} {v:D} {at_:Nat} {key:Int} (hp:YQ m V L C) (hn:qfR m C v at_ key) (hk:qtY m C v C.length) {j:Nat} (hj:j<C.length) (he:toL (C.getD j .nilp)=toL v):at_=j:=by
 have h0:=(hk j hj).2 he;have h1:=hn.le j hj;have h2:=(hk at_ hn.lt).1;rw[<-hn.eq]at h2;rcases qVX at_ j with h|h|h
 ·have h3:=hp.ps j hj at_ h;have h4:KEY m (C.getD at_ .nilp) (C.getD j .nilp)=KEY m (C.getD at_ .nilp) v:=by
   unfold KEY;have:K.l.den (C.getD j .nilp)=K.l.den v:=congrArg D.list he;rw[this]
  rw[h4,<-hn.eq]at h3;omega
 ·exact h
 ·have h3:=hn.ls j h;omega
def qtH:Y->Nat->Option Y
 | .ec c _,0=>some c|.ec _ r,n+1=>qtH r n|_,_=>none
def qPy {r:Y} {cs:List D} (h:qd r (.list cs)):∀{n:Nat} {y:Y},qtH r n=some y->qd y (cs.getD n .nilp):=by
 induction r generalizing cs with
 | ec c r _ ih2 =>
  obtain⟨x,xs,e,h1,h2⟩:=h;cases e;intro n y hy;rcases n with _|n
  ·simp[qtH]at hy;subst hy;exact h1
  ·exact ih2 h2 (n:=n) hy
 | _=>intro n y hy; cases n<;>cases hy
def qPz {e:D} (h:qd (qgz 301 301) e):qd Yr (cel e 7):=by
 obtain⟨cs,rfl,h⟩:=h;exact qPy h (n:=7) rfl
structure qPA (ds:List D):Prop where
 ty:∀e∈toL (qa ds 1),qd Yr (cel e 7)
 ln:∀e∈toL (qa ds 1),(toL (cel e 7)).length=toN (cel (qa ds 0) 0)
 d1:1<=toN (cel (qa ds 0) 0)
 m1:1<=toI (cel (qa ds 0) 1)
 m3:toI (cel (qa ds 0) 1)<=3
def qPB {ds:List D} (hp:qG qaq ds):qPA ds:=by
 have h1:=hp.2 (.pre (.v 1) (.u 0 0 (.v 1)) (qgz 301 301)) (by simp[qaq]);have h2:=hp.2 (.rows 905 (.v 1) (.u 0 0 (.v 1)) (.u 1 0 (.v 0))) (by simp[qaq]);have h3:=hp.2 (.le (.i 1) (.u 1 0 (.v 0))) (by simp[qaq]);have h4:=hp.2 (.le (.i 1) (.u 1 1 (.v 0))) (by simp[qaq]);have h5:=hp.2 (.le (.u 1 1 (.v 0)) (.i 3)) (by simp[qaq]);have h3:(1:Int)<=toI (cel (qa ds 0) 0):=h3;refine⟨fun e he=>?_,fun e he=>?_,by unfold toN; omega,h4,h5⟩
 ·obtain⟨j,hj,rfl⟩:=qUu he;have:=h1 j hj;have:qd (qgz 301 301) ((toL (qa ds 1)).getD j .nilp):=this;rw[zzG,qTE hj]at this;exact qPz this
 ·obtain⟨j,hj,rfl⟩:=qUu he;have:=h2 j hj hj;have this:Yk 905 (cel (qa ds 0) 0) ((toL (qa ds 1)).getD j .nilp):=this;rw[zzG,qTE hj]at this;have a:=this (true,.v 1,.u 0 0 (.u 1 7 (.v 0))) (qTR ..);have b:=this (true,.u 0 0 (.u 1 7 (.v 0)),.v 1) (qTG _ (qTR ..));have a:toN (cel (qa ds 0) 0)<=(toL (cel (toL (qa ds 1))[j] 7)).length:=a;have b:(toL (cel (toL (qa ds 1))[j] 7)).length<=toN (cel (qa ds 0) 0):=b;omega
def qtI:∀l:List D,Yo 0 l=(l.map fun x=>(toL x).length).sum
 | []=>rfl|x::r=>by
  rw[qUa,qVr,<-qtI r];rfl
def qPC {l:List Nat} (h:∀n∈l,1<=n) (h2:2<=l.length) {n:Nat} (hn:n∈l):n+1<=l.sum:=by
 have low:∀l:List Nat,(∀n∈l,1<=n)->l.length<=l.sum:=by
  intro l
  induction l with
  | nil=>intro _; exact qTF _
  | cons a l ih =>
   intro h;have:=h a qTR;have:=ih fun n hn=>h n (qTG _ hn)
   simp only[qT9,qVr];omega
 have key:∀l:List Nat,(∀n∈l,1<=n)->n∈l->n+l.length<=l.sum+1:=by
  intro l
  induction l with
  | nil=>intro _ hn; cases hn
  | cons a l ih =>
   intro h hn;have h1:=h a qTR;have h2:=fun n hn=>h n (qTG a hn)
   simp only[qT9,qVr];rcases qTD.1 hn with rfl|hn
   ·have:=low l h2;omega
   ·have:=ih h2 hn;omega
 have:=key l h hn;omega
def I3 (ds:List D) (st:R.St) (U:Nat->D):Prop:=(toL ((J2 st 7).den (wOf PP qk) U)).take (toN ((Jq st 7).den (wOf PP qk) U))=(toL (qa ds 1)).map Y7 /\
 ∃L C,YQ (cel (qa ds 0) 1) ((toL (qa ds 1)).map Y7) L C/\(∀o∈L,0<=toI o/\toN o<(toL (qa ds 1)).length)/\(toL ((J2 st 11).den (wOf PP qk) U)).take (toN ((Jq st 11).den (wOf PP qk) U))=C /\
  ∀j,j<L.length->qnn ((YW st).getD j .any)=true->toI ((Ys st).den (wOf PP qk) U)<=toI (L.getD j .nilp)
def qPD (ds:List D) (k:Nat) (U:Nat->D) (d:D):Prop:=(∀st,qg.sts[k]?=some st->4<=k->I3 ds st U)->qjq ds d
def qPE {ds:List D} (hp:qG qaq ds) {st:R.St} {U:Nat->D} (hg:qeg PP qg qk ds st.tys st.inv U) (hc:qnp st=true) (hi:I3 ds st U) {nx:Nat->(Nat->D)->D->Prop} (hnx:∀k U d,4<=k->nx k U d->qPD ds k U d) :
  ∀{q:TQ} {dec:List (T×Bool)} {d:D},(∀p∈dec,toB (p.1.den (wOf PP qk) U)=p.2)->qey st dec q=true->YP PP qk nx U d q->qjq ds d:=by
 have hv:=qPB hp;unfold qnp at hc;simp only[qTC]at hc;obtain⟨⟨c1,c2⟩,c3,c4,c5,c6⟩:=hc;have c1:=qT5 c1;have c2:=qT5 c2;have c3:=qez c3 hg.inv;have c4:=qez c4 hg.inv;have c5:=qez c5 hg.inv;have c6:=qnr c6 hg.inv;have c3:(YW st).length<=toN ((Jq st 11).den (wOf PP qk) U):=c3;have c4:toN ((Jq st 11).den (wOf PP qk) U)<=(YW st).length:=c4;have c5:toN ((Jq st 11).den (wOf PP qk) U)<=(toL ((J2 st 11).den (wOf PP qk) U)).length:=c5;have c6:0<=toI ((Ys st).den (wOf PP qk) U):=c6;have h0:=hg.arg 0 (by decide);have h1:=hg.arg 1 (by decide);have h2:=hg.arg 2 (by decide);obtain⟨i1,L,C,i2,i3,i4,i5⟩:=hi;have hCl:C.length=(YW st).length:=by rw[<-i4,qTU]; omega
 have hLl:L.length=C.length:=by rw[i2.eq,qTS]
 intro q
 induction q with
 | fork t a b ih1 ih2 =>
  intro dec d hd h ht;simp only[qey,qTC]at h;rcases ht with⟨hb,ht⟩|⟨hb,ht⟩
  ·exact ih1 (fun p hp=>by
    rcases qTD.1 hp with rfl|hp
    ·exact hb
    ·exact hd p hp) h.1 ht
  ·exact ih2 (fun p hp=>by
    rcases qTD.1 hp with rfl|hp
    ·exact hb
    ·exact hd p hp) h.2 ht
 | bad=>intro dec d hd h ht; exact ht.elim
 | done cs r =>
  intro dec d hd h ht;simp only[qey,qTC]at h;obtain⟨⟨a1,a2,a3⟩,a4⟩:=h;have a1:=qBd a1 hd;have a1:decide (toI ((Ys st).den (wOf PP qk) U)<((toL (U 1)).length:Int))=false:=a1;have a1:=of_decide_eq_false a1;have a2:toI (U 2)<12:=qPu a2 hg.inv;have a3:toI ((Ys st).den (wOf PP qk) U)<=((toL (U 1)).length:Int):=qnr a3 hg.inv;rw[h1]at a1 a3;rw[h2]at a2;rw[qTM]at a4;rcases a4 with a4|a4
  ·obtain⟨c,hcm,hcn⟩:=qUb.1 a4;obtain⟨j,hj,rfl⟩:=qUu hcm;have hjL:j<L.length:=by omega
   have:=i5 j hjL (by rw[zzG,qTE hj]; exact hcn);have hm:L.getD j .nilp∈L:=by rw[zzG,qTE hjL]; exact qTL _
   have:=i3 _ hm;unfold toN at this;omega
  ·simp only[qTC]at a4;obtain⟨r1,s1,s2,s3⟩:=a4;have hd2:=ht.2;rw[T.eq_eq r1,qmb,qUs]at hd2;have s1:=qnr s1 hg.inv;have s2:=qnr s2 hg.inv;have s3:=fun c hc=>by
    have:=qTI.1 s3 c hc;rw[qTC]at this;exact And.intro (qez this.1 hg.inv) (qez this.2 hg.inv)
   have hlen:∀c∈YW st,(toL ((JY st c).den (wOf PP qk) U)).length=toN ((qbo c).den (wOf PP qk) U)/\1<=toN ((qbo c).den (wOf PP qk) U):=by
    intro c hc;obtain⟨q1,q2⟩:=s3 c hc;refine⟨?_,q2⟩;show(List.take (toN ((qbo c).den (wOf PP qk) U)) (List.drop 0 (toL ((qno st c).den (wOf PP qk) U)))).length=_;rw[qTY,qTU];have q1:toN ((qbo c).den (wOf PP qk) U)<=(toL ((qno st c).den (wOf PP qk) U)).length:=q1;omega
   have hsum:((YW st).map fun c=>toN ((qbo c).den (wOf PP qk) U)).sum=(toL (qa ds 1)).length:=by
    match hcl:YW st,c1 with
    | x::r,_ =>
     rw[hcl,qUa]at s1 s2;rw[qPw]at s1 s2;rw[<-qUa,qUs]at s1 s2;have e:(List.map ((fun n=>toN (T.den (wOf PP qk) U n))∘qbo) (x::r)).sum=(List.map (fun c=>toN (T.den (wOf PP qk) U (qbo c))) (x::r)).sum:=rfl;rw[e]at s1 s2;omega
   have htl:toL d=(YW st).map fun c=>(JY st c).den (wOf PP qk) U:=by rw[hd2]; rfl
   have hmap:((toL d).map fun x=>(toL x).length)=(YW st).map fun c=>toN ((qbo c).den (wOf PP qk) U):=by
    rw[htl,qUs];exact qUv fun c hc=>(hlen c hc).1
   have hone:∀n∈((toL d).map fun x=>(toL x).length),1<=n:=by
    rw[hmap];intro n hn;obtain⟨c,hc,rfl⟩:=qTV.1 hn;exact(hlen c hc).2
   have hs2:((toL d).map fun x=>(toL x).length).sum=(toL (qa ds 1)).length:=by rw[hmap,hsum]
   refine⟨by rw[qtI,hs2],fun x hx=>?_,fun hl=>by omega⟩;have hx':=qVi (f:=fun x=>(toL x).length) hx;refine⟨hone _ hx',?_⟩;rw[<-hs2];refine qPC hone ?_ hx';rw[hmap,qTS]; exact c1
 | next cs k J =>
  intro dec d hd h ht;simp only[qey]at h;split at h
  ·rename_i st' hst';simp only[qTC]at h;obtain⟨⟨b0,b1,b2,b3,b4,b5⟩,b6,b7,b8⟩:=h;have b7:decide (toI ((Ys st).den (wOf PP qk) U)<((toL (U 1)).length:Int))=true:=qBd b7 hd;have b7:=of_decide_eq_true b7;rw[h1]at b7;have S:∀{t u:T},(t.sub J).eq u=true->t.den (wOf PP qk) (Ym (wOf PP qk) U J)=u.den (wOf PP qk) U:=fun e=>by rw[<-T.den_sub,T.eq_eq e]
   refine hnx _ _ _ (qT5 b0) ht.2 fun st2 hst2 _=>?_
   rw[hst']at hst2;cases hst2;unfold I3;rw[S b1,S b2,S b3,S b4,S b5];refine⟨i1,L,C,i2,i3,i4,fun j hj hn=>?_⟩;have hjc:j<(YW st').length:=by
    rcases qTQ j (YW st').length with q|q
    ·exact q
    ·rw[zzG,qUc q]at hn; cases hn
   have b8:=qTI.1 b8 j (qU2.2 hjc);rw[hn]at b8;simp only[qUP,qVF,qTC]at b8;have hle:=i5 j hj b8.1;have hne:=qPv b8.2 hd;have e0:toI ((T.w 0 (Ys st) (.i 1)).den (wOf PP qk) U)=toI ((Ys st).den (wOf PP qk) U)+1:=rfl;rw[e0];rcases Int.lt_or_eq_of_le hle with q|q
   ·omega
   ·exfalso;apply hne;unfold qA9 at b6;split at b6
    ·rename_i g a b c;simp only[qTC]at b6;obtain⟨g1,ga,gb,gc⟩:=b6;have g1:=qTO g1;have ga:=T.eq_eq ga;have gb:=T.eq_eq gb;have gc:=T.eq_eq gc;subst g1 ga gb gc;have hK:toN ((Ys st).den (wOf PP qk) U)<(toL (qa ds 1)).length:=by unfold toN; omega
     have hrow:(toL ((J2 st 7).den (wOf PP qk) U)).getD (0+toN ((Ys st).den (wOf PP qk) U)) .nilp=Y7 ((toL (qa ds 1))[toN ((Ys st).den (wOf PP qk) U)]):=by
      rw[qT6,zzG];have e:((toL ((J2 st 7).den (wOf PP qk) U)).take (toN ((Jq st 7).den (wOf PP qk) U)))[toN ((Ys st).den (wOf PP qk) U)]?=some (Y7 ((toL (qa ds 1))[toN ((Ys st).den (wOf PP qk) U)])):=by
       rw[i1,qT3,qTE hK]; rfl
      rw[qUh]at e;split at e
      ·rw[e]; rfl
      ·cases e
     have hcl:=ht.1.1 qt0 rfl;have hargs:[T.mk (.i .i64) (.u 1 1 (.v 0)),.w 6 (Jq st 11) (.w 7 (.i 0) (J2 st 11)),.mk .l (.w 3 (J2 st 7) (.w 8 (.i 0) (Ys st)))].map (T.den (wOf PP qk) U) =
       [(K.i .i64).den (cel (qa ds 0) 1),.list C,K.l.den (Y7 ((toL (qa ds 1))[toN ((Ys st).den (wOf PP qk) U)]))]:=by
      rw[<-hrow,<-i4,<-h0];rfl
     rw[hargs]at hcl;have hat:(atT (qBa [(398,[T.mk (.i .i64) (.u 1 1 (.v 0)),.w 6 (Jq st 11) (.w 7 (.i 0) (J2 st 11)),.mk .l (.w 3 (J2 st 7) (.w 8 (.i 0) (Ys st)))])])).den (wOf PP qk) U =
       cel (wOf PP qk 398 [(K.i .i64).den (cel (qa ds 0) 1),.list C,K.l.den (Y7 ((toL (qa ds 1))[toN ((Ys st).den (wOf PP qk) U)]))]) 0:=by
      rw[<-hargs];show cel (wOf PP qk 398 (toL ((qX _).den (wOf PP qk) U))) 0=_;rw[qmb]; rfl
     rw[hat];obtain⟨_,⟨_,hpost⟩,hfact⟩:=hcl;generalize wOf PP qk 398 _=w at hpost hfact ⊢;have hCe:∀i,i<C.length->qd Yr (C.getD i .nilp)/\(toL (C.getD i .nilp)).length=toN (cel (qa ds 0) 0):=by
      intro i hi;have hiL:i<L.length:=by omega
      have e:C.getD i .nilp=K.l.den (((toL (qa ds 1)).map Y7).getD (toN (L.getD i .nilp)) .nilp):=by
       rw[i2.eq];simp[zzG,hiL]
      have hm:L.getD i .nilp∈L:=by rw[zzG,qTE hiL]; exact qTL _
      have hb:=(i3 _ hm).2;rw[e];have e2:((toL (qa ds 1)).map Y7).getD (toN (L.getD i .nilp)) .nilp=Y7 ((toL (qa ds 1))[toN (L.getD i .nilp)]):=by
       rw[zzG,qT3,qTE hb]; rfl
      rw[e2];have hme:(toL (qa ds 1))[toN (L.getD i .nilp)]∈toL (qa ds 1):=qTL _;have t1:=hv.ty _ hme;have t2:=hv.ln _ hme;have e3:Y7 ((toL (qa ds 1))[toN (L.getD i .nilp)])=cel ((toL (qa ds 1))[toN (L.getD i .nilp)]) 7:=qfE t1;rw[e3];refine⟨?_,t2⟩;have e4:K.l.den (cel ((toL (qa ds 1))[toN (L.getD i .nilp)]) 7)=cel ((toL (qa ds 1))[toN (L.getD i .nilp)]) 7:=qfE t1;rw[e4]; exact t1
     have hCg:∀x∈C,qd Yr x/\(toL x).length=toN (cel (qa ds 0) 0):=by
      intro x hx;obtain⟨i,hi,rfl⟩:=qUu hx;have:=hCe i hi;rwa[zzG,qTE hi]at this
     have hC0:=(hCe 0 (by omega)).2;have hvm:(toL (qa ds 1))[toN ((Ys st).den (wOf PP qk) U)]∈toL (qa ds 1):=qTL _;have t1:=hv.ty _ hvm;have t2:=hv.ln _ hvm;have e3:Y7 ((toL (qa ds 1))[toN ((Ys st).den (wOf PP qk) U)])=cel ((toL (qa ds 1))[toN ((Ys st).den (wOf PP qk) U)]) 7:=qfE t1;have e4:K.l.den (cel ((toL (qa ds 1))[toN ((Ys st).den (wOf PP qk) U)]) 7)=cel ((toL (qa ds 1))[toN ((Ys st).den (wOf PP qk) U)]) 7:=qfE t1;rw[e3,e4]at hpost;have p0:(0:Int)<=toI (cel w 0):=hpost qhm.post[2] (qWw _ (qTL _));have p4:toI (cel w 2)<=0:=by
      refine hpost qhm.post[4] (qWw _ (qTL _)) ⟨hv.m1,hv.m3,?_,⟨⟨C,rfl,?_,fun x hx=>(hCg x hx).1⟩,?_,?_,?_⟩,t1,?_,?_⟩
      ·show C.length<=8;omega
      ·omega
      ·intro i _ hi;have hi:i<C.length:=hi;show(toL (C.getD i .nilp)).length=(toL (C.getD 0 .nilp)).length;rw[(hCe i hi).2,hC0]
      ·show 1<=C.length;omega
      ·show 1<=(toL (C.getD 0 .nilp)).length;rw[hC0]; exact hv.d1
      ·show(toL (cel _ 7)).length<=(toL (C.getD 0 .nilp)).length;rw[hC0,t2]; exact qTF _
      ·show(toL (C.getD 0 .nilp)).length<=(toL (cel _ 7)).length;rw[hC0,t2]; exact qTF _
     obtain⟨n1,n2⟩:=hfact p4;have:=qPx i2 n1.norm n2 (show j<C.length by omega) ?_
     ·unfold toN at this;omega
     ·have hjm:L.getD j .nilp∈L:=by rw[zzG,qTE hj]; exact qTL _
      have hLj:=i3 _ hjm;have hKj:toN (L.getD j .nilp)=toN ((Ys st).den (wOf PP qk) U):=by unfold toN; omega
      have e:C.getD j .nilp=K.l.den (((toL (qa ds 1)).map Y7).getD (toN (L.getD j .nilp)) .nilp):=by
       rw[i2.eq];simp[zzG,hj]
      rw[e,hKj,zzG,qT3,qTE hK];rfl
    ·cases b6
  ·cases h
def YQ.norm {m:D} {V L C:List D} (h:YQ ((K.i .i64).den m) V L C):YQ m V L C:=⟨h.eq,h.ps⟩
def qBe {ds:List D} {x:Nat} (h1:17<=(toL (qa ds 1)).length) (hx:x=((toL (qa ds 1)).length+1) / 2) :
  qjq ds (.list [.list ((toL (qa ds 1)).take x),.list (((toL (qa ds 1)).drop x).take ((toL (qa ds 1)).length - x))]):=by
 have e1:((toL (qa ds 1)).take x).length=x:=by rw[qTU]; omega
 have e2:(((toL (qa ds 1)).drop x).take ((toL (qa ds 1)).length - x)).length=(toL (qa ds 1)).length - x:=by rw[qTU,qT8]; omega
 refine⟨?_,fun y hy=>?_,fun _ y hy=>?_⟩
 ·rw[qtI];simp only[qcM,qUa,qVg,qVr,List.sum_nil,e1,e2];omega
 ·simp only[qcM,qTD,qTJ,or_false]at hy;rcases hy with rfl|rfl
  ·simp only[qcM,e1]; omega
  ·simp only[qcM,e2]; omega
 ·simp only[qcM,qTD,qTJ,or_false]at hy;rcases hy with rfl|rfl
  ·simp only[qcM,e1]; omega
  ·simp only[qcM,e2]; omega
def qPF {n:Nat} (h:n<=301):((qsp 0).wrap (((n:Int)+1).tdiv 2)).toNat=(n+1) / 2:=by
 have e:((n:Int)+1).tdiv 2=((n:Int)+1) / 2:=qWr (by omega);rw[e];have:=qvF (n:=((n:Int)+1) / 2) (by omega) (by omega);show(IntKind.wrap .i64 _).toNat=_;rw[this]; omega
def qBf {row V:List D} {n i:Nat} (h:row.take n=V) (hi:i<V.length):row.getD i .nilp=V.getD i .nilp:=by
 rw[<-h,zzG,zzG,qUh];rw[<-h,qTU]at hi;rw[if_pos (by omega)]
def qBg {f:D->D} {l:List D} {k:Nat} (hk:k<l.length):(l.take k).map f++[f (l.getD k .nilp)]=(l.take (k+1)).map f:=by
 rw[List.take_succ,qUC,qTE hk,zzG,qTE hk];rfl
def qPG {ds:List D} {st:R.St} {U U':Nat->D} {L C:List D} {n:Nat} (hn:¬n<L.length) (i1:(toL (U 8)).take (toN (U 3))=(toL (qa ds 1)).map Y7) (hC:YQ (cel (qa ds 0) 1) ((toL (qa ds 1)).map Y7) L C)
  (hb:∀o∈L,0<=toI o/\toN o<(toL (qa ds 1)).length) (i3:(toL (U 11)).take (toN (U 5))=(L.take n).map (qBi ((toL (qa ds 1)).map Y7)))
  (h1:(J2 st 7).den (wOf PP qk) U'=U 8) (h2:(Jq st 7).den (wOf PP qk) U'=U 3) (h3:(J2 st 11).den (wOf PP qk) U'=U 11) (h4:(Jq st 11).den (wOf PP qk) U'=U 5) (h5:toI ((Ys st).den (wOf PP qk) U')=0):I3 ds st U':=by
 unfold I3;rw[h1,h2,h3,h4,h5];refine⟨i1,L,C,hC,hb,?_,fun j hj _=>?_⟩
 ·rw[i3,qTX (by omega),hC.eq]; rfl
 ·have hm:L.getD j .nilp∈L:=by rw[zzG,qTE hj]; exact qTL _
  exact(hb _ hm).1
def qBh {wf:Nat->List D->D} {rcP:Nat->List D->Prop} {U:Nat->D} {x y:T} {n:Nat} (h:F.den wf rcP U (.rows 2 x (.u 0 0 x) (.u 0 0 y))) (hn:(toL (y.den wf U)).length=n):∀o∈toL (x.den wf U),0<=toI o/\toN o<n:=by
 intro o ho;obtain⟨j,hj,rfl⟩:=qUu ho;have:=h j hj hj;rw[zzG,qTE hj]at this;obtain⟨a,b⟩:=this;have b:toI ((toL (x.den wf U))[j])<((toL (y.den wf U)).length:Int):=b;refine⟨a,?_⟩;unfold toN; rw[<-hn];have a:0<=toI ((toL (x.den wf U))[j]):=a;omega
def qPH {ds:List D} {d:D} (hp:qG qaq ds) (h:Ev0 PP qg qk ds d):qjq ds d:=by
 have hlen:17<=(toL (qa ds 1)).length:=hp.2 (.nle (.i 17) (.u 0 0 (.v 1))) (by simp[qaq]);have hlen2:(toL (qa ds 1)).length<=301:=hp.2 (.nle (.u 0 0 (.v 1)) (.i 301)) (by simp[qaq])
 refine Yc qPs (I:=fun k U=>match k with
  | 0=>True|1=>(toL (U 6)).take (toN (U 3))=((toL (qa ds 1)).take (toN (U 5))).map Y7|2=>(toL (U 5)).take (toN (U 3))=(toL (qa ds 1)).map Y7/\∃C,YQ (cel (qa ds 0) 1) ((toL (qa ds 1)).map Y7) (toL (U 6)) C|3=>(toL (U 8)).take (toN (U 3))=(toL (qa ds 1)).map Y7/\(∃C,YQ (cel (qa ds 0) 1) ((toL (qa ds 1)).map Y7) (toL (U 9)) C)/\(toL (U 11)).take (toN (U 5))=((toL (U 9)).take (toN (U 7))).map (qBi ((toL (qa ds 1)).map Y7))|k=>∀st,qg.sts[k]?=some st->4<=k->I3 ds st U) (Q:=qjq ds) ?_ ?_ h
 ·intro k st q U d hst hq hg hi ht;have h0:=hg.arg 0 (by decide);have h1:=hg.arg 1 (by decide);have h2:=hg.arg 2 (by decide);rcases k with _|_|_|_|k
  ·have hq:qtB=q:=by simpa using hq
   subst hq;simp[qtB,YP,YO,YA,T.den,T.un,T.bi,T.bk,Ym,h0,h1,h2,qUl,qUm,-List.getD_eq_getElem?_getD]at ht;rcases ht with⟨_,hn⟩|⟨he,_⟩
   ·refine hn ?_
    cases hl:toL (qa ds 1)with
    | nil=>rw[hl]at hlen; simp at hlen|cons x r=>rfl
   ·rw[he]at hlen; simp at hlen
  ·have hq:qtC=q:=by simpa using hq
   subst hq;simp[qtC,YP,YO,YA,T.den,T.un,T.bi,T.bk,Ym,h0,h1,h2,qUl,qUm,-List.getD_eq_getElem?_getD]at ht;cases hst;have i5:0<=toI (U 5):=hg.inv (.le (.i 0) (.v 5)) (by simp);have hi:(toL (U 6)).take (toN (U 3))=((toL (qa ds 1)).take (toN (U 5))).map Y7:=hi;rw[qPF hlen2]at ht;rcases ht with⟨hlt,hn⟩|⟨hge,⟨_,_,rfl⟩|⟨_,⟨_,_,rfl⟩|⟨_,hc,hn⟩⟩⟩
   ·have hlt:=of_decide_eq_true hlt;refine hn ?_;have e:(toI (U 5)+1).toNat=toN (U 5)+1:=by unfold toN; omega
    rw[qmX,hi,e,<-qUL];exact qBg (by unfold toN; omega)
   ·exact qBe hlen rfl
   ·exact qBe hlen rfl
   ·have hge:=of_decide_eq_false hge;have hall:(toL (U 6)).take (toN (U 3))=(toL (qa ds 1)).map Y7:=by
     rw[hi,qTX (by unfold toN; omega)]
    obtain⟨C,hC⟩:qmU _ _:=(hc qmW rfl).2.2;have this:=hC.norm;have gen:∀{V W X:List D},V=W->YQ (cel (qa ds 0) 1) V X C->YQ (cel (qa ds 0) 1) W X C:=fun e h=>e ▸ h
    exact hn hall C (gen hall this)
  ·have hq:qtD=q:=by simpa using hq
   subst hq;simp[qtD,YP,YO,YA,T.den,T.un,T.bi,T.bk,Ym,h0,h1,h2,qUl,qUm,-List.getD_eq_getElem?_getD]at ht;cases hst;obtain⟨i1,C,hC⟩:=hi;have hb:=qBh (n:=(toL (qa ds 1)).length) (hg.inv (.rows 2 (.v 6) (.u 0 0 (.v 6)) (.u 0 0 (.v 1))) (by simp)) (by show(toL (U 1)).length=_; rw[h1]);have h2L:2<=(toL (U 6)).length:=hg.inv (.nle (.i 2) (.u 0 0 (.v 6))) (by simp);rcases ht with⟨_,hn⟩|⟨he,_⟩
   ·refine hn i1 C hC ?_;have hb:∀o∈toL (U 6),0<=toI o/\toN o<(toL (qa ds 1)).length:=hb
    revert hb
    cases hL:toL (U 6)with
    | nil=>rw[hL]at h2L; simp at h2L|cons o r =>
     intro hb;have:=(hb o (by simp)).2;show[K.l.den ((toL (U 5)).getD (toN o) .nilp)]=[K.l.den (((toL (qa ds 1)).map Y7).getD (toN o) .nilp)];rw[qBf i1 (by rw[qTS]; exact this)]
   ·rw[he]at h2L; simp at h2L
  ·have hq:qtE=q:=by simpa using hq
   subst hq;simp[qtE,YP,YO,YA,T.den,T.un,T.bi,T.bk,Ym,h0,h1,h2,qUl,qUm,-List.getD_eq_getElem?_getD]at ht;cases hst;obtain⟨i1,⟨C,hC⟩,i3⟩:=hi;have hb:∀o∈toL (U 9),0<=toI o/\toN o<(toL (qa ds 1)).length:=qBh (n:=(toL (qa ds 1)).length) (hg.inv (.rows 2 (.v 9) (.u 0 0 (.v 9)) (.u 0 0 (.v 1))) (by simp)) (by show(toL (U 1)).length=_; rw[h1]);have i7:0<=toI (U 7):=hg.inv (.le (.i 0) (.v 7)) (by simp);rcases ht with⟨hlt,hn⟩|⟨hge,ht⟩
   ·have hlt:=of_decide_eq_true hlt;refine hn i1 C hC ?_;have e:(toI (U 7)+1).toNat=toN (U 7)+1:=by unfold toN; omega
    have hk:toN (U 7)<(toL (U 9)).length:=by unfold toN; omega
    have hm:(toL (U 9)).getD (toN (U 7)) .nilp∈toL (U 9):=by rw[zzG,qTE hk]; exact qTL _
    have:=(hb _ hm).2;rw[qmX,i3,e,<-qUL,qBf i1 (by rw[qTS]; exact this)];exact qBg hk
   ·have hge:=of_decide_eq_false hge;have hn7:¬toN (U 7)<(toL (U 9)).length:=by unfold toN; omega
    rcases ht with⟨_,hn⟩|⟨_,⟨_,hn⟩|⟨_,⟨_,hn⟩|⟨_,⟨_,hn⟩|⟨_,hn⟩⟩⟩⟩
    all_goals
     refine hn fun st hst=>?_
     cases hst;exact qPG hn7 i1 hC hb i3 rfl rfl rfl rfl rfl
  ·have hz:=qBc qPt (k:=k) (s:=st) (q:=q) (by rw[qUk,Nat.add_comm]; exact hst) (by simpa using hq);rw[qTM]at hz;rcases hz with hz|hz
   ·exfalso;unfold qtG at hz;rw[qTM]at hz;rcases hz with hz|hz
    ·have:(2:Nat)<=0:=qez hz hg.inv;omega
    ·simp only[qTC]at hz;have a:=qT5 hz.1;have b:=qez hz.2.1 hg.inv;have c:=qez hz.2.2 hg.inv;have b:2<=toN ((Jq st 11).den (wOf PP qk) U):=b;have c:toN ((Jq st 11).den (wOf PP qk) U)<=(YW st).length:=c;omega
   ·rw[qTC]at hz;refine qPE hp hg hz.1 (hi st hst (by omega)) (fun k' U' d' hk h hall=>?_) (dec:=[]) (fun p hp=>by cases hp) hz.2 ht;obtain⟨k',rfl⟩:∃m,k'=m+4:=⟨k' - 4,by omega⟩
    exact h fun st hst hk=>hall st hst hk
 ·intro d ht;simp[qA7,YP,YO,YA,T.den,T.un,T.bi,T.bk,Ym,qUl,qUm,-List.getD_eq_getElem?_getD]at ht;exact ht
def qPI {e:D} (h:qd (q5 301 301) e) (hv:qd Yr (cel e 7)):qd (qgz 301 301) e:=by
 obtain⟨cs,rfl,h⟩:=h;obtain⟨x0,r0,e0,a0,h⟩:=h;cases e0;obtain⟨x1,r1,e1,a1,h⟩:=h;cases e1;obtain⟨x2,r2,e2,a2,h⟩:=h;cases e2;obtain⟨x3,r3,e3,a3,h⟩:=h;cases e3;obtain⟨x4,r4,e4,a4,h⟩:=h;cases e4;obtain⟨x5,r5,e5,a5,h⟩:=h;cases e5;obtain⟨x6,r6,e6,a6,h⟩:=h;cases e6;obtain⟨x7,r7,e7,a7,h⟩:=h;cases e7;exact⟨_,rfl,_,_,rfl,a0,_,_,rfl,a1,_,_,rfl,a2,_,_,rfl,a3,_,_,rfl,a4,_,_,rfl,a5,_,_,rfl,a6,_,_,rfl,hv,h⟩
def qPJ:qm PP 301 qA6:=by
 intro ds hp;obtain⟨s,l,lev,rfl⟩:∃s l lev,ds=[s,l,lev]:=by
  match ds,hp.1.1 with
  | [a,b,c],_=>exact⟨a,b,c,rfl⟩
 have ts:qd (Yu 301 301) s:=hp.1.2 0 _ rfl;have tl:qd (.l 301 (q5 301 301)) l:=hp.1.2 1 _ rfl;have es:(Yu 301 301).form s=s:=YM rfl ts;obtain⟨L,rfl,hlL,htL⟩:=tl;have p1:17<=L.length:=hp.2 _ (qTR ..);have p2:L.length<=301:=hp.2 _ (qTG _ (qTR ..));have p3:0<=toI lev:=hp.2 _ (qTG _ (qTG _ (qTR ..)));have p4:=hp.2 _ (qTG _ (qTG _ (qTG _ (qTR ..))));have p5:toI (PW.wV 1000030 [(Yu 301 301).form s])<=0:=hp.2 _ (qTG _ (qTG _ (qTG _ (qTG _ (qTR ..)))));have p6:0<=toI (PW.wV 1000030 [(Yu 301 301).form s]):=hp.2 _ (qTG _ (qTG _ (qTG _ (qTG _ (qTG _ (qTR ..))))));rw[es]at p5 p6;have p0:toI (pk 30 qbl [s])=0:=qVM p5 p6;have pc:qG qbl [s]:=⟨⟨rfl,fun i y hy=>by
  rcases i with _|i
  ·cases hy;exact Y.sub_ok (a:=Yu 301 301) (by decide) ts
  ·cases i<;>cases hy⟩,fun f hf=>by cases hf⟩
 have hck:=(qmG (g:=30) rfl (@qAL pw0) pc).1.1.2;have z:(toI (pk 30 qbl [s])==0)=true:=by rw[p0]; rfl
 have k1:1<=toI (cel s 0):=hck qbl.post[0] (qTL _) z;have k2:1<=toI (cel s 1):=hck qbl.post[1] (qTL _) z;have k3:toI (cel s 1)<=3:=hck qbl.post[2] (qTL _) z;have hel:∀e∈L,qd Yr (cel e 7)/\1<=(toL (cel e 7)).length/\(toL (cel e 7)).length=toN (cel s 0):=by
  intro e he;have te:=htL e he;have ee:(q5 301 301).form e=e:=YM rfl te;obtain⟨j,hj,rfl⟩:=qUu he;have r:=p4 j hj hj;have r:Yk 920 ((Yu 301 301).form s) (L.getD j .nilp):=r;rw[zzG,qTE hj,es]at r;have a:=r (false,qgA (.v 1) (.v 0),.i 0) (qTR ..);have b:=r (false,.i 0,qgA (.v 1) (.v 0)) (qTG _ (qTR ..));have a:toI (pk 212 JH [(Yu 301 301).form s,(q5 301 301).form L[j]])<=0:=a;have b:0<=toI (pk 212 JH [(Yu 301 301).form s,(q5 301 301).form L[j]]):=b;rw[es,ee]at a b;have pe:qG JH [s,L[j]]:=⟨⟨rfl,fun i y hy=>by
   rcases i with _|_|i
   ·cases hy; exact ts
   ·cases hy; exact te
   ·cases i<;>cases hy⟩,fun f hf=>by cases hf⟩
  have hen:=(qmG (g:=212) rfl (@qtp pw0) pe).1.1.2;have z:(toI (pk 212 JH [s,L[j]])==0)=true:=by rw[qVM a b]; rfl
  have q1:qd Yr (cel L[j] 7):=hen JH.post[0] (qTL _) z;have q2:1<=(toL (cel L[j] 7)).length:=hen JH.post[1] (qTL _) z;have q3:(toL (cel L[j] 7)).length<=toN (cel s 0):=hen JH.post[2] (qTL _) z;have q4:toN (cel s 0)<=(toL (cel L[j] 7)).length:=hen JH.post[3] (qTL _) z;exact⟨q1,q2,by omega⟩
 have hp':qG qaq [s,.list L,lev]:=by
  refine⟨hp.1,fun f hf=>?_⟩;simp only[qaq,qTD,qTJ,or_false]at hf;rcases hf with rfl|rfl|rfl|rfl|rfl|rfl|rfl|rfl
  ·exact p1
  ·exact p2
  ·exact p3
  ·exact k1
  ·exact k2
  ·exact k3
  ·intro j hj;have hj:j<L.length:=hj;show qd (qgz 301 301) (L.getD j .nilp);rw[zzG,qTE hj];exact qPI (htL _ (qTL _)) (hel _ (qTL _)).1
  ·intro j _ hj;have hj:j<L.length:=hj;have:=hel _ (qTL hj);show Yk 905 (cel s 0) (L.getD j .nilp);rw[zzG,qTE hj];show ∀p∈([(true,.v 1,.u 0 0 (.u 1 7 (.v 0))),(true,.u 0 0 (.u 1 7 (.v 0)),.v 1),(true,.i 1,.u 0 0 (.u 1 7 (.v 0)))]:List (Bool×T×T)),qaE L[j] (toN (cel s 0)) p;intro p hp;simp only[qTD,qTJ,or_false]at hp;rcases hp with rfl|rfl|rfl
   ·show toN (cel s 0)<=(toL (cel L[j] 7)).length;omega
   ·show(toL (cel L[j] 7)).length<=toN (cel s 0);omega
   ·show 1<=(toL (cel L[j] 7)).length;omega
 obtain⟨d,⟨⟨⟨h1,h2⟩,_⟩,h3⟩,hev⟩:=qPr _ hp';obtain⟨g1,g2,g3⟩:=qPH hp' hev;have g1:Yo 0 (toL d)=L.length:=g1;refine⟨d,⟨⟨h1,fun f hf=>?_⟩,trivial⟩,h3⟩;rcases qTH.1 hf with hf|hf
 ·exact h2 f hf
 ·simp only[qTD,qTJ,or_false]at hf;rcases hf with rfl|rfl|rfl|rfl
  ·show(Yo 0 (toL d):Int)<=(L.length:Int);omega
  ·show(L.length:Int)<=(Yo 0 (toL d):Int);omega
  ·intro j _ hj;have hj:j<(toL d).length:=hj;show Yk 913 (N64 L.length) ((toL d).getD j .nilp);rw[zzG,qTE hj];show ∀p∈([(true,.i 1,.u 0 0 (.v 0)),(true,.w 8 (.u 0 0 (.v 0)) (.i 1),.v 1)]:List (Bool×T×T)),qaE (toL d)[j] L.length p;obtain⟨q1,q2⟩:=g2 _ (qTL hj);intro p hp;simp only[qTD,qTJ,or_false]at hp;rcases hp with rfl|rfl
   ·exact q1
   ·exact q2
  ·intro hl j _ hj;have hj:j<(toL d).length:=hj;have hl:decide (toI lev>=12)=true:=hl;show Yk 914 (N64 L.length) ((toL d).getD j .nilp);rw[zzG,qTE hj];show ∀p∈([(true,.u 8 2 (.u 0 0 (.v 0)),.w 8 (.v 1) (.i 1))]:List (Bool×T×T)),qaE (toL d)[j] L.length p;have q:=g3 (of_decide_eq_true hl) _ (qTL hj);intro p hp;simp only[qTD,qTJ,or_false]at hp;subst hp;exact q
end Go.Aev.R29
end
