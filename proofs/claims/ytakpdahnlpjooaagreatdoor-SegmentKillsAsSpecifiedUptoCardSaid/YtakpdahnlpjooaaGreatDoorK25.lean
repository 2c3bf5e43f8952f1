/- Lemmas: a machine that the model follows, and contracts. Conditions: none. -/
import Derived.Test.YtakpdahnlpjooaaGreatDoorT29bld26
import Derived.Test.YtakpdahnlpjooaaGreatDoorT29sorted29
set_option linter.all false
set_option maxRecDepth 1000000
set_option maxHeartbeats 0
noncomputable section
namespace Go.Aev.R29
open Go Go.Aev Go.Aev.R
def qtc:Con:={pts:=[Zw,ZK,Zv],pre:=[.nle Zx ZR],rts:=[qlE],post:=[]}
def qNn:RFn:=mF 144 qtc []
def qNo:Tab:=[(140,qfU),(219,qt7),(218,qae)]
def qNp:qm PP 144 qtc:=(fe qNn qNo (qj qt6 (qj qS5 (qj qNh (qo)))) (by kernel_rfl) ⟨fun U=>by kernel_rfl,trivial⟩).ok
def qtb:Con:={pts:=Zfh,pre:=[Zcj,.le Zd ZaE],rts:=[qlE],post:=[]}
def qNk:RFn:=mF 145 qtb [⟨7,[Zs,ZcK,(3,ZbP),Zbg,(8,ZcM),(9,ZcL),(10,ZbQ)],[Zq,ZiF],Zfh,[.bool (.w 10 Zd Zg) false,.bool (.w 12 Zd ZaE) false],(Za,.w 1 Zx Za,Zk,Za,Za,Za)⟩,⟨7,[Zs,ZcK,(3,ZbP),Zbg,(8,ZcM),(9,.o (.sl 2 12 Za Zf Zj false)),(10,.o (.c (.i .i64) Zt))],[Zq,ZiF,.dat 12 Zh false],[Zw,ZK,Zv,.i .i64,.i .i64,.i .i64,.i .i64,Zd9],[.rows 904 Zh Zcg ZG,.le Zd2 Zt,ZgQ,Zdt],(Za,.w 1 Zx Zt,Zk,Za,Za,Za)⟩]
def qNl:Tab:=[(220,qjj),(221,qnt)]
def qNm:qm PP 145 qtb:=(fe qNk qNl (qj qta (qj qBk (qo))) (by kernel_rfl) (by refine⟨?_,?_,?_,trivial⟩<;>intro<;>kernel_rfl)).ok
def qs7:Con:={pts:=[.i .i64,Z1,Yr,.i .i64],pre:=[.rows 0 Zc Zi Zx],rts:=[ZP],post:=[]}
def qMR:RFn:=mF 223 qs7 [⟨3,[ZaX,Zs,ZcK,(3,ZbP),(9,ZcL),Zfc],[],[.i .i64,Z1,Yr,.i .i64,.i .i64],[Zbf],(Za,.w 1 Zi Zf,Zk,Za,Za,Za)⟩,⟨3,[ZaX,Zs,ZcK,(3,ZbP),(9,.o (.sl 0 1 Za Zf Zj false)),(10,.o (.c (.i .i64) Zt))],[Zd1],[.i .i64,Z1,Yr,.i .i64,.i .i64,.i .i64,.i .i64,ZP],[ZgQ,Zdt,.le Zd2 Zt],(Za,.w 1 Zi Zt,Zk,Za,Za,Za)⟩]
def qMS:Tab:=[(222,qeA)]
def qMT:qm PP 223 qs7:=(fe qMR qMS (qj qmI (qo)) (by kernel_rfl) (by refine⟨?_,?_,?_,trivial⟩<;>intro<;>kernel_rfl)).ok
def qtd:Con:={pts:=Zfq,pre:=[],rts:=[qIS 301 301],post:=[]}
def qhc:RFn:=mF 146 qtd [⟨5,[ZaX,Zs,ZaO,ZbV,(7,ZcM),(8,ZbQ)],[Zcl,.box [.nil] false],Zfq,[Zcm,Zfr,Zbr,Zcn],(Za,Zfs,Zk,Za,Za,Za)⟩,⟨9,[ZaX,Zs,ZaO,ZbV,(7,ZcM),(8,ZbQ),(9,ZbP),Zfc],[Zcl,.box [.nil] false],[.i .i64,ZK,.i .i64,.i .i64,.i .i64],[Zbf,Zcm,Zfr,.bool Zft true,Zbr,Zcn],(Za,Zfs,Za,.w 1 Zi Zf,Zk,Za)⟩,⟨5,[ZaX,Zs,ZaO,ZbV,(7,ZcM),(8,ZbP)],[Zcl,.box [.sl 2 2 Za Zf Zj false] false,.dat 2 Zt false],[.i .i64,ZK,.i .i64,.i .i64,.i .i64,.i .i64,.l 301 (qdi 301 301)],[Zcj,Zg5,Zdt,.le Zd2 Zd,Zcm,Zfr,.le Zd Zd2,Zbr,Zcn],(Za,Zg6,Zk,Za,Za,Za)⟩,⟨9,[ZaX,Zs,ZaO,ZbV,(7,ZcM),(8,ZbP),(9,.o ZgP),(10,Zdy)],[Zcl,.box [.sl 2 2 Za Zt Zh false] false,.dat 2 Z9 false],[.i .i64,ZK,.i .i64,.i .i64,.i .i64,.i .i64,.i .i64,.i .i64,.l 301 (qdi 301 301)],[.lt Zd Zi,Zea,.nle (.w 8 Za Zt) ZbU,.nle Zh Zt,.le (.u 4 0 Zt) Zd,Zcm,Zfr,.le Zd (.u 4 0 Zt),Zbr,Zcn],(Za,Zg6,Za,Zg7,Zk,Za)⟩]
def qhd:Tab:=[(215,qjv),(216,qjo),(222,qeA),(223,qs7)]
def qNq:qbh PP qhc qhd=true:=by kernel_rfl
def qNr:chX PP qhc qhd 0=true:=by kernel_rfl
def qNs:chX PP qhc qhd 1=true:=by kernel_rfl
def qNt:chX PP qhc qhd 2=true:=by kernel_rfl
def qNu:chX PP qhc qhd 3=true:=by kernel_rfl
def qNv:qm PP 146 qtd:=(fe qhc qhd (qj qtX (qj qty (qj qmI (qj qMT (qo))))) (qb8 qNq ⟨qNr,qNs,qNt,qNu,trivial⟩) (by refine⟨?_,?_,?_,?_,?_,trivial⟩<;>intro<;>kernel_rfl)).ok
def qte (ds:List D) (d:D):Prop:=toI (cel d 17)=0->qcP (toL (qa ds 3))
def qjk:Con:={pts:=[Zw,.i .i64,.i .i64,Zv],pre:=[.nle Zam ZR],rts:=[qIV],post:=[.imp (.w 14 (.u 1 17 Zf) Za) Zeb]}
def qaI:RFn:=mF 79 qjk [⟨8,[ZbW,ZaO,Zbg,(8,ZcM),(10,.o Zfm),(11,Zdy)],[Zq,Zg9],[Zw,.i .i64,.i .i64,Zv,Zv,.i .i64],[.le ZL ZR,.le Zg Zj,.le Zj ZL,ZiG,ZiH,ZiI,Zdz,.rows 920 Zd Zam ZS,ZbS,ZbT,ZiJ,Zeb],(Zg,.w 1 ZL Zj,Zk,Za,Za,Za)⟩,⟨16,[ZbW,Zbg,(8,ZcM),(10,.o Zfm),(12,ZcV),(13,.o Zec),ZcW],[Zq,Zg9,.box [Zg8,Zg4,.nil,Zp,.nil,.nil,.nil,Zp,Zp,Zp,Zp,Zp,.nil,.nil,.nil,.nil,.sl 3 1 Za ZL ZL true] false,ZiK],[Zw,.i .i64,.i .i64,Zv,Zv,ZP],[.le ZL ZR,.rows 2 Zj Zan ZL,ZcX,ZiG,ZiH,ZiI,Zdz,.rows 920 Zd Zam ZS,ZbS,ZbT,ZiJ,Zeb],(Za,.w 1 Zan Za,Zk,Za,Za,Za)⟩,⟨16,[ZbW,Zbg,(8,ZcM),(10,.o Zfm),(12,ZcV),(13,.o Zec),(14,.o (.c (.i .i64) Zt))],[Zq,Zg9,.box [Zg8,Zg4,ZiL,Zp,.nil,.nil,.nil,Zp,Zp,Zp,Zp,Zp,.nil,.nil,.nil,.nil,.sl 4 1 Za ZL ZL true] false,ZM,ZiK],[Zw,.i .i64,.i .i64,Zv,Zv,ZP,.i .i64,.i .i64,.i .i64,ZK],[.le ZL ZR,.rows 2 Zj Zan ZL,ZiM,Zhb,.le Zfu Zt,Zeb],(Za,.w 1 Zan Zt,Zk,Za,Za,Za)⟩]
def JG:Tab:=[(140,qfU),(141,qut),(143,quD),(142,qmW),(144,qtc),(145,qtb),(146,qtd)]
def qNw:qbh PP qaI JG=true:=by kernel_rfl
def qNx:lqX PP qaI JG 0 0=true:=by kernel_rfl
def qNy:lqX PP qaI JG 0 1=true:=by kernel_rfl
def qNz:lqX PP qaI JG 0 2=true:=by kernel_rfl
def qNA:lqX PP qaI JG 0 3=true:=by kernel_rfl
def qNB:lqX PP qaI JG 0 4=true:=by kernel_rfl
def qNC:lqX PP qaI JG 0 5=true:=by kernel_rfl
def qND:lqX PP qaI JG 0 6=true:=by kernel_rfl
def qNE:chX PP qaI JG 0=true:=qiH (n:=7) (by kernel_rfl) ⟨qND,qNC,qNB,qNA,qNz,qNy,qNx,trivial⟩
def qNF:chX PP qaI JG 1=true:=by kernel_rfl
def qNG:chX PP qaI JG 2=true:=by kernel_rfl
def qNH:qH PP 79 qjk (Ev0 PP qaI JG):=fe qaI JG (qj qt6 (qj qXR (qj qYU (qj qAS (qj qNp (qj qNm (qj qNv (qo)))))))) (qb8 qNw ⟨qNE,qNF,qNG,trivial⟩) (by refine⟨?_,?_,?_,?_,trivial⟩<;>intro<;>kernel_rfl)
def qtf:Con:={qjk with post:=qjk.post++[],fact:=qte}
def qNI:TQ:=.fork (.w 10 Zc Zg) (.done [] (.u 2 0 (.w 4 ZE (.w 4 ZE (.w 4 .z (.w 4 ZE (.w 4 .z (.w 4 .z (.w 4 .z (.w 4 ZE (.w 4 ZE (.w 4 ZE (.w 4 ZE (.w 4 ZE (.w 4 .z (.w 4 .z (.w 4 .z (.w 4 .z (.w 4 .z ZiN))))))))))))))))))) (.fork (.w 12 Zc Zai) (.done [] (.u 2 0 (.w 4 ZE (.w 4 ZE (.w 4 .z (.w 4 ZE (.w 4 .z (.w 4 .z (.w 4 .z (.w 4 ZE (.w 4 ZE (.w 4 ZE (.w 4 ZE (.w 4 ZE (.w 4 .z (.w 4 .z (.w 4 .z (.w 4 .z (.w 4 .z ZiN))))))))))))))))))) (.fork (.w 10 Zb Za) (.done [] (.u 2 0 (.w 4 ZE (.w 4 ZE (.w 4 .z (.w 4 ZE (.w 4 .z (.w 4 .z (.w 4 .z (.w 4 ZE (.w 4 ZE (.w 4 ZE (.w 4 ZE (.w 4 ZE (.w 4 .z (.w 4 .z (.w 4 .z (.w 4 .z (.w 4 .z ZiN))))))))))))))))))) (.fork Zha (.done [] (.u 2 0 (.w 4 ZE (.w 4 ZE (.w 4 .z (.w 4 ZE (.w 4 .z (.w 4 .z (.w 4 .z (.w 4 ZE (.w 4 ZE (.w 4 ZE (.w 4 ZE (.w 4 ZE (.w 4 .z (.w 4 .z (.w 4 .z (.w 4 .z (.w 4 .z ZiN))))))))))))))))))) (.fork (.w 15 ZiO Za) (.done [(140,[ZS,.z,.mk .l Zd])] (.u 2 0 (.w 4 ZE (.w 4 ZE (.w 4 .z (.w 4 ZE (.w 4 .z (.w 4 .z (.w 4 .z (.w 4 ZE (.w 4 ZE (.w 4 ZE (.w 4 ZE (.w 4 ZE (.w 4 .z (.w 4 .z (.w 4 .z (.w 4 .z (.w 4 .z (.w 4 (.mk (.i .i64) ZiO) .z)))))))))))))))))))) (.next [(140,[ZS,.z,.mk .l Zd]),(141,[.mk .l Zd])] 0 [Ze,Zc,Zb,Zd,.u 3 141 (.w 4 (.mk .l Zd) .z),Zg])))))
def qAI:TQ:=.fork (.w 10 Zj ZL) (.fork (.w 14 (.u 1 0 (.w 3 Zf Zj)) (.u 1 0 ZiP)) (.fork (.w 14 (.u 1 1 (.w 3 Zf Zj)) (.u 1 1 ZiP)) (.done [] (.u 2 0 (.w 4 ZE (.w 4 ZE (.w 4 .z (.w 4 ZE (.w 4 .z (.w 4 .z (.w 4 .z (.w 4 ZE (.w 4 ZE (.w 4 ZE (.w 4 ZE (.w 4 ZE (.w 4 .z (.w 4 .z (.w 4 .z (.w 4 .z (.w 4 .z (.w 4 Zfv .z)))))))))))))))))))) (.next [] 0 [Ze,Zc,Zb,Zd,Zf,Zed])) (.next [] 0 [Ze,Zc,Zb,Zd,Zf,Zed])) (.fork (.w 12 Zb Za) (.next [(143,[ZcY]),(142,[Zad,Zfx,Zbs])] 1 [Ze,Zc,Zb,Zd,Zf,.u 1 0 (.u 3 142 (.w 4 Zad (.w 4 Zfx (.w 4 Zbs .z))))]) (.fork (.w 14 Zc ZT) (.done [(144,[ZS,.z,ZcY])] (.u 2 0 (.w 4 Zag (.w 4 Zbs (.w 4 .z (.w 4 (.mk (.i .i64) (.u 1 0 Za1)) (.w 4 (.mk .l (.u 1 1 Za1)) (.w 4 (.mk .l (.u 1 2 Za1)) (.w 4 (.mk .l (.u 1 3 Za1)) (.w 4 (.mk (.i .i64) (.u 1 4 Za1)) (.w 4 (.mk (.i .i64) (.u 1 5 Za1)) (.w 4 (.mk (.i .i64) (.u 1 6 Za1)) (.w 4 (.mk (.i .i64) (.u 1 7 Za1)) (.w 4 (.mk (.i .i64) (.u 1 8 Za1)) (.w 4 (.mk .l (.u 1 9 Za1)) (.w 4 (.mk .l (.u 1 10 Za1)) (.w 4 (.mk .l (.u 1 11 Za1)) Zfy))))))))))))))))) (.fork (.w 14 Zc Zai) (.done [(145,[ZS,.z,ZcY,Zhc]),(143,[ZcY]),(146,[Zad,Zfx,.mk (.i .i64) Zaf])] (.u 2 0 (.w 4 Zag (.w 4 Zbs (.w 4 .z (.w 4 ZiR (.w 4 (.mk .l (.u 1 1 Za2)) (.w 4 (.mk .l (.u 1 2 Za2)) (.w 4 (.mk .l (.u 1 3 Za2)) (.w 4 ZiS (.w 4 ZiT (.w 4 ZiU (.w 4 ZiV (.w 4 ZiW (.w 4 (.mk .l (.u 1 9 Za2)) (.w 4 (.mk .l (.u 1 10 Za2)) (.w 4 (.mk .l (.u 1 11 Za2)) ZiX))))))))))))))))) (.done [(145,[ZS,.z,ZcY,Zhc])] (.u 2 0 (.w 4 Zag (.w 4 Zbs (.w 4 .z (.w 4 ZiR (.w 4 (.mk .l (.u 1 1 Za2)) (.w 4 (.mk .l (.u 1 2 Za2)) (.w 4 (.mk .l (.u 1 3 Za2)) (.w 4 ZiS (.w 4 ZiT (.w 4 ZiU (.w 4 ZiV (.w 4 ZiW (.w 4 (.mk .l (.u 1 9 Za2)) (.w 4 (.mk .l (.u 1 10 Za2)) (.w 4 (.mk .l (.u 1 11 Za2)) Zfy))))))))))))))))))))
def qAJ:TQ:=.fork (.w 10 Za Zan) (.next [] 2 [Ze,Zc,Zb,Zd,Zf,Zj,ZcZ,.u 0 0 ZiY,.u 0 0 ZiY,ZiY]) (.fork (.w 14 Zc ZT) (.done [(144,[ZS,.z,ZcY])] (.u 2 0 (.w 4 Zag (.w 4 Zbs (.w 4 .z (.w 4 (.mk (.i .i64) (.u 1 0 Za1)) (.w 4 (.mk .l (.u 1 1 Za1)) (.w 4 (.mk .l (.u 1 2 Za1)) (.w 4 (.mk .l (.u 1 3 Za1)) (.w 4 (.mk (.i .i64) (.u 1 4 Za1)) (.w 4 (.mk (.i .i64) (.u 1 5 Za1)) (.w 4 (.mk (.i .i64) (.u 1 6 Za1)) (.w 4 (.mk (.i .i64) (.u 1 7 Za1)) (.w 4 (.mk (.i .i64) (.u 1 8 Za1)) (.w 4 (.mk .l (.u 1 9 Za1)) (.w 4 (.mk .l (.u 1 10 Za1)) (.w 4 (.mk .l (.u 1 11 Za1)) Zfy))))))))))))))))) (.fork (.w 14 Zc Zai) (.done [(145,[ZS,.z,ZcY,Zhc]),(143,[ZcY]),(146,[Zad,Zfx,.mk (.i .i64) Zaf])] (.u 2 0 (.w 4 Zag (.w 4 Zbs (.w 4 .z (.w 4 ZiR (.w 4 (.mk .l (.u 1 1 Za2)) (.w 4 (.mk .l (.u 1 2 Za2)) (.w 4 (.mk .l (.u 1 3 Za2)) (.w 4 ZiS (.w 4 ZiT (.w 4 ZiU (.w 4 ZiV (.w 4 ZiW (.w 4 (.mk .l (.u 1 9 Za2)) (.w 4 (.mk .l (.u 1 10 Za2)) (.w 4 (.mk .l (.u 1 11 Za2)) ZiX))))))))))))))))) (.done [(145,[ZS,.z,ZcY,Zhc])] (.u 2 0 (.w 4 Zag (.w 4 Zbs (.w 4 .z (.w 4 ZiR (.w 4 (.mk .l (.u 1 1 Za2)) (.w 4 (.mk .l (.u 1 2 Za2)) (.w 4 (.mk .l (.u 1 3 Za2)) (.w 4 ZiS (.w 4 ZiT (.w 4 ZiU (.w 4 ZiV (.w 4 ZiW (.w 4 (.mk .l (.u 1 9 Za2)) (.w 4 (.mk .l (.u 1 10 Za2)) (.w 4 (.mk .l (.u 1 11 Za2)) Zfy)))))))))))))))))))
def qAK:TQ:=.fork (.w 10 Zt Zan) (.next [] 2 [Ze,Zc,Zb,Zd,Zf,Zj,.w 0 Zt Zg,.w 8 Zh (.u 0 0 ZiZ),.w 8 Zh (.u 0 0 ZiZ),.w 5 Zco ZiZ]) (.fork (.w 14 Zc ZT) (.done [(144,[ZS,Zco,ZcY])] (.u 2 0 (.w 4 Zag (.w 4 Zbs (.w 4 Zco (.w 4 (.mk (.i .i64) (.u 1 0 Za3)) (.w 4 (.mk .l (.u 1 1 Za3)) (.w 4 (.mk .l (.u 1 2 Za3)) (.w 4 (.mk .l (.u 1 3 Za3)) (.w 4 (.mk (.i .i64) (.u 1 4 Za3)) (.w 4 (.mk (.i .i64) (.u 1 5 Za3)) (.w 4 (.mk (.i .i64) (.u 1 6 Za3)) (.w 4 (.mk (.i .i64) (.u 1 7 Za3)) (.w 4 (.mk (.i .i64) (.u 1 8 Za3)) (.w 4 (.mk .l (.u 1 9 Za3)) (.w 4 (.mk .l (.u 1 10 Za3)) (.w 4 (.mk .l (.u 1 11 Za3)) Zfy))))))))))))))))) (.fork (.w 14 Zc Zai) (.done [(145,[ZS,Zco,ZcY,Zhc]),(143,[ZcY]),(146,[Zad,Zfx,.mk (.i .i64) Zaf])] (.u 2 0 (.w 4 Zag (.w 4 Zbs (.w 4 Zco (.w 4 Zi0 (.w 4 (.mk .l (.u 1 1 Za4)) (.w 4 (.mk .l (.u 1 2 Za4)) (.w 4 (.mk .l (.u 1 3 Za4)) (.w 4 Zi1 (.w 4 Zi2 (.w 4 Zi3 (.w 4 Zi4 (.w 4 Zi5 (.w 4 (.mk .l (.u 1 9 Za4)) (.w 4 (.mk .l (.u 1 10 Za4)) (.w 4 (.mk .l (.u 1 11 Za4)) ZiX))))))))))))))))) (.done [(145,[ZS,Zco,ZcY,Zhc])] (.u 2 0 (.w 4 Zag (.w 4 Zbs (.w 4 Zco (.w 4 Zi0 (.w 4 (.mk .l (.u 1 1 Za4)) (.w 4 (.mk .l (.u 1 2 Za4)) (.w 4 (.mk .l (.u 1 3 Za4)) (.w 4 Zi1 (.w 4 Zi2 (.w 4 Zi3 (.w 4 Zi4 (.w 4 Zi5 (.w 4 (.mk .l (.u 1 9 Za4)) (.w 4 (.mk .l (.u 1 10 Za4)) (.w 4 (.mk .l (.u 1 11 Za4)) Zfy)))))))))))))))))))
def qNJ:qN PP qaI JG=[qNI,qAI,qAJ,qAK]:=by kernel_rfl
def qNK {v x:D} (hv:qd (Yu 301 301) v) (hx:qd (q5 301 301) x) (h:Yk 920 ((Yu 301 301).form v) x):1<=toI (cel x 6):=by
 have e1:(Yu 301 301).form v=v:=YM (by rfl) hv;have e2:(q5 301 301).form x=x:=YM (by rfl) hx;have h:∀p∈RT.tm 17,qfu x ((Yu 301 301).form v) p:=h;have h1:qfu x ((Yu 301 301).form v) (false,qgA (.v 1) (.v 0),.i 0):=h _ qTR;have h2:qfu x ((Yu 301 301).form v) (false,.i 0,qgA (.v 1) (.v 0)):=h _ (qTG _ qTR);have h1:toI (pk 212 JH [(Yu 301 301).form ((Yu 301 301).form v),(q5 301 301).form x])<=0:=h1;have h2:0<=toI (pk 212 JH [(Yu 301 301).form ((Yu 301 301).form v),(q5 301 301).form x]):=h2;rw[e1,e1,e2]at h1 h2;obtain⟨⟨⟨_,hr⟩,_⟩,_⟩:=qmG (c:=JH) rfl (@qtp pw0) (ds:=[v,x]) ⟨⟨rfl,fun i y hy=>by
  match i,hy with
  | 0,hy=>cases hy; exact hv
  | 1,hy=>cases hy; exact hx
  | i+2,hy=>cases hy⟩,fun f hf=>by cases hf⟩
 have hb:=hr _ (qTL (l:=JH.post) (n:=4) (by decide));have hb:(toI (pk 212 JH [v,x])==0)=true->1<=toI (cel x 6):=hb;exact hb (beq_iff_eq.2 (qVM h1 h2))
structure qfM (l S:List D) (k:Int):Prop where
 p:S.Perm l
 s:S.Pairwise leE
 k1:1<=k
 a:∀j,j+1<k.toNat->j+1<S.length->qdp (S.getD (j+1) .nilp) (S.getD j .nilp)
 b:qzB l
def qfM.next {l S:List D} {k:Int} (h:qfM l S k) (hd:qdp (S.getD k.toNat .nilp) (S.getD (k - 1).toNat .nilp)):qfM l S (k+1):=by
 obtain⟨p,s,k1,a,b⟩:=h;refine⟨p,s,by omega,fun j hj hl=>?_,b⟩
 by_cases e:j+1=k.toNat
 ·rw[e,show j=(k - 1).toNat by omega]; exact hd
 ·exact a j (by omega) hl
def qfM.done {l S:List D} {k:Int} (h:qfM l S k) (hk:¬k<((S.length:Nat):Int)):qcP l :=
 ⟨(qKL h.s fun j hj=>h.a j (by have:=h.k1; omega) hj).perm h.p,h.b⟩
def qNL {ds:List D} {d:D} (hp:qG qjk ds) (h:Ev0 PP qaI JG ds d):qte ds d:=by
 refine Yc qNJ (I:=fun k U=>match k with
  | 0=>qfM (toL (qa ds 3)) (toL (U 4)) (toI (U 5))|_=>qcP (toL (qa ds 3))) (Q:=fun d=>toI (cel d 17)=0->qcP (toL (qa ds 3))) ?_ ?_ h
 ·intro k st q U d hst hq hg hi ht;rcases k with _|_|_|k
  ·have hq:qAI=q:=by simpa using hq
   subst hq;have hi:qfM (toL (qa ds 3)) (toL (U 4)) (toI (U 5)):=hi;rcases ht with⟨c,⟨c1,⟨c2,_,rfl⟩|⟨c2,_,hn⟩⟩|⟨c1,_,hn⟩⟩|⟨c,ht⟩
   ·intro h6;have h6:(6:Int)=0:=h6;exact absurd h6 (by decide)
   ·have c2:(toI (cel ((toL (U 4)).getD (toI (U 5)).toNat .nilp) 1)==toI (cel ((toL (U 4)).getD (toI (U 5) - 1).toNat .nilp) 1))=false:=c2;exact hn (hi.next fun h=>beq_eq_false_iff_ne.1 c2 h.2)
   ·have c1:(toI (cel ((toL (U 4)).getD (toI (U 5)).toNat .nilp) 0)==toI (cel ((toL (U 4)).getD (toI (U 5) - 1).toNat .nilp) 0))=false:=c1;exact hn (hi.next fun h=>beq_eq_false_iff_ne.1 c1 h.1)
   ·have c:decide (toI (U 5)<(((toL (U 4)).length:Nat):Int))=false:=c;have good:=hi.done (of_decide_eq_false c);rcases ht with⟨_,_,hn⟩|⟨_,⟨_,_,rfl⟩|⟨_,⟨_,_,rfl⟩|⟨_,_,rfl⟩⟩⟩
    ·exact hn good
    ·exact fun _=>good
    ·exact fun _=>good
    ·exact fun _=>good
  ·have hq:qAJ=q:=by simpa using hq
   subst hq;have good:qcP (toL (qa ds 3)):=hi;rcases ht with⟨_,_,hn⟩|⟨_,⟨_,_,rfl⟩|⟨_,⟨_,_,rfl⟩|⟨_,_,rfl⟩⟩⟩
   ·exact hn good
   ·exact fun _=>good
   ·exact fun _=>good
   ·exact fun _=>good
  ·have hq:qAK=q:=by simpa using hq
   subst hq;have good:qcP (toL (qa ds 3)):=hi;rcases ht with⟨_,_,hn⟩|⟨_,⟨_,_,rfl⟩|⟨_,⟨_,_,rfl⟩|⟨_,_,rfl⟩⟩⟩
   ·exact hn good
   ·exact fun _=>good
   ·exact fun _=>good
   ·exact fun _=>good
  ·simp at hq
 ·intro d ht;have one:∀{d:D},toI (cel d 17)=1->toI (cel d 17)=0->qcP (toL (qa ds 3)):=fun h1 h0=>by rw[h1]at h0; exact absurd h0 (by decide)
  rcases ht with⟨_,_,rfl⟩|⟨_,⟨_,_,rfl⟩|⟨_,⟨_,_,rfl⟩|⟨_,⟨_,_,rfl⟩|⟨_,ht⟩⟩⟩⟩
  ·exact one rfl
  ·exact one rfl
  ·exact one rfl
  ·exact one rfl
  ·rcases ht with⟨c,_,rfl⟩|⟨c,⟨h140,h141,_⟩,hn⟩
   ·intro h0;have c:(toI (cel (wOf PP JG 140 _) 10) != 0)=true:=c;have h0:toI (cel (wOf PP JG 140 _) 10)=0:=h0;rw[h0]at c;exact absurd c (by decide)
   ·have c:(toI (cel (wOf PP JG 140 _) 10) != 0)=false:=c;obtain⟨hpre,⟨_,hr⟩,_⟩:=h140 qfU rfl;have h9:=hr _ (qTL (l:=qfU.post) (n:=4) (by decide));have hE:=h9 (by
     show(toI (cel (wOf PP JG 140 _) 10)==0)=true;rw[bne,Bool.not_eq_false']at c;exact c)
    have hS:qow [.list (toL (qa ds 3))] (wOf PP JG 141 [.list (toL (qa ds 3))]):=(h141 qut rfl).2.2;refine hn ⟨hS.1,hS.2,by show(1:Int)<=1; decide,fun j hj=>?_,fun j hj=>?_⟩
    ·have hj:j+1<1:=hj;omega
    ·have hb:=hE j hj hj;refine qNK (v:=(Yu 301 301).form (qa ds 0)) ?_ ?_ hb
     ·exact hpre.1.2 0 _ rfl
     ·obtain⟨es,he,_,h2⟩:qd (.l 301 (q5 301 301)) (qa ds 3):=hp.1.2 3 _ rfl;rw[he]at hj ⊢;show qd _ (es.getD j .nilp);have hj:j<es.length:=hj;rw[zzG,qTE hj];exact h2 _ (qTL hj)
def qNM:qm PP 79 qtf:=qNH.more fun ds d hp _ h=>⟨fun f hf=>(by cases hf),qNL hp h⟩
def qfZ:Con:={pts:=[Zw,ZK,ZdZ,.i .i64],pre:=[.le Zd (.i 100)],rts:=[.b],post:=[.imp Zf (.has Zb qlD),.imp Zf Zgk,.imp Zf Zgj]}
def qoK:RFn:={g:=147,con:=qfZ,wr:=false,pn:=14,rec':={ms:=[(147,Zd)],cur:=Zd},sts:=[{id:=9,env:=[Zs,(3,ZbP),Zbg,(6,ZcM),Zfc],rows:=[Zq,.box [Zh3,.c .l (.u 1 1 Zb),.c .l (.u 1 2 Zb),.c .l (.u 1 3 Zb),ZaT,Zcx,ZaU,.c (.i .i64) ZeX,Zkc,.c .l (.u 1 9 Zb),.c .l Zdf,.c .l (.u 1 11 Zb)] false],tys:=[Zw,ZK,ZdZ,.i .i64,.i .i64],inv:=[Zbf,Zcj,.nle Zg (.u 0 0 Zdf),.le Zf (.u 0 0 Zdf),.pre Zdf Zf qlD,.rows 904 Zdf Zf ZG],ms:=(Za,.w 1 (.u 0 0 Zdf) Zf,Zk,Za,Za,Za)}]}
def qoL:Tab:=[(220,qjj),(224,qBL),(226,qoI),(225,qny)]
def qYy:qaA PP qoL:=qj qta (qj qWK (qj qCi (qj qBp (qo))))
def qYz:J8 PP qoK ((147,qfZ)::qoL)=true:=by kernel_rfl
def qYA:J9 PP qoK ((147,qfZ)::qoL) (qJ PP qoK):=by refine⟨?_,?_,trivial⟩<;>intro<;>kernel_rfl
def qYB:qH PP 147 qfZ (Ev0 PP qoK ((147,qfZ)::qoL)):=qgH Yz mixed qYy rfl qYz qYA
def qYC:qm PP 147 qfZ:=qYB.ok
def qs4:Con:={pts:=[Zw,ZK,ZdZ],pre:=[],rts:=[.b],post:=[]}
def qMI:RFn:=mF 81 qs4 []
def qMJ:Tab:=[(147,qfZ)]
def qMK:qm PP 81 qs4:=(fe qMI qMJ (qj qYC (qo)) (by kernel_rfl) ⟨fun U=>by kernel_rfl,trivial⟩).ok
structure qjN (s:D):Prop where
 g:qcP (qx s)
 l:(qx s).length=(toL (cel s 16)).length
def qoM (ds:List D) (d:D):Prop:=toB d=true->qjN (qa ds 1)
def qjO:Con:={pts:=[Zw,ZaN],pre:=[.le (.u 15 0 Zgy) ZbM],rts:=[.b],post:=[ZlA,.imp Zb (.le Ziy ZbM),ZlB]}
def qoN:RFn:=mF 33 qjO []
def qjP:Tab:=[(39,qdu),(79,qtf),(80,qhk),(42,qoz),(45,qot),(81,qs4),(44,qha)]
def qYD:qH PP 33 qjO (Ev0 PP qoN qjP):=fe qoN qjP (qj qmJ (qj qNM (qj qR7 (qj qB7 (qj qBV (qj qMK (qj qAH (qo)))))))) (by kernel_rfl) ⟨fun U=>by kernel_rfl,trivial⟩
def quA:Con:={qjO with post:=qjO.post++[],fact:=qoM}
def qYE:TQ:=.fork (.w 15 (.u 1 17 ZaM) Za) (.done [ZdW,ZdX] ZaV) (.fork (.u 6 0 (.u 3 80 (.w 4 ZgJ (.w 4 Zim .z)))) (.done [ZdW,ZdX,Ze7] ZaV) (.fork (.u 6 0 (.u 3 42 (.w 4 Zcz (.w 4 (.mk .l (.u 1 2 ZaM)) .z)))) (.done [ZdW,ZdX,Ze7,ZgK] ZaV) (.fork (.u 6 0 (.u 3 45 (.w 4 Zgz (.w 4 ZlC .z)))) (.done [ZdW,ZdX,Ze7,ZgK,(45,[Zgz,ZlC])] ZaV) (.fork (.u 3 81 (.w 4 ZS (.w 4 Zcz (.w 4 Zgy .z)))) (.done [ZdW,ZdX,Ze7,ZgK,(45,[Zgz,ZlC]),(81,[ZS,Zcz,Zgy]),(44,[Zgy]),(44,[ZlD])] (.mk .b (.w 33 ZkW (.w 4 (.mk (.i .u8) (.u 1 0 ZaD)) (.w 4 (.mk (.i .u8) (.u 1 1 ZaD)) (.w 4 (.mk (.i .u8) (.u 1 2 ZaD)) (.w 4 (.mk (.i .u8) (.u 1 3 ZaD)) (.w 4 (.mk (.i .u8) (.u 1 4 ZaD)) (.w 4 (.mk (.i .u8) (.u 1 5 ZaD)) (.w 4 (.mk (.i .u8) (.u 1 6 ZaD)) (.w 4 (.mk (.i .u8) (.u 1 7 ZaD)) (.w 4 (.mk (.i .u8) (.u 1 8 ZaD)) (.w 4 (.mk (.i .u8) (.u 1 9 ZaD)) (.w 4 (.mk (.i .u8) (.u 1 10 ZaD)) (.w 4 (.mk (.i .u8) (.u 1 11 ZaD)) (.w 4 (.mk (.i .u8) (.u 1 12 ZaD)) (.w 4 (.mk (.i .u8) (.u 1 13 ZaD)) (.w 4 (.mk (.i .u8) (.u 1 14 ZaD)) (.w 4 (.mk (.i .u8) (.u 1 15 ZaD)) .z))))))))))))))))))) (.done [ZdW,ZdX,Ze7,ZgK,(45,[Zgz,ZlC]),(81,[ZS,Zcz,Zgy])] ZaV)))))
def qYF:qN PP qoN qjP=[qYE]:=by kernel_rfl
abbrev W33:Nat->List D->D:=wOf PP qjP
def sg1 (ds:List D):D:=(qK 300 300).form (qa ds 1)
def qYG {ds:List D} {d:D} (hp:qG qjO ds) (h:Ev0 PP qoN qjP ds d):qoM ds d:=by
 have hs:sg1 ds=qa ds 1:=YM (y:=qK 300 300) (by rfl) (hp.1.2 1 _ rfl);refine Yc qYF (I:=fun _ _=>False) (Q:=qoM ds) (fun k st q U d hst hq hg hi ht=>hi.elim) (fun d ht=>?_) h;have no:∀{P:Prop},toB (D.bool false)=true->P:=fun h=>by cases h
 rcases ht with⟨_,_,rfl⟩|⟨c1,⟨_,_,rfl⟩|⟨c2,⟨_,_,rfl⟩|⟨_,⟨_,_,rfl⟩|⟨_,⟨_,⟨h39,h79,h80,_⟩,rfl⟩|⟨_,_,rfl⟩⟩⟩⟩⟩
 ·exact no
 ·exact no
 ·exact no
 ·exact no
 ·intro _;have c1:(toI (cel (W33 79 _) 17) != 0)=false:=c1;have c2:(!toB (W33 80 _))=false:=c2;have e39:W33 39 [sg1 ds]=.list (qx (sg1 ds)):=(h39 qdu rfl).2.2;have f79:qte _ (W33 79 _):=(h79 qtf rfl).2.2;have g:qcP (toL (W33 39 [sg1 ds])):=f79 (by rw[bne,Bool.not_eq_false']at c1; exact beq_iff_eq.1 c1);have hr:=(h80 qhk rfl).2.1.2;have b80:toB (W33 80 [W33 39 [sg1 ds] |> fun x=>.list (toL x),.list (toL (cel (qa ds 1) 16))])=true:=by rw[Bool.not_eq_false']at c2; exact c2
  have l1:(toL (W33 39 [sg1 ds])).length<=(toL (cel (qa ds 1) 16)).length:=hr _ (qTL (l:=qhk.post) (n:=0) (by decide)) b80;have l2:(toL (cel (qa ds 1) 16)).length<=(toL (W33 39 [sg1 ds])).length:=hr _ (qTL (l:=qhk.post) (n:=1) (by decide)) b80;rw[e39,hs]at g l1 l2;exact⟨g,Nat.le_antisymm l1 l2⟩
 ·exact no
def qYH:qm PP 33 quA:=qYD.more fun ds d hp _ h=>⟨fun f hf=>(by cases hf),qYG hp h⟩
def quB (ds:List D) (d:D):Prop:=toB d=true->qjN (qa ds 1)
def qjQ:Con:={pts:=[Zbt,ZhL],pre:=[],rts:=[.b],post:=[.imp Zb (.has Zc ZaN),ZlA,.imp Zb (.le Ziy ZbM),.imp Zb ZbS,.imp Zb ZbT,ZlB,.imp Zb (.le (.u 15 0 Zgy) ZbM)]}
def qoO:RFn:=mF 6 qjQ []
def qjR:Tab:=[(31,qtx),(32,qtt),(33,quA)]
def qYI:qH PP 6 qjQ (Ev0 PP qoO qjR):=fe qoO qjR (qj qPi (qj qO6 (qj qYH (qo)))) (by kernel_rfl) ⟨fun U=>by kernel_rfl,trivial⟩
def qhy:Con:={qjQ with post:=qjQ.post++[],fact:=quB}
def qYJ:TQ:=.fork (.u 3 31 (.w 4 ZS (.w 4 .z .z))) (.fork (.u 3 32 (.w 4 Ze6 (.w 4 (.mk (.i .i64) ZbM) .z))) (.done [(31,[ZS,.z]),(32,[Ze6,.mk (.i .i64) ZbM]),(33,[ZS,Ze6])] (.mk .b (.u 3 33 (.w 4 ZS (.w 4 Ze6 .z))))) (.done [(31,[ZS,.z]),(32,[Ze6,.mk (.i .i64) ZbM])] ZaV)) (.done [(31,[ZS,.z]),(32,[Ze6,.mk (.i .i64) ZbM])] ZaV)
def qYK:qN PP qoO qjR=[qYJ]:=by kernel_rfl
abbrev W6:Nat->List D->D:=wOf PP qjR
def qCj (ds:List D):D:=(qK 140737488355328 140737488355328).form (qa ds 1)
def qYL {ds:List D} {d:D} (hp:qG qjQ ds) (h:Ev0 PP qoO qjR ds d):quB ds d:=by
 have hs:qCj ds=qa ds 1:=YM (y:=qK 140737488355328 140737488355328) (by rfl) (hp.1.2 1 _ rfl);refine Yc qYK (I:=fun _ _=>False) (Q:=quB ds) (fun k st q U d hst hq hg hi ht=>hi.elim) (fun d ht=>?_) h;have no:∀{P:Prop},toB (D.bool false)=true->P:=fun h=>by cases h
 rcases ht with⟨_,⟨_,⟨_,_,h33,_⟩,rfl⟩|⟨_,_,rfl⟩⟩|⟨_,_,rfl⟩
 ·intro ht;have f33:qoM _ (W6 33 _):=(h33 quA rfl).2.2;have:=f33 ht;have this:qjN (qCj ds):=this;rw[hs]at this;exact this
 ·exact no
 ·exact no
def qYM:qm PP 6 qhy:=qYI.more fun ds d hp _ h=>⟨fun f hf=>(by cases hf),qYL hp h⟩
abbrev kKp (ds:List D):List D×Int:=qaH (qx (qa ds 0)) (toL (cel (qa ds 0) 16)) (toI (qa ds 1)) (toI (qa ds 2)) (toI (qa ds 3))
def qnC (ds:List D) (d:D):Prop:=d=.agg [Je (qa ds 0) (kKp ds).1,.int .i64 (kKp ds).2]
def qdy:Con:={pts:=[ZaN,.i .i64,.i .i64,ZcD],pre:=Zkk,rts:=[ZaN,.i .i64],post:=[]}
def qnD:RFn:=mF 10 qdy []
def qeC:Tab:=[(8,qmT),(22,qnj),(40,qtV),(41,qi3)]
def qRu:qH PP 10 qdy (Ev0 PP qnD qeC):=fe qnD qeC (qj qAC (qj qA5 (qj qSc (qj qKR (qo))))) (by kernel_rfl) ⟨fun U=>by kernel_rfl,trivial⟩
def qtP:Con:={qdy with post:=qdy.post++[.le Zh7 Z7,.le Z7 Zh7,.pre (.u 1 16 (.u 1 0 Zf)) Zh7 ZcD],fact:=qnC}
def qRv:TQ:=.fork (.u 6 0 (.u 1 1 (.u 3 8 Zkl))) (.done [(8,[ZcI,Zag,Zbs])] (.u 2 0 (.w 4 ZcI Zkm))) (.fork (.w 15 (.w 3 Zbd Zh8) Za) (.done [(8,[ZcI,Zag,Zbs])] (.u 2 0 (.w 4 ZcI ZfX))) (.fork (.w 14 Zd Za) (.done [(8,[ZcI,Zag,Zbs])] (.u 2 0 (.w 4 ZcI Zkn))) (.fork (.u 6 0 (.u 3 40 (.w 4 Zkp Zeh))) (.done [(8,[ZcI,Zag,Zbs]),(22,[ZcI]),(40,[Zkp,Zeg])] (.u 2 0 (.w 4 ZcI Zkn))) (.done [(8,[ZcI,Zag,Zbs]),(22,[ZcI]),(40,[Zkp,Zeg]),(41,[ZcH])] (.u 2 0 (.w 4 (.u 2 0 (.w 4 Zba (.w 4 Zad (.w 4 Zbc (.w 4 ZbO (.w 4 Zb6 (.w 4 Zb7 (.w 4 Zb8 (.w 4 Zbp (.w 4 Zbq (.w 4 Zb9 (.w 4 Zca (.w 4 Zcb (.w 4 Zcc (.w 4 Zcd (.w 4 Zce (.w 4 Zcf (.w 4 (.w 6 (.u 0 0 (.u 3 41 (.w 4 ZcH .z))) (.w 7 Za (.w 21 (.u 3 41 (.w 4 ZcH .z)) (.u 2 0 (.w 4 (.mk (.i .i64) (.w 8 Za Zh8)) Zeh))))) .z)))))))))))))))))) Zbi))))))
def qRw:qN PP qnD qeC=[qRv]:=by kernel_rfl
abbrev W10:Nat->List D->D:=wOf PP qeC
def sg0 (ds:List D):D:=(qK 300 300).form (qa ds 0)
def ag8 (ds:List D):List D:=[sg0 ds,.int .i64 (toI (qa ds 1)),.int .i64 (toI (qa ds 2))]
def qRx (es died:List D) (a b c:Int):(qaH es died a b c).1=died\/∃k,(qaH es died a b c).1=died.set k (.int .i64 c):=by
 unfold qaH;split
 ·exact .inl rfl
 ·split
  ·exact .inl rfl
  ·split
   ·exact .inl rfl
   ·exact .inr ⟨_,rfl⟩
abbrev C8k (ds:List D):Prop:=YA PP qeC (qa ds) 8 [qmC (qK 300 300) 0,.mk (.i .i64) (.v 1),.mk (.i .i64) (.v 2)]
abbrev qBr (ds:List D):Prop:=YA PP qeC (qa ds) 22 [qmC (qK 300 300) 0]
def qRy {ds:List D} {d:D} (hp:qG qdy ds) (h:Ev0 PP qnD qeC ds d):qnC ds d:=by
 have hs:sg0 ds=qa ds 0:=YM rfl (hp.1.2 0 _ rfl);refine Yc qRw (I:=fun _ _=>False) (Q:=qnC ds) (fun k st q U d hst hq hg hi ht=>hi.elim) (fun d ht=>?_) h;have e8:C8k ds->W10 8 (ag8 ds)=.agg [.int .i64 (M44.Ya (qx (qa ds 0)) (toI (qa ds 1)) (toI (qa ds 2))).1,.bool (M44.Ya (qx (qa ds 0)) (toI (qa ds 1)) (toI (qa ds 2))).2]:=fun hc=>by
  have hf:qAy (ag8 ds) (W10 8 (ag8 ds)):=(hc qmT rfl).2.2;have hf:W10 8 (ag8 ds)=.agg [.int .i64 (M44.Ya (qx (sg0 ds)) (toI (qa ds 1)) (toI (qa ds 2))).1,.bool (M44.Ya (qx (sg0 ds)) (toI (qa ds 1)) (toI (qa ds 2))).2]:=hf;rw[hf,hs]
 have e22:qBr ds->W10 22 [sg0 ds]=.list (qx (qa ds 0)):=fun hc=>by
  have hf:W10 22 [sg0 ds]=.list (qx (sg0 ds)):=(hc qnj rfl).2.2;rw[hf,hs]
 unfold qnC kKp;rcases ht with⟨c1,⟨h8,_⟩,rfl⟩|⟨c1,ht⟩
 ·have c1:(!toB (cel (W10 8 (ag8 ds)) 1))=true:=c1;rw[e8 h8]at c1;rw[qAD (by simpa using c1)]; rfl
 ·have c1:(!toB (cel (W10 8 (ag8 ds)) 1))=false:=c1;rcases ht with⟨c2,⟨h8,_⟩,rfl⟩|⟨c2,ht⟩
  ·have c2:(toI ((toL (cel (qa ds 0) 16)).getD (toI (cel (W10 8 (ag8 ds)) 0)).toNat .nilp) != 0)=true:=c2;rw[e8 h8]at c1 c2;rw[qAE (by simpa using c1) (by rw[bne,qUy]at c2; exact c2)]; rfl
  ·have c2:(toI ((toL (cel (qa ds 0) 16)).getD (toI (cel (W10 8 (ag8 ds)) 0)).toNat .nilp) != 0)=false:=c2;have tm:∀h8:C8k ds,(M44.Ya (qx (qa ds 0)) (toI (qa ds 1)) (toI (qa ds 2))).2=true/\(toI ((toL (cel (qa ds 0) 16)).getD (M44.Ya (qx (qa ds 0)) (toI (qa ds 1)) (toI (qa ds 2))).1.toNat .nilp)==0)=true:=fun h8=>by
    rw[e8 h8]at c1 c2;exact⟨by simpa using c1,by rw[bne,Bool.not_eq_false']at c2; exact c2⟩
   rcases ht with⟨c3,⟨h8,_⟩,rfl⟩|⟨c3,ht⟩
   ·have c3:(toI (qa ds 3)==0)=true:=c3;rw[qsZ (tm h8).1 (tm h8).2 (by rw[c3,Bool.true_or])]; rfl
   ·have c3:(toI (qa ds 3)==0)=false:=c3;have e40:∀(h8:C8k ds) (h22:qBr ds) {A:T},A.den W10 (qa ds)=(q5 300 300).form ((toL (W10 22 [sg0 ds])).getD (toI (cel (W10 8 (ag8 ds)) 0)).toNat .nilp)->YA PP qeC (qa ds) 40 [A,.mk (.i .i64) (.v 3)] ->
      toB (W10 40 [A.den W10 (qa ds),.int .i64 (toI (qa ds 3))])=qdq ((qx (qa ds 0)).getD (M44.Ya (qx (qa ds 0)) (toI (qa ds 1)) (toI (qa ds 2))).1.toNat .nilp) (toI (qa ds 3)):=fun h8 h22 A hA hc=>by
     have hf:qju [A.den W10 (qa ds),.int .i64 (toI (qa ds 3))] (W10 40 [A.den W10 (qa ds),.int .i64 (toI (qa ds 3))]):=(hc qtV rfl).2.2;have hf:W10 40 [A.den W10 (qa ds),.int .i64 (toI (qa ds 3))]=.bool (qdq (A.den W10 (qa ds)) (toI (qa ds 3))):=hf;rw[hf,hA,e22 h22,e8 h8]; rfl
    rcases ht with⟨c4,⟨h8,h22,h40,_⟩,rfl⟩|⟨c4,⟨h8,h22,h40,h41,_⟩,rfl⟩
    ·have c4:(!toB (W10 40 _))=true:=c4;have e:=e40 h8 h22 rfl h40;rw[qsZ (tm h8).1 (tm h8).2 (by rw[c3,qVF,<-e]; exact c4)]; rfl
    ·have c4:(!toB (W10 40 _))=false:=c4;have e:=e40 h8 h22 rfl h40;have e41:W10 41 [.list (toL (cel (qa ds 0) 16))]=.list (toL (cel (qa ds 0) 16)):=(h41 qi3 rfl).2.2;rw[qAF (tm h8).1 (tm h8).2 (by rw[c3,qVF,<-e]; exact c4)];show D.agg [Je (qa ds 0) (List.take (toL (W10 41 [.list (toL (cel (qa ds 0) 16))])).length (List.drop 0 ((toL (W10 41 [.list (toL (cel (qa ds 0) 16))])).set (0+(toI (cel (W10 8 (ag8 ds)) 0)).toNat) (.int .i64 (toI (qa ds 3)))))),.int .i64 0]=_;rw[e41,e8 h8,qcM,qTY,qT6,qTX (by rw[qUI]; exact qTF _)]; rfl
def qRz {ds:List D} (h:ds.length=4) (d:D):qa (ds++[d]) 4=d/\qa (ds++[d]) 0=qa ds 0:=by
 match ds,h with
 | [_,_,_,_],_=>exact⟨rfl,rfl⟩
def qRA:qm PP 10 qtP:=qRu.more fun ds d hp _ h=>by
 have hf:=qRy hp h;refine⟨fun f hf'=>?_,hf⟩;have hf:d=.agg [Je _ _,_]:=hf;obtain⟨e4,e0⟩:=qRz (hp.1.1.trans (by rfl)) d;have h3:qd (.rg (-9223372036854775808) 9223372036854775807) (qa ds 3):=hp.1.2 3 _ rfl;have hpd:∀j:Nat,j<((((toL (cel (qa ds 0) 16)).length:Nat):Int)).toNat->qd (.rg (-9223372036854775808) 9223372036854775807) ((toL (cel (qa ds 0) 16)).getD j .nilp):=hp.2 _ (qTL (l:=qdy.pre) (n:=2) (by decide));have hc:qd (.rg (-9223372036854775808) 9223372036854775807) (.int .i64 (toI (qa ds 3))):=by
  obtain⟨x,e,h⟩:=h3;rw[e]; exact⟨x,rfl,h⟩
 obtain⟨k1,k2⟩:=qsI (qRx (qx (qa ds 0)) (toL (cel (qa ds 0) 16)) (toI (qa ds 1)) (toI (qa ds 2)) (toI (qa ds 3))) (fun j hj=>hpd j (by omega)) hc;simp only[qTD,qTJ,or_false]at hf';have e16:toL (cel (cel d 0) 16)=(kKp ds).1:=by rw[hf]; rfl
 rcases hf' with rfl|rfl|rfl
 ·show(((toL (cel (cel (qa (ds++[d]) 4) 0) 16)).length:Nat):Int)<=(((toL (cel (qa (ds++[d]) 0) 16)).length:Nat):Int);rw[e4,e0,e16,k1]; exact qVY _
 ·show(((toL (cel (qa (ds++[d]) 0) 16)).length:Nat):Int)<=(((toL (cel (cel (qa (ds++[d]) 4) 0) 16)).length:Nat):Int);rw[e4,e0,e16,k1]; exact qVY _
 ·show ∀j:Nat,j<((((toL (cel (cel (qa (ds++[d]) 4) 0) 16)).length:Nat):Int)).toNat->qd (.rg (-9223372036854775808) 9223372036854775807) ((toL (cel (cel (qa (ds++[d]) 4) 0) 16)).getD j .nilp);rw[e4,e16];intro j hj;exact k2 j (show j<(kKp ds).1.length by omega)
def qur (ds:List D) (d:D):Prop:=d=.int .i64 (Yd (qx (qa ds 0)) (toI (qa ds 1)) (toI (qa ds 2)))
structure qBZ (l:List D) (a b:Int) (k:Int):Prop where
 i0:0<=k
 no:∀j,j<k.toNat->isE (l.getD j .nilp) a b=false
def qfW:Con:={pts:=[ZaN,.i .i64,.i .i64],pre:=[.le Ze9 ZbM],rts:=[.i .i64],post:=[.le (.i (-1)) Zd,.lt Zd Zdq]}
def qov:RFn:=mF 9 qfW [⟨3,[ZbW,ZaO,(7,.o (.c .l Zd)),(8,.o ZgP)],[],[ZaN,.i .i64,.i .i64,ZdG,.i .i64],[.le Zam Zdq,Zbf],(Za,.w 1 Zam Zf,Zk,Za,Za,Za)⟩]
def qhw:Tab:=[(39,qdu)]
def qXq:qH PP 9 qfW (Ev0 PP qov qhw):=fe qov qhw (qj qmJ (qo)) (by kernel_rfl) (by refine⟨?_,?_,trivial⟩<;>intro<;>kernel_rfl)
def qus:Con:={qfW with post:=qfW.post++[],fact:=qur}
def qXr:TQ:=.next [(39,[ZcI])] 0 [Ze,Zc,Zb,Zh5,Za]
def qB0:TQ:=.fork (.w 10 Zf Zam) (.fork (.w 14 (.u 1 0 (.w 3 Zd Zf)) Zc) (.fork (.w 14 (.u 1 1 (.w 3 Zd Zf)) Zb) (.done [] (.mk (.i .i64) Zf)) (.next [] 0 [Ze,Zc,Zb,Zd,ZeU])) (.next [] 0 [Ze,Zc,Zb,Zd,ZeU])) (.done [] (.mk (.i .i64) (.i (-1))))
def qXs:qN PP qov qhw=[qXr,qB0]:=by kernel_rfl
def qXt {ds:List D} {d:D} (hp:qG qfW ds) (h:Ev0 PP qov qhw ds d):qur ds d:=by
 have hs:(qK 300 300).form (qa ds 0)=qa ds 0:=YM rfl (hp.1.2 0 _ rfl);refine Yc qXs (I:=fun k U=>toL (U 3)=qx (qa ds 0)/\qBZ (toL (U 3)) (toI (qa ds 1)) (toI (qa ds 2)) (toI (U 4))) (Q:=qur ds) ?_ ?_ h
 ·intro k st q U d hst hq hg hi ht;have h1:=hg.arg 1 (by decide);have h2:=hg.arg 2 (by decide);rcases k with _|k
  ·have hq:qB0=q:=by simpa using hq
   subst hq;obtain⟨he,hi⟩:=hi;have i0:=hi.i0;have hn:((toN (U 4):Nat):Int)=toI (U 4):=by unfold toN; omega
   have step:decide (toI (U 4)<(((toL (U 3)).length:Nat):Int))=true->isE ((toL (U 3)).getD (toN (U 4)) .nilp) (toI (qa ds 1)) (toI (qa ds 2))=false->qBZ (toL (U 3)) (toI (qa ds 1)) (toI (qa ds 2)) (toI (U 4)+1):=fun c1 c2=>⟨by omega,fun j hj=>by
    by_cases e:j=toN (U 4)
    ·rw[e]; exact c2
    ·exact hi.no j (by unfold toN at e hn; omega)⟩
   rcases ht with⟨c1,ht⟩|⟨c1,_,rfl⟩
   ·have c1:decide (toI (U 4)<(((toL (U 3)).length:Nat):Int))=true:=c1;have c1':=of_decide_eq_true c1;rcases ht with⟨c2,ht⟩|⟨c2,_,hn'⟩
    ·have c2:(toI (cel ((toL (U 3)).getD (toN (U 4)) .nilp) 0)==toI (U 1))=true:=c2;rcases ht with⟨c3,_,rfl⟩|⟨c3,_,hn'⟩
     ·have c3:(toI (cel ((toL (U 3)).getD (toN (U 4)) .nilp) 1)==toI (U 2))=true:=c3;show D.int .i64 (toI (U 4))=_;rw[<-he,qK1 (k:=toN (U 4)) (by omega) hi.no (by unfold isE; rw[<-h1,<-h2,c2,c3]; rfl),hn]
     ·have c3:(toI (cel ((toL (U 3)).getD (toN (U 4)) .nilp) 1)==toI (U 2))=false:=c3;exact hn' ⟨he,step c1 (by unfold isE; rw[<-h2,c3,Bool.and_false])⟩
    ·have c2:(toI (cel ((toL (U 3)).getD (toN (U 4)) .nilp) 0)==toI (U 1))=false:=c2;exact hn' ⟨he,step c1 (by unfold isE; rw[<-h1,c2,Bool.false_and])⟩
   ·have c1:decide (toI (U 4)<(((toL (U 3)).length:Nat):Int))=false:=c1;have c1:=of_decide_eq_false c1;show D.int .i64 (-1)=_;rw[<-he,qzR fun j hj=>hi.no j (by omega)]
  ·simp at hq
 ·intro d ht;obtain⟨⟨hc,_⟩,hn⟩:=ht;have hf:wOf PP qhw 39 [(qK 300 300).form (qa ds 0)]=.list (qx ((qK 300 300).form (qa ds 0))):=(hc qdu rfl).2.2;refine hn ⟨?_,by show(0:Int)<=0; decide,fun j hj=>absurd hj (qWn j)⟩;show toL (wOf PP qhw 39 [(qK 300 300).form (qa ds 0)])=_;rw[hf,hs]; rfl
def qB1:qm PP 9 qus:=qXq.more fun ds d hp _ h=>⟨fun f hf=>(by cases hf),qXt hp h⟩
abbrev kKl (ds:List D):List D×Int:=qaF (qx (qa ds 0)) (toL (cel (qa ds 0) 16)) (toI (qa ds 1)) (toI (qa ds 2)) (toI (qa ds 3))
def qnz (ds:List D) (d:D):Prop:=d=mkM (qa ds 0) (kKl ds).1 (kKl ds).2
def qdx:Con:={pts:=[ZaN,.i .i64,.i .i64,ZcD],pre:=Zkk,rts:=[.g (.ec (.i .i64) (.ec (.i .i64) (.ec (.l 300 Za8) (.ec ZcD (.ec Za8 (.ec Za8 (.ec (.l 300 (qbF 140737488355328 140737488355328)) (.ec (.i .i64) (.ec (.i .i64) (.ec (.i .i64) (.ec (.i .i64) (.ec (.i .i64) (.ec ZhE (.ec ZhF (.ec ZdG (.ec (.l 300 (qdi 300 300)) (.ec Za8 (.ec (.i .i64) .e0))))))))))))))))))],post:=[]}
def qnA:RFn:=mF 11 qdx []
def qeB:Tab:=[(9,qus),(39,qdu)]
def qRo:qH PP 11 qdx (Ev0 PP qnA qeB):=fe qnA qeB (qj qB1 (qj qmJ (qo))) (by kernel_rfl) ⟨fun U=>by kernel_rfl,trivial⟩
def qtO:Con:={qdx with post:=qdx.post++[.le Zh4 Z7,.le Z7 Zh4,.pre (.u 1 16 Zf) Zh4 ZcD],fact:=qnz}
def qRp:TQ:=.fork (.w 10 Zgr Za) (.done [(9,[ZcI,Zag,Zbs])] (.u 2 0 (.w 4 Zba (.w 4 Zad (.w 4 Zbc (.w 4 ZbO (.w 4 Zb6 (.w 4 Zb7 (.w 4 Zb8 (.w 4 Zbp (.w 4 Zbq (.w 4 Zb9 (.w 4 Zca (.w 4 Zcb (.w 4 Zcc (.w 4 Zcd (.w 4 Zce (.w 4 Zcf (.w 4 ZcH Zkm))))))))))))))))))) (.fork (.w 15 (.w 3 Zbd Zgr) Za) (.done [(9,[ZcI,Zag,Zbs])] (.u 2 0 (.w 4 Zba (.w 4 Zad (.w 4 Zbc (.w 4 ZbO (.w 4 Zb6 (.w 4 Zb7 (.w 4 Zb8 (.w 4 Zbp (.w 4 Zbq (.w 4 Zb9 (.w 4 Zca (.w 4 Zcb (.w 4 Zcc (.w 4 Zcd (.w 4 Zce (.w 4 Zcf (.w 4 ZcH ZfX))))))))))))))))))) (.fork (.w 11 Zd (.u 1 6 (.w 3 Zh5 Zgr))) (.done Zh6 (.u 2 0 (.w 4 Zba (.w 4 Zad (.w 4 Zbc (.w 4 ZbO (.w 4 Zb6 (.w 4 Zb7 (.w 4 Zb8 (.w 4 Zbp (.w 4 Zbq (.w 4 Zb9 (.w 4 Zca (.w 4 Zcb (.w 4 Zcc (.w 4 Zcd (.w 4 Zce (.w 4 Zcf (.w 4 ZcH Zkn))))))))))))))))))) (.fork (.w 12 Zd (.i 1073741824)) (.done Zh6 (.u 2 0 (.w 4 Zba (.w 4 Zad (.w 4 Zbc (.w 4 ZbO (.w 4 Zb6 (.w 4 Zb7 (.w 4 Zb8 (.w 4 Zbp (.w 4 Zbq (.w 4 Zb9 (.w 4 Zca (.w 4 Zcb (.w 4 Zcc (.w 4 Zcd (.w 4 Zce (.w 4 Zcf (.w 4 ZcH Zkn))))))))))))))))))) (.fork (.w 11 Z7 Za) (.done Zh6 (.u 2 0 (.w 4 Zba (.w 4 Zad (.w 4 Zbc (.w 4 ZbO (.w 4 Zb6 (.w 4 Zb7 (.w 4 Zb8 (.w 4 Zbp (.w 4 Zbq (.w 4 Zb9 (.w 4 Zca (.w 4 Zcb (.w 4 Zcc (.w 4 Zcd (.w 4 Zce (.w 4 Zcf (.w 4 (.w 6 Za (.w 7 Za (.w 21 .z Zko))) Zbi))))))))))))))))))) (.done Zh6 (.u 2 0 (.w 4 Zba (.w 4 Zad (.w 4 Zbc (.w 4 ZbO (.w 4 Zb6 (.w 4 Zb7 (.w 4 Zb8 (.w 4 Zbp (.w 4 Zbq (.w 4 Zb9 (.w 4 Zca (.w 4 Zcb (.w 4 Zcc (.w 4 Zcd (.w 4 Zce (.w 4 Zcf (.w 4 (.w 6 (.w 8 Za Z7) (.w 7 Za (.w 21 Zbd Zko))) Zbi)))))))))))))))))))))))
def qRq:qN PP qnA qeB=[qRp]:=by kernel_rfl
abbrev w9k (ds:List D):D:=wOf PP qeB 9 [(qK 300 300).form (qa ds 0),.int .i64 (toI (qa ds 1)),.int .i64 (toI (qa ds 2))]
abbrev qnB (ds:List D):D:=wOf PP qeB 39 [(qK 300 300).form (qa ds 0)]
abbrev C9k (ds:List D):Prop:=YA PP qeB (qa ds) 9 [qmC (qK 300 300) 0,.mk (.i .i64) (.v 1),.mk (.i .i64) (.v 2)]
abbrev qBq (ds:List D):Prop:=YA PP qeB (qa ds) 39 [qmC (qK 300 300) 0]
def qRr {ds:List D} {d:D} (hp:qG qdx ds) (h:Ev0 PP qnA qeB ds d):qnz ds d:=by
 have hs:(qK 300 300).form (qa ds 0)=qa ds 0:=YM rfl (hp.1.2 0 _ rfl);refine Yc qRq (I:=fun _ _=>False) (Q:=qnz ds) (fun k st q U d hst hq hg hi ht=>hi.elim) (fun d ht=>?_) h;have e9:C9k ds->w9k ds=.int .i64 (Yd (qx (qa ds 0)) (toI (qa ds 1)) (toI (qa ds 2))):=fun hc=>by
  have hf:w9k ds=.int .i64 (Yd (qx ((qK 300 300).form (qa ds 0))) (toI (qa ds 1)) (toI (qa ds 2))):=(hc qus rfl).2.2;rw[hf,hs]
 have e39:qBq ds->qnB ds=.list (qx (qa ds 0)):=fun hc=>by
  have hf:qnB ds=.list (qx ((qK 300 300).form (qa ds 0))):=(hc qdu rfl).2.2;rw[hf,hs]
 unfold qnz kKl;rcases ht with⟨c1,⟨h9,_⟩,rfl⟩|⟨c1,ht⟩
 ·have c1:decide (toI (w9k ds)<0)=true:=c1;rw[e9 h9]at c1;rw[qzT (of_decide_eq_true c1)]; rfl
 ·have c1:decide (toI (w9k ds)<0)=false:=c1;rcases ht with⟨c2,⟨h9,_⟩,rfl⟩|⟨c2,ht⟩
  ·have c2:(toI ((toL (cel (qa ds 0) 16)).getD (toI (w9k ds)).toNat .nilp) != 0)=true:=c2;rw[e9 h9]at c1 c2;rw[qzU (of_decide_eq_false c1) (by rw[bne,qUy]at c2; exact c2)]; rfl
  ·have c2:(toI ((toL (cel (qa ds 0) 16)).getD (toI (w9k ds)).toNat .nilp) != 0)=false:=c2;have tm:∀h9:C9k ds,¬Yd (qx (qa ds 0)) (toI (qa ds 1)) (toI (qa ds 2))<0/\(toI ((toL (cel (qa ds 0) 16)).getD (Yd (qx (qa ds 0)) (toI (qa ds 1)) (toI (qa ds 2))).toNat .nilp)==0)=true:=fun h9=>by
    rw[e9 h9]at c1 c2;exact⟨of_decide_eq_false c1,by rw[bne,Bool.not_eq_false']at c2; exact c2⟩
   rcases ht with⟨c3,⟨h9,h39,_⟩,rfl⟩|⟨c3,ht⟩
   ·have c3:decide (toI (qa ds 3)<=toI (cel ((toL (qnB ds)).getD (toI (w9k ds)).toNat .nilp) 6))=true:=c3;rw[e9 h9,e39 h39]at c3;rw[qsH (tm h9).1 (tm h9).2 (by rw[qTM]; exact .inl c3)]; rfl
   ·have c3:decide (toI (qa ds 3)<=toI (cel ((toL (qnB ds)).getD (toI (w9k ds)).toNat .nilp) 6))=false:=c3;rcases ht with⟨c4,⟨h9,h39,_⟩,rfl⟩|⟨c4,ht⟩
    ·have c4:decide (toI (qa ds 3)>1073741824)=true:=c4;rw[qsH (tm h9).1 (tm h9).2 (by rw[qTM]; exact .inr c4)]; rfl
    ·have c4:decide (toI (qa ds 3)>1073741824)=false:=c4;have ok:∀(h9:C9k ds) (h39:qBq ds),qaF (qx (qa ds 0)) (toL (cel (qa ds 0) 16)) (toI (qa ds 1)) (toI (qa ds 2)) (toI (qa ds 3))=((toL (cel (qa ds 0) 16)).set (Yd (qx (qa ds 0)) (toI (qa ds 1)) (toI (qa ds 2))).toNat (.int .i64 (toI (qa ds 3))),0):=fun h9 h39=>by
      rw[e9 h9,e39 h39]at c3;exact qzV (tm h9).1 (tm h9).2 (by rw[Bool.or_eq_false_iff]; exact⟨c3,c4⟩)
     rcases ht with⟨c5,⟨h9,h39,_⟩,rfl⟩|⟨c5,⟨h9,h39,_⟩,rfl⟩
     ·have c5:decide ((((toL (cel (qa ds 0) 16)).length:Nat):Int)<=0)=true:=c5;have hz:=qVS.1 (Nat.le_zero.1 (Int.ofNat_le.1 (of_decide_eq_true c5)));rw[ok h9 h39,hz];show mkM (qa ds 0) [] 0=_;rw[List.set_nil]
     ·rw[ok h9 h39];show mkM (qa ds 0) (List.take (0+(toL (cel (qa ds 0) 16)).length) (List.drop 0 ((toL (cel (qa ds 0) 16)).set (0+(toI (w9k ds)).toNat) (.int .i64 (toI (qa ds 3)))))) 0=_;rw[e9 h9,qTY,qT6,qT6,qTX (by rw[qUI]; exact qTF _)]; rfl
def qRs {ds:List D} (h:ds.length=4) (d:D):qa (ds++[d]) 4=d/\qa (ds++[d]) 0=qa ds 0:=by
 match ds,h with
 | [_,_,_,_],_=>exact⟨rfl,rfl⟩
def qRt:qm PP 11 qtO:=qRo.more fun ds d hp _ h=>by
 have hf:=qRr hp h;refine⟨fun f hf'=>?_,hf⟩;have hf:d=mkM _ _ _:=hf;obtain⟨e4,e0⟩:=qRs (hp.1.1.trans (by rfl)) d;have h3:qd (.rg (-9223372036854775808) 9223372036854775807) (qa ds 3):=hp.1.2 3 _ rfl;have hpd:∀j:Nat,j<((((toL (cel (qa ds 0) 16)).length:Nat):Int)).toNat->qd (.rg (-9223372036854775808) 9223372036854775807) ((toL (cel (qa ds 0) 16)).getD j .nilp):=hp.2 _ (qTL (l:=qdx.pre) (n:=2) (by decide));have hc:qd (.rg (-9223372036854775808) 9223372036854775807) (.int .i64 (toI (qa ds 3))):=by
  obtain⟨x,e,h⟩:=h3;rw[e]; exact⟨x,rfl,h⟩
 obtain⟨k1,k2⟩:=qsI (qzW (qx (qa ds 0)) (toL (cel (qa ds 0) 16)) (toI (qa ds 1)) (toI (qa ds 2)) (toI (qa ds 3))) (fun j hj=>hpd j (by omega)) hc;simp only[qTD,qTJ,or_false]at hf';have e16:toL (cel d 16)=(kKl ds).1:=by rw[hf]; rfl
 rcases hf' with rfl|rfl|rfl
 ·show(((toL (cel (qa (ds++[d]) 4) 16)).length:Nat):Int)<=(((toL (cel (qa (ds++[d]) 0) 16)).length:Nat):Int);rw[e4,e0,e16,k1]; exact qVY _
 ·show(((toL (cel (qa (ds++[d]) 0) 16)).length:Nat):Int)<=(((toL (cel (qa (ds++[d]) 4) 16)).length:Nat):Int);rw[e4,e0,e16,k1]; exact qVY _
 ·show ∀j:Nat,j<((((toL (cel (qa (ds++[d]) 4) 16)).length:Nat):Int)).toNat->qd (.rg (-9223372036854775808) 9223372036854775807) ((toL (cel (qa (ds++[d]) 4) 16)).getD j .nilp);rw[e4,e16];intro j hj;exact k2 j (show j<(kKl ds).1.length by omega)
def qn4 (ds:List D) (d:D):Prop:=d=.list (qap (qa ds 0))
def qeG:Con:={pts:=[ZaN],pre:=[.le Ze9 ZbM,.le Zdq Z7],rts:=[Zdr],post:=[]}
def qn5:RFn:=mF 15 qeG [⟨4,[Zal,(3,ZgO),(4,ZcL),(5,ZbQ)],[ZhM],[ZaN,ZdG],[.le Zi Zdq],(Za,Zfs,Zk,Za,Za,Za)⟩,⟨4,[Zal,(3,ZgO),(4,.o (.sl 1 10 Za Zb Zd false)),(5,.o ZgP)],[ZhM,.dat 10 Zj false],[ZaN,ZdG,.i .i64,.i .i64,.i .i64,Zdr],[.le Zi Zdq,Zh1,ZeV,.le Zdd Zf],(Za,.w 1 Zi Zf,Zk,Za,Za,Za)⟩]
def qho:Tab:=[(39,qdu)]
def qTr:qH PP 15 qeG (Ev0 PP qn5 qho):=fe qn5 qho (qj qmJ (qo)) (by kernel_rfl) (by refine⟨?_,?_,?_,trivial⟩<;>intro<;>kernel_rfl)
def qTs:Con:={qeG with post:=qeG.post++[],fact:=qn4}
def qTt:TQ:=.next [(39,[ZcI])] 0 [Ze,Zh5]
def qBI:TQ:=.fork Zft (.next [] 1 [Ze,Zc,.u 0 0 ZkQ,.u 0 0 ZkQ,ZcZ,ZkQ]) (.done [] .z)
def qBJ:TQ:=.fork (.w 10 Zf Zi) (.next [] 1 [Ze,Zc,.w 8 Zb (.u 0 0 ZkR),.w 8 Zb (.u 0 0 ZkR),ZeU,.w 5 Zgo ZkR]) (.done [] Zgo)
def qTu:qN PP qn5 qho=[qTt,qBI,qBJ]:=by kernel_rfl
structure qhp (s:D) (k:Int) (es:List D):Prop where
 e:es=qx s
 i0:0<=k
 i1:k<=(((qx s).length:Nat):Int)
def qhp.step {s:D} {k:Int} {n:Nat} {es row:List D} {w:D} (h:qhp s k es) (hk:k<((es.length:Nat):Int)) (hl:qcm n row (qbk (qx s) (toL (cel s 16)) k.toNat)) (hw:w=qdr (es.getD k.toNat .nilp) ((toL (cel s 16)).getD k.toNat .nilp)) :
  qhp s (k+1) es/\qcm (n+[w].length) ((row.drop 0).take n++[w]) (qbk (qx s) (toL (cel s 16)) (k+1).toNat):=by
 obtain⟨e,i0,i1⟩:=h;rw[e]at hk hw;refine⟨⟨e,by omega,by omega⟩,?_⟩;rw[show(k+1).toNat=k.toNat+1 by omega,qMs,<-hw];exact hl.app
def qTv {ds:List D} {d:D} (hp:qG qeG ds) (h:Ev0 PP qn5 qho ds d):qn4 ds d:=by
 have hs:(qK 300 300).form (qa ds 0)=qa ds 0:=YM rfl (hp.1.2 0 _ rfl)
 refine Yc qTu (I:=fun k U=>match k with
  | 0=>qhp (qa ds 0) 0 (toL (U 1))|_=>qhp (qa ds 0) (toI (U 4)) (toL (U 1))/\qcm (toN (U 2)) (toL (U 5)) (qbk (qx (qa ds 0)) (toL (cel (qa ds 0) 16)) (toI (U 4)).toNat)) (Q:=qn4 ds) ?_ ?_ h
 ·intro k st q U d hst hq hg hi ht;have h0:=hg.arg 0 (by decide);rcases k with _|_|k
  ·have hq:qBI=q:=by simpa using hq
   subst hq;have hi:qhp (qa ds 0) 0 (toL (U 1)):=hi;rcases ht with⟨c,_,hn⟩|⟨c,_,rfl⟩
   ·have c:decide ((0:Int)<(((toL (U 1)).length:Nat):Int))=true:=c;have:=hi.step (n:=0) (row:=[]) (w:=qdr ((toL (U 1)).getD (Int.toNat 0) .nilp) ((toL (cel (U 0) 16)).getD (Int.toNat 0) .nilp)) (of_decide_eq_true c) ⟨qTF _,rfl⟩ (by rw[h0]);exact hn this
   ·have c:decide ((0:Int)<(((toL (U 1)).length:Nat):Int))=false:=c;have c:=of_decide_eq_false c;rw[hi.e]at c;show D.list []=.list (qbk _ _ (qx (qa ds 0)).length);rw[show(qx (qa ds 0)).length=0 by omega]; rfl
  ·have hq:qBJ=q:=by simpa using hq
   subst hq;obtain⟨hi,hl⟩:=hi;rcases ht with⟨c,_,hn⟩|⟨c,_,rfl⟩
   ·have c:decide (toI (U 4)<(((toL (U 1)).length:Nat):Int))=true:=c;exact hn (hi.step (w:=qdr ((toL (U 1)).getD (toI (U 4)).toNat .nilp) ((toL (cel (U 0) 16)).getD (toI (U 4)).toNat .nilp)) (of_decide_eq_true c) hl (by rw[h0]))
   ·have c:decide (toI (U 4)<(((toL (U 1)).length:Nat):Int))=false:=c;have c:=of_decide_eq_false c;rw[hi.e]at c;have i1:=hi.i1;show D.list (((toL (U 5)).drop 0).take (toN (U 2)))=.list (qbk _ _ (qx (qa ds 0)).length);rw[qTY,hl.2,show(toI (U 4)).toNat=(qx (qa ds 0)).length by omega]
  ·simp at hq
 ·intro d ht;obtain⟨⟨hc,_⟩,hn⟩:=ht;have hf:wOf PP qho 39 [(qK 300 300).form (qa ds 0)]=.list (qx ((qK 300 300).form (qa ds 0))):=(hc qdu rfl).2.2;refine hn ⟨?_,by omega,by omega⟩;show toL (wOf PP qho 39 [(qK 300 300).form (qa ds 0)])=_;rw[hf,hs]; rfl
def qTw:qm PP 15 qTs:=qTr.more fun ds d hp _ h=>⟨fun f hf=>(by cases hf),qTv hp h⟩
def qmQ:Con:={pts:=[ZaN],pre:=[.le Ze9 ZbM,.le Zdq Z7],rts:=[Zdr],post:=[]}
def qAt:Con:={qmQ with fact:=qn4}
def qMt (e x:D):M44.rwV e x=qdr e x:=by
 unfold M44.rwV qdr M44.qiu;simp only[qi2,qsv];rfl
def qMu (es died:List D) (n:Nat):M44.qbE es died n=qbk es died n:=by
 unfold M44.qbE qbk;exact qUv fun j _=>qMt _ _
def qcR {c r:Y} {x:D} {xs:List D} (h1:qd c x) (h2:qd r (.list xs)):qd (.ec c r) (.list (x::xs)):=⟨x,xs,rfl,h1,h2⟩
def qMv {e:D} {x:D} (h:qd (q5 300 300) e):qd (qxR 300 300) (qdr e x):=by
 unfold qdr;rw[YM (y:=q5 300 300) (by rfl) h];obtain⟨cs,rfl,h0⟩:=h;obtain⟨c0,cs0,e0,a0,h1⟩:=h0; cases e0;obtain⟨c1,cs1,e0,a1,h2⟩:=h1; cases e0;obtain⟨c2,cs2,e0,a2,h3⟩:=h2; cases e0;obtain⟨c3,cs3,e0,a3,h4⟩:=h3; cases e0;obtain⟨c4,cs4,e0,a4,h5⟩:=h4; cases e0;obtain⟨c5,cs5,e0,a5,h6⟩:=h5; cases e0;obtain⟨c6,cs6,e0,a6,h7⟩:=h6; cases e0;obtain⟨c7,cs7,e0,a7,h8⟩:=h7; cases e0;obtain⟨c8,cs8,e0,a8,h9⟩:=h8; cases e0;have h9:D.list cs8=D.list []:=h9;cases h9;exact⟨_,rfl,qcR a0 (qcR a1 (qcR a2 (qcR a3 (qcR a4 (qcR a5 (qcR a6 (qcR a7 (qcR a8 (qcR ⟨_,rfl⟩ rfl)))))))))⟩
def qMw:qm PP 14 qAt:=fun ds hp=>by
 obtain⟨s,rfl⟩:∃a,ds=[a]:=by
  match ds,hp.1.1 with
  | [a],_=>exact⟨a,rfl⟩
 have hs:qd (qK 300 300) s:=hp.1.2 0 _ rfl;have e39:(qK 300 300).form s=s:=YM (by rfl) hs;have hl:(((qx ((qK 300 300).form s)).length:Nat):Int)<=(((toL (cel s 16)).length:Nat):Int):=hp.2 _ (qTG _ qTR);rw[e39]at hl;obtain⟨r1,r2,r3⟩:=qAA hs ⟨⟨rfl,fun i y hy=>by
  match i,hy with
  | 0,hy=>cases hy; exact hs
  | i+1,hy=>cases hy⟩,fun f hf=>hp.2 f (by
   have hf':f∈qjn.pre:=hf;rw[qUJ.1 (show f∈[_] from hf')];exact qTR)⟩
 obtain⟨d1,d2⟩:=qsw (k:=16) (n:=300) (e:=.i .i64) hs rfl;have ew:M44.qd7 (cel s) (toL (cel s 16))=s:=by
  have h:=qsY hs;obtain⟨cs,rfl,hcs⟩:=hs;obtain⟨y,hy,⟨es,e,_⟩⟩:=Y.nth_ok (k:=16) (y:=.l 300 (.i .i64)) (by rfl) hcs;have ec:cel (.agg cs) 16=.list es:=by
   show cs.getD 16 .nilp=_;rw[zzG,hy,e]; rfl
  refine Eq.trans ?_ h;unfold M44.qd7 M44.qbC;rw[ec]; rfl
 have hr:=M44.qHB (s:=cel s) (died:=toL (cel s 16)) (es:=qx s) (by rw[ew]; exact r1) (qAB r3) (fun j hj=>by
  have hm:(toL (cel s 16)).getD j .nilp∈toL (cel s 16):=by
   rw[zzG,qTE hj];exact qTL _
  obtain⟨n,hn⟩:=d2 _ hm;unfold M44.elX;rw[hn];rw[zzG,qTE hj]at hn;rw[qTE hj];exact congrArg some hn) (by omega) r2
 rw[ew,qMu]at hr;have hr':RCs PP 14 [.d s] [] (qan qAt.rts (.list (qap s))):=hr;refine⟨.list (qap s),⟨⟨⟨_,rfl,?_,fun x hx=>?_⟩,fun f hf=>(by cases hf)⟩,rfl⟩,hr'⟩
 ·unfold qap qbk;rw[qTS,qVw]; omega
 ·unfold qap qbk at hx;obtain⟨j,hj,rfl⟩:=qTV.1 hx;have hj:=qU2.1 hj;refine qMv (r3 _ ?_);rw[zzG,qTE hj];exact qTL _
end Go.Aev.R29
namespace Go.Aev.R29
open Go Go.Aev Go.Aev.R Go.Aev.M44
variable [PW]
def qfC (f:Nat->Int):Prop:=∀i,0<=f i/\f i<256
def qg4 {b:Nat->Int} (h:qfC b) (n m:Nat) (x:Nat->UInt8):qfC (upd b n m x):=by
 intro i;unfold upd;split
 ·have:=(x (i - n)).toNat_lt;constructor<;>omega
 ·exact h i
def qLU {b:Nat->Int} (h:qfC b):∀d∈qb2 b,∃c:UInt8,d=Yq c:=by
 intro d hd;obtain⟨i,_,rfl⟩:=qTV.1 hd;refine⟨UInt8.ofNat (b i).toNat,?_⟩;have:=h i;rw[qd6 (n:=(b i).toNat) (by omega)];rw[show(((b i).toNat:Nat):Int)=b i by omega]
def qLV (b:Nat->Int):(qb2 b).length=64:=by simp[qb2]
def qsQ {l:List UInt8} {m:Nat} (h:l.length=m):txt m (fun i=>l.getD i 0)=.str ⟨⟨l⟩⟩:=by
 unfold txt
 congr 3
 refine qU6 (by simp[h]) fun j h1 h2=>?_
 rw[qVI,qVJ,zzG,qTE h2];rfl
def qLW {L:Nat} (h:L<56):(qcJ L).length=64 - L:=by
 unfold qcJ qfe;simp;omega
def qLX {ws:List D} (hl:ws.length=32) (hi:∀x∈ws,∃n:Int,x=.int .u8 n):r32 (fun i=>toI (ws.getD i .nilp))=ws:=quu hl hi
def qLY {H:List D} {r:Nat->Int} (h:∀i,toI (H.getD i .nilp)=r i):cpN H 16=r16 r:=by
 have e:∀i,gw H i=r i:=h;unfold cpN;simp only[cpN,e];rfl
def qAb {b:Nat->Int} {L:Nat} (hL:L<56) (hb:qfC b) (ha:Jl L (64 - L)) :
  ∃r,cpN (Y0 (qao (qb2 (upd b L (64 - L) fun i=>(qcJ L).getD i 0)) (ww8 iv0)) 32) 16=r16 r/\RCs PP 105 [.d (stm iv0 b L)] [] (.d (.agg (r32 r))):=by
 obtain⟨c,hc,h⟩:=qzA (a:=iv0) (qLV (upd b L (64 - L) fun i=>(qcJ L).getD i 0)) (qLU (qg4 hb _ _ _));have h1:=ha iv0 b (fun i=>(qcJ L).getD i 0) c h;rw[qsQ (qLW hL)]at h1;have h2:=qIH hL h1;rw[<-hc];generalize ww8 c=s at h2;refine⟨fun i=>toI ((Y0 s 32).getD i .nilp),?_,?_⟩
 ·exact qLY fun i=>rfl
 ·rw[qLX (qjK s 32) (qoG s 32)];exact h2
def qAc:qfC (fun _=>0):=fun i=>by show(0:Int)<=0/\(0:Int)<256; decide
def bl0:Nat->Int:=fun _=>0
def bl1 (t:UInt8):Nat->Int:=upd bl0 0 1 (fun i=>[t].getD i 0)
def bl2 (t:UInt8) (l:List UInt8):Nat->Int:=upd (bl1 t) 1 l.length (fun i=>l.getD i 0)
def bl3 (t:UInt8) (l k:List UInt8):Nat->Int:=upd (bl2 t l) (1+l.length) k.length (fun i=>k.getD i 0)
def qAd (t:UInt8):JO (stm iv0 bl0 0) ⟨⟨[t]⟩⟩ (stm iv0 (bl1 t) 1):=by
 have h:=qFD iv0 bl0 (fun i=>[t].getD i 0);rw[qsQ (l:=[t]) (m:=1) rfl]at h;exact h
def qsR {n:Nat} {a b:Nat->Int} {l:List UInt8} (h:Ja n l.length):JO (stm a b n) ⟨⟨l⟩⟩ (stm a (upd b n l.length (fun i=>l.getD i 0)) (n+l.length)):=by
 have h:=h a b (fun i=>l.getD i 0);rw[qsQ rfl]at h;exact h
def qsS {t:ByteArray} (h:t.data.toList.length<=1000):RCs PP 104 [.d (.str t)] [] (LB (qC t.data.toList)):=qxL (s:=t.data.toList) (by unfold Jv; omega)
def qfD {a:D} (h:qd (Y4 301 301) a):∃y:Nat->UInt8,a=.agg (y16 y):=by
 obtain⟨cs,rfl,x0,r0,e0,⟨c0,rfl⟩,x1,r1,e1,⟨c1,rfl⟩,x2,r2,e2,⟨c2,rfl⟩,x3,r3,e3,⟨c3,rfl⟩,x4,r4,e4,⟨c4,rfl⟩,x5,r5,e5,⟨c5,rfl⟩,x6,r6,e6,⟨c6,rfl⟩,x7,r7,e7,⟨c7,rfl⟩,x8,r8,e8,⟨c8,rfl⟩,x9,r9,e9,⟨c9,rfl⟩,x10,r10,e10,⟨c10,rfl⟩,x11,r11,e11,⟨c11,rfl⟩,x12,r12,e12,⟨c12,rfl⟩,x13,r13,e13,⟨c13,rfl⟩,x14,r14,e14,⟨c14,rfl⟩,x15,r15,e15,⟨c15,rfl⟩,e16⟩:=h;cases e0; cases e1; cases e2; cases e3; cases e4; cases e5; cases e6; cases e7; cases e8; cases e9; cases e10; cases e11; cases e12; cases e13; cases e14; cases e15; cases e16;exact⟨fun i=>[c0,c1,c2,c3,c4,c5,c6,c7,c8,c9,c10,c11,c12,c13,c14,c15].getD i 0,rfl⟩
def txL (y:Nat->UInt8):List UInt8:=List.map unB (qb4 y)
def qi7 (y:Nat->UInt8):(txL y).length=16:=by
 unfold txL qb4 y16; simp
def qAe (y:Nat->UInt8):qC (txL y)=32::txL y:=qsO (qi7 y)
def qLZ (y z:Nat->UInt8):qb2 (upd (bl3 31 (32::txL y) (32::txL z)) 35 29 fun i=>(qcJ 35).getD i 0)=JI (.int .u8 31::(qe (32::txL y)++qe (32::txL z))):=by kernel_rfl
def qAf (y:Nat->UInt8):toS (txD (.agg (y16 y)))=txL y:=by kernel_rfl
def qL0 (y z:Nat->UInt8):qcn (.agg (y16 y)) (.agg (y16 z))=.int .u8 31::(qe (32::txL y)++qe (32::txL z)):=by
 rw[qAa,qAf,qAf]
def qbM (a b:D):D:=.agg (cpN (qaL (qcn a b)) 16)
def qAg:ww8 iv0=ivL:=rfl
def qL1 {a b:D} (ha:qd (Y4 301 301) a) (hb:qd (Y4 301 301) b):RCs PP 113 [.d a,.d b] [] (.d (qbM a b)):=by
 obtain⟨y,rfl⟩:=qfD ha;obtain⟨z,rfl⟩:=qfD hb;have h3:qfC (bl3 31 (32::txL y) (32::txL z)):=qg4 (qg4 (qg4 qAc _ _ _) _ _ _) _ _ _;obtain⟨r,hr,hs⟩:=qAb (L:=35) (by decide) h3 qFX;have hs:RCs PP 105 [.d (stm iv0 (bl3 31 (32::txL y) (32::txL z)) 35)] [] (.d (.agg (r32 r))):=hs;have hr:cpN (Y0 (qao (qb2 (upd (bl3 31 (32::txL y) (32::txL z)) 35 29 fun i=>(qcJ 35).getD i 0)) (ww8 iv0)) 32) 16=r16 r:=hr;rw[qLZ,qAg]at hr;have e:qbM (.agg (y16 y)) (.agg (y16 z))=.agg (r16 r):=by
  unfold qbM qaL;rw[qL0,hr]
 rw[e];have l1:(32::txL y).length=17:=by rw[qT9,qi7]
 have l2:(32::txL z).length=17:=by rw[qT9,qi7]
 refine qG9 (qHl (G:=fun t=>qC t.data.toList) (b1:=bl1 31) (b2:=bl2 31 (32::txL y)) (b3:=bl3 31 (32::txL y) (32::txL z)) (a1:=iv0) (a2:=iv0) (a3:=iv0) (n3:=35) (qAd 31) (qsS ?_) ?_ (qsS ?_) ?_ hs)
 ·show(txL y).length<=1000; rw[qi7]; omega
 ·show JO _ ⟨⟨qC (txL y)⟩⟩ _;rw[qAe];have:=qsR (n:=1) (a:=iv0) (b:=bl1 31) (l:=32::txL y) (by rw[l1]; exact qw2);have e2:(((1:Nat):Int)+((32::txL y).length:Nat))=18:=by rw[l1]; rfl
  rw[e2]at this;exact this
 ·show(txL z).length<=1000; rw[qi7]; omega
 ·show JO _ ⟨⟨qC (txL z)⟩⟩ _;rw[qAe];have:=qsR (n:=18) (a:=iv0) (b:=bl2 31 (32::txL y)) (l:=32::txL z) (by rw[l2]; exact qFE);have e2:(((18:Nat):Int)+((32::txL z).length:Nat))=35:=by rw[l2]; rfl
  rw[e2]at this;have e3:upd (bl2 31 (32::txL y)) 18 (32::txL z).length (fun i=>(32::txL z).getD i 0)=bl3 31 (32::txL y) (32::txL z):=by
   unfold bl3; rw[l1]
  rw[e3]at this;exact this
def qLn {P:Program} {g:FuncId} {k:Nat} {args:List V} {rows:Aev.Rows} {R R':V->Aev.Rows->Prop} (h:qM P g k args rows R) (hr:∀v r,R v r->R' v r):qM P g k args rows R':=by
 intro w0 own m S w vs inv ha;exact(h w0 own m S w vs inv ha).mono fun e w' ⟨u,v,rows',he,hq,r⟩=>⟨u,v,rows',he,hr _ _ hq,r⟩
def qLo {g:FuncId} {args:List V} {l:List UInt8} (h:qM PP g 0 args [] (qbe l)):RCs PP g args [] (LB l) :=
 qwL (qLn h fun v r hb=>by
  obtain⟨rfl,rfl⟩:=hb;exact qxa rfl)
def qz3 (s:List D):∀t,∀x∈Y0 s t,∃c:UInt8,x=Yq c
 | 0,x,h=>⟨0,qVK h⟩|t+1,x,h=>by
  unfold Y0 at h;rcases qVb h with h|h
  ·exact qz3 s t x h
  ·unfold qoF at h;rw[w8]at h;rw[h];generalize (gw s (IntKind.i64.wrap ((t:Int).tdiv 4)).toNat).fdiv (2 ^ (min (24 - 8*(t:Int).tmod 4).toNat 32))=z;refine⟨UInt8.ofNat (z % 256).toNat,?_⟩;rw[qd6 (n:=(z % 256).toNat) (by omega),show(((z % 256).toNat:Nat):Int)=z % 256 by omega]
def qLp {r:Nat->Int} (h:∀d∈r16 r,∃c:UInt8,d=Yq c):qd (Y4 301 301) (.agg (r16 r)):=by
 have k:∀i,i<16->qd .y8 (.int .u8 (r i)):=fun i hi=>h _ (qTV.2 ⟨i,qU2.2 hi,rfl⟩)
 exact⟨_,rfl,_,_,rfl,k 0 (by omega),_,_,rfl,k 1 (by omega),_,_,rfl,k 2 (by omega),_,_,rfl,k 3 (by omega),_,_,rfl,k 4 (by omega),_,_,rfl,k 5 (by omega),_,_,rfl,k 6 (by omega),_,_,rfl,k 7 (by omega),_,_,rfl,k 8 (by omega),_,_,rfl,k 9 (by omega),_,_,rfl,k 10 (by omega),_,_,rfl,k 11 (by omega),_,_,rfl,k 12 (by omega),_,_,rfl,k 13 (by omega),_,_,rfl,k 14 (by omega),_,_,rfl,k 15 (by omega),rfl⟩
def qz4 {H:List D} (hl:H.length=32) (h:∀x∈H,∃c:UInt8,x=Yq c):∀t,t<=16->∀x∈cpN H t,∃c:UInt8,x=Yq c
 | 0,_,x,hx=>⟨0,qVK hx⟩|t+1,ht,x,hx=>by
  unfold cpN at hx;rcases qVb hx with hx|hx
  ·exact qz4 hl h t (by omega) x hx
  ·have hm:H.getD t .nilp∈H:=by
    rw[zzG,qTE (by omega)];exact qTL _
   obtain⟨c,hc⟩:=h _ hm;refine⟨c,?_⟩;rw[hx];unfold gw;rw[hc]; rfl
def qz5 {n:Int} (h0:0<=n) (h1:n<=59):(enc n).length=1:=by
 unfold enc;have:zz n<128:=by unfold zz; split<;>omega
 rw[vb,dif_pos this]; rfl
def qsL {k n:Int} (hk:qy k) (hn:qy n):4<=(qC (YL [k,n])).length/\(qC (YL [k,n])).length<=22:=by
 have e1:=qcI hn;have e2:=qgw n;have e3:=qcI hk;have e3':=qgw k;have e4:(enc ((2:Nat):Int)).length=1:=qz5 (by omega) (by omega);have e:(YL [k,n]).length=1+(enc k).length+(enc n).length:=by
  unfold YL;simp only[qTN,qT9,qV1,qUq,qV6,e4];omega
 have e5:(enc ((YL [k,n]).length:Nat)).length=1:=qz5 (by omega) (by omega);unfold qC;rw[qTN,e5,e];omega
def qLq {m:Nat} (h0:4<=m) (h1:m<=22):Ja 1 m/\Jl (1+m) (64 - (1+m)):=by
 have h:m=4\/m=5\/m=6\/m=7\/m=8\/m=9\/m=10\/m=11\/m=12\/m=13\/m=14\/m=15\/m=16\/m=17\/m=18\/m=19\/m=20\/m=21\/m=22:=by omega
 rcases h with rfl|rfl|rfl|rfl|rfl|rfl|rfl|rfl|rfl|rfl|rfl|rfl|rfl|rfl|rfl|rfl|rfl|rfl|rfl
 ·exact⟨qFF,qFY⟩
 ·exact⟨qFG,qFZ⟩
 ·exact⟨qFH,qF0⟩
 ·exact⟨qFI,qF1⟩
 ·exact⟨qFJ,qF2⟩
 ·exact⟨qFK,qF3⟩
 ·exact⟨qFL,qF4⟩
 ·exact⟨qFM,qF5⟩
 ·exact⟨qFN,qF6⟩
 ·exact⟨qFO,qF7⟩
 ·exact⟨qFP,qF8⟩
 ·exact⟨qFQ,qF9⟩
 ·exact⟨qFR,qGa⟩
 ·exact⟨qw2,qGb⟩
 ·exact⟨qFS,qGc⟩
 ·exact⟨qFT,qGd⟩
 ·exact⟨qFU,qGe⟩
 ·exact⟨qFV,qGf⟩
 ·exact⟨qFW,qGg⟩
def qz6 (k n:Int):List D:=qb2 (upd (bl2 35 (qC (YL [k,n]))) (1+(qC (YL [k,n])).length) (64 - (1+(qC (YL [k,n])).length)) fun i=>(qcJ (1+(qC (YL [k,n])).length)).getD i 0)
def qeq (k n:Int):D:=.agg (cpN (Y0 (qao (qz6 k n) (ww8 iv0)) 32) 16)
def qLr {k n:Int} (hk:qy k) (hn:qy n):RCs PP 16 [I k,I n] [] (.d (qeq k n))/\qd (Y4 301 301) (qeq k n):=by
 obtain⟨l0,l1⟩:=qsL hk hn;obtain⟨a1,a2⟩:=qLq l0 l1;have hb:qfC (bl2 35 (qC (YL [k,n]))):=qg4 (qg4 qAc _ _ _) _ _ _;obtain⟨r,hr,hs⟩:=qAb (L:=1+(qC (YL [k,n])).length) (by omega) hb a2;have hl:(YL [k,n]).length<=1000:=by
  unfold qC at l1;rw[qTN]at l1; omega
 have h49:RCs PP 49 [.d (.list [.int .i64 k,.int .i64 n])] [] (LB (YL [k,n])):=qLo (M44.qIM (l:=[k,n]) (by unfold fits; simp) (fun x hx=>by
  rcases qTD.1 hx with rfl|hx
  ·exact hk
  ·rcases qTD.1 hx with rfl|hx
   ·exact hn
   ·cases hx))
 have er:qeq k n=.agg (r16 r):=by unfold qeq qz6; rw[hr]
 rw[er];refine⟨qHa h49 (qHk (G:=fun t=>qC t.data.toList) (b1:=bl1 35) (b2:=bl2 35 (qC (YL [k,n]))) (a1:=iv0) (a2:=iv0) (n2:=((1+(qC (YL [k,n])).length:Nat):Int)) (qAd 35) (qsS hl) ?_ hs),?_⟩
 ·have:=qsR (n:=1) (a:=iv0) (b:=bl1 35) (l:=qC (YL [k,n])) a1;have e2:(((1:Nat):Int)+((qC (YL [k,n])).length:Nat))=((1+(qC (YL [k,n])).length:Nat):Int):=by omega
  rw[e2]at this;exact this
 ·refine qLp ?_;rw[<-hr];exact qz4 (qjK _ 32) (qz3 _ 32) 16 (by omega)
def J0 (a b:D):D:=qeq (toI a) (toI b)
def qLs {k n:Int} (hk:qy k) (hn:qy n):RCs PP 16 [I k,I n] [] (.d (J0 (.int .i64 k) (.int .i64 n)))/\qd (Y4 301 301) (J0 (.int .i64 k) (.int .i64 n)):=qLr hk hn
def qz7 {a b:D} (ha:qd (Y4 301 301) a) (hb:qd (Y4 301 301) b):RCs PP 56 [.d a,.d b] [] (.d (qbM a b))/\qd (Y4 301 301) (qbM a b):=by
 obtain⟨d,⟨⟨ht,_⟩,hq⟩,hr⟩:=qSB [a,b] ⟨⟨rfl,fun i y hy=>by
  match i,hy with
  | 0,hy=>cases hy; exact ha
  | 1,hy=>cases hy; exact hb
  | i+2,hy=>cases hy⟩,fun f hf=>by cases hf⟩
 have hd:d=qbM a b:=hq (by show qbs (qcn a b); unfold qbs; rw[qLT a b]; omega);subst hd;refine⟨?_,ht⟩;have hr:RCs PP 56 [.d a,.d b] [] (qan qBC.rts (qbM a b)):=hr;obtain⟨y,hy⟩:=qfD ht;rw[hy]at hr ⊢;exact hr
end Go.Aev.R29
namespace Go.Aev.M44
open Go Go.Aev Go.Aev.R29
def cU (f:FuncId->Option (List V->V)):qt:=mk (fun _=>true) (qio PP f)
def qw3 (f:FuncId->Option (List V->V)):COK (cU f).cfg:=qd5 (fun _ _ _ _ _ h hp=>qwZ h hp)
structure BsI (l:List Int) (x:Int) (a b:Nat):Prop where
 ab:a<=b
 bl:b<=l.length
 lo:∀i,i<a->l.getD i 0<x
 hi:∀i,b<=i->i<l.length->x<=l.getD i 0

end Go.Aev.M44
namespace Go.Aev.S29
open Go Go.Aev Go.Aev.M44 Go.Aev.R29
abbrev PP:Program:=Go.Aev.R29.PP
def isD (k:IntKind) (l:List Nat):List D:=l.map fun n=>.int k (.ofNat n)
def st (l:List Nat):D:=.str ⟨⟨l.map UInt8.ofNat⟩⟩
def qsr (l:List Nat) (g:Nat):Bool:=match l with
 | []=>false|x::l=>match Nat.beq x g with
  | true=>true|false=>qsr l g
def poS (g:FuncId):Bool:=qsr [27,35,48,181,189,207,272] g
def wcS (g:FuncId):Bool:=qsr [49,68] g
def bs (t:List Ent):qdV :=
 {P:=PP,T:=q8 PP,F:=fun g=>PP.funcs[g]?,rc:=qip PP,po:=poS,fuel:=100000,wc:=wcS,tab:=qlg t}
def qss {t:List Ent} (ht:∀e∈t,RCs PP e.g e.args e.rows e.v):BOK (bs t) :=
 ⟨fun _ _ h=>h,fun g gf h=>⟨h,qli Yz h⟩,qqT Yz,mixed,fun g args rows v h=>ht _ (qwX h)⟩
def Run (t:List Ent) (e:Ent):Prop:=((bs t).cfg 13).RC e.g e.args e.rows=some e.v
abbrev Yp (t:List Ent):Prop:=∀e∈t,RCs PP e.g e.args e.rows e.v
def qst:Yp []:=fun e h=>by cases h
def Jx {t:List Ent} {e:Ent} (h:Run t e) (ht:Yp t):Yp (e::t):=by
 intro x hx;rcases qTD.1 hx with rfl|hx
 ·exact(qkI (qss ht) 13).RC _ _ _ _ h
 ·exact ht x hx
def qfv {t:List Ent} {e:Ent} (h:RCs PP e.g e.args e.rows e.v) (ht:Yp t):Yp (e::t):=by
 intro x hx;rcases qTD.1 hx with rfl|hx
 ·exact h
 ·exact ht x hx
def dB:Cfg:=(bs []).cfg 8
def qzy:COK dB:=qkI (qss qst) 8
def d0:D:=.agg [.int .i64 15,.list [.int .i64 0,.int .i64 1,.int .i64 2]]
def d1:D:=.agg [.int .i64 11,.list [.int .i64 0,.int .i64 1,.int .i64 2]]
def d2:D:=.list [.list [.int .i64 5],.list [.int .i64 9],.list [.int .i64 20]]
def ivL:List Nat:=[1779033703,3144134277,1013904242,2773480762,1359893119,2600822924,528734635,1541459225]
def d3:D:=.agg (isD .u32 ivL)
def d4:D:=.agg [.int .i64 1,.int .i64 1,.int .i64 1,.int .i64 0,.int .i64 0,.int .i64 1048577,.int .i64 1,.list [.int .i64 5],.list []]
def d5:D:=.agg [.int .i64 2,.int .i64 1,.int .i64 1,.int .i64 0,.int .i64 0,.int .i64 1048577,.int .i64 1,.list [.int .i64 9],.list []]
def d6:D:=.agg [.int .i64 3,.int .i64 1,.int .i64 1,.int .i64 0,.int .i64 0,.int .i64 1048577,.int .i64 1,.list [.int .i64 20],.list []]
def d7:D:=.list [d0,d1,d0]
def d8:D:=.agg (isD .u8 [157,166,94,11,83,173,226,39,232,9,161,22,191,250,127,149])
def d9:D:=.agg [d7]
def d10:D:=.list (isD .u8 [28,6,0,0,130,128,128,1,2,2,2,10,2,40,2,0,30,0,0])
def d11:D:=.list [d4,d5,d6]
def d12:D:=.agg [.int .i64 3,.int .i64 1,.list [.list [.int .i64 5]],.int .i64 3,.list [.int .i64 5],.list [.int .i64 20],.list [.agg [.int .i64 0,.int .i64 15]],.int .i64 0,.int .i64 0,.int .i64 1048577,.int .i64 1,.int .i64 1,.list [],.list [],d11,d7,.list [.int .i64 0,.int .i64 0,.int .i64 0]]
def qcO (l r:List Nat):Ent:=⟨189,[.d d3,.sl 0 1 8 64 64 true],[.live (.box ((isD .u32 ivL).map .d++(isD .u8 l).map .d++[.d (.int .u64 64)]) true)],.d (.agg (isD .u32 r))⟩
def E0:Ent:=⟨83,[.d (.int .i64 1),.d (d2),.d (.int .i64 1)],[],.tup [.d (.list [.int .i64 0]),.d (.int .i64 0)]⟩
def E1:Ent:=⟨328,[.d (.int .i64 1),.sl 0 1 0 1 1 false],[.live (.dat 1 [.list [.int .i64 5]] true)],.d (.bool true)⟩
def E2:Ent:=⟨159,[.sl 0 1 0 3 3 false],[.live (.dat 1 [.list [.int .i64 5],.list [.int .i64 9],.list [.int .i64 20]] true)],.d (.bool true)⟩
def E3:Ent:=⟨258,[.d (.int .i64 1),.d (d2),.d (.int .i64 8)],[],.tup [.d (d9),.d (.int .i64 0)]⟩
def E4:Ent:=⟨165,[.agg [.d (.int .i64 1),.d (.int .i64 1),.nil,.sl 0 9 0 3 3 false,.d (.int .i64 3),.d (.int .i64 1),.sl 1 1 0 1 1 false,.d (.int .i64 0),.nil,.nil,.nil,.d (.int .i64 0),.d (.int .i64 0),.d (.int .i64 0),.d (.int .i64 0),.d (.int .i64 0),.nil,.nil,.nil,.nil,.sl 2 1 0 3 3 true]],[.live (.dat 9 [d4,d5,d6] true),.live (.dat 1 [.list [.int .i64 5]] true),.live (.dat 1 [.int .i64 0,.int .i64 0,.int .i64 0] true)],.tup [.d (d12),.d (.int .i64 0)]⟩
def E5:Ent:=⟨35,[.agg [.d (.int .i64 1),.d (.int .i64 1),.nil],.d (.int .i64 3),.d (.int .i64 1),.sl 0 9 0 3 3 false],[.live (.dat 9 [d4,d5,d6] true)],.tup [.d (d12),.d (.int .i64 0)]⟩
def E6:Ent:=⟨350,[.d (.list [.int .i64 0,.int .i64 1,.int .i64 2]),.bf 351 [.agg [.d (.int .i64 1),.d (d2),.d (d7),.sl 0 1 0 3 3 false]]],[.live (.dat 1 [.int .i64 1,.int .i64 3,.int .i64 14] true)],.d (.int .i64 0)⟩
def E7:Ent:=⟨166,[.d (.int .i64 1),.d (d2),.d (d9),.sl 0 1 0 1 1 true,.d (.int .i64 0)],[.live (.dat 1 [.int .i64 6] true)],.tup [.d (.list [.int .i64 0]),.d (.int .i64 0)]⟩
def E8:Ent:=⟨207,[.agg [.fn 292 [],.fn 293 []],.sl 0 3 0 3 3 false,.d (.int .i64 1)],[.live (.dat 3 [.agg [.int .i64 1,.int .i64 1,.int .i64 1],.agg [.int .i64 2,.int .i64 1,.int .i64 3],.agg [.int .i64 3,.int .i64 1,.int .i64 14]] true)],.d (.list [.agg [.int .i64 1,.int .i64 1,.int .i64 1]])⟩
def E9:Ent:=⟨207,[.agg [.fn 292 [],.fn 293 []],.sl 0 3 0 2 2 false,.d (.int .i64 1)],[.live (.dat 3 [.agg [.int .i64 2,.int .i64 1,.int .i64 3],.agg [.int .i64 3,.int .i64 1,.int .i64 14]] true)],.d (.list [.agg [.int .i64 2,.int .i64 1,.int .i64 3]])⟩
def E10:Ent:=⟨328,[.d (.int .i64 1),.d (.list [.list [.int .i64 5]])],[],.d (.bool true)⟩
def E11:Ent:=⟨197,[.agg [.d (.int .i64 3),.d (.list [.int .i64 5]),.d (.list [.int .i64 20]),.sl 0 2 0 1 1 false,.d (.int .i64 0),.d (.int .i64 0),.d (.int .i64 1048577),.d (.int .i64 1),.d (.int .i64 1),.nil]],[.live (.dat 2 [.agg [.int .i64 0,.int .i64 15]] true)],.d (d10)⟩
def E12:Ent:=⟨197,[.d (.agg [.int .i64 3,.list [.int .i64 5],.list [.int .i64 20],.list [.agg [.int .i64 0,.int .i64 15]],.int .i64 0,.int .i64 0,.int .i64 1048577,.int .i64 1,.int .i64 1,.list []])],[],.d (d10)⟩
def E13:Ent:=⟨432,[.d (d10),.d (d10)],[],.d (.bool true)⟩
def E14:Ent:=⟨181,[.agg [.d (.int .i64 1),.d (.int .i64 1),.nil],.d (.list [.list [.int .i64 5]]),.d (.agg [.int .i64 3,.list [.int .i64 5],.list [.int .i64 20],.list [.agg [.int .i64 0,.int .i64 15]],.int .i64 0,.int .i64 0,.int .i64 1048577,.int .i64 1,.int .i64 1,.list [],.bool false,.int .u8 0,.int .u8 0,.int .u8 0,.int .u8 0,.int .u8 0,.int .u8 0,.int .u8 0,.int .u8 0,.int .u8 0,.int .u8 0,.int .u8 0,.int .u8 0,.int .u8 0,.int .u8 0,.int .u8 0,.int .u8 0,.list [],d11])],[],.d (.bool true)⟩
def E15:Ent:=qcO [14,30,20,2,2,2,0,0,130,128,128,1,2,2,10,0,0,128,0,0,0,0,0,0,0,0,0,0,0,0,0,0,0,0,0,0,0,0,0,0,0,0,0,0,0,0,0,0,0,0,0,0,0,0,0,0,0,0,0,0,0,0,0,136] [2419430739,1713599971,2658923999,2646955930,3569197060,168689261,4027951403,141601783]
def E16:Ent:=⟨48,[.d (.int .i64 14),.sl 0 1 0 1 1 true],[.live (.dat 1 [st [20,2,2,2,0,0,130,128,128,1,2,2,10,0,0]] true)],.d (.agg (isD .u8 [144,53,149,83,102,35,117,227,158,123,245,223,157,197,87,154]))⟩
def E17:Ent:=qcO [14,30,20,4,2,2,0,0,130,128,128,1,2,2,18,0,0,128,0,0,0,0,0,0,0,0,0,0,0,0,0,0,0,0,0,0,0,0,0,0,0,0,0,0,0,0,0,0,0,0,0,0,0,0,0,0,0,0,0,0,0,0,0,136] [363100642,1638140739,869824406,1105913352,1175910438,664062284,388530322,2909800034]
def E18:Ent:=⟨48,[.d (.int .i64 14),.sl 0 1 0 1 1 true],[.live (.dat 1 [st [20,4,2,2,0,0,130,128,128,1,2,2,18,0,0]] true)],.d (.agg (isD .u8 [21,164,121,226,97,164,11,67,51,216,119,150,65,234,230,8]))⟩
def E19:Ent:=qcO [14,30,20,6,2,2,0,0,130,128,128,1,2,2,40,0,0,128,0,0,0,0,0,0,0,0,0,0,0,0,0,0,0,0,0,0,0,0,0,0,0,0,0,0,0,0,0,0,0,0,0,0,0,0,0,0,0,0,0,0,0,0,0,136] [1015196588,3921850446,3494007286,514187537,438594680,1819645359,2378325617,2363320595]
def E20:Ent:=⟨48,[.d (.int .i64 14),.sl 0 1 0 1 1 true],[.live (.dat 1 [st [20,6,2,2,0,0,130,128,128,1,2,2,40,0,0]] true)],.d (.agg (isD .u8 [60,130,171,172,233,194,176,78,208,66,81,246,30,165,225,17]))⟩
def E21:Ent:=qcO [26,32,144,53,149,83,102,35,117,227,158,123,245,223,157,197,87,154,32,21,164,121,226,97,164,11,67,51,216,119,150,65,234,230,8,32,60,130,171,172,233,194,176,78,208,66,81,246,30,165,225,17,128,0,0,0,0,0,0,0,0,0,1,160] [2644925963,1403904551,3892945174,3220864917,3823224883,1890630038,2167372282,3174321435]
def E22:Ent:=⟨48,[.d (.int .i64 26),.sl 0 1 0 3 3 false],[.live (.dat 1 [st [144,53,149,83,102,35,117,227,158,123,245,223,157,197,87,154],st [21,164,121,226,97,164,11,67,51,216,119,150,65,234,230,8],st [60,130,171,172,233,194,176,78,208,66,81,246,30,165,225,17]] true)],.d (d8)⟩
def E23:Ent:=⟨119,[.d (.agg [.int .i64 3,.list [.int .i64 5],.list [.int .i64 20],.list [.agg [.int .i64 0,.int .i64 15]],.int .i64 0,.int .i64 0,.int .i64 1048577,.int .i64 1,.int .i64 1,.list [],.list [],d11])],[],.d (d8)⟩
def E24:Ent:=qcO [25,38,28,6,0,0,130,128,128,1,2,2,2,10,2,40,2,0,30,0,0,32,157,166,94,11,83,173,226,39,232,9,161,22,191,250,127,149,128,0,0,0,0,0,0,0,0,0,0,0,0,0,0,0,0,0,0,0,0,0,0,0,1,48] [2286905017,3681456519,2010603728,3394124285,2499693683,4210936151,831188465,1287656521]
def E25:Ent:=⟨48,[.d (.int .i64 25),.sl 0 1 0 2 2 true],[.live (.dat 1 [st [28,6,0,0,130,128,128,1,2,2,2,10,2,40,2,0,30,0,0],st [157,166,94,11,83,173,226,39,232,9,161,22,191,250,127,149]] true)],.d (.agg (isD .u8 [136,79,102,185,219,110,145,135,119,215,96,208,202,78,57,253]))⟩
def E26:Ent:=⟨93,[.d (d9),.d (d9)],[],.d (.bool true)⟩
def T0:List Ent:=[]
def T1:List Ent:=E0::T0
def T2:List Ent:=E1::T1
def T3:List Ent:=E2::T2
def T4:List Ent:=E3::T3
def T5:List Ent:=E4::T4
def T6:List Ent:=E5::T5
def T7:List Ent:=E6::T6
def T8:List Ent:=E7::T7
def T9:List Ent:=E8::T8
def T10:List Ent:=E9::T9
def T11:List Ent:=E10::T10
def T12:List Ent:=E11::T11
def T13:List Ent:=E12::T12
def T14:List Ent:=E13::T13
def T15:List Ent:=E14::T14
def T16:List Ent:=E15::T15
def T17:List Ent:=E16::T16
def T18:List Ent:=E17::T17
def T19:List Ent:=E18::T18
def T20:List Ent:=E19::T19
def T21:List Ent:=E20::T20
def T22:List Ent:=E21::T21
def T23:List Ent:=E22::T22
def T24:List Ent:=E23::T23
def T25:List Ent:=E24::T24
def T26:List Ent:=E25::T25
def T27:List Ent:=E26::T26
def spl (n:Nat):Nat:=match Nat.ble n 2,Nat.ble n 4,Nat.ble n 8,Nat.ble n 16,Nat.ble n 32 with
 | true,_,_,_,_=>1|_,true,_,_,_=>2|_,_,true,_,_=>4|_,_,_,true,_=>8|_,_,_,_,true=>16|_,_,_,_,_=>32
def qxH {n:Nat} (h:2<=n) (h2:n<=60):1<=spl n/\spl n<n:=by
 have:∀n:_root_.Fin 61,2<=n.1->1<=spl n.1/\spl n.1<n.1:=by decide
 exact this ⟨n,by omega⟩ h
def okS (g n:Nat):Bool:=match ((bs []).cfg 13).RC g [I n] []with
 | some (.d (.int .i64 m))=>decide (m=(spl n:Int))|_=>false
def qxI {g n:Nat} (h:okS g n=true):RCs PP g [I n] [] (I (spl n)):=by
 have e:Run [] ⟨g,[I n],[],I (spl n)⟩:=by
  unfold okS at h;unfold Run;split at h
  ·rename_i m hm;rw[hm,of_decide_eq_true h]
  ·cases h
 exact(Jx e qst) _ qTR
def okP:((List.range 59).all fun n=>okS 112 (n+2))=true:=by kernel_rfl
def okR:((List.range 59).all fun n=>okS 55 (n+2))=true:=by kernel_rfl
def qHC {n:Nat} (h:2<=n) (h2:n<=60):RCs PP 112 [I n] [] (I (spl n)):=qxI (by
 have:=qTI.1 okP (n - 2) (qU2.2 (by omega));rwa[show n - 2+2=n by omega]at this)
def qHD {n:Nat} (h:2<=n) (h2:n<=60):RCs PP 55 [I n] [] (I (spl n)):=qxI (by
 have:=qTI.1 okR (n - 2) (qU2.2 (by omega));rwa[show n - 2+2=n by omega]at this)
end Go.Aev.S29
end
