/- Lemmas for the statements of this seat: an abstract machine that the model follows, and contracts of functions. Conditions: none. -/
import Derived.Test.YtakpdahnlpjooaaGreatDoorS29E00
import Derived.Test.YtakpdahnlpjooaaGreatDoorA26
import Derived.Test.YtakpdahnlpjooaaGreatDoorS29E04
set_option linter.all false
set_option maxRecDepth 1000000
set_option maxHeartbeats 0
noncomputable section
namespace Go.Aev.S29
open Go Go.Aev Go.Aev.M44 Go.Aev.R29
theorem e25:Run T25 E25:=by unfold Run; kernel_rfl
theorem e26:Run T26 E26:=by unfold Run; kernel_rfl
def ivA (i:Nat):Int:=.ofNat (ivL.getD i 0)
theorem qip {l r:List Nat} (h1:(Nat.beq l.length 64&&l.all fun n=>Nat.blt n 256)=true) (h2:qaF (isD .u8 l) (isD .u32 ivL)=isD .u32 r)
  {ps:List Prop} (h3:qeE (qcH l r).rows (qcH l r).args=some (ps,[.d d3,.d (.list (isD .u8 l))])) (h4:qf ps):RCs PP 189 (qcH l r).args (qcH l r).rows (qcH l r).v:=by
 rw[qTC,qUt]at h1;haveI:R.PW:=⟨fun _ _=>.nilp⟩
 obtain⟨c,hc,hr⟩:=qxr (a:=ivA) (bl:=isD .u8 l) (by unfold isD; rw[qTS]; exact h1.1) (fun d hd=>by
  obtain⟨n,hn,rfl⟩:=qTV.1 hd;have:=qTI.1 h1.2 n hn;rw[qT0]at this;exact⟨UInt8.ofNat n,(qdZ this).symm⟩)
 have e:ww8 ivA=isD .u32 ivL:=by kernel_rfl
 rw[e]at hc hr;have hr:RCs PP 189 [.d d3,.d (.list (isD .u8 l))] [] (.d (.agg (ww8 c))):=hr;rw[hc,h2]at hr;exact hr.of_argsB h3 h4
theorem e15:RCs PP E15.g E15.args E15.rows E15.v:=qip (ps:=[]) (by kernel_rfl) (by kernel_rfl) (by kernel_rfl) trivial
theorem e17:RCs PP E17.g E17.args E17.rows E17.v:=qip (ps:=[]) (by kernel_rfl) (by kernel_rfl) (by kernel_rfl) trivial
theorem e19:RCs PP E19.g E19.args E19.rows E19.v:=qip (ps:=[]) (by kernel_rfl) (by kernel_rfl) (by kernel_rfl) trivial
theorem e21:RCs PP E21.g E21.args E21.rows E21.v:=qip (ps:=[]) (by kernel_rfl) (by kernel_rfl) (by kernel_rfl) trivial
theorem e24:RCs PP E24.g E24.args E24.rows E24.v:=qip (ps:=[]) (by kernel_rfl) (by kernel_rfl) (by kernel_rfl) trivial
theorem t0:Yp T0:=qqP
theorem t1:Yp T1:=Jv e0 t0
theorem t2:Yp T2:=Jv e1 t1
theorem t3:Yp T3:=Jv e2 t2
theorem t4:Yp T4:=Jv e3 t3
theorem t5:Yp T5:=Jv e4 t4
theorem t6:Yp T6:=Jv e5 t5
theorem t7:Yp T7:=Jv e6 t6
theorem t8:Yp T8:=Jv e7 t7
theorem t9:Yp T9:=qfg e8 t8
theorem t10:Yp T10:=qfg e9 t9
theorem t11:Yp T11:=Jv e10 t10
theorem t12:Yp T12:=Jv e11 t11
theorem t13:Yp T13:=Jv e12 t12
theorem t14:Yp T14:=Jv e13 t13
theorem t15:Yp T15:=Jv e14 t14
theorem t16:Yp T16:=qfg e15 t15
theorem t17:Yp T17:=Jv e16 t16
theorem t18:Yp T18:=qfg e17 t17
theorem t19:Yp T19:=Jv e18 t18
theorem t20:Yp T20:=qfg e19 t19
theorem t21:Yp T21:=Jv e20 t20
theorem t22:Yp T22:=qfg e21 t21
theorem t23:Yp T23:=Jv e22 t22
theorem t24:Yp T24:=Jv e23 t23
theorem t25:Yp T25:=qfg e24 t24
theorem t26:Yp T26:=Jv e25 t25
theorem t27:Yp T27:=Jv e26 t26
theorem qHK:RCs PP 7 [] [] (.d (.bool true)):=(qjR (qqO t27) 13).RC 7 [] [] _ (by kernel_rfl)
end Go.Aev.S29
end
section
namespace Go.Aev.R29
open Go Go.Aev Go.Aev.R Go.Aev.M44 Go.Aev.S29
noncomputable def dgD (d:D):D:=.agg ((List.range 16).map fun j=>.int .u8 (toI (cel d j)))
noncomputable def qJI (R:List D→D) (N:D→D→D) (g:FuncId):Option (List V→V):=match Nat.beq g 52,Nat.beq g 112,Nat.beq g 113 with
 | true,_,_=>some fun args=>match args with
  | [.d (.list l)]=>.d (dgD (R l))|_=>.nil
 | _,true,_=>some fun args=>match args with
  | [.d (.int _ n)]=>I (spl n.toNat)|_=>.nil
 | _,_,true=>some fun args=>match args with
  | [.d a,.d b]=>.d (dgD (N a b))|_=>.nil
 | _,_,_=>none
noncomputable def cR (R:List D→D) (N:D→D→D):qw:=cU (qJI R N)
theorem ql2 (R:List D→D) (N:D→D→D):COK (cR R N).cfg:=qpm _
noncomputable def elG (l:List D) (i:Nat):D:=dgD (l.getD i .nilp)
def ln (l:List D):Int:=(l.length:Int)
def kk (l:List D):Int:=((spl (Int.toNat (ln l)):Nat):Int)
def qem (l:List D):Prop:=(List.all l fun e=>List.length (D.cells e)==16)=true
def fst (l:List D):List D:=List.take (Int.toNat (kk l) - 0) (List.drop 0 l)
def qfv (l:List D):List D:=List.take (Int.toNat (ln l) - Int.toNat (kk l)) (List.drop (Int.toNat (kk l)) l)
variable {R:List D→D} {N:D→D→D} {l:List D}
theorem qJJ (R:List D→D) (N:D→D→D) (hp:qf [((ln l)==(0:Int))=false,((ln l)==(1:Int))=true,(0:Int)≤(0:Int)∧(0:Int)<ln l,l[0]?=some (elG l 0),16=16]):RCs PP 52 [.d (.list l)] [] (.d (elG l 0)) :=
 qP (ql2 R N) (by kernel_rfl) (qb.fin' (ql2 R N) (qg [(22,false),(25,true)] [(27,elG l)] [] 0 false true) (fun _=>false) 300 (qs:=[]) (by kernel_rfl) hp trivial)
theorem qJK (hp:qf [((ln l)==(0:Int))=false,((ln l)==(1:Int))=false,RCs PP 112 [.d (.int .i64 (ln l))] [] (.d (.int .i64 (kk l))),(0:Int)≤kk l,(0:Int)≤kk l,0≤Int.toNat (kk l)∧Int.toNat (kk l)≤List.length l∧Int.toNat (kk l)≤Int.toNat (kk l)∧Int.toNat (kk l)≤List.length l∧true=true,qem l,RCs PP 52 [.d (.list (fst l))] [] (.d (dgD (R (fst l)))),
  (0:Int)≤kk l,(0:Int)≤ln l,(0:Int)≤ln l,Int.toNat (kk l)≤Int.toNat (ln l)∧Int.toNat (ln l)≤List.length l∧Int.toNat (ln l)≤Int.toNat (ln l)∧Int.toNat (ln l)≤List.length l∧true=true,qem l,RCs PP 52 [.d (.list (qfv l))] [] (.d (dgD (R (qfv l)))),RCs PP 113 [.d (dgD (R (fst l))),.d (dgD (R (qfv l)))] [] (.d (dgD (N (dgD (R (fst l))) (dgD (R (qfv l))))))]) :
  RCs PP 52 [.d (.list l)] [] (.d (dgD (N (dgD (R (fst l))) (dgD (R (qfv l)))))) :=
 qP (ql2 R N) (by kernel_rfl) (qb.fin' (ql2 R N) (qg [(22,false),(25,false)] [] [] 0 false true) (fun _=>false) 300 (qs:=[]) (by kernel_rfl) hp trivial)
def Jw [PW] (l:List D):Prop:=∀x∈l,qj (Yw 301 301) x
noncomputable def Yc:Nat→List D→D
 | 0,_=>.nilp|n+1,l=>match Nat.ble l.length 1 with
  | true=>l.getD 0 .nilp|false=>JR (Yc n (l.take (spl l.length))) (Yc n (l.drop (spl l.length)))
variable [PW]
theorem YS {x:D} (h:qj (Yw 301 301) x):dgD x=x:=by
 obtain⟨y,rfl⟩:=qfq h;rfl
theorem qJL {x:D} (h:qj (Yw 301 301) x):x.cells.length=16:=by
 obtain⟨y,rfl⟩:=qfq h;rfl
theorem Jw.all {l:List D} (h:Jw l):qem l:=by
 unfold qem;rw[qTI];intro e he;rw[qJL (h e he)]; rfl
theorem Jw.take {l:List D} (h:Jw l) (k:Nat):Jw (l.take k):=fun x hx=>h x (qUg hx)
theorem Jw.drop {l:List D} (h:Jw l) (k:Nat):Jw (l.drop k):=fun x hx=>h x (qUE hx)
theorem qyk {l:List D} {k:Nat} (h:l.length≠k):(ln l==(k:Int))=false:=by
 unfold ln;rw[beq_eq_false_iff_ne]; omega
theorem qen (l:List D):kk l=((spl l.length:Nat):Int):=by unfold kk ln; rw[qTK]
theorem qq7 (l:List D):fst l=l.take (spl l.length):=by
 unfold fst;rw[qen,qTK,qTY,qUO]
theorem qq8 (l:List D):qfv l=l.drop (spl l.length):=by
 unfold qfv ln;rw[qen,qTK,qTK,qTX (by rw[qT8]; omega)]
theorem qyl:∀(n:Nat) (l:List D),l.length≤n→1≤l.length→l.length≤60→Jw l→RCs PP 52 [.d (.list l)] [] (.d (Yc n l))∧qj (Yw 301 301) (Yc n l):=by
 intro n
 induction n with
 | zero=>intro l h1 h2; omega
 | succ n ih =>
  intro l h1 h2 h3 hd
  by_cases hl:l.length=1
  ·obtain⟨a,rfl⟩:∃a,l=[a]:=by
    match l,hl with
    | [a],_=>exact⟨a,rfl⟩
   have ha:=hd a qTR;refine⟨?_,ha⟩;have:=qJJ (fun _=>.nilp) (fun _ _=>.nilp) (l:=[a]) ⟨rfl,rfl,⟨by omega,by show(0:Int)<1; decide⟩,by unfold elG; show some a=some (dgD a); rw[YS ha],rfl,trivial⟩;have e:elG [a] 0=a:=YS ha;rw[e]at this;exact this
  ·obtain⟨s1,s2⟩:=qhV (n:=l.length) (by omega) h3;have l1:(l.take (spl l.length)).length=spl l.length:=by rw[qTU]; omega
   have l2:(l.drop (spl l.length)).length=l.length - spl l.length:=by rw[qT8]
   obtain⟨a1,a2⟩:=ih (l.take (spl l.length)) (by omega) (by omega) (by omega) (hd.take _);obtain⟨b1,b2⟩:=ih (l.drop (spl l.length)) (by omega) (by omega) (by omega) (hd.drop _);have hn:=qJm a2 b2;have ht:=(qxW a2 b2).2;have e:Yc (n+1) l=JR (Yc n (l.take (spl l.length))) (Yc n (l.drop (spl l.length))):=by
    have hb:Nat.ble l.length 1=false:=by
     cases h:Nat.ble l.length 1 with
     | false=>rfl|true=>have:=qT5 h; omega
    show(match Nat.ble l.length 1 with|true=>_|false=>_)=_;rw[hb]
   rw[e];refine⟨?_,ht⟩;have h112:RCs PP 112 [.d (.int .i64 (ln l))] [] (.d (.int .i64 (kk l))):=by
    rw[qen];exact qvy (n:=l.length) (by omega) h3
   have:=qJK (R:=Yc n) (N:=JR) (l:=l) ⟨qyk (k:=0) (by omega),qyk (k:=1) hl,h112,by rw[qen]; omega,by rw[qen]; omega,by rw[qen,qTK]; exact⟨by omega,by omega,by omega,by omega,rfl⟩,hd.all,by rw[qq7,YS a2]; exact a1,
    by rw[qen]; omega,by unfold ln; omega,by unfold ln; omega,by rw[qen]; unfold ln; rw[qTK,qTK]; exact⟨by omega,by omega,by omega,by omega,rfl⟩,hd.all,by rw[qq8,YS b2]; exact b1,by rw[qq7,qq8,YS a2,YS b2,YS ht]; exact hn,trivial⟩
   rw[qq7,qq8,YS a2,YS b2,YS ht]at this;exact this
end Go.Aev.R29
end
noncomputable section
namespace Go.Aev.R29
open Go Go.Aev Go.Aev.R Go.Aev.M44
variable [PW]
def qxX (ds:List D) (d:D):Prop:=d=qcJ (qa ds 0) (qa ds 1)
def qqX:Con:={pts:=[.i .i64,Zfw],pre:=[.le Za Ze,.le Ze (.i 59)],rts:=[Zba],post:=[]}
def qcK:Con:={qqX with fact:=qxX}
theorem qxY {d:D} (h:qj (Yw 301 301) d):(Yw 140737488355328 140737488355328).form d=d:=by
 obtain⟨y,rfl⟩:=qfq h;rfl
theorem qxZ:qp PP 16 qcK:=fun ds hp=>by
 obtain⟨a,b,rfl⟩:∃a b,ds=[a,b]:=by
  match ds,hp.1.1 with
  | [a,b],_=>exact⟨a,b,rfl⟩
 obtain⟨k,rfl⟩:qj (.i .i64) a:=hp.1.2 0 _ rfl;obtain⟨n,rfl,n0,n1⟩:qj (.rg (-9223372036854775808) 9223372036854775807) b:=hp.1.2 1 _ rfl;have h0:(0:Int)≤k:=hp.2 _ (by simp[qcK,qqX]:(F.le (.i 0) (.v 0))∈qcK.pre);have h1:k≤(59:Int):=hp.2 _ (by simp[qcK,qqX]:(F.le (.v 0) (.i 59))∈qcK.pre);obtain⟨r1,r2⟩:=qIn h0 h1 (n:=n) (by unfold qK; omega);refine⟨qcJ (.int .i64 k) (.int .i64 n),⟨⟨r2,fun f hf=>by cases hf⟩,rfl⟩,?_⟩;show RCs PP 16 [.d (.int .i64 k),.d (.int .i64 n)] [] (.d ((Yw 140737488355328 140737488355328).form _));rw[qxY r2];exact r1
def qel (l:List D):List D:=(List.range l.length).map fun j=>qcJ (.int .i64 (j:Nat)) (.int .i64 (toI (l.getD j .nilp)))
theorem qx0 (l:List D):(qel l).length=l.length:=by unfold qel; rw[qTS,qVw]
theorem qx1 {l:List D} {j:Nat} (h:j<l.length):(qel l)[j]?=some (qcJ (.int .i64 (j:Nat)) (.int .i64 (toI (l.getD j .nilp)))):=by
 unfold qel;rw[qT3,qVj h]; rfl
end Go.Aev.R29
end
noncomputable section
namespace Go.Aev.R29
open Go Go.Aev Go.Aev.R
variable [PW]
def qzi (ds:List D) (d:D):Prop:=d=.list (qel (toL (cel (qa ds 0) 16)))
structure qPM (s:D) (ρ:Nat→D):Prop where
 a0:ρ 0=s
 i0:0≤toI (ρ 1)
 l:(toL (ρ 2)).length=(toL (cel s 16)).length
 f:∀j,j<toN (ρ 1)→j<(toL (cel s 16)).length→(toL (ρ 2)).getD j .nilp=qcJ (.int .i64 (j:Nat)) (.int .i64 (toI ((toL (cel s 16)).getD j .nilp)))
def qmH:Con:={pts:=[Zcg],pre:=[.le ZaB ZbJ,.pre Zd2 ZaB Zfw],rts:=[.l 60 Zba],post:=[]}
def qmI:RFn:=mF 53 qmH [⟨3,[(3,.o (.sl 0 16 Za ZaB ZaB true)),(11,.o (.c .l Zd2)),(12,.o (.c (.i .i64) ZaB)),(13,ZbK)],[.dat 16 Zb false],[Zcg,.i .i64,.l 300 Zba],[Z5,.nle (.w 8 Za ZaB) Zw],(Za,.w 1 ZaB Zc,Zk,Za,Za,Za)⟩]
def qcR:Tab:=[(16,qcK)]
theorem qPN:Ye PP 53 qmH (Ev0 PP qmI qcR):=fe qmI qcR (qm qxZ (qu)) (by kernel_rfl) (by refine⟨?_,?_,trivial⟩<;>intro<;>kernel_rfl)
def qr0:Con:={qmH with post:=qmH.post++[],fact:=qzi}
def qPO:TQ:=.next [] 0 [Ze,Za,.w 32 ZaB (.u 2 0 ZgR)]
def qiL:TQ:=.fork (.w 10 Zc ZaB) (.next [(16,[Zbi,ZiM])] 0 [Ze,ZbF,.w 21 Zb (.u 2 0 (.w 4 (.mk (.i .i64) ZfK) (.w 4 (.u 2 0 (.w 4 (.mk (.i .u8) (.u 1 0 Zao)) (.w 4 (.mk (.i .u8) (.u 1 1 Zao)) (.w 4 (.mk (.i .u8) (.u 1 2 Zao)) (.w 4 (.mk (.i .u8) (.u 1 3 Zao)) (.w 4 (.mk (.i .u8) (.u 1 4 Zao)) (.w 4 (.mk (.i .u8) (.u 1 5 Zao)) (.w 4 (.mk (.i .u8) (.u 1 6 Zao)) (.w 4 (.mk (.i .u8) (.u 1 7 Zao)) (.w 4 (.mk (.i .u8) (.u 1 8 Zao)) (.w 4 (.mk (.i .u8) (.u 1 9 Zao)) (.w 4 (.mk (.i .u8) (.u 1 10 Zao)) (.w 4 (.mk (.i .u8) (.u 1 11 Zao)) (.w 4 (.mk (.i .u8) (.u 1 12 Zao)) (.w 4 (.mk (.i .u8) (.u 1 13 Zao)) (.w 4 (.mk (.i .u8) (.u 1 14 Zao)) (.w 4 (.mk (.i .u8) (.u 1 15 Zao)) .z))))))))))))))))) .z)))]) (.done [] (.w 6 ZaB (.w 7 Za Zb)))
theorem qPP:YF PP qmI qcR=[qPO,qiL]:=by kernel_rfl
def qr1:TQ→List T
 | .fork _ (.next _ _ σ) _=>σ|_=>[]
theorem qPQ (ρ:Nat→D):((qr1 qiL).getD 2 .z).den (wOf PP qcR) ρ=.list ((toL (ρ 2)).set (0+toN (ρ 1)) (dgD (wOf PP qcR 16 [.int .i64 (toI (ρ 1)),.int .i64 (toI ((toL (cel (ρ 0) 16)).getD (toN (ρ 1)) .nilp))]))):=by kernel_rfl
theorem qPR {ds:List D} {d:D} (h:Ev0 PP qmI qcR ds d):qzi ds d:=by
 refine Jf qPP (I:=fun k ρ=>qPM (qa ds 0) ρ) (Q:=fun d=>d=.list (qel (toL (cel (qa ds 0) 16)))) ?_ ?_ h
 ·intro k st q ρ d hst hq hg hi ht;have i0:=hi.i0;rcases k with _|k
  ·have hq:qiL=q:=by simpa using hq
   subst hq;have hn:((toN (ρ 1):Nat):Int)=toI (ρ 1):=by unfold toN; omega
   rcases ht with⟨h1,⟨hc,_⟩,h2⟩|⟨h1,_,rfl⟩
   ·have h1:decide (toI (ρ 1)<(((toL (cel (ρ 0) 16)).length:Nat):Int))=true:=h1;have h1:=of_decide_eq_true h1;obtain⟨_,⟨ht,_⟩,hf⟩:=hc qcK rfl;have hf:wOf PP qcR 16 [.int .i64 (toI (ρ 1)),.int .i64 (toI ((toL (cel (ρ 0) 16)).getD (toN (ρ 1)) .nilp))]=qcJ (.int .i64 (toI (ρ 1))) (.int .i64 (toI ((toL (cel (ρ 0) 16)).getD (toN (ρ 1)) .nilp))):=hf;have ht:qj (Yw 301 301) (wOf PP qcR 16 [.int .i64 (toI (ρ 1)),.int .i64 (toI ((toL (cel (ρ 0) 16)).getD (toN (ρ 1)) .nilp))]):=ht;have hw:=qPQ ρ;rw[YS ht,hf,qT6]at hw;rw[hi.a0]at h1;refine h2 ⟨hi.a0,by show 0≤toI (ρ 1)+1; omega,?_,fun j hj hj2=>?_⟩
    ·show(toL (((qr1 qiL).getD 2 .z).den (wOf PP qcR) ρ)).length=_;rw[hw,qb7,qUI,hi.l]
    ·have hj:j<(toI (ρ 1)+1).toNat:=hj;show(toL (((qr1 qiL).getD 2 .z).den (wOf PP qcR) ρ)).getD j .nilp=_;rw[hw,qb7,hi.a0,List.getD_eq_getElem?_getD]
     by_cases e:toN (ρ 1)=j
     ·subst e;rw[qUV (by rw[hi.l]; omega),hn]; rfl
     ·rw[qUF e,←List.getD_eq_getElem?_getD];exact hi.f j (by omega) hj2
   ·have h1:decide (toI (ρ 1)<(((toL (cel (ρ 0) 16)).length:Nat):Int))=false:=h1;have h1:=of_decide_eq_false h1;rw[hi.a0]at h1;show D.list (((toL (ρ 2)).drop 0).take (((toL (cel (ρ 0) 16)).length:Nat):Int).toNat)=_;rw[qTY,qTK,hi.a0,qTX (by rw[hi.l]; exact qTF _)]
    congr 1
    refine qU6 (by rw[qx0,hi.l]) fun j g1 g2=>?_
    have hj:j<(toL (cel (qa ds 0) 16)).length:=by rw[←hi.l]; exact g1
    have h3:=hi.f j (by omega) hj;rw[List.getD_eq_getElem?_getD,qTE g1]at h3;have h4:=qx1 hj;rw[qTE g2,←h3]at h4;exact(Option.some.inj h4).symm
  ·simp at hq
 ·intro d ht;obtain⟨_,ht⟩:=ht;refine ht ⟨rfl,by show(0:Int)≤0; decide,?_,fun j hj=>?_⟩
  ·show(List.replicate (((toL (cel (qa ds 0) 16)).length:Nat):Int).toNat _).length=_;rw[qU0,qTK]
  ·exact absurd hj (qWn j)
theorem qPS:qp PP 53 qr0:=qPN.more fun ds d hp _ h=>⟨fun f hf=>(by cases hf),qPR h⟩
end Go.Aev.R29
end
noncomputable section
namespace Go.Aev.R29
open Go Go.Aev Go.Aev.R Go.Aev.M44 Go.Aev.S29
structure Wk where
 d:D
 f:Nat
 p:Nat
 ok:Bool
def wkD (w:Wk):D:=.agg ((List.range 16).map (fun j=>D.int .u8 (toI (cel w.d j)))++[.int .i64 w.f,.int .i64 w.p,.bool w.ok])
def qKC (s:List D) (k:Int) (A:List V→Wk) (N:D→D→D) (g:FuncId):Option (List V→V):=match Nat.beq g 72,Nat.beq g 134,Nat.beq g 55,Nat.beq g 56 with
 | true,_,_,_=>some fun args=>.d (wkD (A args))
 | _,true,_,_=>some fun _=>.d (.list s)
 | _,_,true,_=>some fun _=>I k
 | _,_,_,true=>some fun args=>match args with
  | [.d a,.d b]=>.d (dgD (N a b))|_=>.nil
 | _,_,_,_=>none
def cWk (s:List D) (k:Int) (A:List V→Wk) (N:D→D→D):qw:=kA (qKC s k A N)
theorem qcO (s:List D) (k:Int) (A:List V→Wk) (N:D→D→D):COK (cWk s k A N).cfg:=YC _
def wArgs (a n:Int) (l:List Int) (fo pa:List D):List V:=[I a,I n,L l,.d (.list fo),.d (.list pa)]
end Go.Aev.R29
end
section
namespace Go.Aev.R29
open Go Go.Aev Go.Aev.R Go.Aev.M44 Go.Aev.S29
noncomputable def qyr:D:=.agg ((List.range 16).map fun _=>D.int .u8 0)
noncomputable def wk0:Wk:=⟨qyr,0,0,false⟩
section
variable {s:List D} {k a n:Int} {A:List V→Wk} {N:D→D→D} {l:List Int} {fo pa:List D}
def lns (l:List D):Int:=(l.length:Int)
def com (s:List D) (a n:Int) (l:List Int):Prop:=RCs PP 134 [L l,I a,I (a+n)] [] (.d (.list s))
theorem qKr (s:List D) (k a n:Int) (A:List V→Wk) (N:D→D→D) (hp:qf [qi (a+n),com s a n l,(lns s==(0:Int))=true,(lns pa==(0:Int))=true]):RCs PP 72 (wArgs a n l fo pa) [] (.d (wkD wk0)) :=
 qP (qcO s k A N) (by kernel_rfl) (qb.fin' (qcO s k A N) (qg [(23,true),(26,true)] [] [] 0 false true) (fun _=>false) 300 (qs:=[]) (by kernel_rfl) hp trivial)
theorem qKs (s:List D) (k a n:Int) (A:List V→Wk) (N:D→D→D) (hp:qf [qi (a+n),com s a n l,(lns s==(0:Int))=true,(lns pa==(0:Int))=false,(0:Int)≤(0:Int)∧(0:Int)<lns pa,pa[0]?=some (elG pa 0),16=16]):RCs PP 72 (wArgs a n l fo pa) [] (.d (wkD ⟨elG pa 0,0,1,true⟩)) :=
 qP (qcO s k A N) (by kernel_rfl) (qb.fin' (qcO s k A N) (qg [(23,true),(26,false)] [(28,elG pa)] [] 0 false true) (fun _=>false) 300 (qs:=[]) (by kernel_rfl) hp trivial)
theorem qKt (s:List D) (k a n:Int) (A:List V→Wk) (N:D→D→D) (hp:qf [qi (a+n),com s a n l,(lns s==(0:Int))=false,(n==(1:Int))=true,(0:Int)≤(0:Int)∧(0:Int)<lns fo,fo[0]?=some (elG fo 0),16=16]):RCs PP 72 (wArgs a n l fo pa) [] (.d (wkD ⟨elG fo 0,1,0,true⟩)) :=
 qP (qcO s k A N) (by kernel_rfl) (qb.fin' (qcO s k A N) (qg [(23,false),(33,true)] [(34,elG fo)] [] 0 false true) (fun _=>false) 300 (qs:=[]) (by kernel_rfl) hp trivial)
def ar1 (a k:Int) (s fo pa:List D):List V:=[I a,I k,.d (.list s),.d (.list fo),.d (.list pa)]
def qep (l:List D) (f:Nat):List D:=List.take (List.length l - Int.toNat (f:Int)) (List.drop (Int.toNat (f:Int)) l)
def wf1 (A:List V→Wk) (a k:Int) (s fo pa:List D):Wk:=A (ar1 a k s fo pa)
def wf2 (A:List V→Wk) (a k n:Int) (s fo pa:List D):Wk:=A (ar1 (a+k) (n - k) s (qep fo (wf1 A a k s fo pa).f) (qep pa (wf1 A a k s fo pa).p))
theorem qKu (s:List D) (k a n:Int) (A:List V→Wk) (N:D→D→D) (hp:qf [qi (a+n),com s a n l,(lns s==(0:Int))=false,(n==(1:Int))=false,RCs PP 55 [I n] [] (I k),RCs PP 72 (ar1 a k s fo pa) [] (.d (wkD (wf1 A a k s fo pa))),(!(wf1 A a k s fo pa).ok)=true]):RCs PP 72 (wArgs a n l fo pa) [] (.d (wkD wk0)) :=
 qP (qcO s k A N) (by kernel_rfl) (qb.fin' (qcO s k A N) (qg [(23,false),(33,false),(48,true)] [] [] 0 false true) (fun _=>false) 300 (qs:=[]) (by kernel_rfl) hp trivial)
theorem qKv (s:List D) (k a n:Int) (A:List V→Wk) (N:D→D→D) (hp:qf [qi (a+n),com s a n l,(lns s==(0:Int))=false,(n==(1:Int))=false,RCs PP 55 [I n] [] (I k),RCs PP 72 (ar1 a k s fo pa) [] (.d (wkD (wf1 A a k s fo pa))),(!(wf1 A a k s fo pa).ok)=false,
  qi (a+k),qi (n - k),(0:Int)≤((wf1 A a k s fo pa).f:Int),Int.toNat ((wf1 A a k s fo pa).f:Int)≤fo.length∧fo.length≤fo.length,qem fo,(0:Int)≤((wf1 A a k s fo pa).p:Int),Int.toNat ((wf1 A a k s fo pa).p:Int)≤pa.length∧pa.length≤pa.length,qem pa,
  RCs PP 72 (ar1 (a+k) (n - k) s (qep fo (wf1 A a k s fo pa).f) (qep pa (wf1 A a k s fo pa).p)) [] (.d (wkD (wf2 A a k n s fo pa))),
  RCs PP 56 [.d (dgD (wf1 A a k s fo pa).d),.d (dgD (wf2 A a k n s fo pa).d)] [] (.d (dgD (N (dgD (wf1 A a k s fo pa).d) (dgD (wf2 A a k n s fo pa).d)))),
  qi (((wf1 A a k s fo pa).f:Int)+((wf2 A a k n s fo pa).f:Int)),qi (((wf1 A a k s fo pa).p:Int)+((wf2 A a k n s fo pa).p:Int))]) :
  RCs PP 72 (wArgs a n l fo pa) [] (.d (wkD ⟨dgD (N (dgD (wf1 A a k s fo pa).d) (dgD (wf2 A a k n s fo pa).d)),(wf1 A a k s fo pa).f+(wf2 A a k n s fo pa).f,(wf1 A a k s fo pa).p+(wf2 A a k n s fo pa).p,(wf2 A a k n s fo pa).ok⟩)) :=
 qP (qcO s k A N) (by kernel_rfl) (qb.fin' (qcO s k A N) (qg [(23,false),(33,false),(48,false)] [] [] 0 false true) (fun _=>false) 300 (qs:=[]) (by kernel_rfl) hp trivial)
end
end Go.Aev.R29
end
section
namespace Go.Aev.R29
open Go Go.Aev Go.Aev.R Go.Aev.M44 Go.Aev.S29
def inL (l:List Int) (a b:Nat):List Int:=l.filter fun y=>decide ((a:Int)≤y)&&decide (y<(b:Int))
noncomputable def Yg:Nat→Nat→Nat→List Int→List D→List D→Wk
  | 0,_,_,_,_,_=>wk0|m+1,a,n,l,fo,pa=>match (inL l a (a+n)).isEmpty with
    | true=>match pa.isEmpty with
      | true=>wk0|false=>⟨pa.getD 0 .nilp,0,1,true⟩
    | false=>match Nat.beq n 1 with
      | true=>⟨fo.getD 0 .nilp,1,0,true⟩|false=>match (Yg m a (spl n) (inL l a (a+n)) fo pa).ok with
        | false=>wk0|true =>
          ⟨JR (Yg m a (spl n) (inL l a (a+n)) fo pa).d (Yg m (a+spl n) (n - spl n) (inL l a (a+n)) (fo.drop (Yg m a (spl n) (inL l a (a+n)) fo pa).f) (pa.drop (Yg m a (spl n) (inL l a (a+n)) fo pa).p)).d,
           (Yg m a (spl n) (inL l a (a+n)) fo pa).f+(Yg m (a+spl n) (n - spl n) (inL l a (a+n)) (fo.drop (Yg m a (spl n) (inL l a (a+n)) fo pa).f) (pa.drop (Yg m a (spl n) (inL l a (a+n)) fo pa).p)).f,
           (Yg m a (spl n) (inL l a (a+n)) fo pa).p+(Yg m (a+spl n) (n - spl n) (inL l a (a+n)) (fo.drop (Yg m a (spl n) (inL l a (a+n)) fo pa).f) (pa.drop (Yg m a (spl n) (inL l a (a+n)) fo pa).p)).p,
           (Yg m (a+spl n) (n - spl n) (inL l a (a+n)) (fo.drop (Yg m a (spl n) (inL l a (a+n)) fo pa).f) (pa.drop (Yg m a (spl n) (inL l a (a+n)) fo pa).p)).ok⟩
def YV (l:List Int):Prop:=l.Pairwise (·<·)
theorem YV.inL {l:List Int} (h:YV l) (a b:Nat):YV (inL l a b):=qV3 _ h
theorem qys (l:List Int) (a b:Nat):(inL l a b).length≤l.length:=qVD _ _
theorem qKw {l:List Int} {a b:Nat} {y:Int}:y∈inL l a b↔y∈l∧(a:Int)≤y∧y<(b:Int):=by
 unfold inL;rw[qUT,qTC,decide_eq_true_eq,decide_eq_true_eq]
theorem qyt {l:List Int} (h:YV l) (a:Nat):(inL l a (a+1)).length≤1:=by
 have hp:=h.inL a (a+1);have hm:∀y∈inL l a (a+1),y=(a:Int):=fun y hy=>by
  have:=qKw.1 hy;omega
 match hl:inL l a (a+1)with
 | []=>simp|[_]=>simp|x::y::r =>
  rw[hl]at hp hm;have h1:=hm x (by simp);have h2:=hm y (by simp);unfold YV at hp;rw[qVn]at hp;have:=hp.1 y (by simp);omega
theorem qKx {l:List Int} {a b c:Nat} (h:b≤c):inL (inL l a c) a b=inL l a b:=by
 unfold inL;rw[qWj];refine qVE fun y _=>?_
 by_cases h1:(a:Int)≤y
 ·by_cases h2:y<(b:Int)
  ·have:y<(c:Int):=by omega
   simp[h1,h2,this]
  ·simp[h2]
 ·simp[h1]
theorem qKy {l:List Int} {a b c:Nat} (h:a≤b):inL (inL l a c) b c=inL l b c:=by
 unfold inL;rw[qWj];refine qVE fun y _=>?_
 by_cases h1:(b:Int)≤y
 ·have h3:(a:Int)≤y:=by omega
  by_cases h2:y<(c:Int)
  ·simp[h1,h2,h3]
  ·simp[h2]
 ·simp[h1]
theorem qKz {l:List Int} (hl:YV l) {a b c:Nat} (h1:a≤b) (h2:b≤c):inL l a c=inL l a b++inL l b c:=by
 induction l with
 | nil=>rfl|cons x r ih =>
  unfold YV at hl;rw[qVn]at hl;have ih:=ih hl.2;unfold inL at ih ⊢
  by_cases g1:(a:Int)≤x
  ·by_cases g2:x<(b:Int)
   ·have g3:x<(c:Int):=by omega
    have g4:¬(b:Int)≤x:=by omega
    rw[qVL (by simp[g1,g3]),qVL (by simp[g1,g2]),qU8 (by simp[g4]),ih];rfl
   ·have g5:(b:Int)≤x:=by omega
    have e:r.filter (fun y=>decide ((a:Int)≤y)&&decide (y<(b:Int)))=[]:=qWp.2 fun y hy=>by
     have:=hl.1 y hy;have:¬y<(b:Int):=by omega
     simp[this]
    rw[e,qUG]at ih;rw[qU8 (a:=x) (p:=fun y=>decide ((a:Int)≤y)&&decide (y<(b:Int))) (by simp[g2]),e,qUG]
    by_cases g3:x<(c:Int)
    ·rw[qVL (by simp[g1,g3]),qVL (by simp[g5,g3]),ih]
    ·rw[qU8 (by simp[g3]),qU8 (by simp[g3]),ih]
  ·have g4:¬(b:Int)≤x:=by omega
   rw[qU8 (by simp[g1]),qU8 (by simp[g1]),qU8 (by simp[g4]),ih]
theorem ql5 (l:List D) (f:Nat):qep l f=l.drop f:=by
 unfold qep;rw[qTK,qTX (by rw[qT8]; omega)]
variable [PW]
theorem qyu:qj (Yw 301 301) qyr:=qxU (r:=fun _=>0) fun d hd=>by
 obtain⟨i,_,rfl⟩:=qTV.1 hd;exact⟨0,rfl⟩
theorem Jw.get {l:List D} (h:Jw l) {i:Nat} (hi:i<l.length):qj (Yw 301 301) (l.getD i .nilp)∧l[i]?=some (elG l i)∧elG l i=l.getD i .nilp:=by
 have e:l.getD i .nilp=l[i]:=by rw[List.getD_eq_getElem?_getD,qTE hi]; rfl
 have ht:=h _ (qTL hi);unfold elG;rw[e,YS ht,qTE hi];exact⟨ht,rfl,rfl⟩
theorem qyv {l:List D} (h:l≠[]):(lns l==(0:Int))=false:=by
 unfold lns;have:=qVo.2 h;rw[beq_eq_false_iff_ne]; omega
structure qKA (w:Wk) (l:List Int) (a n:Nat) (fo pa:List D):Prop where
 t:qj (Yw 301 301) w.d
 f:w.ok=true→w.f=(inL l a (a+n)).length
 p:w.p≤pa.length
 f2:w.f≤fo.length
theorem qKB (hw:∀(l:List Int) (a b:Nat),l.length≤60→RCs PP 134 [L l,I a,I b] [] (L (inL l a b))) :
  ∀(m a n:Nat) (l:List Int) (fo pa:List D),n≤m→1≤n→a+n≤60→l.length≤60→YV l→Jw fo→Jw pa→(inL l a (a+n)).length≤fo.length→fo.length≤301→pa.length≤301 →
   RCs PP 72 (wArgs a n l fo pa) [] (.d (wkD (Yg m a n l fo pa)))∧qKA (Yg m a n l fo pa) l a n fo pa:=by
 intro m
 induction m with
 | zero=>intro a n l fo pa h1 h2; omega
 | succ m ih =>
  intro a n l fo pa h1 h2 h3 h4 h5 h6 h7 h8 h9 h10;have hin:qi ((a:Int)+(n:Int)):=by unfold qi; omega
  have hc:com (qn (inL l a (a+n))) a n l:=by
   unfold com;have:=hw l a (a+n) h4;rw[qWs]at this;exact this
  unfold Yg
  cases hs:(inL l a (a+n)).isEmpty with
  | true =>
   have hs':inL l a (a+n)=[]:=qVe.1 hs;have e0:(lns (qn (inL l a (a+n)))==(0:Int))=true:=by rw[hs']; rfl
   cases hpa:pa.isEmpty with
   | true =>
    have hpa':pa=[]:=qVe.1 hpa;refine⟨qKr _ 0 a n (fun _=>wk0) JR ⟨hin,hc,e0,by rw[hpa']; rfl,trivial⟩,qyu,(fun h=>by cases h),by show 0≤_; omega,by show 0≤_; omega⟩
   | false =>
    have hpa':pa≠[]:=fun h=>by rw[h]at hpa; cases hpa
    have hl:=qVo.2 hpa';obtain⟨g1,g2,g3⟩:=h7.get hl;have:=qKs _ 0 a n (fun _=>wk0) JR ⟨hin,hc,e0,qyv hpa',⟨by omega,by unfold lns; omega⟩,g2,rfl,trivial⟩ (fo:=fo);rw[g3]at this;exact⟨this,g1,fun _=>by show 0=_; rw[hs']; rfl,by show 1≤_; omega,by show 0≤_; omega⟩
  | false =>
   have hs':inL l a (a+n)≠[]:=fun h=>by rw[h]at hs; cases hs
   have hsl:=qVo.2 hs';have e0:(lns (qn (inL l a (a+n)))==(0:Int))=false:=qyv fun h=>hs' (by
    have:=congrArg List.length h;rw[Jl]at this;exact qUr this)
   cases hn:Nat.beq n 1 with
   | true =>
    have hn':n=1:=qTO hn;subst hn';have:=qyt h5 a;obtain⟨g1,g2,g3⟩:=h6.get (i:=0) (by omega);have:=qKt (qn (inL l a (a+1))) 0 a (1:Nat) (fun _=>wk0) JR (fo:=fo) (pa:=pa) ⟨hin,hc,e0,rfl,⟨by omega,by unfold lns; omega⟩,g2,rfl,trivial⟩;rw[g3]at this;exact⟨this,g1,fun _=>by show 1=_; omega,by show 0≤_; omega,by show 1≤_; omega⟩
   | false =>
    have hn':n≠1:=fun h=>by rw[h]at hn; cases hn
    obtain⟨s1,s2⟩:=qhV (n:=n) (by omega) (by omega);have en:((n:Int)==(1:Int))=false:=by rw[beq_eq_false_iff_ne]; omega
    have h55:=qEH (n:=n) (by omega) (by omega);have hin1:inL (inL l a (a+n)) a (a+spl n)=inL l a (a+spl n):=qKx (by omega);have hin2:inL (inL l a (a+n)) (a+spl n) (a+spl n+(n - spl n))=inL l (a+spl n) (a+n):=by
     rw[show a+spl n+(n - spl n)=a+n by omega]; exact qKy (by omega)
    have hsp:=qKz h5 (a:=a) (b:=a+spl n) (c:=a+n) (by omega) (by omega);have hspl:(inL l a (a+n)).length=(inL l a (a+spl n)).length+(inL l (a+spl n) (a+n)).length:=by rw[hsp,qTN]
    have hlen:=qys l a (a+n);obtain⟨a1,a2⟩:=ih a (spl n) (inL l a (a+n)) fo pa (by omega) (by omega) (by omega) (by omega) (h5.inL _ _) h6 h7 (by rw[hin1]; omega) h9 h10
    let A:List V→Wk:=fun args=>match args with
     | [.d (.int _ x),.d (.int _ y),.d (.list z),.d (.list u),.d (.list v)]=>Yg m x.toNat y.toNat (z.map toI) u v|_=>wk0
    have em:∀z:List Int,(qn z).map toI=z:=fun z=>by
     unfold qn;rw[qUs]
     conv=>rhs; rw[←qVp z]
     exact qUv fun _ _=>rfl
    have w1:wf1 A a (spl n:Nat) (qn (inL l a (a+n))) fo pa=Yg m a (spl n) (inL l a (a+n)) fo pa:=by
     show Yg m (Int.toNat (a:Int)) (Int.toNat ((spl n:Nat):Int)) ((qn (inL l a (a+n))).map toI) fo pa=_;rw[em,qTK,qTK]
    cases hok:(Yg m a (spl n) (inL l a (a+n)) fo pa).ok with
    | false =>
     refine⟨qKu (qn (inL l a (a+n))) (spl n:Nat) a n A JR ⟨hin,hc,e0,en,h55,by rw[w1]; exact a1,by rw[w1,hok]; rfl,trivial⟩,qyu,(fun h=>by cases h),by show 0≤_; omega,by show 0≤_; omega⟩
    | true =>
     have hf:=a2.f hok;rw[hin1]at hf;have hp:=a2.p;have hf2:=a2.f2;obtain⟨b1,b2⟩:=ih (a+spl n) (n - spl n) (inL l a (a+n)) (fo.drop (Yg m a (spl n) (inL l a (a+n)) fo pa).f) (pa.drop (Yg m a (spl n) (inL l a (a+n)) fo pa).p) (by omega) (by omega) (by omega) (by omega) (h5.inL _ _) (h6.drop _) (h7.drop _) (by rw[hin2,qT8]; omega) (by rw[qT8]; omega) (by rw[qT8]; omega);have w2:wf2 A a (spl n:Nat) n (qn (inL l a (a+n))) fo pa=Yg m (a+spl n) (n - spl n) (inL l a (a+n)) (fo.drop (Yg m a (spl n) (inL l a (a+n)) fo pa).f) (pa.drop (Yg m a (spl n) (inL l a (a+n)) fo pa).p):=by
      show Yg m (Int.toNat ((a:Int)+(spl n:Nat))) (Int.toNat ((n:Int) - (spl n:Nat))) ((qn (inL l a (a+n))).map toI) (qep fo (wf1 A a (spl n:Nat) (qn (inL l a (a+n))) fo pa).f) (qep pa (wf1 A a (spl n:Nat) (qn (inL l a (a+n))) fo pa).p)=_;rw[em,w1,ql5,ql5,show Int.toNat ((a:Int)+(spl n:Nat))=a+spl n by omega,show Int.toNat ((n:Int) - (spl n:Nat))=n - spl n by omega]
     have hb1:=b2.p;have hb2:=b2.f2;rw[qT8]at hb1 hb2;obtain⟨n1,n2⟩:=qxW a2.t b2.t;have:=qKv (qn (inL l a (a+n))) (spl n:Nat) a n A JR (l:=l) (fo:=fo) (pa:=pa) ⟨hin,hc,e0,en,h55,by rw[w1]; exact a1,by rw[w1,hok]; rfl,by unfold qi; omega,by unfold qi; omega,by omega,by rw[w1,qTK]; exact⟨by omega,by omega⟩,h6.all,by omega,by rw[w1,qTK]; exact⟨by omega,by omega⟩,h7.all,
      by
       rw[w2,w1,ql5,ql5];have e1:((a:Int)+(spl n:Nat))=((a+spl n:Nat):Int):=by omega
       have e2:((n:Int) - (spl n:Nat))=((n - spl n:Nat):Int):=by omega
       rw[e1,e2];exact b1,
      by rw[w1,w2,YS a2.t,YS b2.t,YS n2]; exact n1,by rw[w1,w2]; unfold qi; omega,by rw[w1,w2]; unfold qi; omega,trivial⟩
     rw[w1,w2,YS a2.t,YS b2.t,YS n2]at this;refine⟨this,n2,fun hok2=>?_,?_,?_⟩
     ·have hf3:=b2.f hok2;rw[hin2]at hf3;show(Yg m a (spl n) (inL l a (a+n)) fo pa).f+_=_;rw[hf3,hf,hspl]
     ·show(Yg m a (spl n) (inL l a (a+n)) fo pa).p+_≤_;omega
     ·show(Yg m a (spl n) (inL l a (a+n)) fo pa).f+_≤_;omega
end Go.Aev.R29
end
noncomputable section
namespace Go.Aev.R29
open Go Go.Aev Go.Aev.R Go.Aev.M44 Go.Aev.S29
def qHT (c:Bool) (W:Wk) (g:FuncId):Option (List V→V):=match Nat.beq g 71,Nat.beq g 72 with
 | true,_=>some fun _=>B c
 | _,true=>some fun _=>.d (wkD W)
 | _,_=>none
def cCM (c:Bool) (W:Wk):qw:=kA (qHT c W)
theorem qcI (c:Bool) (W:Wk):COK (cCM c W).cfg:=YC _
def qfh (n:Int) (l:List Int) (fo pa:List D) (r:D):List V:=[I n,L l,.d (.list fo),.d (.list pa),.d (dgD r)]
end Go.Aev.R29
end
section
namespace Go.Aev.R29
open Go Go.Aev Go.Aev.R Go.Aev.M44 Go.Aev.S29
section
variable {W:Wk} {n:Int} {l:List Int} {fo pa:List D} {r d:D} {f p:Nat}
def nA (n:Int):Prop:=decide (n<(0:Int))=false
def nB (n:Int):Prop:=decide (n>(1099511627776:Int))=false
def nL (fo:List D) (l:List Int):Bool:=((lns fo) != (lns (qn l)))
def nP (p:Nat) (pa:List D):Bool:=((p:Int)==lns pa)
def a71 (c:Bool) (l:List Int) (n:Int):Prop:=RCs PP 71 [L l,I n] [] (B c)
theorem qHN (W:Wk) (hp:qf [nA n,nA n,nA n,nB n,nB n,nB n,a71 false l n,nB n,nB n]):RCs PP 29 (qfh n l fo pa r) [] (B false) :=
 qP (qcI false W) (by kernel_rfl) (qb.fin' (qcI false W) (qg [(14,false),(32,false),(18,false)] [] [] 0 false true) (fun _=>false) 300 (qs:=[]) (by kernel_rfl) hp trivial)
theorem qHO (W:Wk) (hp:qf [nA n,nA n,nA n,nB n,nB n,nB n,a71 true l n,nB n,nB n,nL fo l=true]):RCs PP 29 (qfh n l fo pa r) [] (B false) :=
 qP (qcI true W) (by kernel_rfl) (qb.fin' (qcI true W) (qg [(14,false),(32,false),(18,false),(30,true)] [] [] 0 false true) (fun _=>false) 300 (qs:=[]) (by kernel_rfl) hp trivial)
theorem qHP (hp:qf [nA n,nA n,nA n,nB n,nB n,nB n,a71 true l n,nB n,nB n,nL fo l=false,(n==(0:Int))=false,RCs PP 72 (wArgs 0 n l fo pa) [] (.d (wkD ⟨d,f,p,true⟩)),nP p pa=true,nP p pa=true,nP p pa=true,nP p pa=true,true=true,true=true,16=16,16=16,nP p pa=true]):RCs PP 29 (qfh n l fo pa r) [] (B (qa5 (dgD d).cells (dgD r).cells)) :=
 qP (qcI true ⟨d,f,p,true⟩) (by kernel_rfl) (qb.fin' (qcI true ⟨d,f,p,true⟩) (qg [(14,false),(32,false),(18,false),(30,false),(55,true)] [] [] 0 false true) (fun _=>false) 300 (qs:=[]) (by kernel_rfl) hp trivial)
theorem qHQ (hp:qf [nA n,nA n,nA n,nB n,nB n,nB n,a71 true l n,nB n,nB n,nL fo l=false,(n==(0:Int))=false,RCs PP 72 (wArgs 0 n l fo pa) [] (.d (wkD ⟨d,f,p,true⟩)),nP p pa=false,nP p pa=false,nP p pa=false,nP p pa=false,nP p pa=false]):RCs PP 29 (qfh n l fo pa r) [] (B false) :=
 qP (qcI true ⟨d,f,p,true⟩) (by kernel_rfl) (qb.fin' (qcI true ⟨d,f,p,true⟩) (qg [(14,false),(32,false),(18,false),(30,false),(55,false)] [] [] 0 false true) (fun _=>false) 300 (qs:=[]) (by kernel_rfl) hp trivial)
theorem qHR (hp:qf [nA n,nA n,nA n,nB n,nB n,nB n,a71 true l n,nB n,nB n,nL fo l=false,(n==(0:Int))=false,RCs PP 72 (wArgs 0 n l fo pa) [] (.d (wkD ⟨d,f,p,false⟩))]):RCs PP 29 (qfh n l fo pa r) [] (B false) :=
 qP (qcI true ⟨d,f,p,false⟩) (by kernel_rfl) (qb.fin' (qcI true ⟨d,f,p,false⟩) (qg [(14,false),(32,false),(18,false),(30,false)] [] [] 0 false true) (fun _=>false) 300 (qs:=[]) (by kernel_rfl) hp trivial)
end
def qbH (l:List Int) (n:Int):Prop:=YV l∧∀y∈l,0≤y∧y<n
open Classical in
noncomputable def J2 (l:List Int) (n:Int):Bool:=decide (qbH l n)
noncomputable def cmB (n:Nat) (l:List Int) (fo pa:List D) (r:D):Bool :=
 J2 l n&&(decide (fo.length=l.length)&&((Yg n 0 n l fo pa).ok&&(decide ((Yg n 0 n l fo pa).p=pa.length)&&qa5 (Yg n 0 n l fo pa).d.cells r.cells)))
theorem qbH.len {l:List Int} {n:Nat} (h:qbH l n):l.length≤n:=by
 have key:∀(m:Nat) (l:List Int) (a:Int),YV l→(∀y∈l,a≤y∧y<a+m)→l.length≤m:=by
  intro m
  induction m with
  | zero =>
   intro l a _ hl
   match l,hl with
   | [],_=>simp|y::r,hl=>have:=hl y (by simp); omega
  | succ m ih =>
   intro l a hp hl
   match l,hp,hl with
   | [],_,_=>simp|y::r,hp,hl =>
    unfold YV at hp;rw[qVn]at hp;have h0:=hl y (by simp);have:=ih r (a+1) hp.2 fun z hz=>by
     have h1:=hp.1 z hz;have h2:=hl z (by simp[hz]);omega
    simp; omega
 exact key n l 0 h.1 fun y hy=>by have:=h.2 y hy; omega
variable [PW]
theorem qHS (hw:∀(l:List Int) (a b:Nat),l.length≤60→RCs PP 134 [L l,I a,I b] [] (L (inL l a b))) (ha:∀(l:List Int) (n:Int),l.length≤301→RCs PP 71 [L l,I n] [] (B (J2 l n)))
  {n:Nat} {l:List Int} {fo pa:List D} {r:D} (h1:1≤n) (h2:n≤60) (h3:l.length≤301) (h4:Jw fo) (h5:Jw pa) (h6:fo.length≤301) (h7:pa.length≤301) (h8:qj (Yw 301 301) r) :
  RCs PP 29 [I n,L l,.d (.list fo),.d (.list pa),.d r] [] (B (cmB n l fo pa r)):=by
 have e8:[I (n:Int),L l,.d (.list fo),.d (.list pa),.d r]=qfh n l fo pa r:=by unfold qfh; rw[YS h8]
 rw[e8];have a1:nA n:=decide_eq_false (by omega);have a2:nB n:=decide_eq_false (by omega);have a3:=ha l n h3;have a4:((n:Int)==(0:Int))=false:=by rw[beq_eq_false_iff_ne]; omega
 unfold cmB
 cases hc:J2 l n with
 | false =>
  rw[hc]at a3;exact qHN wk0 ⟨a1,a1,a1,a2,a2,a2,a3,a2,a2,trivial⟩
 | true =>
  rw[hc]at a3;have hq:qbH l n:=by
   unfold J2 at hc;exact @of_decide_eq_true _ (Classical.propDecidable _) hc
  have hl:=hq.len
  by_cases he:fo.length=l.length
  ·have b1:nL fo l=false:=by
    unfold nL lns;rw[Jl,he];exact bne_self_eq_false _
   have hin:=qys l 0 (0+n);obtain⟨w1,w2⟩:=qKB hw n 0 n l fo pa (qTF n) h1 (by omega) (by omega) hq.1 h4 h5 (by omega) h6 h7;have ed:=YS w2.t;have e0:(((0:Nat):Int))=0:=rfl;rw[e0]at w1;generalize hwk:Yg n 0 n l fo pa=w at w1 w2 ed ⊢;obtain⟨d,f,p,ok⟩:=w;rw[decide_eq_true he]
   cases ok with
   | false=>exact qHR ⟨a1,a1,a1,a2,a2,a2,a3,a2,a2,b1,a4,w1,trivial⟩|true =>
    by_cases hp:p=pa.length
    ·have b2:nP p pa=true:=by unfold nP lns; rw[hp]; exact beq_self_eq_true _
     have:=qHP (r:=r) ⟨a1,a1,a1,a2,a2,a2,a3,a2,a2,b1,a4,w1,b2,b2,b2,b2,rfl,rfl,rfl,rfl,b2,trivial⟩;have ed:dgD d=d:=ed;rw[ed,YS h8]at this;have e:decide (p=pa.length)=true:=decide_eq_true hp;show RCs PP 29 _ [] (B (true&&(true&&(true&&(decide (p=pa.length)&&qa5 d.cells r.cells)))));rw[e];exact this
    ·have b2:nP p pa=false:=by
      unfold nP lns;rw[beq_eq_false_iff_ne]; omega
     have e:decide (p=pa.length)=false:=decide_eq_false hp;show RCs PP 29 _ [] (B (true&&(true&&(true&&(decide (p=pa.length)&&qa5 d.cells r.cells)))));rw[e];exact qHQ ⟨a1,a1,a1,a2,a2,a2,a3,a2,a2,b1,a4,w1,b2,b2,b2,b2,b2,trivial⟩
  ·have b1:nL fo l=true:=by
    unfold nL lns;rw[Jl,bne_iff_ne];omega
   rw[decide_eq_false he];exact qHO wk0 ⟨a1,a1,a1,a2,a2,a2,a3,a2,a2,b1,trivial⟩
end Go.Aev.R29
end
noncomputable section
namespace Go.Aev.R29
open Go Go.Aev Go.Aev.R Go.Aev.M44 Go.Aev.S29
def qIu (r:D) (k:Int) (lo hi:List Int) (g:FuncId):Option (List V→V):=match Nat.beq g 52,Nat.beq g 112,Nat.beq g 133 with
 | true,_,_=>some fun _=>.d (dgD r)
 | _,true,_=>some fun _=>I k
 | _,_,true=>some fun _=>.tup [L lo,L hi]
 | _,_,_=>none
def cMn (r:D) (k:Int) (lo hi:List Int):qw:=kA (qIu r k lo hi)
theorem YH (r:D) (k:Int) (lo hi:List Int):COK (cMn r k lo hi).cfg:=YC _
def fnR:qd:=.live (.box [.fn 132 [.pt 0 0 0 0,.pt 1 0 0 0]] false)
def EN:Aev.Rows:=[.live (.box [.nil] false),fnR]
def ES (o:List D):Aev.Rows:=[.live (.box [.sl 2 16 0 o.length o.length false] false),fnR,.live (.dat 16 o false)]
def EG (o:List D):Aev.Rows:=[.live (.box [.sl 3 16 0 o.length o.length false] false),fnR,.dead,.live (.dat 16 o false)]
def qcY (i:Nat) (s:AS):Bool:=match s.fr.todo with
 | .it (.code (.region j _ true))::_=>Nat.beq i j|_=>false
def qbg (k:Nat) (rows T:Aev.Rows):Prop:=∃rs:List Nat,rs.take k=List.range k∧rs.eraseDups.length=rs.length∧qQ (fun r=>qJ (fun r=>Yk r rs 0) (qr rows r)) rs=some T
theorem qgH {g:FuncId} {k:Nat} {args:List V} {rows T:Aev.Rows} (h:qS PP g k args rows fun v rows'=>v=.tup []∧qbg k rows' T):qS PP g k args rows fun v rows'=>v=.tup []∧rows'=T:=by
 intro w0 own m S w vs inv ha cs;obtain⟨e,w',fr,⟨u,v,rows2,rfl,⟨rfl,rs,k0,k1,k2⟩,m',S',i2,r2,hm',hsz⟩,h3⟩:=h w0 own m S w vs inv ha cs;refine⟨_,w',fr,⟨u,.tup [],T,rfl,⟨rfl,rfl⟩,Yd m' rs,S',qhd i2 k1 k2,qcj (show qC (fun r=>Yk r rs 0) 8 (.tup [])=some (.tup []) from rfl) r2,fun r hr p hp=>?_,hsz⟩,h3⟩;have e:rs[r]?=some r:=by
  have h1:(rs.take k)[r]?=(List.range k)[r]?:=by rw[k0]
  rw[qUh,if_pos hr,qVj hr]at h1;exact h1
 unfold Yd;rw[e];exact hm' r hr p hp
def qcL (l:List D) (a:Int) (pl:List Int):List V:=[.d (.list l),I a,L pl,.pt 0 0 0 0,.pt 1 0 0 0]
def stM (r:D) (k:Int) (lo hi:List Int) (l:List D) (a:Int) (pl:List Int) (rows:Aev.Rows):AS:=start (cMn r k lo hi) 132 (qcL l a pl) rows
def hM:qB:=qg [(11,false),(20,true)] [] [] 1 false true
def C1 (r:D) (k:Int) (lo hi:List Int) (l:List D) (a:Int) (pl:List Int) (rows:Aev.Rows):AS:=JJ (sTo (cMn r k lo hi) hM (qcY 5) 300 (stM r k lo hi l a pl rows))
def D1 (r:D) (k:Int) (lo hi:List Int) (l:List D) (a:Int) (pl:List Int) (rows:Aev.Rows) (rs:List Nat) (T:Aev.Rows):AS:=(JA (C1 r k lo hi l a pl rows) rs (.tup []) T).getD (C1 r k lo hi l a pl rows)
def C2 (r:D) (k:Int) (lo hi:List Int) (X:AS):AS:=JJ (sTo (cMn r k lo hi) hM (qcY 6) 300 X)
def D2 (r:D) (k:Int) (lo hi:List Int) (X:AS) (rs:List Nat) (T:Aev.Rows):AS:=(JA (C2 r k lo hi X) rs (.tup []) T).getD X
def qcM (o:List Prop×Out):Aev.Rows:=match o.2 with
 | .done _ r=>r|_=>[]
def F2 (r:D) (k:Int) (lo hi:List Int) (X:AS):List Prop×Out:=sTo (cMn r k lo hi) hM (fun _=>false) 300 X
def qlU (k:Int) (l:List D):List D:=List.take (Int.toNat k - 0) (List.drop 0 l)
def qgI (k:Int) (l:List D):List D:=List.take (List.length l - Int.toNat k) (List.drop (Int.toNat k) l)
def ps1 (r:D) (k:Int) (lo hi:List Int) (l:List D) (a:Int) (pl:List Int):List Prop:=[((↑(List.length (qn pl)):Int)==(0:Int))=false,decide ((↑(List.length l):Int)>(1:Int))=true,RCs PP 112 [.d (.int .i64 (↑(List.length l):Int))] [] (I k),qi (a+k),RCs PP 133 [L pl,I (a+k)] [] (.tup [L lo,L hi]),(0:Int)≤k,(0:Int)≤k,0≤Int.toNat k∧Int.toNat k≤List.length l∧Int.toNat k≤Int.toNat k∧Int.toNat k≤List.length l∧true=true,qem l]
def ps2 (k a:Int) (l:List D):List Prop:=[(0:Int)≤k,Int.toNat k≤List.length l∧List.length l≤List.length l,qem l,qi (a+k)]
theorem qID {r:D} {k a:Int} {lo hi pl:List Int} {l o p q:List D} {Q:V→Aev.Rows→Prop} (hp:qf (ps1 r k lo hi l a pl)) (h:qb (cMn r k lo hi) 2 (C1 r k lo hi l a pl EN) Q):qb (cMn r k lo hi) 2 (stM r k lo hi l a pl EN) Q :=
 qb.to (YH r k lo hi) hM (qcY 5) 300 (by kernel_rfl) hp h
theorem qIE {r:D} {k a:Int} {lo hi pl:List Int} {l o p q:List D}:qbx (cMn r k lo hi).cfg (C1 r k lo hi l a pl EN)=some (132,qcL (qlU k l) a lo,EN,[0,1]) :=
 by kernel_rfl
theorem qIF {r:D} {k a:Int} {lo hi pl:List Int} {l o p q:List D} (hp:qf [((↑(List.length (qn pl)):Int)==(0:Int))=true,RCs PP 52 [.d (.list l)] [] (.d (dgD r))]):qb (cMn r k lo hi) 2 (stM r k lo hi l a pl EN) (fun v rows2=>v=.tup []∧qbg 2 rows2 (ES [dgD r])) :=
 qb.toFin (YH r k lo hi) (qg [(11,true)] [] [] 0 false true) (fun _=>false) 300 (v:=.tup []) (rows:=qcM (sTo (cMn r k lo hi) (qg [(11,true)] [] [] 0 false true) (fun _=>false) 300 (stM r k lo hi l a pl EN))) (by kernel_rfl) hp ⟨rfl,[0,1,6],rfl,by decide,by kernel_rfl⟩
theorem qIG {r:D} {k a:Int} {lo hi pl:List Int} {l o p q:List D} (hp:qf [((↑(List.length (qn pl)):Int)==(0:Int))=false,decide ((↑(List.length l):Int)>(1:Int))=false]):qb (cMn r k lo hi) 2 (stM r k lo hi l a pl EN) (fun v rows2=>v=.tup []∧qbg 2 rows2 EN) :=
 qb.toFin (YH r k lo hi) (qg [(11,false),(20,false)] [] [] 0 false true) (fun _=>false) 300 (v:=.tup []) (rows:=EN) (by kernel_rfl) hp ⟨rfl,[0,1],rfl,by decide,by kernel_rfl⟩
theorem qIH {r:D} {k a:Int} {lo hi pl:List Int} {l o p q:List D} {Q:V→Aev.Rows→Prop} (hp:qf (ps1 r k lo hi l a pl)) (h:qb (cMn r k lo hi) 3 (C1 r k lo hi l a pl (ES o)) Q):qb (cMn r k lo hi) 3 (stM r k lo hi l a pl (ES o)) Q :=
 qb.to (YH r k lo hi) hM (qcY 5) 300 (by kernel_rfl) hp h
theorem qII {r:D} {k a:Int} {lo hi pl:List Int} {l o p q:List D}:qbx (cMn r k lo hi).cfg (C1 r k lo hi l a pl (ES o))=some (132,qcL (qlU k l) a lo,(ES o),[0,1,2]) :=
 by kernel_rfl
theorem qIJ {r:D} {k a:Int} {lo hi pl:List Int} {l o p q:List D} (hp:qf [((↑(List.length (qn pl)):Int)==(0:Int))=true,RCs PP 52 [.d (.list l)] [] (.d (dgD r)),16=16∧16=16∧1≤1,0<16∧1≠0∧16=16∧16=16∧0+List.length o≤List.length o∧¬List.length o+1≤List.length o∧2*(List.length o+1)*16≤281474976710656∧List.length o+1≤4611686018427387904]):qb (cMn r k lo hi) 3 (stM r k lo hi l a pl (ES o)) (fun v rows2=>v=.tup []∧qbg 3 rows2 [.live (.box [.sl 3 16 0 (o.length+1) (o.length+1) false] false),fnR,.dead,.live (.dat 16 (List.take o.length (List.drop 0 o)++[dgD r]) false)]) :=
 qb.toFin (YH r k lo hi) (qg [(11,true)] [] [] 1 false true) (fun _=>false) 300 (v:=.tup []) (rows:=qcM (sTo (cMn r k lo hi) (qg [(11,true)] [] [] 1 false true) (fun _=>false) 300 (stM r k lo hi l a pl (ES o)))) (by kernel_rfl) hp ⟨rfl,[0,1,2,7],rfl,by decide,by kernel_rfl⟩
theorem qIK {r:D} {k a:Int} {lo hi pl:List Int} {l o p q:List D} (hp:qf [((↑(List.length (qn pl)):Int)==(0:Int))=false,decide ((↑(List.length l):Int)>(1:Int))=false]):qb (cMn r k lo hi) 3 (stM r k lo hi l a pl (ES o)) (fun v rows2=>v=.tup []∧qbg 3 rows2 (ES o)) :=
 qb.toFin (YH r k lo hi) (qg [(11,false),(20,false)] [] [] 0 false true) (fun _=>false) 300 (v:=.tup []) (rows:=(ES o)) (by kernel_rfl) hp ⟨rfl,[0,1,2],rfl,by decide,by kernel_rfl⟩
theorem qIL {r:D} {k a:Int} {lo hi pl:List Int} {l o p q:List D}:JA (C1 r k lo hi l a pl EN) [0,1] (.tup []) EN=some (D1 r k lo hi l a pl EN [0,1] EN) :=
 by kernel_rfl
theorem qIM {r:D} {k a:Int} {lo hi pl:List Int} {l o p q:List D} {Q:V→Aev.Rows→Prop} (hp:qf (ps2 k a l)) (h:qb (cMn r k lo hi) 2 (C2 r k lo hi (D1 r k lo hi l a pl EN [0,1] EN)) Q):qb (cMn r k lo hi) 2 (D1 r k lo hi l a pl EN [0,1] EN) Q :=
 qb.to (YH r k lo hi) hM (qcY 6) 300 (by kernel_rfl) hp h
theorem qIN {r:D} {k a:Int} {lo hi pl:List Int} {l o p q:List D}:qbx (cMn r k lo hi).cfg (C2 r k lo hi (D1 r k lo hi l a pl EN [0,1] EN))=some (132,qcL (qgI k l) (a+k) hi,EN,[0,1]) :=
 by kernel_rfl
theorem qIO {r:D} {k a:Int} {lo hi pl:List Int} {l o p q:List D}:JA (C2 r k lo hi (D1 r k lo hi l a pl EN [0,1] EN)) [0,1] (.tup []) EN=some (D2 r k lo hi (D1 r k lo hi l a pl EN [0,1] EN) [0,1] EN) :=
 by kernel_rfl
theorem qIP {r:D} {k a:Int} {lo hi pl:List Int} {l o p q:List D}:qb (cMn r k lo hi) 2 (D2 r k lo hi (D1 r k lo hi l a pl EN [0,1] EN) [0,1] EN) (fun v rows2=>v=.tup []∧qbg 2 rows2 EN) :=
 qb.toFin (YH r k lo hi) hM (fun _=>false) 300 (ps:=[]) (v:=.tup []) (rows:=qcM (F2 r k lo hi (D2 r k lo hi (D1 r k lo hi l a pl EN [0,1] EN) [0,1] EN))) (by kernel_rfl) trivial ⟨rfl,[0,1],rfl,by decide,by kernel_rfl⟩
theorem qIQ {r:D} {k a:Int} {lo hi pl:List Int} {l o p q:List D}:JA (C2 r k lo hi (D1 r k lo hi l a pl EN [0,1] EN)) [0,1] (.tup []) (ES q)=some (D2 r k lo hi (D1 r k lo hi l a pl EN [0,1] EN) [0,1] (ES q)) :=
 by kernel_rfl
theorem qIR {r:D} {k a:Int} {lo hi pl:List Int} {l o p q:List D}:qb (cMn r k lo hi) 2 (D2 r k lo hi (D1 r k lo hi l a pl EN [0,1] EN) [0,1] (ES q)) (fun v rows2=>v=.tup []∧qbg 2 rows2 (ES q)) :=
 qb.toFin (YH r k lo hi) hM (fun _=>false) 300 (ps:=[]) (v:=.tup []) (rows:=qcM (F2 r k lo hi (D2 r k lo hi (D1 r k lo hi l a pl EN [0,1] EN) [0,1] (ES q)))) (by kernel_rfl) trivial ⟨rfl,[0,1,19],rfl,by decide,by kernel_rfl⟩
theorem qIS {r:D} {k a:Int} {lo hi pl:List Int} {l o p q:List D}:JA (C1 r k lo hi l a pl EN) [0,1] (.tup []) (ES p)=some (D1 r k lo hi l a pl EN [0,1] (ES p)) :=
 by kernel_rfl
theorem qIT {r:D} {k a:Int} {lo hi pl:List Int} {l o p q:List D} {Q:V→Aev.Rows→Prop} (hp:qf (ps2 k a l)) (h:qb (cMn r k lo hi) 2 (C2 r k lo hi (D1 r k lo hi l a pl EN [0,1] (ES p))) Q):qb (cMn r k lo hi) 2 (D1 r k lo hi l a pl EN [0,1] (ES p)) Q :=
 qb.to (YH r k lo hi) hM (qcY 6) 300 (by kernel_rfl) hp h
theorem qIU {r:D} {k a:Int} {lo hi pl:List Int} {l o p q:List D}:qbx (cMn r k lo hi).cfg (C2 r k lo hi (D1 r k lo hi l a pl EN [0,1] (ES p)))=some (132,qcL (qgI k l) (a+k) hi,(ES p),[0,1,10]) :=
 by kernel_rfl
theorem qIV {r:D} {k a:Int} {lo hi pl:List Int} {l o p q:List D}:JA (C2 r k lo hi (D1 r k lo hi l a pl EN [0,1] (ES p))) [0,1,10] (.tup []) (ES p)=some (D2 r k lo hi (D1 r k lo hi l a pl EN [0,1] (ES p)) [0,1,10] (ES p)) :=
 by kernel_rfl
theorem qIW {r:D} {k a:Int} {lo hi pl:List Int} {l o p q:List D}:qb (cMn r k lo hi) 2 (D2 r k lo hi (D1 r k lo hi l a pl EN [0,1] (ES p)) [0,1,10] (ES p)) (fun v rows2=>v=.tup []∧qbg 2 rows2 (ES p)) :=
 qb.toFin (YH r k lo hi) hM (fun _=>false) 300 (ps:=[]) (v:=.tup []) (rows:=qcM (F2 r k lo hi (D2 r k lo hi (D1 r k lo hi l a pl EN [0,1] (ES p)) [0,1,10] (ES p)))) (by kernel_rfl) trivial ⟨rfl,[0,1,10],rfl,by decide,by kernel_rfl⟩
theorem qIX {r:D} {k a:Int} {lo hi pl:List Int} {l o p q:List D}:JA (C2 r k lo hi (D1 r k lo hi l a pl EN [0,1] (ES p))) [0,1,10] (.tup []) (EG q)=some (D2 r k lo hi (D1 r k lo hi l a pl EN [0,1] (ES p)) [0,1,10] (EG q)) :=
 by kernel_rfl
theorem qIY {r:D} {k a:Int} {lo hi pl:List Int} {l o p q:List D}:qb (cMn r k lo hi) 2 (D2 r k lo hi (D1 r k lo hi l a pl EN [0,1] (ES p)) [0,1,10] (EG q)) (fun v rows2=>v=.tup []∧qbg 2 rows2 (ES q)) :=
 qb.toFin (YH r k lo hi) hM (fun _=>false) 300 (ps:=[]) (v:=.tup []) (rows:=qcM (F2 r k lo hi (D2 r k lo hi (D1 r k lo hi l a pl EN [0,1] (ES p)) [0,1,10] (EG q)))) (by kernel_rfl) trivial ⟨rfl,[0,1,20],rfl,by decide,by kernel_rfl⟩
theorem qIZ {r:D} {k a:Int} {lo hi pl:List Int} {l o p q:List D}:JA (C1 r k lo hi l a pl (ES o)) [0,1,2] (.tup []) (ES o)=some (D1 r k lo hi l a pl (ES o) [0,1,2] (ES o)) :=
 by kernel_rfl
theorem qI0 {r:D} {k a:Int} {lo hi pl:List Int} {l o p q:List D} {Q:V→Aev.Rows→Prop} (hp:qf (ps2 k a l)) (h:qb (cMn r k lo hi) 3 (C2 r k lo hi (D1 r k lo hi l a pl (ES o) [0,1,2] (ES o))) Q):qb (cMn r k lo hi) 3 (D1 r k lo hi l a pl (ES o) [0,1,2] (ES o)) Q :=
 qb.to (YH r k lo hi) hM (qcY 6) 300 (by kernel_rfl) hp h
theorem qI1 {r:D} {k a:Int} {lo hi pl:List Int} {l o p q:List D}:qbx (cMn r k lo hi).cfg (C2 r k lo hi (D1 r k lo hi l a pl (ES o) [0,1,2] (ES o)))=some (132,qcL (qgI k l) (a+k) hi,(ES o),[0,1,2]) :=
 by kernel_rfl
theorem qI2 {r:D} {k a:Int} {lo hi pl:List Int} {l o p q:List D}:JA (C2 r k lo hi (D1 r k lo hi l a pl (ES o) [0,1,2] (ES o))) [0,1,2] (.tup []) (ES o)=some (D2 r k lo hi (D1 r k lo hi l a pl (ES o) [0,1,2] (ES o)) [0,1,2] (ES o)) :=
 by kernel_rfl
theorem qI3 {r:D} {k a:Int} {lo hi pl:List Int} {l o p q:List D}:qb (cMn r k lo hi) 3 (D2 r k lo hi (D1 r k lo hi l a pl (ES o) [0,1,2] (ES o)) [0,1,2] (ES o)) (fun v rows2=>v=.tup []∧qbg 3 rows2 (ES o)) :=
 qb.toFin (YH r k lo hi) hM (fun _=>false) 300 (ps:=[]) (v:=.tup []) (rows:=qcM (F2 r k lo hi (D2 r k lo hi (D1 r k lo hi l a pl (ES o) [0,1,2] (ES o)) [0,1,2] (ES o)))) (by kernel_rfl) trivial ⟨rfl,[0,1,2],rfl,by decide,by kernel_rfl⟩
theorem qI4 {r:D} {k a:Int} {lo hi pl:List Int} {l o p q:List D}:JA (C2 r k lo hi (D1 r k lo hi l a pl (ES o) [0,1,2] (ES o))) [0,1,2] (.tup []) (EG q)=some (D2 r k lo hi (D1 r k lo hi l a pl (ES o) [0,1,2] (ES o)) [0,1,2] (EG q)) :=
 by kernel_rfl
theorem qI5 {r:D} {k a:Int} {lo hi pl:List Int} {l o p q:List D}:qb (cMn r k lo hi) 3 (D2 r k lo hi (D1 r k lo hi l a pl (ES o) [0,1,2] (ES o)) [0,1,2] (EG q)) (fun v rows2=>v=.tup []∧qbg 3 rows2 (EG q)) :=
 qb.toFin (YH r k lo hi) hM (fun _=>false) 300 (ps:=[]) (v:=.tup []) (rows:=qcM (F2 r k lo hi (D2 r k lo hi (D1 r k lo hi l a pl (ES o) [0,1,2] (ES o)) [0,1,2] (EG q)))) (by kernel_rfl) trivial ⟨rfl,[0,1,2,20],rfl,by decide,by kernel_rfl⟩
theorem qI6 {r:D} {k a:Int} {lo hi pl:List Int} {l o p q:List D}:JA (C1 r k lo hi l a pl (ES o)) [0,1,2] (.tup []) (EG p)=some (D1 r k lo hi l a pl (ES o) [0,1,2] (EG p)) :=
 by kernel_rfl
theorem qI7 {r:D} {k a:Int} {lo hi pl:List Int} {l o p q:List D} {Q:V→Aev.Rows→Prop} (hp:qf (ps2 k a l)) (h:qb (cMn r k lo hi) 3 (C2 r k lo hi (D1 r k lo hi l a pl (ES o) [0,1,2] (EG p))) Q):qb (cMn r k lo hi) 3 (D1 r k lo hi l a pl (ES o) [0,1,2] (EG p)) Q :=
 qb.to (YH r k lo hi) hM (qcY 6) 300 (by kernel_rfl) hp h
theorem qI8 {r:D} {k a:Int} {lo hi pl:List Int} {l o p q:List D}:qbx (cMn r k lo hi).cfg (C2 r k lo hi (D1 r k lo hi l a pl (ES o) [0,1,2] (EG p)))=some (132,qcL (qgI k l) (a+k) hi,(ES p),[0,1,11]) :=
 by kernel_rfl
theorem qI9 {r:D} {k a:Int} {lo hi pl:List Int} {l o p q:List D}:JA (C2 r k lo hi (D1 r k lo hi l a pl (ES o) [0,1,2] (EG p))) [0,1,11] (.tup []) (ES p)=some (D2 r k lo hi (D1 r k lo hi l a pl (ES o) [0,1,2] (EG p)) [0,1,11] (ES p)) :=
 by kernel_rfl
theorem qJa {r:D} {k a:Int} {lo hi pl:List Int} {l o p q:List D}:qb (cMn r k lo hi) 3 (D2 r k lo hi (D1 r k lo hi l a pl (ES o) [0,1,2] (EG p)) [0,1,11] (ES p)) (fun v rows2=>v=.tup []∧qbg 3 rows2 (EG p)) :=
 qb.toFin (YH r k lo hi) hM (fun _=>false) 300 (ps:=[]) (v:=.tup []) (rows:=qcM (F2 r k lo hi (D2 r k lo hi (D1 r k lo hi l a pl (ES o) [0,1,2] (EG p)) [0,1,11] (ES p)))) (by kernel_rfl) trivial ⟨rfl,[0,1,2,11],rfl,by decide,by kernel_rfl⟩
theorem qJb {r:D} {k a:Int} {lo hi pl:List Int} {l o p q:List D}:JA (C2 r k lo hi (D1 r k lo hi l a pl (ES o) [0,1,2] (EG p))) [0,1,11] (.tup []) (EG q)=some (D2 r k lo hi (D1 r k lo hi l a pl (ES o) [0,1,2] (EG p)) [0,1,11] (EG q)) :=
 by kernel_rfl
theorem qJc {r:D} {k a:Int} {lo hi pl:List Int} {l o p q:List D}:qb (cMn r k lo hi) 3 (D2 r k lo hi (D1 r k lo hi l a pl (ES o) [0,1,2] (EG p)) [0,1,11] (EG q)) (fun v rows2=>v=.tup []∧qbg 3 rows2 (EG q)) :=
 qb.toFin (YH r k lo hi) hM (fun _=>false) 300 (ps:=[]) (v:=.tup []) (rows:=qcM (F2 r k lo hi (D2 r k lo hi (D1 r k lo hi l a pl (ES o) [0,1,2] (EG p)) [0,1,11] (EG q)))) (by kernel_rfl) trivial ⟨rfl,[0,1,2,21],rfl,by decide,by kernel_rfl⟩
end Go.Aev.R29
end
section
namespace Go.Aev.R29
open Go Go.Aev Go.Aev.R Go.Aev.M44 Go.Aev.S29
noncomputable def JD:Nat→List D→Nat→List Int→List D
 | 0,_,_,_=>[]|m+1,l,a,pl=>match pl.isEmpty with
  | true=>[Yc l.length l]|false=>match Nat.ble l.length 1 with
   | true=>[]|false=>JD m (l.take (spl l.length)) a (qah pl ((a+spl l.length:Nat):Int))++JD m (l.drop (spl l.length)) (a+spl l.length) (qax pl ((a+spl l.length:Nat):Int))
def TN (p:List D):Aev.Rows:=match p with
 | []=>EN|x::r=>ES (x::r)
def TS (o p:List D):Aev.Rows:=match p with
 | []=>ES o|x::r=>EG (o++x::r)
theorem qx2 {l:List Int} (h:YV l):asc l:=by
 intro i j hij hj;have:=qWB.1 h i j (by omega) hj hij;rw[List.getD_eq_getElem?_getD,List.getD_eq_getElem?_getD,qTE hj,qTE (by omega)];exact this
theorem YV.low {l:List Int} (h:YV l) (x:Int):YV (qah l x):=qV3 _ h
theorem YV.high {l:List Int} (h:YV l) (x:Int):YV (qax l x):=qV3 _ h
structure qlS (l:List D) (a:Nat) (pl:List Int) (p:List D):Prop where
 len:p.length≤l.length
 n:qS PP 132 2 (qcL l a pl) EN (fun v rows2=>v=.tup []∧rows2=TN p)
 s:∀o:List D,o.length+l.length≤1000→qS PP 132 3 (qcL l a pl) (ES o) (fun v rows2=>v=.tup []∧rows2=TS o p)
theorem qx3 {l:List D} {k:Nat}:qlU (k:Int) l=l.take k:=by
 unfold qlU;rw[qTK,qTY,qUO]
theorem qlT {l:List D} {k:Nat}:qgI (k:Int) l=l.drop k:=by
 unfold qgI;rw[qTK,qTX (by rw[qT8]; omega)]
theorem qIr {pl:List Int} (h:pl≠[]):((↑(List.length (qn pl)):Int)==(0:Int))=false:=by
 have:=qVo.2 h;rw[Jl,beq_eq_false_iff_ne]; omega
variable [PW]
theorem qIs {r:D} {kn a:Nat} {lo hi pl:List Int} {l p1 p2:List D} (hp1:qf (ps1 r kn lo hi l a pl)) (hp2:qf (ps2 kn a l)) (h1:qlS (l.take kn) a lo p1) (h2:qlS (l.drop kn) (a+kn) hi p2) (hl:l.length≤60) (hk:kn≤l.length):qlS l a pl (p1++p2):=by
 have l1:=h1.len;have l2:=h2.len;have t1:(l.take kn).length=kn:=by rw[qTU]; omega
 have t2:(l.drop kn).length=l.length - kn:=by rw[qT8]
 have ea:((a:Int)+(kn:Nat))=((a+kn:Nat):Int):=by omega
 refine⟨by rw[qTN]; omega,qgH (qa9 (YH r kn lo hi) (by kernel_rfl) ?_),fun o ho=>qgH (qa9 (YH r kn lo hi) (by kernel_rfl) ?_)⟩
 ·refine qID (o:=[]) (p:=[]) (q:=[]) hp1 (qb.callG (YH r kn lo hi) (qIE (o:=[]) (p:=[]) (q:=[])) (by rw[qx3]; exact h1.n) ?_)
  rintro v rows2 ⟨rfl,rfl⟩
  cases p1 with
  | nil =>
   refine⟨_,qIL (o:=[]) (p:=[]) (q:=[]),qIM (o:=[]) (p:=[]) (q:=[]) hp2 (qb.callG (YH r kn lo hi) (qIN (o:=[]) (p:=[]) (q:=[])) (by rw[qlT,ea]; exact h2.n) ?_)⟩
   rintro v rows2 ⟨rfl,rfl⟩
   cases p2 with
   | nil=>exact⟨_,qIO (o:=[]) (p:=[]) (q:=[]),qIP (o:=[]) (p:=[]) (q:=[])⟩|cons y s=>exact⟨_,qIQ (o:=[]) (p:=[]) (q:=y::s),qIR (o:=[]) (p:=[]) (q:=y::s)⟩
  | cons x r1 =>
   refine⟨_,qIS (o:=[]) (p:=x::r1) (q:=[]),qIT (o:=[]) (p:=x::r1) (q:=[]) hp2 (qb.callG (YH r kn lo hi) (qIU (o:=[]) (p:=x::r1) (q:=[])) (by rw[qlT,ea]; exact h2.s (x::r1) (by omega)) ?_)⟩
   rintro v rows2 ⟨rfl,rfl⟩
   cases p2 with
   | nil =>
    rw[qT7];exact⟨_,qIV (o:=[]) (p:=x::r1) (q:=[]),qIW (o:=[]) (p:=x::r1) (q:=[])⟩
   | cons y s=>exact⟨_,qIX (o:=[]) (p:=x::r1) (q:=x::r1++y::s),qIY (o:=[]) (p:=x::r1) (q:=x::r1++y::s)⟩
 ·refine qIH (o:=o) (p:=[]) (q:=[]) hp1 (qb.callG (YH r kn lo hi) (qII (o:=o) (p:=[]) (q:=[])) (by rw[qx3]; exact h1.s o (by omega)) ?_)
  rintro v rows2 ⟨rfl,rfl⟩
  cases p1 with
  | nil =>
   refine⟨_,qIZ (o:=o) (p:=[]) (q:=[]),qI0 (o:=o) (p:=[]) (q:=[]) hp2 (qb.callG (YH r kn lo hi) (qI1 (o:=o) (p:=[]) (q:=[])) (by rw[qlT,ea]; exact h2.s o (by omega)) ?_)⟩
   rintro v rows2 ⟨rfl,rfl⟩
   cases p2 with
   | nil=>exact⟨_,qI2 (o:=o) (p:=[]) (q:=[]),qI3 (o:=o) (p:=[]) (q:=[])⟩|cons y s=>exact⟨_,qI4 (o:=o) (p:=[]) (q:=o++y::s),qI5 (o:=o) (p:=[]) (q:=o++y::s)⟩
  | cons x r1 =>
   refine⟨_,qI6 (o:=o) (p:=o++x::r1) (q:=[]),qI7 (o:=o) (p:=o++x::r1) (q:=[]) hp2 (qb.callG (YH r kn lo hi) (qI8 (o:=o) (p:=o++x::r1) (q:=[])) (by rw[qlT,ea]; exact h2.s (o++x::r1) (by rw[qTN]; omega)) ?_)⟩
   rintro v rows2 ⟨rfl,rfl⟩
   cases p2 with
   | nil =>
    rw[qT7];exact⟨_,qI9 (o:=o) (p:=o++x::r1) (q:=[]),qJa (o:=o) (p:=o++x::r1) (q:=[])⟩
   | cons y s =>
    have e:TS o (x::r1++y::s)=EG ((o++x::r1)++y::s):=by
     show EG (o++(x::r1++y::s))=_;rw[qTW]
    rw[e];exact⟨_,qJb (o:=o) (p:=o++x::r1) (q:=(o++x::r1)++y::s),qJc (o:=o) (p:=o++x::r1) (q:=(o++x::r1)++y::s)⟩
theorem qIt:∀(m:Nat) (l:List D) (a:Nat) (pl:List Int),l.length≤m→1≤l.length→l.length≤60→a+l.length≤60→Jw l→YV pl→pl.length≤1000→qlS l a pl (JD m l a pl)∧Jw (JD m l a pl):=by
 intro m
 induction m with
 | zero=>intro l a pl h1 h2; omega
 | succ m ih =>
  intro l a pl h1 h2 h3 h4 h5 h6 h7;unfold JD
  cases hpl:pl.isEmpty with
  | true =>
   have hpl':pl=[]:=qVe.1 hpl;subst hpl';obtain⟨r1,r2⟩:=qyl l.length l (qTF _) h2 h3 h5;have hr:RCs PP 52 [.d (.list l)] [] (.d (dgD (Yc l.length l))):=by rw[YS r2]; exact r1
   refine⟨⟨by show 1≤_; omega,?_,fun o ho=>?_⟩,fun x hx=>by
    rw[qUJ.1 hx]; exact r2⟩
   ·have:=qgH (qa9 (YH (Yc l.length l) 0 [] []) (by kernel_rfl) (qIF (r:=Yc l.length l) (k:=0) (lo:=[]) (hi:=[]) (a:=a) (pl:=[]) (l:=l) (o:=[]) (p:=[]) (q:=[]) ⟨rfl,hr,trivial⟩));rw[YS r2]at this;exact this
   ·have:=qgH (qa9 (YH (Yc l.length l) 0 [] []) (by kernel_rfl) (qIJ (r:=Yc l.length l) (k:=0) (lo:=[]) (hi:=[]) (a:=a) (pl:=[]) (l:=l) (o:=o) (p:=[]) (q:=[]) ⟨rfl,hr,⟨rfl,rfl,by omega⟩,⟨by omega,by omega,rfl,rfl,by omega,by omega,by omega,by omega⟩,trivial⟩));rw[YS r2,qTY,qUM]at this;have e:TS o [Yc l.length l]=[.live (.box [.sl 3 16 0 (o.length+1) (o.length+1) false] false),fnR,.dead,.live (.dat 16 (o++[Yc l.length l]) false)]:=by
     show EG (o++[Yc l.length l])=_;unfold EG;rw[qTN]; rfl
    rw[e];exact this
  | false =>
   have hpl':pl≠[]:=fun h=>by rw[h]at hpl; cases hpl
   have c1:=qIr hpl'
   cases hb:Nat.ble l.length 1 with
   | true =>
    have hb':=qT5 hb;have c2:decide ((↑(List.length l):Int)>(1:Int))=false:=decide_eq_false (by omega);refine⟨⟨by show 0≤_; omega,?_,fun o ho=>?_⟩,fun x hx=>by cases hx⟩
    ·exact qgH (qa9 (YH .nilp 0 [] []) (by kernel_rfl) (qIG (r:=.nilp) (k:=0) (lo:=[]) (hi:=[]) (a:=a) (pl:=pl) (l:=l) (o:=[]) (p:=[]) (q:=[]) ⟨c1,c2,trivial⟩))
    ·exact qgH (qa9 (YH .nilp 0 [] []) (by kernel_rfl) (qIK (r:=.nilp) (k:=0) (lo:=[]) (hi:=[]) (a:=a) (pl:=pl) (l:=l) (o:=o) (p:=[]) (q:=[]) ⟨c1,c2,trivial⟩))
   | false =>
    have hb':2≤l.length:=by
     rcases qTQ l.length 2 with h|h
     ·have:Nat.ble l.length 1=true:=qV8 (by omega);rw[this]at hb; cases hb
     ·exact h
    obtain⟨s1,s2⟩:=qhV hb' h3;have t1:(l.take (spl l.length)).length=spl l.length:=by rw[qTU]; omega
    have t2:(l.drop (spl l.length)).length=l.length - spl l.length:=by rw[qT8]
    have g1:(qah pl ((a+spl l.length:Nat):Int)).length≤pl.length:=qVD _ _;have g2:(qax pl ((a+spl l.length:Nat):Int)).length≤pl.length:=qVD _ _;obtain⟨a1,a2⟩:=ih (l.take (spl l.length)) a (qah pl ((a+spl l.length:Nat):Int)) (by omega) (by omega) (by omega) (by omega) (h5.take _) (h6.low _) (by omega);obtain⟨b1,b2⟩:=ih (l.drop (spl l.length)) (a+spl l.length) (qax pl ((a+spl l.length:Nat):Int)) (by omega) (by omega) (by omega) (by omega) (h5.drop _) (h6.high _) (by omega);have ea:((a:Int)+(spl l.length:Nat))=((a+spl l.length:Nat):Int):=by omega
    refine⟨qIs (r:=.nilp) (kn:=spl l.length) (lo:=qah pl ((a+spl l.length:Nat):Int)) (hi:=qax pl ((a+spl l.length:Nat):Int)) ⟨c1,decide_eq_true (by omega),qvy hb' h3,by unfold qi; omega,by rw[ea]; exact qDN h7 (qx2 h6),by omega,by omega,by rw[qTK]; exact⟨by omega,by omega,by omega,by omega,rfl⟩,h5.all,trivial⟩ ⟨by omega,by rw[qTK]; exact⟨by omega,by omega⟩,h5.all,by unfold qi; omega,trivial⟩ a1 b1 h3 (by omega),fun x hx=>?_⟩;rcases qTH.1 hx with hx|hx
    ·exact a2 x hx
    ·exact b2 x hx
end Go.Aev.R29
end
section
namespace Go.Aev.R29
open Go Go.Aev Go.Aev.R Go.Aev.M44 Go.Aev.S29
noncomputable def cMp (c:Bool):qw:=kA (fun g=>match Nat.beq g 131 with|true=>some fun _=>B c|false=>none)
theorem qfo (c:Bool):COK (cMp c).cfg:=YC _
noncomputable def C70 (l:List D) (pl:List Int):AS:=JJ (sTo (cMp true) (qg [(16,true)] [] [] 0 false true) (qaM 20) 300 (start (cMp true) 70 [.d (.list l),L pl] []))
noncomputable def D70 (l:List D) (pl:List Int) (T:Aev.Rows):AS:=(JA (C70 l pl) [0,1] (.tup []) T).getD (C70 l pl)
section
variable {l o:List D} {pl:List Int}
theorem qIv (h:RCs PP 131 [L pl,I (l.length:Nat)] [] (B false)):RCs PP 70 [.d (.list l),L pl] [] (.tup [.d (.list []),I 1]) :=
 qP (qfo false) (by kernel_rfl) (qb.fin' (qfo false) (qg [] [] [] 0 false true) (fun _=>false) 300 (ps:=[RCs PP 131 [L pl,I (l.length:Nat)] [] (B false)]) (qs:=[]) (by kernel_rfl) ⟨h,trivial⟩ trivial)
theorem qIw {Q:V→Aev.Rows→Prop} (hp:qf [RCs PP 131 [L pl,I (l.length:Nat)] [] (B true),decide ((l.length:Int)>(0:Int))=true]) (h:qb (cMp true) 0 (C70 l pl) Q):qb (cMp true) 0 (start (cMp true) 70 [.d (.list l),L pl] []) Q :=
 qb.to (qfo true) (qg [(16,true)] [] [] 0 false true) (qaM 20) 300 (by kernel_rfl) hp h
theorem qIx:qbx (cMp true).cfg (C70 l pl)=some (132,qcL l 0 pl,EN,[0,1]):=by kernel_rfl
theorem qIy:JA (C70 l pl) [0,1] (.tup []) EN=some (D70 l pl EN):=by kernel_rfl
theorem qIz:JA (C70 l pl) [0,1] (.tup []) (ES o)=some (D70 l pl (ES o)):=by kernel_rfl
theorem qIA:qb (cMp true) 0 (D70 l pl EN) (Fin (.tup [.d (.list []),I 0])) :=
 qb.fin' (qfo true) (qg [] [] [] 0 false true) (fun _=>false) 300 (ps:=[]) (qs:=[]) (by kernel_rfl) trivial trivial
theorem qIB:qb (cMp true) 0 (D70 l pl (ES o)) (Fin (.tup [.d (.list (List.take o.length (List.drop 0 o))),I 0])) :=
 qb.fin' (qfo true) (qg [] [] [] 0 false true) (fun _=>false) 300 (ps:=[]) (qs:=[16=16∧0+o.length≤o.length]) (by kernel_rfl) trivial ⟨⟨rfl,by omega⟩,trivial⟩
end
noncomputable def mpA (l:List D) (pl:List Int):List D×Int:=match J2 pl (l.length:Nat)with
 | true=>(JD l.length l 0 pl,0)|false=>([],1)
variable [PW]
theorem qIC {l:List D} {pl:List Int} (ha:RCs PP 131 [L pl,I (l.length:Nat)] [] (B (J2 pl (l.length:Nat)))) (h1:1≤l.length) (h2:l.length≤60) (hd:Jw l) :
  RCs PP 70 [.d (.list l),L pl] [] (.tup [.d (.list (mpA l pl).1),I (mpA l pl).2])∧Jw (mpA l pl).1∧(mpA l pl).1.length≤60:=by
 unfold mpA
 cases hc:J2 pl (l.length:Nat)with
 | false =>
  rw[hc]at ha;exact⟨qIv ha,(fun x hx=>by cases hx),by show 0≤60; omega⟩
 | true =>
  rw[hc]at ha;have hq:qbH pl (l.length:Nat):=by
   unfold J2 at hc;exact @of_decide_eq_true _ (Classical.propDecidable _) hc
  have hl:=hq.len;obtain⟨m1,m2⟩:=qIt l.length l 0 pl (qTF _) h1 h2 (by omega) hd hq.1 (by omega);have m3:=m1.len;refine⟨?_,m2,by show(JD l.length l 0 pl).length≤60; omega⟩;refine qP (qfo true) (by kernel_rfl) (qIw ⟨ha,decide_eq_true (by omega),trivial⟩ (qb.callG (qfo true) qIx m1.n ?_))
  rintro v rows2 ⟨rfl,rfl⟩
  show ∃s',JA (C70 l pl) [0,1] (.tup []) (TN (JD l.length l 0 pl))=some s'∧qb (cMp true) 0 s' (Fin (.tup [.d (.list (JD l.length l 0 pl)),I 0]))
  cases JD l.length l 0 pl with
  | nil=>exact⟨_,qIy,qIA⟩|cons x r =>
   refine⟨_,qIz (o:=x::r),?_⟩;have:=qIB (l:=l) (pl:=pl) (o:=x::r);rw[qTY,qUM]at this;exact this
end Go.Aev.R29
end
noncomputable section
namespace Go.Aev.R29
open Go Go.Aev Go.Aev.R Go.Aev.M44
def qfn (s:D):D:=(qb4 300 300).form s
def qIo (l p:List D) (e:Int) (r:D) (g:FuncId):Option (List V→V):=match Nat.beq g 53,Nat.beq g 52,Nat.beq g 70 with
 | true,_,_=>some fun _=>.d (.list l)
 | _,true,_=>some fun _=>.d (dgD r)
 | _,_,true=>some fun _=>.tup [.d (.list p),I e]
 | _,_,_=>none
def cLf (l p:List D) (e:Int) (r:D):qw:=kA (qIo l p e r)
theorem qlR (l p:List D) (e:Int) (r:D):COK (cLf l p e r).cfg:=YC _
theorem qIp {s r:D} {l:List D} (h1:RCs PP 53 [.d (qfn s)] [] (.d (.list l))) (h2:RCs PP 52 [.d (.list l)] [] (.d (dgD r))):RCs PP 18 [.d (qfn s)] [] (.d (dgD r)) :=
 qP (qlR l [] 0 r) (by kernel_rfl) (qb.fin' (qlR l [] 0 r) (qg [] [] [] 0 false true) (fun _=>false) 300 (ps:=[RCs PP 53 [.d (qfn s)] [] (.d (.list l)),RCs PP 52 [.d (.list l)] [] (.d (dgD r))]) (qs:=[]) (by kernel_rfl) ⟨h1,h2,trivial⟩ trivial)
theorem qIq {s:D} {l p:List D} {e:Int} {pl:List D} (h1:RCs PP 53 [.d (qfn s)] [] (.d (.list l))) (h2:RCs PP 70 [.d (.list l),.d (.list pl)] [] (.tup [.d (.list p),I e])):RCs PP 28 [.d (qfn s),.d (.list pl)] [] (.tup [.d (.list p),I e]) :=
 qP (qlR l p e .nilp) (by kernel_rfl) (qb.fin' (qlR l p e .nilp) (qg [] [] [] 0 false true) (fun _=>false) 300 (ps:=[RCs PP 53 [.d (qfn s)] [] (.d (.list l)),RCs PP 70 [.d (.list l),.d (.list pl)] [] (.tup [.d (.list p),I e])]) (qs:=[]) (by kernel_rfl) ⟨h1,h2,trivial⟩ trivial)
end Go.Aev.R29
end
section
namespace Go.Aev.R29
open Go Go.Aev Go.Aev.R Go.Aev.M44
theorem qxL:∀(l:List Int) (a n:Int),YO (qn l) a n=true↔YV l∧∀y∈l,a<y∧y<n
 | [],a,n=>⟨fun _=>⟨List.Pairwise.nil,fun y hy=>by cases hy⟩,fun _=>rfl⟩
 | x::r,a,n=>by
  have ih:=qxL r x n;show(!decide (x≤a)&&(!decide (x≥n)&&YO (qn r) x n))=true↔_;unfold YV at ih ⊢;rw[qTC,qTC,ih,qVn,qUy,qUy,decide_eq_false_iff_not,decide_eq_false_iff_not];constructor
  ·rintro⟨h1,h2,h3,h4⟩
   refine⟨⟨fun y hy=>(h4 y hy).1,h3⟩,fun y hy=>?_⟩;rcases qTD.1 hy with rfl|hy
   ·constructor<;>omega
   ·have:=h4 y hy;constructor<;>omega
  ·rintro⟨⟨h1,h2⟩,h3⟩
   have h4:=h3 x qTR;refine⟨by omega,by omega,h2,fun y hy=>⟨h1 y hy,(h3 y (qTG _ hy)).2⟩⟩
theorem qqT (l:List Int) (n:Int):YO (qn l) (-1) n=J2 l n:=by
 have h:YO (qn l) (-1) n=true↔J2 l n=true:=by
  rw[qxL];unfold J2;rw[@decide_eq_true_iff _ (Classical.propDecidable _)];unfold qbH;constructor
  ·rintro⟨h1,h2⟩
   exact⟨h1,fun y hy=>by have:=h2 y hy; constructor<;>omega⟩
  ·rintro⟨h1,h2⟩
   exact⟨h1,fun y hy=>by have:=h2 y hy; constructor<;>omega⟩
 cases h1:YO (qn l) (-1) n with
 | true=>rw[h1]at h; exact(h.1 rfl).symm|false =>
  cases h2:J2 l n with
  | false=>rfl|true=>rw[h1,h2]at h; exact absurd (h.2 rfl) (by decide)
theorem qxM {l:List Int} {n:Nat} (h:l.length≤n) [PW]:qj (.l n (.i .i64)) (.list (qn l)) :=
 ⟨_,rfl,by rw[Jl]; exact h,fun x hx=>by
  obtain⟨c,_,rfl⟩:=qTV.1 hx;exact⟨c,rfl⟩⟩
variable [PW]
theorem qxN {c:Con} {l:List Int} {n:Int} (h:l.length≤301) (hc:c.pts=[(.l 301 (.i .i64)),(.i .i64)]) (hp:c.pre=[]):qM c [.list (qn l),.int .i64 n]:=by
 refine⟨⟨by rw[hc]; rfl,fun i y hy=>?_⟩,fun f hf=>by rw[hp]at hf; cases hf⟩;rw[hc]at hy
 match i,hy with
 | 0,hy=>cases hy; exact qxM h
 | 1,hy=>cases hy; exact⟨n,rfl⟩
 | i+2,hy=>cases hy
theorem qIa {l:List Int} {n:Int} (h:l.length≤301):RCs PP 131 [L l,I n] [] (B (J2 l n)):=by
 obtain⟨d,⟨⟨⟨b,rfl⟩,_⟩,hf⟩,hr⟩:=qKW [.list (qn l),.int .i64 n] (qxN h rfl rfl);have hf:b=YO (qn l) (-1) n:=hf;rw[qqT]at hf;subst hf;exact hr
theorem qIb {l:List Int} {n:Int} (h:l.length≤301):RCs PP 71 [L l,I n] [] (B (J2 l n)):=by
 obtain⟨d,⟨⟨⟨b,rfl⟩,_⟩,hf⟩,hr⟩:=qKQ [.list (qn l),.int .i64 n] (qxN h rfl rfl);have hf:b=YO (qn l) (-1) n:=hf;rw[qqT]at hf;subst hf;exact hr
theorem qIc {l:List Int} {a b:Nat} (h:l.length≤301):RCs PP 134 [L l,I a,I b] [] (L (inL l a b)):=by
 obtain⟨d,⟨_,hf⟩,hr⟩:=qTd [.list (qn l),.int .i64 a,.int .i64 b] ⟨⟨rfl,fun i y hy=>by
  match i,hy with
  | 0,hy=>cases hy; exact qxM h
  | 1,hy=>cases hy; exact⟨_,rfl⟩
  | 2,hy=>cases hy; exact⟨_,rfl⟩
  | i+3,hy=>cases hy⟩,fun f hf=>by cases hf⟩
 have hf:d=.list (((qn l).filter (J1 a b)).map fun x=>.int .i64 (toI x)):=hf;have e:((qn l).filter (J1 a b)).map (fun x=>D.int .i64 (toI x))=qn (inL l a b):=by
  unfold qn inL;rw[List.filter_map,qUs];rfl
 rw[e]at hf;subst hf;exact hr
noncomputable def lvs (s:D):List D:=qel (toL (cel s 16))
theorem qlO {s:D} (h:qj (qb4 300 300) s):qfn s=s:=qaz (by kernel_rfl) h
theorem qxO {s:D} (hp:qM qr0 [s]):RCs PP 53 [.d s] [] (.d (.list (lvs s)))∧Jw (lvs s):=by
 obtain⟨d,⟨⟨⟨es,rfl,_,ht⟩,_⟩,hf⟩,hr⟩:=qPS [s] hp;have hf:D.list es=.list (lvs s):=hf;injection hf with hf
 subst hf;exact⟨hr,ht⟩
def qlP:Con:={pts:=[Zcg],pre:=Zha,rts:=[Zba],post:=[]}
def qxP (ds:List D) (d:D):Prop:=d=Yc (lvs (qa ds 0)).length (lvs (qa ds 0))
def qfk:Con:={qlP with fact:=qxP}
def qlQ:Con:={pts:=[Zcg,ZH],pre:=Zha,rts:=[.l 300 Zba,.i .i64],post:=[]}
def qxQ (ds:List D) (d:D):Prop:=d=.agg [.list (mpA (lvs (qa ds 0)) ((toL (qa ds 1)).map toI)).1,.int .i64 (mpA (lvs (qa ds 0)) ((toL (qa ds 1)).map toI)).2]
def qgG:Con:={qlQ with fact:=qxQ}
def qqU:Con:={pts:=[.i .i64,ZH,.l 301 Zba,.l 300 Zba,Zba],pre:=[Zch,.le Ze ZbJ],rts:=[.b],post:=[]}
def qxR (ds:List D) (d:D):Prop:=toB d=cmB (toN (qa ds 0)) ((toL (qa ds 1)).map toI) (toL (qa ds 2)) (toL (qa ds 3)) (qa ds 4)
def qfl:Con:={qqU with fact:=qxR}
def qis:Con:={pts:=[],pre:=[],rts:=[.b],post:=[.bool Ze true]}
structure qbI (s:D):Prop where
 t:qj (qb4 300 300) s
 l1:1≤(toL (cel s 16)).length
 l2:(toL (cel s 16)).length≤60
 r:∀j:Nat,j<(toL (cel s 16)).length→qj (.rg (-9223372036854775808) 9223372036854775807) ((toL (cel s 16)).getD j .nilp)
theorem qbI.pre {s:D} (h:qbI s):qM qr0 [s]:=by
 refine⟨⟨rfl,fun i y hy=>?_⟩,fun f hf=>?_⟩
 ·match i,hy with
  | 0,hy=>cases hy; exact h.t
  | i+1,hy=>cases hy
 ·have hf:f∈[F.le (.u 0 0 (.u 1 16 (.v 0))) (.i 60),F.pre (.u 1 16 (.v 0)) (.u 0 0 (.u 1 16 (.v 0))) (.rg (-9223372036854775808) 9223372036854775807)]:=hf;simp only[qTD,qTJ,or_false]at hf;rcases hf with rfl|rfl
  ·show(((toL (cel s 16)).length:Nat):Int)≤60;have:=h.l2; omega
  ·exact h.r
theorem qxS {s:D} {r:List D} (ht:qj (qb4 300 300) s) (h1:(F.nle (.i 1) (.u 0 0 (.u 1 16 (.v 0)))).den PW.wV rc0 (qa (s::r))) (h2:(F.le (.u 0 0 (.u 1 16 (.v 0))) (.i 60)).den PW.wV rc0 (qa (s::r))) (h3:(F.pre (.u 1 16 (.v 0)) (.u 0 0 (.u 1 16 (.v 0))) (.rg (-9223372036854775808) 9223372036854775807)).den PW.wV rc0 (qa (s::r))):qbI s :=
 ⟨ht,h1,by
  have h2:(((toL (cel s 16)).length:Nat):Int)≤60:=h2;omega,h3⟩
theorem qfm (s:D):(lvs s).length=(toL (cel s 16)).length:=qx0 _
theorem qbI.root {s:D} (h:qbI s):RCs PP 18 [.d s] [] (.d (Yc (lvs s).length (lvs s)))∧qj (Yw 301 301) (Yc (lvs s).length (lvs s)):=by
 obtain⟨r1,r2⟩:=qxO h.pre;have l1:=h.l1;have l2:=h.l2;obtain⟨r3,r4⟩:=qyl (lvs s).length (lvs s) (qTF _) (by rw[qfm]; omega) (by rw[qfm]; omega) r2;have:=qIp (s:=s) (r:=Yc (lvs s).length (lvs s)) (l:=lvs s) (by rw[qlO h.t]; exact r1) (by rw[YS r4]; exact r3);rw[qlO h.t,YS r4]at this;exact⟨this,r4⟩
theorem qbI.proof {s:D} (h:qbI s) {pl:List Int} (hl:pl.length≤301):RCs PP 28 [.d s,L pl] [] (.tup [.d (.list (mpA (lvs s) pl).1),I (mpA (lvs s) pl).2])∧Jw (mpA (lvs s) pl).1∧(mpA (lvs s) pl).1.length≤60:=by
 obtain⟨r1,r2⟩:=qxO h.pre;have l1:=h.l1;have l2:=h.l2;obtain⟨r3,r4,r5⟩:=qIC (l:=lvs s) (pl:=pl) (qIa hl) (by rw[qfm]; omega) (by rw[qfm]; omega) r2;have:=qIq (s:=s) (l:=lvs s) (pl:=qn pl) (by rw[qlO h.t]; exact r1) r3;rw[qlO h.t]at this;exact⟨this,r4,r5⟩
theorem qId {ds:List D} (h:ds.length=1):∃a,ds=[a]:=by
 match ds,h with
 | [a],_=>exact⟨a,rfl⟩
theorem qIe:qp PP 18 qfk:=fun ds hp=>by
 obtain⟨s,rfl⟩:=qId hp.1.1;have hs:qbI s:=qxS (hp.1.2 0 _ rfl) (hp.2 _ (by simp[qfk,qlP])) (hp.2 _ (by simp[qfk,qlP])) (hp.2 _ (by simp[qfk,qlP]));obtain⟨r1,r2⟩:=hs.root;refine⟨_,⟨⟨r2,fun f hf=>by cases hf⟩,rfl⟩,?_⟩;show RCs PP 18 [.d s] [] (.d ((Yw 140737488355328 140737488355328).form _));rw[qxY r2];exact r1
theorem qqV {n:Nat} {es:List D} (h:qj (.l n (.i .i64)) (.list es)):qn (es.map toI)=es∧es.length≤n:=by
 obtain⟨es',e,hl,ht⟩:=h;cases e;refine⟨?_,hl⟩;unfold qn;rw[qUs]
 conv=>rhs; rw[←qVp es]
 refine qUv fun x hx=>?_
 obtain⟨n,rfl⟩:=ht x hx;rfl
theorem qIf:qp PP 28 qgG:=fun ds hp=>by
 obtain⟨s,l,rfl⟩:∃a b,ds=[a,b]:=by
  match ds,hp.1.1 with
  | [a,b],_=>exact⟨a,b,rfl⟩
 have ht:qj (.l 301 (.i .i64)) l:=hp.1.2 1 _ rfl;obtain⟨es,rfl,_,_⟩:=ht;obtain⟨e1,e2⟩:=qqV (show qj (.l 301 (.i .i64)) (.list es) from hp.1.2 1 _ rfl);have hs:qbI s:=qxS (hp.1.2 0 _ rfl) (hp.2 _ (by simp[qgG,qlQ])) (hp.2 _ (by simp[qgG,qlQ])) (hp.2 _ (by simp[qgG,qlQ]));obtain⟨r1,r2,r3⟩:=hs.proof (pl:=es.map toI) (by rw[qTS]; exact e2);refine⟨.agg [.list (mpA (lvs s) (es.map toI)).1,.int .i64 (mpA (lvs s) (es.map toI)).2],⟨⟨⟨_,rfl,_,_,rfl,⟨_,rfl,by omega,r2⟩,_,_,rfl,⟨_,rfl⟩,rfl⟩,fun f hf=>by cases hf⟩,rfl⟩,?_⟩;have e3:(L (es.map toI):V)=.d (.list es):=congrArg (fun x=>V.d (.list x)) e1;rw[e3]at r1;exact r1
theorem qIg:qp PP 29 qfl:=fun ds hp=>by
 obtain⟨n,l,fo,pa,r,rfl⟩:∃a b c d e,ds=[a,b,c,d,e]:=by
  match ds,hp.1.1 with
  | [a,b,c,d,e],_=>exact⟨a,b,c,d,e,rfl⟩
 obtain⟨n,rfl⟩:qj (.i .i64) n:=hp.1.2 0 _ rfl;have ht:qj (.l 301 (.i .i64)) l:=hp.1.2 1 _ rfl;obtain⟨es,rfl,_,_⟩:=ht;obtain⟨e1,e2⟩:=qqV (show qj (.l 301 (.i .i64)) (.list es) from hp.1.2 1 _ rfl);obtain⟨fo,rfl,f1,f2⟩:qj (.l 301 (Yw 301 301)) fo:=hp.1.2 2 _ rfl;obtain⟨pa,rfl,g1,g2⟩:qj (.l 300 (Yw 301 301)) pa:=hp.1.2 3 _ rfl;have h0:(1:Int)≤n:=hp.2 _ (by simp[qfl,qqU]:(F.le (.i 1) (.v 0))∈qfl.pre);have h1:n≤(60:Int):=hp.2 _ (by simp[qfl,qqU]:(F.le (.v 0) (.i 60))∈qfl.pre);obtain⟨m,rfl⟩:∃m:Nat,n=(m:Int):=⟨n.toNat,by omega⟩
 have e3:(L (es.map toI):V)=.d (.list es):=congrArg (fun x=>V.d (.list x)) e1;have:=qHS (fun l a b h=>qIc (by omega)) (fun l n h=>qIb (by omega)) (n:=m) (l:=es.map toI) (fo:=fo) (pa:=pa) (r:=r) (by omega) (by omega) (by rw[qTS]; exact e2) f2 g2 f1 (by omega) (hp.1.2 4 _ rfl);rw[e3]at this;refine⟨.bool (cmB m (es.map toI) fo pa r),⟨⟨⟨_,rfl⟩,fun f hf=>by cases hf⟩,?_⟩,this⟩;show cmB m (es.map toI) fo pa r=cmB (Int.toNat (m:Int)) _ _ _ _;rw[qTK]; rfl
theorem qIh:qp PP 7 qis:=fun ds hp=>by
 have e:ds=[]:=qUr hp.1.1;subst e;refine⟨.bool true,⟨⟨⟨true,rfl⟩,fun f hf=>?_⟩,trivial⟩,S29.qHK⟩;simp only[qis,qTD,qTJ,or_false]at hf;subst hf;rfl
end Go.Aev.R29
end
section
namespace Go.Aev.R29
open Go Go.Aev Go.Aev.R Go.Aev.M44 Go.Aev.S29
theorem qq3 {n:Nat} {l:List D} (h:2≤l.length):Yc (n+1) l=JR (Yc n (l.take (spl l.length))) (Yc n (l.drop (spl l.length))):=by
 have hb:Nat.ble l.length 1=false:=by
  cases h2:Nat.ble l.length 1 with
  | false=>rfl|true=>have:=qT5 h2; omega
 show(match Nat.ble l.length 1 with|true=>_|false=>_)=_;rw[hb]
theorem qq4 {n:Nat} {l:List D} (h:l.length≤1):Yc (n+1) l=l.getD 0 .nilp:=by
 show(match Nat.ble l.length 1 with|true=>_|false=>_)=_;rw[qV8 h]
theorem qlV:∀(p q:Nat) (l:List D),l.length≤p→l.length≤q→1≤l.length→l.length≤60→Yc p l=Yc q l
 | 0,q,l,h1,h2,h3,h4=>by omega
 | p+1,0,l,h1,h2,h3,h4=>by omega
 | p+1,q+1,l,h1,h2,h3,h4=>by
  by_cases hl:l.length≤1
  ·rw[qq4 hl,qq4 hl]
  ·obtain⟨s1,s2⟩:=qhV (n:=l.length) (by omega) h4;have t1:(l.take (spl l.length)).length=spl l.length:=by rw[qTU]; omega
   have t2:(l.drop (spl l.length)).length=l.length - spl l.length:=by rw[qT8]
   rw[qq3 (by omega),qq3 (by omega),qlV p q _ (by omega) (by omega) (by omega) (by omega),qlV p q (l.drop _) (by omega) (by omega) (by omega) (by omega)]
theorem qJn {s:List Int} (h:YV s) (x:Int):qah s x++qax s x=s:=by
 have hk:=qu7 x (qx2 h);rw[hk.low,hk.high,qUw]
theorem qJo {s:List Int} {x y:Int}:y∈qah s x↔y∈s∧y<x:=by
 unfold qah;rw[qUT,decide_eq_true_eq]
theorem qJp {s:List Int} {x y:Int}:y∈qax s x↔y∈s∧x≤y:=by
 unfold qax;rw[qUT,qUy,decide_eq_false_iff_not,Int.not_lt]
theorem qJq {s:List Int} {a b:Nat} (h:∀y∈s,(a:Int)≤y):inL s a b=qah s b:=by
 unfold inL qah;refine qVE fun y hy=>?_
 rw[decide_eq_true (h y hy),qUB]
theorem qJr {s:List Int} {a b:Nat} (h:∀y∈s,y<(b:Int)):inL s a b=qax s a:=by
 unfold inL qax;refine qVE fun y hy=>?_
 rw[decide_eq_true (h y hy),qWv]
 by_cases h2:(a:Int)≤y
 ·rw[decide_eq_true h2,decide_eq_false (by omega)]; rfl
 ·rw[decide_eq_false h2,decide_eq_true (by omega)]; rfl
theorem qya {s:List Int} {a b:Nat} (h:∀y∈s,(a:Int)≤y∧y<(b:Int)):inL s a b=s:=by
 unfold inL;refine qVc.2 fun y hy=>?_
 rw[decide_eq_true (h y hy).1,decide_eq_true (h y hy).2]; rfl
def lfA (t:List D) (a:Nat) (y:Int):D:=t.getD (y - a).toNat .nilp
theorem qyb {t:List D} {k i:Nat} (h:i<k):(t.take k).getD i .nilp=t.getD i .nilp:=by
 rw[List.getD_eq_getElem?_getD,List.getD_eq_getElem?_getD,qUh,if_pos h]
theorem qJs {t:List D} {k i:Nat}:(t.drop k).getD i .nilp=t.getD (k+i) .nilp:=by
 rw[List.getD_eq_getElem?_getD,List.getD_eq_getElem?_getD,qUk]
theorem qJt:∀(m a:Nat) (t:List D) (l s:List Int) (fo pa:List D),t.length≤m→1≤t.length→t.length≤60→YV s→(∀y∈s,(a:Int)≤y∧y<((a+t.length:Nat):Int))→inL l a (a+t.length)=s →
  Yg m a t.length l (s.map (lfA t a)++fo) (JD m t a s++pa)=⟨Yc t.length t,s.length,(JD m t a s).length,true⟩:=by
 intro m
 induction m with
 | zero=>intro a t l s fo pa h1 h2; omega
 | succ m ih =>
  intro a t l s fo pa h1 h2 h3 h4 h5 h6;unfold Yg JD;rw[h6]
  cases hs:s.isEmpty with
  | true =>
   have hs':s=[]:=qVe.1 hs;subst hs';rfl
  | false =>
   have hs':s≠[]:=fun h=>by rw[h]at hs; cases hs
   cases hn:Nat.beq t.length 1 with
   | true =>
    have hn':=qTO hn;rw[qV8 (show t.length≤1 by omega)];have e1:=qyt h4 a;rw[←hn',qya h5]at e1;obtain⟨x,rfl⟩:∃x,s=[x]:=List.length_eq_one_iff.1 (by have:=qVo.2 hs'; omega);have hx:=h5 x qTR;have ex:(x - (a:Int)).toNat=0:=by omega
    have er:Yc t.length t=t.getD 0 .nilp:=by
     rw[hn'];exact qq4 (by omega)
    rw[er];show Wk.mk (t.getD (x - (a:Int)).toNat .nilp) 1 0 true=_;rw[ex]; rfl
   | false =>
    have hn':t.length≠1:=fun h=>by rw[h]at hn; cases hn
    have hb:Nat.ble t.length 1=false:=by
     cases h2:Nat.ble t.length 1 with
     | false=>rfl|true=>have:=qT5 h2; omega
    rw[hb];obtain⟨s1,s2⟩:=qhV (n:=t.length) (by omega) h3;have t1:(t.take (spl t.length)).length=spl t.length:=by rw[qTU]; omega
    have t2:(t.drop (spl t.length)).length=t.length - spl t.length:=by rw[qT8]
    have hc:(((a+spl t.length:Nat):Int))=(a:Int)+(spl t.length:Nat):=by omega
    have hlow:inL s a (a+spl t.length)=qah s ((a+spl t.length:Nat):Int):=qJq fun y hy=>(h5 y hy).1
    have hhigh:inL s (a+spl t.length) (a+spl t.length+(t.length - spl t.length))=qax s ((a+spl t.length:Nat):Int):=qJr fun y hy=>by
     have:=(h5 y hy).2;omega
    have hsp:=qJn h4 ((a+spl t.length:Nat):Int);generalize hx1:qah s ((a+spl t.length:Nat):Int)=x1 at *
    generalize hx2:qax s ((a+spl t.length:Nat):Int)=x2 at *
    have m1:∀y∈x1,(a:Int)≤y∧y<((a+spl t.length:Nat):Int):=fun y hy=>by
     rw[←hx1]at hy;have:=qJo.1 hy;exact⟨(h5 y this.1).1,this.2⟩
    have m2:∀y∈x2,((a+spl t.length:Nat):Int)≤y∧y<((a+t.length:Nat):Int):=fun y hy=>by
     rw[←hx2]at hy;have:=qJp.1 hy;exact⟨this.2,(h5 y this.1).2⟩
    have p1:YV x1:=by rw[←hx1]; exact h4.low _
    have p2:YV x2:=by rw[←hx2]; exact h4.high _
    have f1:x1.map (lfA t a)=x1.map (lfA (t.take (spl t.length)) a):=qUv fun y hy=>by
     have:=m1 y hy;unfold lfA;rw[qyb (by omega)]
    have f2:x2.map (lfA t a)=x2.map (lfA (t.drop (spl t.length)) (a+spl t.length)):=qUv fun y hy=>by
     have:=m2 y hy;unfold lfA;rw[qJs]
     congr 1
     omega
    have efo:s.map (lfA t a)++fo=x1.map (lfA (t.take (spl t.length)) a)++(x2.map (lfA (t.drop (spl t.length)) (a+spl t.length))++fo):=by
     rw[←f1,←f2,←qTW,←qUC,hsp]
    have i1:=ih a (t.take (spl t.length)) s x1 (x2.map (lfA (t.drop (spl t.length)) (a+spl t.length))++fo) (JD m (t.drop (spl t.length)) (a+spl t.length) x2++pa) (by omega) (by omega) (by omega) p1 (by rw[t1]; exact m1) (by rw[t1]; exact hlow);rw[t1]at i1;have i2:=ih (a+spl t.length) (t.drop (spl t.length)) s x2 fo pa (by omega) (by omega) (by omega) p2 (fun y hy=>by
     have:=m2 y hy;rw[t2];omega) (by rw[t2]; exact hhigh)
    rw[t2]at i2;have d1:(x1.map (lfA (t.take (spl t.length)) a)++(x2.map (lfA (t.drop (spl t.length)) (a+spl t.length))++fo)).drop x1.length=x2.map (lfA (t.drop (spl t.length)) (a+spl t.length))++fo:=by
     have:(x1.map (lfA (t.take (spl t.length)) a)).length=x1.length:=qTS _;rw[←this,qWh]
    have d2:(JD m (t.take (spl t.length)) a x1++(JD m (t.drop (spl t.length)) (a+spl t.length) x2++pa)).drop (JD m (t.take (spl t.length)) a x1).length=JD m (t.drop (spl t.length)) (a+spl t.length) x2++pa:=qWh;rw[efo,qTW,i1];show Wk.mk (JR (Yc (spl t.length) (t.take (spl t.length))) (Yg m (a+spl t.length) (t.length - spl t.length) s (List.drop x1.length _) (List.drop (JD m (t.take (spl t.length)) a x1).length _)).d) _ _ _=_;simp only[];rw[d1,d2,i2];have er:Yc t.length t=JR (Yc (spl t.length) (t.take (spl t.length))) (Yc (t.length - spl t.length) (t.drop (spl t.length))):=by
     have:t.length=(t.length - 1)+1:=by omega
     rw[show Yc t.length t=Yc ((t.length - 1)+1) t from congrArg (fun n=>Yc n t) this,qq3 (by omega),qlV (t.length - 1) (spl t.length) (t.take (spl t.length)) (by omega) (by omega) (by omega) (by omega),qlV (t.length - 1) (t.length - spl t.length) (t.drop (spl t.length)) (by omega) (by omega) (by omega) (by omega)]
    rw[er,qTN,←hsp,qTN]
theorem qyc:∀{l:List D},(∀x∈l,∃k n,x=.int k n)→qa5 l l=true
 | [],_=>rfl|x::r,h=>by
  obtain⟨k,n,rfl⟩:=h x qTR;show(n==n&&qa5 r r)=true;rw[beq_self_eq_true,qyc fun y hy=>h y (qTG _ hy)]; rfl
theorem qJu {l:List Int} {n:Int}:J2 l n=true↔qbH l n:=by
 unfold J2;exact @decide_eq_true_iff _ (Classical.propDecidable _)
variable [PW]
theorem qyd {t:List D} {s:List Int} (h1:1≤t.length) (h2:t.length≤60) (h3:qbH s (t.length:Nat)) (h4:qj (Yw 301 301) (Yc t.length t)) :
  (mpA t s).2=0∧cmB t.length s (s.map fun y=>t.getD y.toNat .nilp) (mpA t s).1 (Yc t.length t)=true:=by
 have hb:=qJu.2 h3;unfold mpA;rw[hb];refine⟨rfl,?_⟩;show cmB t.length s (s.map fun y=>t.getD y.toNat .nilp) (JD t.length t 0 s) (Yc t.length t)=true;have hall:∀y∈s,((0:Nat):Int)≤y∧y<((0+t.length:Nat):Int):=fun y hy=>by
  have:=h3.2 y hy;omega
 have hw:=qJt t.length 0 t s s [] [] (qTF _) h1 h2 h3.1 hall (qya hall);rw[qT7,qT7]at hw;have ef:s.map (lfA t 0)=s.map fun y=>t.getD y.toNat .nilp:=qUv fun y hy=>by
  unfold lfA;rw[show y - ((0:Nat):Int)=y by omega]
 rw[ef]at hw;unfold cmB;rw[hb,hw,qTS,decide_eq_true rfl,decide_eq_true rfl];obtain⟨y,hy⟩:=qfq h4;rw[hy];exact qyc (l:=y16 y) fun x hx=>by
  obtain⟨i,_,rfl⟩:=qTV.1 hx;exact⟨_,_,rfl⟩
theorem qJv {t:List D} {s:List Int}:(mpA t s).2=(match J2 s (t.length:Nat)with|true=>0|false=>1):=by
 unfold mpA;cases J2 s (t.length:Nat)<;>rfl
end Go.Aev.R29
end
noncomputable section
namespace Go.Aev.R29
open Go Go.Aev Go.Aev.R Go.Aev.M44
theorem qxE:∀l:List Int,(qn l).map toI=l:=fun l=>by
 unfold qn;rw[qUs]
 conv=>rhs; rw[←qVp l]
 exact qUv fun _ _=>rfl
def qds:List D→Int→Int
 | [],a=>a|x::r,_=>qds r (toI x)
theorem qxF:∀(l:List D) (x:D) (a n:Int),YO (l++[x]) a n=(YO l a n&&(!decide (toI x≤qds l a)&&!decide (toI x≥n)))
 | [],x,a,n=>by
  show(!decide (toI x≤a)&&(!decide (toI x≥n)&&true))=(true&&(!decide (toI x≤a)&&!decide (toI x≥n)));rw[qWv,qUB]
 | y::l,x,a,n=>by
  show(!decide (toI y≤a)&&(!decide (toI y≥n)&&YO (l++[x]) (toI y) n))=((!decide (toI y≤a)&&(!decide (toI y≥n)&&YO l (toI y) n))&&(!decide (toI x≤qds l (toI y))&&!decide (toI x≥n)));rw[qxF l x (toI y) n];simp only[Bool.and_assoc]
theorem qxG:∀(l:List D) (a:Int),l≠[]→qds l a=toI (l.getD (l.length - 1) .nilp)
 | [],_,h=>absurd rfl h|[x],a,_=>rfl|x::y::r,a,_=>by
  show qds (y::r) (toI x)=_;rw[qxG (y::r) (toI x) (by simp)];rfl
theorem qxH:∀(l:List D) (a n:Int),YO l a n=true→a≤qds l a
 | [],a,n,_=>qVY a|x::r,a,n,h=>by
  have h:(!decide (toI x≤a)&&(!decide (toI x≥n)&&YO r (toI x) n))=true:=h;rw[qTC,qTC,qUy,decide_eq_false_iff_not]at h;have:=qxH r (toI x) n h.2.2;show a≤qds r (toI x);omega
theorem qH8 {l:List D} {i:Nat} {n:Int} {f:Bool} (hi:i<l.length) (hf:f=YO (l.take i) (-1) n) :
  YO (l.take (i+1)) (-1) n=(f&&(decide (toI (l.getD i .nilp)≥0)&&(decide (toI (l.getD i .nilp)<n)&&(Nat.beq i 0||decide (toI (l.getD i .nilp)>toI (l.getD (i - 1) .nilp)))))):=by
 have e:l.take (i+1)=l.take i++[l.getD i .nilp]:=by
  rw[List.take_add_one,List.getD_eq_getElem?_getD,qTE hi]; rfl
 rw[e,qxF,←hf]
 cases hb:f with
 | false=>rfl|true =>
  rw[hb]at hf;have hlow:=qxH _ _ _ hf.symm;rw[qUB,qUB];have h2:(!decide (toI (l.getD i .nilp)≥n))=decide (toI (l.getD i .nilp)<n):=by
   by_cases h:toI (l.getD i .nilp)<n
   ·rw[decide_eq_true h,decide_eq_false (by omega)]; rfl
   ·rw[decide_eq_false h,decide_eq_true (by omega)]; rfl
  rw[h2]
  by_cases h0:i=0
  ·subst h0;have:qds (l.take 0) (-1)=-1:=rfl;rw[this];show _=(_&&(_&&(true||_)));rw[Bool.true_or,qWv]
   congr 1
   by_cases h:toI (l.getD 0 .nilp)≥0
   ·rw[decide_eq_true h,decide_eq_false (by omega)]; rfl
   ·rw[decide_eq_false h,decide_eq_true (by omega)]; rfl
  ·have hl:(l.take i).length=i:=by rw[qTU]; omega
   have hlast:qds (l.take i) (-1)=toI (l.getD (i - 1) .nilp):=by
    rw[qxG _ _ (fun h=>by rw[h]at hl; exact h0 hl.symm),hl];unfold toI;rw[qyb (by omega)]
   rw[hlast]at hlow ⊢;have hb:Nat.beq i 0=false:=by
    cases h:Nat.beq i 0 with
    | false=>rfl|true=>exact absurd (qTO h) h0
   rw[hb,qVF]
   by_cases h:toI (l.getD i .nilp)>toI (l.getD (i - 1) .nilp)
   ·rw[decide_eq_true h,decide_eq_false (by omega),decide_eq_true (show toI (l.getD i .nilp)≥0 by omega)];simp
   ·rw[decide_eq_false h,decide_eq_true (by omega)];simp
structure qH9 [PW] (ds:List D):Prop where
 z:toI (PW.wV 1000030 [(JB 140737488355328 140737488355328).form (qa ds 0)])=0
 s:qbI (qa ds 1)
 w:(toL (qa ds 3)).length≤40
structure qxI (ρ:Nat→D) (n:Nat):Prop where
 i0:0≤toI (ρ 4)
 i1:toI (ρ 4)≤n
structure qxJ (ρ:Nat→D) (n:Nat) (lv:List D):Prop where
 i0:0≤toI (ρ 8)
 i1:toI (ρ 8)≤n
 sl:∃sl:List Int,YV sl∧(∀y∈sl,0≤y∧y<toI (ρ 8))∧(toL (ρ 9)).take (toN (ρ 4))=qn sl∧(toL (ρ 10)).take (toN (ρ 6))=sl.map (fun y=>lv.getD y.toNat .nilp)
 n4:toN (ρ 4)≤(toL (ρ 9)).length
 n6:toN (ρ 6)≤(toL (ρ 10)).length
structure qxK (ρ:Nat→D) (n:Nat) (w:List D):Prop where
 i0:0≤toI (ρ 5)
 r:toB (ρ 4)=YO (w.take (toN (ρ 5))) (-1) n
end Go.Aev.R29
end
noncomputable section
namespace Go.Aev.R29
open Go Go.Aev Go.Aev.R
def qzd (ds:List D) (d:D):Prop:=toB d=true
def qcQ:Con:={pts:=[Zaw,Zb1,.i .u64,Zac],pre:=[.pre ZcV ZaG Zfw],rts:=[.b],post:=[]}
def YA:RFn:=mF 5 qcQ [⟨8,[(2,.o (.c (.i .u64) Zb)),(3,.o (.c .l Zd)),(4,Zc4),(5,ZbL),(10,.o (.c (.i .i64) ZaG)),(11,Zbo),(12,Zbo),(13,Zcj)],[Zp,Ziw],[Zaw,Zb1,.i .u64,Zac,.i .i64],[ZaH,Zfg,.le Zg ZaG,Zfh,Zix,ZaK,ZaL],(Zg,.w 1 ZaG Zf,Zk,Za,Za,Za)⟩,⟨8,[(2,.o (.c (.i .u64) Zb)),(3,.o (.c .l Zd)),(4,Zc4),(5,ZbL),(10,.o (.c (.i .i64) ZaG)),(11,.o (.sl 2 1 Za Zf Zj false)),(12,.o (.sl 3 16 Za Zs Zh false)),(13,.o Zf4)],[Zp,Ziw,ZJ,.dat 16 Z2 false],[Zaw,Zb1,.i .u64,Zac,.i .i64,.i .i64,.i .i64,.i .i64,.i .i64,Zac,.l 140737488355328 Zba],[.le Za ZD,.le ZD ZaG,Zfg,.le Zg ZaG,Zfh,.nle Zbq ZD,.nle Zdc ZD,.nle Zbq Zay,.nle Zdc Zes,.nle Zj Zbq,.nle Zh Zdc,Zix,ZaK,ZaL],(Zg,.w 1 ZaG ZD,Zk,Za,Za,Za)⟩,⟨18,[(3,.o (.c .l Zd)),(4,Zc4),(5,ZbL),(10,.o (.c (.i .i64) ZaG)),(16,.o (.c .b Zf)),(17,ZbS)],[Zp,Ziw],[Zaw,Zb1,.i .u64,Zac,.b,.i .i64],[Zfg,.le Zg ZaG,Zfh,.nle Zab (.i 40),Zcz],(Za,.w 1 Zab Zj,Zk,Za,Za,Za)⟩]
def Yq:Tab:=[(6,qnl),(7,qis),(16,qcK),(28,qgG),(18,qfk),(29,qfl),(30,qfy)]
theorem qPb:qaT PP YA Yq=true:=by kernel_rfl
theorem qPc:qy PP YA Yq (YA.sts.getD 0 default)=true:=by kernel_rfl
theorem qPd:qy PP YA Yq (YA.sts.getD 1 default)=true:=by kernel_rfl
theorem qPe:(lvS PP YA Yq (YA.sts.getD 2 default)).getD 0 false=true:=by kernel_rfl
theorem qPf:(lvS PP YA Yq (YA.sts.getD 2 default)).getD 1 false=true:=by kernel_rfl
theorem qPg:(lvS PP YA Yq (YA.sts.getD 2 default)).getD 2 false=true:=by kernel_rfl
theorem qPh:(lvS PP YA Yq (YA.sts.getD 2 default)).getD 3 false=true:=by kernel_rfl
theorem qPi:(lvS PP YA Yq (YA.sts.getD 2 default)).getD 4 false=true:=by kernel_rfl
theorem qPj:(lvS PP YA Yq (YA.sts.getD 2 default)).getD 5 false=true:=by kernel_rfl
theorem qPk:(lvS PP YA Yq (YA.sts.getD 2 default)).getD 6 false=true:=by kernel_rfl
theorem qPl:(lvS PP YA Yq (YA.sts.getD 2 default)).getD 7 false=true:=by kernel_rfl
theorem qPm:(lvS PP YA Yq (YA.sts.getD 2 default)).getD 8 false=true:=by kernel_rfl
theorem qPn:(lvS PP YA Yq (YA.sts.getD 2 default)).getD 9 false=true:=by kernel_rfl
theorem qPo:qy PP YA Yq (YA.sts.getD 2 default)=true:=qgm (n:=10) (by kernel_rfl) ⟨qPn,qPm,qPl,qPk,qPj,qPi,qPh,qPg,qPf,qPe,trivial⟩
theorem qPp:Ye PP 5 qcQ (Ev0 PP YA Yq):=fe YA Yq (qm qSX (qm qIh (qm qxZ (qm qIf (qm qIe (qm qIg (qm qq6 (qu)))))))) (qbC qPb ⟨qPc,qPd,qPo,trivial⟩) (by refine⟨?_,?_,?_,?_,trivial⟩<;>intro<;>kernel_rfl)
def qPq:Con:={qcQ with post:=qcQ.post++[],fact:=qzd}
def qze:TQ:=.fork (.u 6 0 (.u 3 6 (.w 4 ZaJ (.w 4 Zbm .z)))) (.done [(6,[ZaJ,Zbm]),(7,[])] (.mk .b (.u 3 7 .z))) (.fork (.w 12 Zab (.i 40)) (.done [(6,[ZaJ,Zbm]),(7,[])] (.mk .b (.u 3 7 .z))) (.next [(6,[ZaJ,Zbm])] 0 [Ze,Zc,Zb,Zd,Za]))
def qrT:TQ:=.fork (.w 10 Zf ZaG) (.fork (.w 14 (.w 143 (.w 133 Zb (.w 110 Zf ZL)) Zg) Zg) (.next [(16,[Zfi,ZiA])] 1 [Ze,Zc,Zb,Zd,.u 0 0 (.w 4 Zfi .z),.u 0 0 (.w 4 Zfi .z),.u 0 0 ZiB,.u 0 0 ZiB,ZdP,.w 4 Zfi .z,ZiB]) (.next [] 0 [Ze,Zc,Zb,Zd,ZdP])) (.fork (.w 15 (.u 1 1 ZiC) Za) (.done [(28,[Zbm,.z])] Zcl) (.fork (.u 6 0 (.u 3 29 (.w 4 Zfj (.w 4 .z (.w 4 .z (.w 4 (.mk .l (.u 1 0 ZiC)) (.w 4 ZgN .z))))))) (.done ZiD Zcl) (.next ZiD 2 ZiE)))
def qrU:TQ:=.fork (.w 10 ZD ZaG) (.fork (.w 14 (.w 143 (.w 133 Zb (.w 110 ZD ZL)) Zg) Zg) (.next [(16,[ZgO,ZiF])] 1 [Ze,Zc,Zb,Zd,ZiG,ZiG,.w 8 Zs (.u 0 0 ZiH),.w 8 Zs (.u 0 0 ZiH),.w 0 ZD Zg,.w 5 ZdU (.w 4 ZgO .z),.w 5 ZgP ZiH]) (.next [] 1 [Ze,Zc,Zb,Zd,Zf,Zj,Zs,Zh,.w 0 ZD Zg,Z9,Z2])) (.fork (.w 15 (.u 1 1 ZiI) Za) (.done [(28,[Zbm,ZdU])] Zcl) (.fork (.u 6 0 (.u 3 29 (.w 4 Zfj (.w 4 ZdU (.w 4 ZgP (.w 4 (.mk .l (.u 1 0 ZiI)) (.w 4 ZgN .z))))))) (.done ZiJ Zcl) (.next ZiJ 2 ZiE)))
def qrV:TQ:=.fork (.w 10 Zj Zab) (.fork Zf (.fork (.w 13 ZgQ Za) (.fork (.w 10 ZgQ ZaG) (.fork (.w 14 Zj Za) (.next [] 2 [Ze,Zc,Zb,Zd,.t true,ZaU]) (.next [] 2 [Ze,Zc,Zb,Zd,.w 12 ZgQ (.w 3 Zd (.w 1 Zj Zg)),ZaU])) (.next [] 2 [Ze,Zc,Zb,Zd,.t false,ZaU])) (.next [] 2 [Ze,Zc,Zb,Zd,.t false,ZaU])) (.next [] 2 [Ze,Zc,Zb,Zd,.t false,ZaU])) (.fork (.u 3 7 .z) (.fork (.w 19 (.w 14 ZiK Za) Zf) (.fork Zf (.done [(28,[Zbm,.mk .l Zd]),(7,[]),(30,[ZaJ])] (.mk .b (.w 14 (.u 3 30 (.w 4 ZaJ .z)) Za))) (.fork (.w 14 ZiK Zg) (.done [(28,[Zbm,.mk .l Zd]),(7,[]),(30,[ZaJ])] (.mk .b (.w 14 (.u 3 30 (.w 4 ZaJ .z)) Za))) (.done [(28,[Zbm,.mk .l Zd]),(7,[])] Zcl))) (.done [(28,[Zbm,.mk .l Zd]),(7,[])] Zcl)) (.done [(28,[Zbm,.mk .l Zd]),(7,[])] Zcl))
theorem qPr:YF PP YA Yq=[qze,qrT,qrU,qrV]:=by kernel_rfl
abbrev yG:Y:=qb4 140737488355328 140737488355328
abbrev yS:Y:=JB 140737488355328 140737488355328
def qPs:Y→List K
 | .g r=>r.kinds|_=>[]
def Yl (y:Y) (v:Nat):T:=.u 2 0 (qW ((cellsOf (.v v) (qPs y) 0).map fun p=>.mk p.1 p.2))
abbrev W5:Nat→List D→D:=wOf PP Yq
theorem qfD (ρ:Nat→D):(Yl yG 1).den W5 ρ=yG.form (ρ 1):=by kernel_rfl
theorem qrW (ρ:Nat→D):(Yl yS 0).den W5 ρ=yS.form (ρ 0):=by kernel_rfl
theorem qrX {ρ:Nat→D} (hc:YR PP Yq ρ 7 []):toB (W5 7 [])=true:=(hc qis rfl).2.1.2 (.bool (.v 0) true) (by simp[qis])
theorem qmE {ρ:Nat→D} {g:D} (hg:yG.form (ρ 1)=g) {SL:T} {sl:List Int} (hsl:SL.den W5 ρ=.list (qn sl)) (hc:YR PP Yq ρ 28 [Yl yG 1,SL]) :
  W5 28 [g,.list (qn sl)]=.agg [.list (mpA (lvs g) sl).1,.int .i64 (mpA (lvs g) sl).2]:=by
 have hf:qxQ [(Yl yG 1).den W5 ρ,SL.den W5 ρ] (W5 28 [(Yl yG 1).den W5 ρ,SL.den W5 ρ]):=(hc qgG rfl).2.2;rw[qfD,hg,hsl]at hf;have hf:W5 28 [g,.list (qn sl)]=.agg [.list (mpA (lvs g) ((qn sl).map toI)).1,.int .i64 (mpA (lvs g) ((qn sl).map toI)).2]:=hf;rw[qxE]at hf;exact hf
theorem qPt {ρ:Nat→D} {g:D} (hg:yG.form (ρ 1)=g) (hc:YR PP Yq ρ 18 [Yl yG 1]) :
  W5 18 [g]=Yc (lvs g).length (lvs g)∧qj (Yw 301 301) (W5 18 [g]):=by
 have hf:qxP [(Yl yG 1).den W5 ρ] (W5 18 [(Yl yG 1).den W5 ρ]):=(hc qfk rfl).2.2;have ht:qj (Yw 301 301) (W5 18 [(Yl yG 1).den W5 ρ]):=(hc qfk rfl).2.1.1;rw[qfD,hg]at hf ht;exact⟨hf,ht⟩
theorem qzf {ρ:Nat→D} {g:D} {sl:List Int} {SL FO PA RO:T} (hs:qbI g) (hg:yG.form (ρ 1)=g) (hq:qbH sl ((toL (cel g 16)).length:Nat)) (hsl:SL.den W5 ρ=.list (qn sl)) (hfo:FO.den W5 ρ=.list (sl.map fun y=>(lvs g).getD y.toNat .nilp))
  (hpa:PA.den W5 ρ=.list (toL (cel (W5 28 [(Yl yG 1).den W5 ρ,SL.den W5 ρ]) 0))) (hro:RO.den W5 ρ=dgD (W5 18 [(Yl yG 1).den W5 ρ]))
  (h28:YR PP Yq ρ 28 [Yl yG 1,SL]) (h18:YR PP Yq ρ 18 [Yl yG 1]) (h29:YR PP Yq ρ 29 [.mk (.i .i64) (.u 0 0 (.u 1 16 (.v 1))),SL,FO,PA,RO]) (hn:(toL (cel (ρ 1) 16)).length=(toL (cel g 16)).length) :
  toB (W5 29 [(T.mk (.i .i64) (.u 0 0 (.u 1 16 (.v 1)))).den W5 ρ,SL.den W5 ρ,FO.den W5 ρ,PA.den W5 ρ,RO.den W5 ρ])=true:=by
 have e28:=qmE hg hsl h28;obtain⟨e18,t18⟩:=qPt hg h18;have hf:qxR [(T.mk (.i .i64) (.u 0 0 (.u 1 16 (.v 1)))).den W5 ρ,SL.den W5 ρ,FO.den W5 ρ,PA.den W5 ρ,RO.den W5 ρ] (W5 29 [(T.mk (.i .i64) (.u 0 0 (.u 1 16 (.v 1)))).den W5 ρ,SL.den W5 ρ,FO.den W5 ρ,PA.den W5 ρ,RO.den W5 ρ]):=(h29 qfl rfl).2.2;have hf:toB (W5 29 [(T.mk (.i .i64) (.u 0 0 (.u 1 16 (.v 1)))).den W5 ρ,SL.den W5 ρ,FO.den W5 ρ,PA.den W5 ρ,RO.den W5 ρ])=cmB (Int.toNat ((toL (cel (ρ 1) 16)).length:Nat)) ((toL (SL.den W5 ρ)).map toI) (toL (FO.den W5 ρ)) (toL (PA.den W5 ρ)) (RO.den W5 ρ):=hf;rw[hf,hsl,hfo,hpa,hro,qfD,hg,hsl,e28,hn,qTK,qb7,qb7,qxE,YS t18,e18];have l1:=hs.l1;have l2:=hs.l2;have hl:=qfm g;obtain⟨r1,r2⟩:=hs.root;have:=qyd (t:=lvs g) (s:=sl) (by omega) (by omega) (by rw[hl]; exact hq) r2;rw[hl]at this;rw[hl];exact this.2
theorem qzg {g:D} {sl:List Int} (hs:qbI g) (hq:qbH sl ((toL (cel g 16)).length:Nat)):(mpA (lvs g) sl).2=0:=by
 have l1:=hs.l1;have l2:=hs.l2;have hl:=qfm g;obtain⟨r1,r2⟩:=hs.root;exact(qyd (t:=lvs g) (s:=sl) (by omega) (by omega) (by rw[hl]; exact hq) r2).1
def qdx (ds:List D) (k:Nat) (ρ:Nat→D):Prop:=qH9 ds∧match k with
 | 0=>qxI ρ (toL (cel (qa ds 1) 16)).length|1=>qxJ ρ (toL (cel (qa ds 1) 16)).length (lvs (qa ds 1))|_=>qxK ρ (toL (cel (qa ds 1) 16)).length (toL (qa ds 3))
theorem qPu {ds:List D} (hp:qM qcQ ds) (d:D) (ht:Yi PP Yq (fun k' ρ' d'=>qdx ds k' ρ'→toB d'=true) (qa ds) d qze):toB d=true:=by
 have hgB:yG.form (qa ds 1)=qa ds 1:=qaz (by kernel_rfl) (hp.1.2 1 _ rfl);rcases ht with⟨_,⟨_,h7,_⟩,rfl⟩|⟨h1,⟨_,⟨_,h7,_⟩,rfl⟩|⟨h2,⟨h6,_⟩,h3⟩⟩
 ·exact qrX h7
 ·exact qrX h7
 ·have hr:=(h6 qnl rfl).2.1.2;have e1:toB (W5 6 [(Yl yS 0).den W5 (qa ds),(Yl yG 1).den W5 (qa ds)])=true:=by
   have h1:(!toB (W5 6 [(Yl yS 0).den W5 (qa ds),(Yl yG 1).den W5 (qa ds)]))=false:=h1;rwa[Bool.not_eq_false']at h1
  have a1:qj (qb4 300 300) ((Yl yG 1).den W5 (qa ds)):=hr _ (qTR) e1;have a2:1≤(toL (cel ((Yl yG 1).den W5 (qa ds)) 16)).length:=hr _ (qTG _ qTR) e1;have a3:(((toL (cel ((Yl yG 1).den W5 (qa ds)) 16)).length:Nat):Int)≤60:=hr _ (qTG _ (qTG _ qTR)) e1;have a4:toI (PW.wV 1000030 [yS.form ((Yl yS 0).den W5 (qa ds))])≤0:=hr _ (qTG _ (qTG _ (qTG _ qTR))) e1;have a5:0≤toI (PW.wV 1000030 [yS.form ((Yl yS 0).den W5 (qa ds))]):=hr _ (qTG _ (qTG _ (qTG _ (qTG _ qTR)))) e1;rw[qfD,hgB]at a1 a2 a3;have hsB:yS.form (qa ds 0)=qa ds 0:=qaz (by kernel_rfl) (hp.1.2 0 _ rfl);rw[qrW,hsB]at a4 a5;have a6:=hp.2 (.pre (.u 1 16 (.v 1)) (.u 0 0 (.u 1 16 (.v 1))) (.rg (-9223372036854775808) 9223372036854775807)) (by simp[qcQ]);have h2:decide ((((toL (qa ds 3)).length:Nat):Int)>40)=false:=h2;have h2:=of_decide_eq_false h2;refine h3 ⟨⟨qVM a4 a5,⟨a1,a2,by omega,a6⟩,by omega⟩,⟨by show(0:Int)≤0; decide,by show(0:Int)≤_; omega⟩⟩
theorem qzh {ρ:Nat→D} {g:D} {k:Int} {i:Nat} (hk:k=(i:Int)) {K N:T} (hK:K.den W5 ρ=.int .i64 k) (hN:N.den W5 ρ=.int .i64 (toI ((toL (cel g 16)).getD i .nilp))) (hi:i<(toL (cel g 16)).length) (hc:YR PP Yq ρ 16 [K,N]) :
  dgD (W5 16 [K.den W5 ρ,N.den W5 ρ])=(lvs g).getD i .nilp:=by
 have hf:qxX [K.den W5 ρ,N.den W5 ρ] (W5 16 [K.den W5 ρ,N.den W5 ρ]):=(hc qcK rfl).2.2;have ht:qj (Yw 301 301) (W5 16 [K.den W5 ρ,N.den W5 ρ]):=(hc qcK rfl).2.1.1;have hf:W5 16 [K.den W5 ρ,N.den W5 ρ]=qcJ (K.den W5 ρ) (N.den W5 ρ):=hf;rw[YS ht,hf,hK,hN,hk];have e:(lvs g).getD i .nilp=qcJ (.int .i64 (i:Nat)) (.int .i64 (toI ((toL (cel g 16)).getD i .nilp))):=by
  unfold lvs;show((qel (toL (cel g 16)))[i]?).getD .nilp=_;rw[qx1 hi]; rfl
 rw[e]
theorem qPv {ds:List D} (hp:qM qcQ ds) (ρ:Nat→D) (d:D) (h0:ρ 0=qa ds 0) (h1:ρ 1=qa ds 1) (hi:qdx ds 0 ρ) (ht:Yi PP Yq (fun k' ρ' d'=>qdx ds k' ρ'→toB d'=true) ρ d qrT):toB d=true:=by
 obtain⟨hc,hA⟩:=hi;have hA:qxI ρ (toL (cel (qa ds 1) 16)).length:=hA;have hg:yG.form (ρ 1)=qa ds 1:=by rw[h1]; exact qaz (by kernel_rfl) (hp.1.2 1 _ rfl)
 have i0:=hA.i0;have i1:=hA.i1;have hn:((toN (ρ 4):Nat):Int)=toI (ρ 4):=by unfold toN; omega
 rcases ht with⟨c1,ht⟩|⟨c1,ht⟩
 ·have c1:decide (toI (ρ 4)<(((toL (cel (ρ 1) 16)).length:Nat):Int))=true:=c1;have c1:=of_decide_eq_true c1;rw[h1]at c1;rcases ht with⟨_,⟨h16,_⟩,h⟩|⟨_,_,h⟩
  ·have hl:=qzh (g:=qa ds 1) (k:=toI (ρ 4)) (i:=toN (ρ 4)) hn.symm (K:=.mk (.i .i64) (.v 4)) (N:=.mk (.i .i64) (.w 3 (.u 1 16 (.v 1)) (.v 4))) rfl (by rw[←h1]; rfl) (by omega) h16;refine h ⟨hc,?_⟩;refine⟨by show 0≤toI (ρ 4)+1; omega,by show toI (ρ 4)+1≤_; omega,⟨[toI (ρ 4)],qWG _ _,fun y hy=>?_,rfl,?_⟩,by show 1≤1; omega,by show 1≤1; omega⟩
   ·rw[qUJ.1 hy];show 0≤toI (ρ 4)∧toI (ρ 4)<toI (ρ 4)+1;omega
   ·show[dgD (W5 16 [(T.mk (.i .i64) (.v 4)).den W5 ρ,(T.mk (.i .i64) (.w 3 (.u 1 16 (.v 1)) (.v 4))).den W5 ρ])]=[(lvs (qa ds 1)).getD (toI (ρ 4)).toNat .nilp];rw[hl]; rfl
  ·exact h ⟨hc,⟨by show 0≤toI (ρ 4)+1; omega,by show toI (ρ 4)+1≤_; omega⟩⟩
 ·have hq:qbH [] (((toL (cel (qa ds 1) 16)).length:Nat):Int):=⟨List.Pairwise.nil,fun y hy=>by cases hy⟩
  have hz:=qzg hc.s hq;rcases ht with⟨c2,⟨h28,_⟩,rfl⟩|⟨_,ht⟩
  ·have c2:(toI (cel (W5 28 [(Yl yG 1).den W5 ρ,.list (qn [])]) 1) != 0)=true:=c2;rw[qfD,hg,qmE hg (SL:=.z) (sl:=[]) rfl h28]at c2;have c2:((mpA (lvs (qa ds 1)) []).2 != 0)=true:=c2;rw[hz]at c2;exact absurd c2 (by decide)
  ·rcases ht with⟨c3,⟨h28,h18,h29,_⟩,rfl⟩|⟨c3,⟨h28,h18,h29,_⟩,h⟩
   ·have:=qzf (SL:=.z) (FO:=.z) hc.s hg (sl:=[]) hq rfl rfl rfl rfl h28 h18 h29 (by rw[h1]);have c3:(!toB (W5 29 _))=true:=c3;rw[qUy]at c3;exact absurd (this.symm.trans c3) (by decide)
   ·refine h ⟨hc,by show(0:Int)≤0; decide,rfl⟩
theorem qPw {ds:List D} (hp:qM qcQ ds) (ρ:Nat→D) (d:D) (h0:ρ 0=qa ds 0) (h1:ρ 1=qa ds 1) (hi:qdx ds 1 ρ) (ht:Yi PP Yq (fun k' ρ' d'=>qdx ds k' ρ'→toB d'=true) ρ d qrU):toB d=true:=by
 obtain⟨hc,hB⟩:=hi;have hB:qxJ ρ (toL (cel (qa ds 1) 16)).length (lvs (qa ds 1)):=hB;have hg:yG.form (ρ 1)=qa ds 1:=by rw[h1]; exact qaz (by kernel_rfl) (hp.1.2 1 _ rfl)
 have i0:=hB.i0;have i1:=hB.i1;have n4:=hB.n4;have n6:=hB.n6;obtain⟨sl,g1,g2,g3,g4⟩:=hB.sl;have hn:((toN (ρ 8):Nat):Int)=toI (ρ 8):=by unfold toN; omega
 have l3:((toL (ρ 9)).take (toN (ρ 4))).length=toN (ρ 4):=by rw[qTU]; omega
 have l4:((toL (ρ 10)).take (toN (ρ 6))).length=toN (ρ 6):=by rw[qTU]; omega
 rcases ht with⟨c1,ht⟩|⟨c1,ht⟩
 ·have c1:decide (toI (ρ 8)<(((toL (cel (ρ 1) 16)).length:Nat):Int))=true:=c1;have c1:=of_decide_eq_true c1;rw[h1]at c1;rcases ht with⟨_,⟨h16,_⟩,h⟩|⟨_,_,h⟩
  ·have hl:=qzh (g:=qa ds 1) (k:=toI (ρ 8)) (i:=toN (ρ 8)) hn.symm (K:=.mk (.i .i64) (.v 8)) (N:=.mk (.i .i64) (.w 3 (.u 1 16 (.v 1)) (.v 8))) rfl (by rw[←h1]; rfl) (by omega) h16;refine h ⟨hc,?_⟩;refine⟨by show 0≤toI (ρ 8)+1; omega,by show toI (ρ 8)+1≤_; omega,⟨sl++[toI (ρ 8)],?_,fun y hy=>?_,?_,?_⟩,?_,?_⟩
   ·unfold YV at g1 ⊢;rw[qWl];exact⟨g1,qWG _ _,fun y hy z hz=>by
     rw[qUJ.1 hz];exact(g2 y hy).2⟩
   ·show 0≤y∧y<toI (ρ 8)+1;rcases qTH.1 hy with hy|hy
    ·have:=g2 y hy;omega
    ·rw[qUJ.1 hy]; omega
   ·show List.take (((toN (ρ 4)+1:Nat):Int)).toNat (((toL (ρ 9)).drop 0).take (toN (ρ 4))++[D.int .i64 (toI (ρ 8))])=qn (sl++[toI (ρ 8)]);rw[qTK,qTY,qTX (by rw[qTN,l3]; exact qTF _),g3];unfold qn;rw[qUC]; rfl
   ·show List.take (((toN (ρ 6)+1:Nat):Int)).toNat (((toL (ρ 10)).drop 0).take (toN (ρ 6))++[dgD (W5 16 [(T.mk (.i .i64) (.v 8)).den W5 ρ,(T.mk (.i .i64) (.w 3 (.u 1 16 (.v 1)) (.v 8))).den W5 ρ])])=_;rw[qTK,qTY,qTX (by rw[qTN,l4]; exact qTF _),g4,hl,qUC];rfl
   ·show(((toN (ρ 4)+1:Nat):Int)).toNat≤(((toL (ρ 9)).drop 0).take (toN (ρ 4))++[D.int .i64 (toI (ρ 8))]).length;rw[qTK,qTY,qTN,l3]; exact qTF _
   ·show(((toN (ρ 6)+1:Nat):Int)).toNat≤(((toL (ρ 10)).drop 0).take (toN (ρ 6))++[dgD (W5 16 [(T.mk (.i .i64) (.v 8)).den W5 ρ,(T.mk (.i .i64) (.w 3 (.u 1 16 (.v 1)) (.v 8))).den W5 ρ])]).length;rw[qTK,qTY,qTN,l4]; exact qTF _
  ·exact h ⟨hc,⟨by show 0≤toI (ρ 8)+1; omega,by show toI (ρ 8)+1≤_; omega,⟨sl,g1,fun y hy=>by
    have:=g2 y hy;show 0≤y∧y<toI (ρ 8)+1;omega,g3,g4⟩,n4,n6⟩⟩
 ·have hq:qbH sl (((toL (cel (qa ds 1) 16)).length:Nat):Int):=⟨g1,fun y hy=>by
   have:=g2 y hy;omega⟩
  have hz:=qzg hc.s hq;have es:(T.w 6 (.v 4) (.w 7 (.i 0) (.v 9))).den W5 ρ=.list (qn sl):=by
   show D.list (((toL (ρ 9)).drop 0).take (toN (ρ 4)))=_;rw[qTY,g3]
  have ef:(T.w 6 (.v 6) (.w 7 (.i 0) (.v 10))).den W5 ρ=.list (sl.map fun y=>(lvs (qa ds 1)).getD y.toNat .nilp):=by
   show D.list (((toL (ρ 10)).drop 0).take (toN (ρ 6)))=_;rw[qTY,g4]
  rcases ht with⟨c2,⟨h28,_⟩,rfl⟩|⟨_,ht⟩
  ·have c2:(toI (cel (W5 28 [(Yl yG 1).den W5 ρ,(T.w 6 (.v 4) (.w 7 (.i 0) (.v 9))).den W5 ρ]) 1) != 0)=true:=c2;rw[qfD,hg,es,qmE hg es h28]at c2;have c2:((mpA (lvs (qa ds 1)) sl).2 != 0)=true:=c2;rw[hz]at c2;exact absurd c2 (by decide)
  ·rcases ht with⟨c3,⟨h28,h18,h29,_⟩,rfl⟩|⟨c3,⟨h28,h18,h29,_⟩,h⟩
   ·have:=qzf hc.s hg (sl:=sl) hq es ef rfl rfl h28 h18 h29 (by rw[h1]);have c3:(!toB (W5 29 _))=true:=c3;rw[qUy]at c3;exact absurd (this.symm.trans c3) (by decide)
   ·refine h ⟨hc,by show(0:Int)≤0; decide,rfl⟩
theorem qPx {ρ:Nat→D} {s:D} (hs:yS.form (ρ 0)=s) (hz:toI (PW.wV 1000030 [yS.form s])=0) (hc:YR PP Yq ρ 30 [Yl yS 0]):toI (W5 30 [s])=0:=by
 have hr:=(hc qfy rfl).2.1.2;have m:∀f∈qfy.post.drop 3,f∈qfy.post:=fun f hf=>qUE hf
 have a1:toI (W5 30 [(Yl yS 0).den W5 ρ])≤toI (PW.wV 1000030 [yS.form ((Yl yS 0).den W5 ρ)]):=hr _ (m _ qTR);have a2:toI (PW.wV 1000030 [yS.form ((Yl yS 0).den W5 ρ)])≤toI (W5 30 [(Yl yS 0).den W5 ρ]):=hr _ (m _ (qTG _ qTR));rw[qrW,hs]at a1 a2;exact qVM (hz ▸ a1) (hz ▸ a2)
theorem qPy {ds:List D} (hp:qM qcQ ds) (ρ:Nat→D) (d:D) (h0:ρ 0=qa ds 0) (h1:ρ 1=qa ds 1) (h3:ρ 3=qa ds 3) (hi:qdx ds 2 ρ) (ht:Yi PP Yq (fun k' ρ' d'=>qdx ds k' ρ'→toB d'=true) ρ d qrV):toB d=true:=by
 obtain⟨hc,hE⟩:=hi;have hE:qxK ρ (toL (cel (qa ds 1) 16)).length (toL (qa ds 3)):=hE;have hg:yG.form (ρ 1)=qa ds 1:=by rw[h1]; exact qaz (by kernel_rfl) (hp.1.2 1 _ rfl)
 have hsB:yS.form (ρ 0)=qa ds 0:=by rw[h0]; exact qaz (by kernel_rfl) (hp.1.2 0 _ rfl)
 have i0:=hE.i0;have hr:=hE.r;have hn:((toN (ρ 5):Nat):Int)=toI (ρ 5):=by unfold toN; omega
 obtain⟨es,ew,_,_⟩:qj (.l 140737488355328 (.i .i64)) (qa ds 3):=hp.1.2 3 _ rfl;have qg:qn (es.map toI)=es:=(qqV (show qj (.l 140737488355328 (.i .i64)) (.list es) from by rw[←ew]; exact hp.1.2 3 _ rfl)).1;rcases ht with⟨c1,ht⟩|⟨c1,ht⟩
 ·have c1:decide (toI (ρ 5)<(((toL (ρ 3)).length:Nat):Int))=true:=c1;have c1:=of_decide_eq_true c1;rw[h3]at c1;have hl:toN (ρ 5)<(toL (qa ds 3)).length:=by omega
  have hst:=qH8 (n:=(((toL (cel (qa ds 1) 16)).length:Nat):Int)) hl hr;have next:∀ρ':Nat→D,toI (ρ' 5)=toI (ρ 5)+1→toB (ρ' 4)=(toB (ρ 4)&&(decide (toI ((toL (qa ds 3)).getD (toN (ρ 5)) .nilp)≥0)&&(decide (toI ((toL (qa ds 3)).getD (toN (ρ 5)) .nilp)<(((toL (cel (qa ds 1) 16)).length:Nat):Int))&&(Nat.beq (toN (ρ 5)) 0||decide (toI ((toL (qa ds 3)).getD (toN (ρ 5)) .nilp)>toI ((toL (qa ds 3)).getD (toN (ρ 5) - 1) .nilp))))))→qdx ds 2 ρ':=by
   intro ρ' e1 e2;have e3:toN (ρ' 5)=toN (ρ 5)+1:=by unfold toN at hn ⊢; omega
   exact⟨hc,by omega,by rw[e3,hst,e2]⟩
  rcases ht with⟨c2,ht⟩|⟨c2,_,h⟩
  ·have c2:toB (ρ 4)=true:=c2;rcases ht with⟨c3,ht⟩|⟨c3,_,h⟩
   ·have c3:decide (toI ((toL (ρ 3)).getD (toN (ρ 5)) .nilp)≥0)=true:=c3;rw[h3]at c3;rcases ht with⟨c4,ht⟩|⟨c4,_,h⟩
    ·have c4:decide (toI ((toL (ρ 3)).getD (toN (ρ 5)) .nilp)<(((toL (cel (ρ 1) 16)).length:Nat):Int))=true:=c4;rw[h3,h1]at c4;rcases ht with⟨c5,_,h⟩|⟨c5,_,h⟩
     ·have c5:(toI (ρ 5)==0)=true:=c5;have c5:=beq_iff_eq.1 c5;refine h (next _ rfl ?_);rw[c2,c3,c4,show toN (ρ 5)=0 by omega]; rfl
     ·have c5:(toI (ρ 5)==0)=false:=c5;have c5:=beq_eq_false_iff_ne.1 c5;refine h (next _ rfl ?_);have hb:Nat.beq (toN (ρ 5)) 0=false:=by
       cases h:Nat.beq (toN (ρ 5)) 0 with
       | false=>rfl|true=>have:=qTO h; omega
      rw[c2,c3,c4,hb,qUB,qUB,qUB,qVF];show decide (toI ((toL (ρ 3)).getD (toN (ρ 5)) .nilp)>toI ((toL (ρ 3)).getD (toI (ρ 5) - 1).toNat .nilp))=_;rw[h3,show(toI (ρ 5) - 1).toNat=toN (ρ 5) - 1 by omega]
    ·have c4:decide (toI ((toL (ρ 3)).getD (toN (ρ 5)) .nilp)<(((toL (cel (ρ 1) 16)).length:Nat):Int))=false:=c4;rw[h3,h1]at c4;refine h (next _ rfl ?_);rw[c4,qU3,qU4,qU4]; rfl
   ·have c3:decide (toI ((toL (ρ 3)).getD (toN (ρ 5)) .nilp)≥0)=false:=c3;rw[h3]at c3;refine h (next _ rfl ?_);rw[c3,qU3,qU4]; rfl
  ·have c2:toB (ρ 4)=false:=c2;refine h (next _ rfl ?_);rw[c2,qU3]; rfl
 ·have c1:decide (toI (ρ 5)<(((toL (ρ 3)).length:Nat):Int))=false:=c1;have c1:=of_decide_eq_false c1;rw[h3]at c1;rw[qTX (by omega),ew]at hr;have hr:toB (ρ 4)=YO es (-1) (((toL (cel (qa ds 1) 16)).length:Nat):Int):=hr;rw[←qg,qqT]at hr;have ew2:(T.mk .l (.v 3)).den W5 ρ=.list (qn (es.map toI)):=by
   show D.list (toL (ρ 3))=_;rw[h3,ew,qg]; rfl
  have href:=qJv (t:=lvs (qa ds 1)) (s:=es.map toI);rw[qfm,←hr]at href;have e28:YR PP Yq ρ 28 [Yl yG 1,.mk .l (.v 3)]→toI (cel (W5 28 [(Yl yG 1).den W5 ρ,(T.mk .l (.v 3)).den W5 ρ]) 1)=(match toB (ρ 4)with|true=>0|false=>1):=fun h28=>by
   rw[qfD,hg,ew2,qmE hg ew2 h28];exact href
  have e30:YR PP Yq ρ 30 [Yl yS 0]→toI (W5 30 [(Yl yS 0).den W5 ρ])=0:=fun h30=>by
   have hsz:yS.form (qa ds 0)=qa ds 0:=by rw[←h0]; rw[h0]at hsB ⊢; exact hsB
   rw[qrW,hsB];exact qPx hsB hc.z h30
  rcases ht with⟨c2,ht⟩|⟨c2,⟨_,h7,_⟩,rfl⟩
  ·rcases ht with⟨c3,ht⟩|⟨c3,⟨h28,_⟩,rfl⟩
   ·rcases ht with⟨c4,⟨h28,_,h30,_⟩,rfl⟩|⟨c4,ht⟩
    ·show(toI (W5 30 [(Yl yS 0).den W5 ρ])==0)=true;rw[e30 h30]; rfl
    ·have c4:toB (ρ 4)=false:=c4;rcases ht with⟨c5,⟨h28,_,h30,_⟩,rfl⟩|⟨c5,⟨h28,_⟩,rfl⟩
     ·show(toI (W5 30 [(Yl yS 0).den W5 ρ])==0)=true;rw[e30 h30]; rfl
     ·have c5:(toI (cel (W5 28 [(Yl yG 1).den W5 ρ,(T.mk .l (.v 3)).den W5 ρ]) 1)==1)=false:=c5;rw[e28 h28,c4]at c5;exact absurd c5 (by decide)
   ·have c3:((toI (cel (W5 28 [(Yl yG 1).den W5 ρ,(T.mk .l (.v 3)).den W5 ρ]) 1)==0)==toB (ρ 4))=false:=c3;rw[e28 h28]at c3
    cases h:toB (ρ 4)with
    | true=>rw[h]at c3; exact absurd c3 (by decide)
    | false=>rw[h]at c3; exact absurd c3 (by decide)
  ·have c2:toB (W5 7 [])=false:=c2;rw[qrX h7]at c2;exact absurd c2 (by decide)
theorem qPz {ds:List D} {d:D} (hp:qM qcQ ds) (h:Ev0 PP YA Yq ds d):qzd ds d:=by
 refine Jf qPr (I:=qdx ds) (Q:=fun d=>toB d=true) ?_ (fun d ht=>qPu hp d ht) h;intro k st q ρ d hst hq hg hi ht;have h0:=hg.arg 0 (by decide);have h1:=hg.arg 1 (by decide);have h3:=hg.arg 3 (by decide);rcases k with _|_|_|k
 ·have hq:qrT=q:=by simpa using hq
  subst hq;exact qPv hp ρ d h0 h1 hi ht
 ·have hq:qrU=q:=by simpa using hq
  subst hq;exact qPw hp ρ d h0 h1 hi ht
 ·have hq:qrV=q:=by simpa using hq
  subst hq;exact qPy hp ρ d h0 h1 h3 hi ht
 ·simp at hq
theorem qPA:qp PP 5 qPq:=qPp.more fun ds d hp _ h=>⟨fun f hf=>(by cases hf),qPz hp h⟩
end Go.Aev.R29
end
noncomputable section
namespace Go.Aev.R29
open Go Go.Aev Go.Aev.R
open Go.RowKit (Below)
theorem glb_of {W:World} (h:∀(g:Nat),g<2→∀(j:Nat) (n:Nat),consts[j]?=some n→W.cell? ⟨g,j,none⟩=some (.int .u32 n)):Glb (SW W) W:=by
 intro g x hx;have hg:g<2∧x=.agg (consts.map fun(n:Nat)=>.int .u32 n):=by
  match g,hx with
  | 0,hx =>
   have hx':some (D.agg (consts.map fun(n:Nat)=>D.int .u32 n))=some x:=hx;cases hx'; exact⟨by omega,rfl⟩
  | 1,hx =>
   have hx':some (D.agg (consts.map fun(n:Nat)=>D.int .u32 n))=some x:=hx;cases hx'; exact⟨by omega,rfl⟩
  | g+2,hx =>
   have hx':(none:Option D)=some x:=hx;cases hx'
 obtain⟨hg2,rfl⟩:=hg;have h0:=h g hg2 0 1116352408 rfl;have hsz:g<W.heap.size:=by
  unfold World.cell? at h0;split at h0
  ·rename_i hb; exact(qUY.1 hb).1
  ·cases h0
 refine .dp _ g 0 (fun j=>.int .u32 ((consts.getD j 0:Nat):Int)) hsz (fun j d hd=>?_) (fun j d hd=>?_)
 ·simp only[D.cells,qT3,qTP]at hd;obtain⟨n,hn,rfl⟩:=hd;rw[qT6,List.getD_eq_getElem?_getD,hn];exact h g hg2 j n hn
 ·simp only[D.cells,qT3,qTP]at hd;obtain⟨n,hn,rfl⟩:=hd;rw[List.getD_eq_getElem?_getD,hn];exact .int _ _
theorem qH0 {x0 x1 x2 x3:D} (h:RCs PP 5 [.d x0,.d x1,.d x2,.d x3] [] (.d (.bool true))) {W:World} (hg:Glb (SW W) W) {v0 v1 v2 v3:Value} (h0:RD (SW W) W x0 v0) (h1:RD (SW W) W x1 v1) (h2:RD (SW W) W x2 v2) (h3:RD (SW W) W x3 v3) :
  Calls PP 5 #[v0,v1,v2,v3] W fun e W'=>e=.returned (.bool true)∧Below W.heap.size W W':=by
 refine(h W _ (fun _=>none) (SW W) W #[v0,v1,v2,v3] (Inv.start W (fun b hb=>hb) hg) (fun r row h=>by simp at h) ⟨rfl,fun j a b ha hb=>?_⟩).mono fun e w' ⟨r,he,S',_,_,hr,hb,hs,ho,ht,hout⟩=>?_
 ·match j with
  | 0=>simp at ha hb; subst ha; subst hb; exact .d _ _ h0|1=>simp at ha hb; subst ha; subst hb; exact .d _ _ h1|2=>simp at ha hb; subst ha; subst hb; exact .d _ _ h2|3=>simp at ha hb; subst ha; subst hb; exact .d _ _ h3|_+4=>simp at ha
 ·have:=qdc (hr (fun _=>none));subst this;exact⟨he,ho,ht,hout,hs,hb⟩
def qxA:List Y:=qfs (qcf.unG (qb4 BG BG))
def qH1:Y:=.l BG (.rg (-9223372036854775808) 9223372036854775807)
def qlN:List Y:=qxA.take 16++[qH1]
def qqS:List Y:=qfs (qcf.unG (JB BG BG))
theorem qH2:fit 8 24 qqS=true:=by kernel_rfl
theorem qH3:fit 8 41 qlN=true:=by kernel_rfl
theorem qH4:fit 8 87 [.i .u64]=true:=by kernel_rfl
theorem qH5:fit 8 26 [.l BG (.i .i64)]=true:=by kernel_rfl
theorem Tys.split:∀{ys ys':List Y} {ds:List D},Tys (ys++ys') ds→∃d1 d2,ds=d1++d2∧d1.length=ys.length∧Tys ys d1∧Tys ys' d2
 | [],ys',ds,h=>⟨[],ds,rfl,rfl,.nil,h⟩|y::ys,ys',_,.cons h t=>by
  obtain⟨d1,d2,rfl,hl,a,b⟩:=Tys.split (ys:=ys) t;exact⟨_::d1,d2,rfl,by simp[hl],.cons h a,b⟩
theorem qH6 {ds:List D} (h:Tys qlN ds):qj (qb4 BG BG) (.agg ds)∧∀j:Nat,j<(toL (cel (.agg ds) 16)).length→qj (.rg (-9223372036854775808) 9223372036854775807) ((toL (cel (.agg ds) 16)).getD j .nilp):=by
 obtain⟨d1,d2,rfl,hl,a,b⟩:=Tys.split h
 cases b with
 | cons hd hn =>
  rename_i d d3;cases hn;have hl16:d1.length=16:=hl;obtain⟨es,rfl,e1,e2⟩:=hd;have hc:cel (.agg (d1++[.list es])) 16=.list es:=by
   show(d1++[D.list es]).getD 16 .nilp=_;rw[List.getD_eq_getElem?_getD,qT1 (by omega),hl16]; rfl
  refine⟨⟨_,rfl,qiv (r:=qcf.unG (qb4 BG BG)) (by kernel_rfl) ?_⟩,fun j hj=>?_⟩
  ·have:Tys (qxA.take 16++[.l BG (.i .i64)]) (d1++[.list es]):=a.append (.cons ⟨es,rfl,e1,fun x hx=>by
    obtain⟨n,hn,_⟩:=e2 x hx;exact⟨n,hn⟩⟩ .nil)
   exact this
  ·rw[hc]at hj ⊢;have hj:j<es.length:=hj;show qj _ (es.getD j .nilp);rw[List.getD_eq_getElem?_getD,qTE hj];exact e2 _ (qTL hj)
theorem qxB {y:Y} {ds:List D} (h:Tys [y] ds):∃d,ds=[d]∧qj y d:=by
 cases h with
 | cons h t=>cases t; exact⟨_,rfl,h⟩
theorem qH7 {a0 a1:List D} {x2 x3:D} (h0:Tys qqS a0) (h1:Tys qlN a1) (h2:qj (.i .u64) x2) (h3:qj (.l BG (.i .i64)) x3):RCs PP 5 [.d (.agg a0),.d (.agg a1),.d x2,.d x3] [] (.d (.bool true)):=by
 obtain⟨s1,s2⟩:=qH6 h1;obtain⟨d,⟨⟨⟨b,rfl⟩,_⟩,hf⟩,hr⟩:=qPA [.agg a0,.agg a1,x2,x3] ⟨⟨rfl,fun i y hy=>by
  match i,hy with
  | 0,hy=>cases hy; exact⟨a0,rfl,qiv (r:=qcf.unG (JB BG BG)) (by kernel_rfl) h0⟩
  | 1,hy=>cases hy; exact s1
  | 2,hy=>cases hy; exact h2
  | 3,hy=>cases hy; exact h3
  | i+4,hy=>cases hy⟩,fun f hf=>by
   have hf:f∈[F.pre (.u 1 16 (.v 1)) (.u 0 0 (.u 1 16 (.v 1))) (.rg (-9223372036854775808) 9223372036854775807)]:=hf;rw[qUJ.1 hf];exact s2⟩
 have hf:b=true:=hf;subst hf;exact hr
theorem qxC {ds:List D} {v:Value} {W:World} (h:RDs W ds v.cells.toList) (hl:2≤ds.length):RD (SW W) W (.agg ds) v:=by
 have hsz:v.cells.size=ds.length:=by
  have:=h.1;simpa using this
 have hv:∃arr,v=.agg arr:=by
  cases v<;>first
   | exact⟨_,rfl⟩
   | (simp[Value.cells]at hsz; omega)
 obtain⟨arr,rfl⟩:=hv;exact .agg ds arr (by simpa[Value.cells]using hsz) (fun j d v hd hv=>h.2 j d v hd (by simpa[Value.cells]using hv))
theorem qxD {d:D} {v:Value} {W:World} (h:RDs W [d] v.cells.toList) (hv:∀arr,v≠.agg arr):RD (SW W) W d v:=by
 have e:v.cells.toList=[v]:=by
  cases v<;>first
   | rfl
   | exact absurd rfl (hv _)
 rw[e]at h;exact h.2 0 d v rfl rfl
theorem law_calls {H:Type} {en:TypeId×Value→H} (K:Bulk H) {W:World} (hg:Glb (SW W) W) {v0 v1 v2 v3:Value} (hv2:∀arr,v2≠.agg arr) (hv3:∀arr,v3≠.agg arr) {d0 d1 d2 d3:DataW H} {p0 p1 p2 p3:List MemPlace}
  (h0:DataW.Trod en PP W 0 (fun _=>true) true 24 v0 d0 p0) (h1:DataW.Trod en PP W 0 (fun _=>true) true 41 v1 d1 p1) (h2:DataW.Trod en PP W 0 (fun _=>true) true 87 v2 d2 p2) (h3:DataW.Trod en PP W 0 (fun _=>true) true 26 v3 d3 p3)
  (b0:K.f d0≤BG) (b1:K.f d1≤BG) (b2:K.f d2≤BG) (b3:K.f d3≤BG) :
  Calls PP 5 #[v0,v1,v2,v3] W fun e W'=>e=.returned (.bool true)∧Below W.heap.size W W':=by
 obtain⟨f0,t0⟩:=h0;obtain⟨f1,t1⟩:=h1;obtain⟨f2,t2⟩:=h2;obtain⟨f3,t3⟩:=h3;obtain⟨a0,g0⟩:=ql0 K f0 8 24 qqS _ _ qH2 t0;obtain⟨a1,g1⟩:=ql0 K f1 8 41 qlN _ _ qH3 t1;obtain⟨a2,g2⟩:=ql0 K f2 8 87 [.i .u64] _ _ qH4 t2;obtain⟨a3,g3⟩:=ql0 K f3 8 26 [.l BG (.i .i64)] _ _ qH5 t3;obtain⟨x2,rfl,y2⟩:=qxB (g2.ty b2);obtain⟨x3,rfl,y3⟩:=qxB (g3.ty b3);have l0:a0.length=3:=g0.len;have l1:a1.length=17:=g1.len;exact qH0 (qH7 (g0.ty b0) (g1.ty b1) y2 y3) hg (qxC g0.rd (by omega)) (qxC g1.rd (by omega)) (qxD g2.rd hv2) (qxD g3.rd hv3)
end Go.Aev.R29
end
