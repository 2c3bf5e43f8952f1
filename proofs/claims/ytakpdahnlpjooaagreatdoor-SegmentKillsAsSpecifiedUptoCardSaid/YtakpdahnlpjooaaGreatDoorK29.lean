/- Lemmas: a machine that the model follows, and contracts. Conditions: none. -/
import Derived.Test.YtakpdahnlpjooaaGreatDoorS29E00
import Derived.Test.YtakpdahnlpjooaaGreatDoorK27
import Derived.Test.YtakpdahnlpjooaaGreatDoorS29E04
set_option linter.all false
set_option maxRecDepth 1000000
set_option maxHeartbeats 0
noncomputable section
namespace Go.Aev.S29
open Go Go.Aev Go.Aev.M44 Go.Aev.R29
def e25:Run T25 E25:=by unfold Run; kernel_rfl
def e26:Run T26 E26:=by unfold Run; kernel_rfl
def ivA (i:Nat):Int:=.ofNat (ivL.getD i 0)
def qi0 {l r:List Nat} (h1:(Nat.beq l.length 64&&l.all fun n=>Nat.blt n 256)=true) (h2:qao (isD .u8 l) (isD .u32 ivL)=isD .u32 r)
  {ps:List Prop} (h3:qeO (qcO l r).rows (qcO l r).args=some (ps,[.d d3,.d (.list (isD .u8 l))])) (h4:qh ps):RCs PP 189 (qcO l r).args (qcO l r).rows (qcO l r).v:=by
 rw[qTC,qUt]at h1;haveI:R.PW:=⟨fun _ _=>.nilp⟩
 obtain⟨c,hc,hr⟩:=qzA (a:=ivA) (bl:=isD .u8 l) (by unfold isD; rw[qTS]; exact h1.1) (fun d hd=>by
  obtain⟨n,hn,rfl⟩:=qTV.1 hd;have:=qTI.1 h1.2 n hn;rw[qT0]at this;exact⟨UInt8.ofNat n,(qd6 this).symm⟩)
 have e:ww8 ivA=isD .u32 ivL:=by kernel_rfl
 rw[e]at hc hr;have hr:RCs PP 189 [.d d3,.d (.list (isD .u8 l))] [] (.d (.agg (ww8 c))):=hr;rw[hc,h2]at hr;exact hr.of_argsB h3 h4
def e15:RCs PP E15.g E15.args E15.rows E15.v:=qi0 (ps:=[]) (by kernel_rfl) (by kernel_rfl) (by kernel_rfl) trivial
def e17:RCs PP E17.g E17.args E17.rows E17.v:=qi0 (ps:=[]) (by kernel_rfl) (by kernel_rfl) (by kernel_rfl) trivial
def e19:RCs PP E19.g E19.args E19.rows E19.v:=qi0 (ps:=[]) (by kernel_rfl) (by kernel_rfl) (by kernel_rfl) trivial
def e21:RCs PP E21.g E21.args E21.rows E21.v:=qi0 (ps:=[]) (by kernel_rfl) (by kernel_rfl) (by kernel_rfl) trivial
def e24:RCs PP E24.g E24.args E24.rows E24.v:=qi0 (ps:=[]) (by kernel_rfl) (by kernel_rfl) (by kernel_rfl) trivial
def t0:Yp T0:=qst
def t1:Yp T1:=Jx e0 t0
def t2:Yp T2:=Jx e1 t1
def t3:Yp T3:=Jx e2 t2
def t4:Yp T4:=Jx e3 t3
def t5:Yp T5:=Jx e4 t4
def t6:Yp T6:=Jx e5 t5
def t7:Yp T7:=Jx e6 t6
def t8:Yp T8:=Jx e7 t7
def t9:Yp T9:=qfv e8 t8
def t10:Yp T10:=qfv e9 t9
def t11:Yp T11:=Jx e10 t10
def t12:Yp T12:=Jx e11 t11
def t13:Yp T13:=Jx e12 t12
def t14:Yp T14:=Jx e13 t13
def t15:Yp T15:=Jx e14 t14
def t16:Yp T16:=qfv e15 t15
def t17:Yp T17:=Jx e16 t16
def t18:Yp T18:=qfv e17 t17
def t19:Yp T19:=Jx e18 t18
def t20:Yp T20:=qfv e19 t19
def t21:Yp T21:=Jx e20 t20
def t22:Yp T22:=qfv e21 t21
def t23:Yp T23:=Jx e22 t22
def t24:Yp T24:=Jx e23 t23
def t25:Yp T25:=qfv e24 t24
def t26:Yp T26:=Jx e25 t25
def t27:Yp T27:=Jx e26 t26
def qzx:RCs PP 7 [] [] (.d (.bool true)):=(qkI (qss t27) 13).RC 7 [] [] _ (by kernel_rfl)
end Go.Aev.S29
namespace Go.Aev.R29
open Go Go.Aev Go.Aev.R Go.Aev.M44 Go.Aev.S29
section
def dgD (d:D):D:=.agg ((List.range 16).map fun j=>.int .u8 (toI (cel d j)))
def qMe (R:List D->D) (N:D->D->D) (g:FuncId):Option (List V->V):=match Nat.beq g 52,Nat.beq g 112,Nat.beq g 113 with
 | true,_,_=>some fun args=>match args with
  | [.d (.list l)]=>.d (dgD (R l))|_=>.nil
 | _,true,_=>some fun args=>match args with
  | [.d (.int _ n)]=>I (spl n.toNat)|_=>.nil
 | _,_,true=>some fun args=>match args with
  | [.d a,.d b]=>.d (dgD (N a b))|_=>.nil
 | _,_,_=>none
def cR (R:List D->D) (N:D->D->D):qt:=cU (qMe R N)
def qmN (R:List D->D) (N:D->D->D):COK (cR R N).cfg:=qw3 _
def elG (l:List D) (i:Nat):D:=dgD (l.getD i .nilp)
def ln (l:List D):Int:=(l.length:Int)
def kk (l:List D):Int:=((spl (Int.toNat (ln l)):Nat):Int)
def qg5 (l:List D):Prop:=(List.all l fun e=>List.length (D.cells e)==16)=true
def fst (l:List D):List D:=List.take (Int.toNat (kk l) - 0) (List.drop 0 l)
def qfI (l:List D):List D:=List.take (Int.toNat (ln l) - Int.toNat (kk l)) (List.drop (Int.toNat (kk l)) l)
variable {R:List D->D} {N:D->D->D} {l:List D}
def qMf (R:List D->D) (N:D->D->D) (hp:qh [((ln l)==(0:Int))=false,((ln l)==(1:Int))=true,(0:Int)<=(0:Int)/\(0:Int)<ln l,l[0]?=some (elG l 0),16=16]):RCs PP 52 [.d (.list l)] [] (.d (elG l 0)) :=
 qE (qmN R N) (by kernel_rfl) (qb.fin' (qmN R N) (ql [(22,false),(25,true)] [(27,elG l)] [] 0 false true) (fun _=>false) 300 (qs:=[]) (by kernel_rfl) hp trivial)
def qMg (hp:qh [((ln l)==(0:Int))=false,((ln l)==(1:Int))=false,RCs PP 112 [.d (.int .i64 (ln l))] [] (.d (.int .i64 (kk l))),(0:Int)<=kk l,(0:Int)<=kk l,0<=Int.toNat (kk l)/\Int.toNat (kk l)<=List.length l/\Int.toNat (kk l)<=Int.toNat (kk l)/\Int.toNat (kk l)<=List.length l/\true=true,qg5 l,RCs PP 52 [.d (.list (fst l))] [] (.d (dgD (R (fst l)))),
  (0:Int)<=kk l,(0:Int)<=ln l,(0:Int)<=ln l,Int.toNat (kk l)<=Int.toNat (ln l)/\Int.toNat (ln l)<=List.length l/\Int.toNat (ln l)<=Int.toNat (ln l)/\Int.toNat (ln l)<=List.length l/\true=true,qg5 l,RCs PP 52 [.d (.list (qfI l))] [] (.d (dgD (R (qfI l)))),RCs PP 113 [.d (dgD (R (fst l))),.d (dgD (R (qfI l)))] [] (.d (dgD (N (dgD (R (fst l))) (dgD (R (qfI l))))))]) :
  RCs PP 52 [.d (.list l)] [] (.d (dgD (N (dgD (R (fst l))) (dgD (R (qfI l)))))) :=
 qE (qmN R N) (by kernel_rfl) (qb.fin' (qmN R N) (ql [(22,false),(25,false)] [] [] 0 false true) (fun _=>false) 300 (qs:=[]) (by kernel_rfl) hp trivial)
def qcj [PW] (l:List D):Prop:=∀x∈l,qd (Y4 301 301) x
def Jp:Nat->List D->D
 | 0,_=>.nilp|n+1,l=>match Nat.ble l.length 1 with
  | true=>l.getD 0 .nilp|false=>qbM (Jp n (l.take (spl l.length))) (Jp n (l.drop (spl l.length)))
variable [PW]
def YZ {x:D} (h:qd (Y4 301 301) x):dgD x=x:=by
 obtain⟨y,rfl⟩:=qfD h;rfl
def qMh {x:D} (h:qd (Y4 301 301) x):x.cells.length=16:=by
 obtain⟨y,rfl⟩:=qfD h;rfl
def qcj.all {l:List D} (h:qcj l):qg5 l:=by
 unfold qg5;rw[qTI];intro e he;rw[qMh (h e he)]; rfl
def qcj.take {l:List D} (h:qcj l) (k:Nat):qcj (l.take k):=fun x hx=>h x (qUg hx)
def qcj.drop {l:List D} (h:qcj l) (k:Nat):qcj (l.drop k):=fun x hx=>h x (qUE hx)
def qmO {l:List D} {k:Nat} (h:l.length≠k):(ln l==(k:Int))=false:=by
 unfold ln;rw[beq_eq_false_iff_ne]; omega
def qaZ (l:List D):kk l=((spl l.length:Nat):Int):=by unfold kk ln; rw[qTK]
def qg6 (l:List D):fst l=l.take (spl l.length):=by
 unfold fst;rw[qaZ,qTK,qTY,qUO]
def qsU (l:List D):qfI l=l.drop (spl l.length):=by
 unfold qfI ln;rw[qaZ,qTK,qTK,qTX (by rw[qT8]; omega)]
def qMi:∀(n:Nat) (l:List D),l.length<=n->1<=l.length->l.length<=60->qcj l->RCs PP 52 [.d (.list l)] [] (.d (Jp n l))/\qd (Y4 301 301) (Jp n l):=by
 intro n
 induction n with
 | zero=>intro l h1 h2; omega
 | succ n ih =>
  intro l h1 h2 h3 hd
  by_cases hl:l.length=1
  ·obtain⟨a,rfl⟩:∃a,l=[a]:=by
    match l,hl with
    | [a],_=>exact⟨a,rfl⟩
   have ha:=hd a qTR;refine⟨?_,ha⟩;have:=qMf (fun _=>.nilp) (fun _ _=>.nilp) (l:=[a]) ⟨rfl,rfl,⟨by omega,by show(0:Int)<1; decide⟩,by unfold elG; show some a=some (dgD a); rw[YZ ha],rfl,trivial⟩;have e:elG [a] 0=a:=YZ ha;rw[e]at this;exact this
  ·obtain⟨s1,s2⟩:=qxH (n:=l.length) (by omega) h3;have l1:(l.take (spl l.length)).length=spl l.length:=by rw[qTU]; omega
   have l2:(l.drop (spl l.length)).length=l.length - spl l.length:=by rw[qT8]
   obtain⟨a1,a2⟩:=ih (l.take (spl l.length)) (by omega) (by omega) (by omega) (hd.take _);obtain⟨b1,b2⟩:=ih (l.drop (spl l.length)) (by omega) (by omega) (by omega) (hd.drop _);have hn:=qL1 a2 b2;have ht:=(qz7 a2 b2).2;have e:Jp (n+1) l=qbM (Jp n (l.take (spl l.length))) (Jp n (l.drop (spl l.length))):=by
    have hb:Nat.ble l.length 1=false:=by
     cases h:Nat.ble l.length 1 with
     | false=>rfl|true=>have:=qT5 h; omega
    show(match Nat.ble l.length 1 with|true=>_|false=>_)=_;rw[hb]
   rw[e];refine⟨?_,ht⟩;have h112:RCs PP 112 [.d (.int .i64 (ln l))] [] (.d (.int .i64 (kk l))):=by
    rw[qaZ];exact qHC (n:=l.length) (by omega) h3
   have:=qMg (R:=Jp n) (N:=qbM) (l:=l) ⟨qmO (k:=0) (by omega),qmO (k:=1) hl,h112,by rw[qaZ]; omega,by rw[qaZ]; omega,by rw[qaZ,qTK]; exact⟨by omega,by omega,by omega,by omega,rfl⟩,hd.all,by rw[qg6,YZ a2]; exact a1,
    by rw[qaZ]; omega,by unfold ln; omega,by unfold ln; omega,by rw[qaZ]; unfold ln; rw[qTK,qTK]; exact⟨by omega,by omega,by omega,by omega,rfl⟩,hd.all,by rw[qsU,YZ b2]; exact b1,by rw[qg6,qsU,YZ a2,YZ b2,YZ ht]; exact hn,trivial⟩
   rw[qg6,qsU,YZ a2,YZ b2,YZ ht]at this;exact this
end
section
def qMj (R:List D->D) (N:D->D->D) (g:FuncId):Option (List V->V):=match Nat.beq g 19,Nat.beq g 55,Nat.beq g 56 with
 | true,_,_=>some fun args=>match args with
  | [.d (.list l)]=>.d (dgD (R l))|_=>.nil
 | _,true,_=>some fun args=>match args with
  | [.d (.int _ n)]=>I (spl n.toNat)|_=>.nil
 | _,_,true=>some fun args=>match args with
  | [.d a,.d b]=>.d (dgD (N a b))|_=>.nil
 | _,_,_=>none
def cR3 (R:List D->D) (N:D->D->D):qt:=cU (qMj R N)
def qmP (R:List D->D) (N:D->D->D):COK (cR3 R N).cfg:=qw3 _
def qfJ (l:List D):List D:=List.take (l.length - Int.toNat (kk l)) (List.drop (Int.toNat (kk l)) l)
section
variable {R:List D->D} {N:D->D->D} {l:List D}
def qMk (R:List D->D) (N:D->D->D) (hp:qh [(ln l==(0:Int))=false,(ln l==(1:Int))=true,(0:Int)<=(0:Int)/\(0:Int)<ln l,l[0]?=some (elG l 0),16=16]):RCs PP 19 [.d (.list l)] [] (.d (elG l 0)) :=
 qE (qmP R N) (by kernel_rfl) (qb.fin' (qmP R N) (ql [(6,false),(10,true)] [(11,elG l)] [] 0 false true) (fun _=>false) 300 (qs:=[]) (by kernel_rfl) hp trivial)
def qMl (hp:qh [(ln l==(0:Int))=false,(ln l==(1:Int))=false,RCs PP 55 [.d (.int .i64 (ln l))] [] (.d (.int .i64 (kk l))),(0:Int)<=kk l,0<=Int.toNat (kk l)/\Int.toNat (kk l)<=List.length l,qg5 l,RCs PP 19 [.d (.list (fst l))] [] (.d (dgD (R (fst l)))),
  (0:Int)<=kk l,Int.toNat (kk l)<=List.length l/\List.length l<=List.length l,qg5 l,RCs PP 19 [.d (.list (qfJ l))] [] (.d (dgD (R (qfJ l)))),RCs PP 56 [.d (dgD (R (fst l))),.d (dgD (R (qfJ l)))] [] (.d (dgD (N (dgD (R (fst l))) (dgD (R (qfJ l))))))]) :
  RCs PP 19 [.d (.list l)] [] (.d (dgD (N (dgD (R (fst l))) (dgD (R (qfJ l)))))) :=
 qE (qmP R N) (by kernel_rfl) (qb.fin' (qmP R N) (ql [(6,false),(10,false)] [] [] 0 false true) (fun _=>false) 300 (qs:=[]) (by kernel_rfl) hp trivial)
end
variable [PW]
def qsV (l:List D):qfJ l=l.drop (spl l.length):=by
 unfold qfJ;rw[qaZ,qTK,qTX (by rw[qT8]; omega)]
def qMm:∀(n:Nat) (l:List D),l.length<=n->1<=l.length->l.length<=60->qcj l->RCs PP 19 [.d (.list l)] [] (.d (Jp n l))/\qd (Y4 301 301) (Jp n l):=by
 intro n
 induction n with
 | zero=>intro l h1 h2; omega
 | succ n ih =>
  intro l h1 h2 h3 hd
  by_cases hl:l.length=1
  ·obtain⟨a,rfl⟩:∃a,l=[a]:=by
    match l,hl with
    | [a],_=>exact⟨a,rfl⟩
   have ha:=hd a qTR;refine⟨?_,ha⟩;have:=qMk (fun _=>.nilp) (fun _ _=>.nilp) (l:=[a]) ⟨rfl,rfl,⟨by omega,by show(0:Int)<1; decide⟩,by unfold elG; show some a=some (dgD a); rw[YZ ha],rfl,trivial⟩;have e:elG [a] 0=a:=YZ ha;rw[e]at this;exact this
  ·obtain⟨s1,s2⟩:=qxH (n:=l.length) (by omega) h3;have l1:(l.take (spl l.length)).length=spl l.length:=by rw[qTU]; omega
   have l2:(l.drop (spl l.length)).length=l.length - spl l.length:=by rw[qT8]
   obtain⟨a1,a2⟩:=ih (l.take (spl l.length)) (by omega) (by omega) (by omega) (hd.take _);obtain⟨b1,b2⟩:=ih (l.drop (spl l.length)) (by omega) (by omega) (by omega) (hd.drop _);obtain⟨hn,ht⟩:=qz7 a2 b2;have e:Jp (n+1) l=qbM (Jp n (l.take (spl l.length))) (Jp n (l.drop (spl l.length))):=by
    have hb:Nat.ble l.length 1=false:=by
     cases h:Nat.ble l.length 1 with
     | false=>rfl|true=>have:=qT5 h; omega
    show(match Nat.ble l.length 1 with|true=>_|false=>_)=_;rw[hb]
   rw[e];refine⟨?_,ht⟩;have h55:RCs PP 55 [.d (.int .i64 (ln l))] [] (.d (.int .i64 (kk l))):=by
    rw[qaZ];exact qHD (n:=l.length) (by omega) h3
   have:=qMl (R:=Jp n) (N:=qbM) (l:=l) ⟨qmO (k:=0) (by omega),qmO (k:=1) hl,h55,by rw[qaZ]; omega,by rw[qaZ,qTK]; omega,hd.all,by rw[qg6,YZ a2]; exact a1,
    by rw[qaZ]; omega,by rw[qaZ,qTK]; omega,hd.all,by rw[qsV,YZ b2]; exact b1,by rw[qg6,qsV,YZ a2,YZ b2,YZ ht]; exact hn,trivial⟩
   rw[qg6,qsV,YZ a2,YZ b2,YZ ht]at this;exact this
def qMn {d:D} (h:qd (Y4 301 301) d):(Y4 140737488355328 140737488355328).form d=d:=by
 obtain⟨y,rfl⟩:=qfD h;rfl
def qMo (ds:List D) (d:D):Prop:=d=Jp (toL (qa ds 0)).length (toL (qa ds 0))
def qAr:Con:={pts:=[.l 60 Zdm],pre:=[Zdk],rts:=[Zdm],post:=[]}
def qsW:Con:={qAr with fact:=qMo}
def qMp:qm PP 19 qsW:=fun ds hp=>by
 obtain⟨a,rfl⟩:∃a,ds=[a]:=by
  match ds,hp.1.1 with
  | [a],_=>exact⟨a,rfl⟩
 obtain⟨es,rfl,h1,h2⟩:=hp.1.2 0 _ rfl;have h0:1<=es.length:=hp.2 _ (by simp[qsW,qAr]:(F.nle (.i 1) (.u 0 0 (.v 0)))∈qsW.pre);obtain⟨r1,r2⟩:=qMm es.length es (qTF _) h0 h1 h2;refine⟨_,⟨⟨r2,fun f hf=>by cases hf⟩,rfl⟩,?_⟩;show RCs PP 19 [.d (.list es)] [] (.d ((Y4 140737488355328 140737488355328).form _));rw[qMn r2];exact r1
end
end Go.Aev.R29
namespace Go.Aev.R29
open Go Go.Aev Go.Aev.R Go.Aev.M44
variable [PW]
def qi6 (ds:List D) (d:D):Prop:=d=J0 (qa ds 0) (qa ds 1)
def qLQ:Con:={pts:=[ZcD,ZcD],pre:=[],rts:=[Zdm],post:=[]}
def qsM:Con:={qLQ with fact:=qi6}
def qLR {d:D} (h:qd (Y4 301 301) d):(Y4 140737488355328 140737488355328).form d=d:=by
 obtain⟨y,rfl⟩:=qfD h;rfl
def qz9:qm PP 16 qsM:=fun ds hp=>by
 obtain⟨a,b,rfl⟩:∃a b,ds=[a,b]:=by
  match ds,hp.1.1 with
  | [a,b],_=>exact⟨a,b,rfl⟩
 obtain⟨k,rfl,k0,k1⟩:qd (.rg (-9223372036854775808) 9223372036854775807) a:=hp.1.2 0 _ rfl;obtain⟨n,rfl,n0,n1⟩:qd (.rg (-9223372036854775808) 9223372036854775807) b:=hp.1.2 1 _ rfl;obtain⟨r1,r2⟩:=qLs (k:=k) (n:=n) (by unfold qy; omega) (by unfold qy; omega);refine⟨J0 (.int .i64 k) (.int .i64 n),⟨⟨r2,fun f hf=>by cases hf⟩,rfl⟩,?_⟩;show RCs PP 16 [.d (.int .i64 k),.d (.int .i64 n)] [] (.d ((Y4 140737488355328 140737488355328).form _));rw[qLR r2];exact r1
def qbL (l:List D):List D:=(List.range l.length).map fun j=>J0 (.int .i64 (j:Nat)) (.int .i64 (toI (l.getD j .nilp)))
def qsN (l:List D):(qbL l).length=l.length:=by unfold qbL; rw[qTS,qVw]
def qLS {l:List D} {j:Nat} (h:j<l.length):(qbL l)[j]?=some (J0 (.int .i64 (j:Nat)) (.int .i64 (toI (l.getD j .nilp)))):=by
 unfold qbL;rw[qT3,qVj h]; rfl
end Go.Aev.R29
namespace Go.Aev.R29
open Go Go.Aev Go.Aev.R
variable [PW]
def qhj (ds:List D) (d:D):Prop:=d=.list (qbL (toL (cel (qa ds 0) 16)))
structure qRY (s:D) (U:Nat->D):Prop where
 a0:U 0=s
 i0:0<=toI (U 1)
 l:(toL (U 2)).length=(toL (cel s 16)).length
 f:∀j,j<toN (U 1)->j<(toL (cel s 16)).length->(toL (U 2)).getD j .nilp=J0 (.int .i64 (j:Nat)) (.int .i64 (toI ((toL (cel s 16)).getD j .nilp)))
def qnK:Con:={pts:=[ZaN],pre:=[.le Z7 ZbM,.pre Zbd Z7 ZcD],rts:=[.l 60 Zdm],post:=[]}
def qnL:RFn:=mF 53 qnK [⟨3,[(3,.o (.sl 0 16 Za Z7 Z7 true)),(11,.o (.c .l Zbd)),(12,.o (.c (.i .i64) Z7)),(13,ZcU)],[.dat 16 Zb false],[ZaN,.i .i64,.l 300 Zdm],[Zaa,.nle (.w 8 Za Z7) Zx],(Za,.w 1 Z7 Zc,Zk,Za,Za,Za)⟩]
def qcS:Tab:=[(16,qsM)]
def qRZ:qH PP 53 qnK (Ev0 PP qnL qcS):=fe qnL qcS (qj qz9 (qo)) (by kernel_rfl) (by refine⟨?_,?_,trivial⟩<;>intro<;>kernel_rfl)
def qtT:Con:={qnK with post:=qnK.post++[],fact:=qhj}
def qR0:TQ:=.next [] 0 [Ze,Za,.w 32 Z7 (.u 2 0 Zia)]
def qjt:TQ:=.fork (.w 10 Zc Z7) (.next [(16,[Zag,Zkx])] 0 [Ze,Zbv,.w 21 Zb (.u 2 0 (.w 4 (.mk (.i .i64) ZgW) (.w 4 (.u 2 0 (.w 4 (.mk (.i .u8) (.u 1 0 Zay)) (.w 4 (.mk (.i .u8) (.u 1 1 Zay)) (.w 4 (.mk (.i .u8) (.u 1 2 Zay)) (.w 4 (.mk (.i .u8) (.u 1 3 Zay)) (.w 4 (.mk (.i .u8) (.u 1 4 Zay)) (.w 4 (.mk (.i .u8) (.u 1 5 Zay)) (.w 4 (.mk (.i .u8) (.u 1 6 Zay)) (.w 4 (.mk (.i .u8) (.u 1 7 Zay)) (.w 4 (.mk (.i .u8) (.u 1 8 Zay)) (.w 4 (.mk (.i .u8) (.u 1 9 Zay)) (.w 4 (.mk (.i .u8) (.u 1 10 Zay)) (.w 4 (.mk (.i .u8) (.u 1 11 Zay)) (.w 4 (.mk (.i .u8) (.u 1 12 Zay)) (.w 4 (.mk (.i .u8) (.u 1 13 Zay)) (.w 4 (.mk (.i .u8) (.u 1 14 Zay)) (.w 4 (.mk (.i .u8) (.u 1 15 Zay)) .z))))))))))))))))) .z)))]) (.done [] (.w 6 Z7 (.w 7 Za Zb)))
def qR1:qN PP qnL qcS=[qR0,qjt]:=by kernel_rfl
def qtU:TQ->List T
 | .fork _ (.next _ _ J) _=>J|_=>[]
def qR2 (U:Nat->D):((qtU qjt).getD 2 .z).den (wOf PP qcS) U=.list ((toL (U 2)).set (0+toN (U 1)) (dgD (wOf PP qcS 16 [.int .i64 (toI (U 1)),.int .i64 (toI ((toL (cel (U 0) 16)).getD (toN (U 1)) .nilp))]))):=by kernel_rfl
def qR3 {ds:List D} {d:D} (h:Ev0 PP qnL qcS ds d):qhj ds d:=by
 refine Yc qR1 (I:=fun k U=>qRY (qa ds 0) U) (Q:=fun d=>d=.list (qbL (toL (cel (qa ds 0) 16)))) ?_ ?_ h
 ·intro k st q U d hst hq hg hi ht;have i0:=hi.i0;rcases k with _|k
  ·have hq:qjt=q:=by simpa using hq
   subst hq;have hn:((toN (U 1):Nat):Int)=toI (U 1):=by unfold toN; omega
   rcases ht with⟨h1,⟨hc,_⟩,h2⟩|⟨h1,_,rfl⟩
   ·have h1:decide (toI (U 1)<(((toL (cel (U 0) 16)).length:Nat):Int))=true:=h1;have h1:=of_decide_eq_true h1;obtain⟨_,⟨ht,_⟩,hf⟩:=hc qsM rfl;have hf:wOf PP qcS 16 [.int .i64 (toI (U 1)),.int .i64 (toI ((toL (cel (U 0) 16)).getD (toN (U 1)) .nilp))]=J0 (.int .i64 (toI (U 1))) (.int .i64 (toI ((toL (cel (U 0) 16)).getD (toN (U 1)) .nilp))):=hf;have ht:qd (Y4 301 301) (wOf PP qcS 16 [.int .i64 (toI (U 1)),.int .i64 (toI ((toL (cel (U 0) 16)).getD (toN (U 1)) .nilp))]):=ht;have hw:=qR2 U;rw[YZ ht,hf,qT6]at hw;rw[hi.a0]at h1;refine h2 ⟨hi.a0,by show 0<=toI (U 1)+1; omega,?_,fun j hj hj2=>?_⟩
    ·show(toL (((qtU qjt).getD 2 .z).den (wOf PP qcS) U)).length=_;rw[hw,qcM,qUI,hi.l]
    ·have hj:j<(toI (U 1)+1).toNat:=hj;show(toL (((qtU qjt).getD 2 .z).den (wOf PP qcS) U)).getD j .nilp=_;rw[hw,qcM,hi.a0,zzG]
     by_cases e:toN (U 1)=j
     ·subst e;rw[qUV (by rw[hi.l]; omega),hn]; rfl
     ·rw[qUF e,<-zzG];exact hi.f j (by omega) hj2
   ·have h1:decide (toI (U 1)<(((toL (cel (U 0) 16)).length:Nat):Int))=false:=h1;have h1:=of_decide_eq_false h1;rw[hi.a0]at h1;show D.list (((toL (U 2)).drop 0).take (((toL (cel (U 0) 16)).length:Nat):Int).toNat)=_;rw[qTY,qTK,hi.a0,qTX (by rw[hi.l]; exact qTF _)]
    congr 1
    refine qU6 (by rw[qsN,hi.l]) fun j g1 g2=>?_
    have hj:j<(toL (cel (qa ds 0) 16)).length:=by rw[<-hi.l]; exact g1
    have h3:=hi.f j (by omega) hj;rw[zzG,qTE g1]at h3;have h4:=qLS hj;rw[qTE g2,<-h3]at h4;exact(Option.some.inj h4).symm
  ·simp at hq
 ·intro d ht;obtain⟨_,ht⟩:=ht;refine ht ⟨rfl,by show(0:Int)<=0; decide,?_,fun j hj=>?_⟩
  ·show(List.replicate (((toL (cel (qa ds 0) 16)).length:Nat):Int).toNat _).length=_;rw[qU0,qTK]
  ·exact absurd hj (qWn j)
def qR4:qm PP 53 qtT:=qRZ.more fun ds d hp _ h=>⟨fun f hf=>(by cases hf),qR3 h⟩
end Go.Aev.R29
namespace Go.Aev.R29
open Go Go.Aev Go.Aev.R Go.Aev.M44
variable [PW]
def qmE (s:D):D:=(qK 300 300).form s
def qK3 (l:List D) (r:D) (g:FuncId):Option (List V->V):=match Nat.beq g 53,Nat.beq g 52 with
 | true,_=>some fun _=>.d (.list l)
 | _,true=>some fun _=>.d (dgD r)
 | _,_=>none
def cLf (l:List D) (r:D):qt:=kA (qK3 l r)
def qzX (l:List D) (r:D):COK (cLf l r).cfg:=qR _
def qK4 {s r:D} {l:List D} (h1:RCs PP 53 [.d (qmE s)] [] (.d (.list l))) (h2:RCs PP 52 [.d (.list l)] [] (.d (dgD r))):RCs PP 18 [.d (qmE s)] [] (.d (dgD r)) :=
 qE (qzX l r) (by kernel_rfl) (qb.fin' (qzX l r) (ql [] [] [] 0 false true) (fun _=>false) 300 (ps:=[RCs PP 53 [.d (qmE s)] [] (.d (.list l)),RCs PP 52 [.d (.list l)] [] (.d (dgD r))]) (qs:=[]) (by kernel_rfl) ⟨h1,h2,trivial⟩ trivial)
def lvs (s:D):List D:=qbL (toL (cel s 16))
def qzY {s:D} (h:qd (qK 300 300) s):qmE s=s:=YM (by kernel_rfl) h
def qK5 {s:D} (hp:qG qtT [s]):RCs PP 53 [.d s] [] (.d (.list (lvs s)))/\qcj (lvs s):=by
 obtain⟨d,⟨⟨⟨es,rfl,_,ht⟩,_⟩,hf⟩,hr⟩:=qR4 [s] hp;have hf:D.list es=.list (lvs s):=hf;injection hf with hf
 subst hf;exact⟨hr,ht⟩
structure qg2 (s:D):Prop where
 t:qd (qK 300 300) s
 l1:1<=(toL (cel s 16)).length
 l2:(toL (cel s 16)).length<=60
 r:∀j:Nat,j<(toL (cel s 16)).length->qd (.rg (-9223372036854775808) 9223372036854775807) ((toL (cel s 16)).getD j .nilp)
def qg2.pre {s:D} (h:qg2 s):qG qtT [s]:=by
 refine⟨⟨rfl,fun i y hy=>?_⟩,fun f hf=>?_⟩
 ·match i,hy with
  | 0,hy=>cases hy; exact h.t
  | i+1,hy=>cases hy
 ·have hf:f∈[F.le (.u 0 0 (.u 1 16 (.v 0))) (.i 60),F.pre (.u 1 16 (.v 0)) (.u 0 0 (.u 1 16 (.v 0))) (.rg (-9223372036854775808) 9223372036854775807)]:=hf;simp only[qTD,qTJ,or_false]at hf;rcases hf with rfl|rfl
  ·show(((toL (cel s 16)).length:Nat):Int)<=60;have:=h.l2; omega
  ·exact h.r
def qsJ (s:D):(lvs s).length=(toL (cel s 16)).length:=qsN _
def qg2.root {s:D} (h:qg2 s):RCs PP 18 [.d s] [] (.d (Jp (lvs s).length (lvs s)))/\qd (Y4 301 301) (Jp (lvs s).length (lvs s)):=by
 obtain⟨r1,r2⟩:=qK5 h.pre;have l1:=h.l1;have l2:=h.l2;obtain⟨r3,r4⟩:=qMi (lvs s).length (lvs s) (qTF _) (by rw[qsJ]; omega) (by rw[qsJ]; omega) r2;have:=qK4 (s:=s) (r:=Jp (lvs s).length (lvs s)) (l:=lvs s) (by rw[qzY h.t]; exact r1) (by rw[YZ r4]; exact r3);rw[qzY h.t,YZ r4]at this;exact⟨this,r4⟩
end Go.Aev.R29
namespace Go.Aev.R29
open Go Go.Aev Go.Aev.R Go.Aev.M44
def sgF (s:D):D:=(qK 140737488355328 140737488355328).form s
def scF (s:D):D:=(Yu 140737488355328 140737488355328).form s
structure L3A where
 v:Bool
 k:Int
 f:Bool
 j:Int
 o:D
 m:D
 e:Int
 r:List D
 x:D
 l:List D
 y:D
def qLj (A:L3A) (g:FuncId):Option (List V->V):=match g with
 | 6=>some fun _=>B A.v
 | 7=>some fun _=>B true
 | 8=>some fun _=>.tup [I A.k,B A.f]
 | 9=>some fun _=>I A.j
 | 10=>some fun _=>.tup [.d (sgF A.o),I A.e]
 | 11=>some fun _=>.d (.agg ((sgF A.m).cells++[.int .i64 A.e]))
 | 12=>some fun _=>B true
 | 13=>some fun _=>B true
 | 14=>some fun _=>.d (.list A.r)
 | 15=>some fun _=>.d (.list A.r)
 | 16=>some fun _=>.d (dgD A.x)
 | 17=>some fun _=>.d (dgD A.x)
 | 18=>some fun _=>.d (dgD A.y)
 | 19=>some fun _=>.d (dgD A.y)
 | 20=>some fun _=>.d (.list A.l)
 | _=>none
def cL3 (A:L3A):qt:=kA (qLj A)
def qg3 (A:L3A):COK (cL3 A).cfg:=qR _
def A0:L3A:=⟨false,0,false,0,.nilp,.nilp,0,[],.nilp,[],.nilp⟩
def qLk {s g:D} {a b c:Int} (h6:RCs PP 6 [.d (scF s),.d (sgF g)] [] (.d (.bool false))) (h7:RCs PP 7 [] [] (.d (.bool true))):RCs PP 3 [.d (scF s),.d (sgF g),I a,I b,I c] [] (.d (.bool true)) :=
 qE (qg3 A0) (by kernel_rfl) (qb.fin' (qg3 A0) (ql [] [] [] 0 false true) (fun _=>false) 300 (ps:=[RCs PP 6 [.d (scF s),.d (sgF g)] [] (.d (.bool false)),RCs PP 7 [] [] (.d (.bool true))]) (qs:=[]) (by kernel_rfl) ⟨h6,h7,trivial⟩ trivial)
def eqY (x:D):Bool:=qbc ((List.range 16).map fun j=>.int .u8 (toI (cel x j))) ((List.range 16).map fun j=>.int .u8 (toI (cel x j)))
def qsK (x:D):eqY x=true:=by
 have:∀l:List D,(∀d∈l,∃n,d=.int .u8 n)->qbc l l=true:=by
  intro l
  induction l with
  | nil=>intro _; rfl
  | cons d r ih =>
   intro h;obtain⟨n,rfl⟩:=h d qTR;show((n==n)&&qbc r r)=true;rw[beq_self_eq_true,ih fun y hy=>h y (qTG _ hy)]; rfl
 refine this _ fun d hd=>?_
 obtain⟨j,_,e⟩:=qTV.1 hd;exact⟨_,e.symm⟩
def aY (k j:Int) (f:Bool) (o m:D) (e:Int) (r:List D) (x:D) (l:List D) (y:D):L3A:=⟨true,k,f,j,o,m,e,r,x,l,y⟩
abbrev TT:Prop:=true=true
abbrev FF:Prop:=false=false
abbrev tlP (g o m x y:D) (e a b c:Int) (r l:List D):List Prop:=[RCs PP 10 [.d (sgF g),I a,I b,I c] [] (.tup [.d (sgF o),I e]),RCs PP 11 [.d (sgF g),I a,I b,I c] [] (.d (.agg ((sgF m).cells++[.int .i64 e]))),(e==e)=true,(e==e)=true,(e==e)=true,(e==e)=true,
 RCs PP 12 [.d (sgF o),.d (sgF m)] [] (.d (.bool true)),(e==e)=true,TT,TT,RCs PP 14 [.d (sgF g)] [] (.d (.list r)),TT,TT,RCs PP 15 [.d (sgF g)] [] (.d (.list r)),TT,RCs PP 13 [.d (.list r),.d (.list r)] [] (.d (.bool true)),TT,
 RCs PP 7 [] [] (.d (.bool true)),TT,TT,TT,TT,TT,RCs PP 16 [I a,I c] [] (.d (dgD x)),TT,TT,TT,RCs PP 17 [I a,I c] [] (.d (dgD x)),TT,TT,TT,16=16,16=16,TT,eqY x=true,eqY x=true,
 RCs PP 18 [.d (sgF o)] [] (.d (dgD y)),eqY x=true,eqY x=true,eqY x=true,RCs PP 20 [.d (sgF m)] [] (.d (.list l)),eqY x=true,RCs PP 19 [.d (.list l)] [] (.d (dgD y)),eqY x=true,TT,TT,16=16,16=16,eqY x=true]
section
variable {s g o m x y:D} {k j e a b c:Int} {r l:List D}
def qLl (h6:RCs PP 6 [.d (scF s),.d (sgF g)] [] (.d (.bool true))) (h8:RCs PP 8 [.d (sgF g),I a,I b] [] (.tup [I k,B true])) (h9:RCs PP 9 [.d (sgF g),I a,I b] [] (I j)) (p1:(!(true==decide (j>=0)))=false) (p2:(k != j)=false) (ht:qh (tlP g o m x y e a b c r l)) :
  RCs PP 3 [.d (scF s),.d (sgF g),I a,I b,I c] [] (.d (.bool (eqY y))) :=
 qE (qg3 (aY k j true o m e r x l y)) (by kernel_rfl) (qb.fin' (qg3 (aY k j true o m e r x l y)) (ql [(40,false),(42,true),(48,false),(51,false),(55,false),(73,true),(79,true),(87,true),(90,true),(99,true)] [] [] 0 false true) (fun _=>false) 300
  (ps:=RCs PP 6 [.d (scF s),.d (sgF g)] [] (.d (.bool true))::RCs PP 8 [.d (sgF g),I a,I b] [] (.tup [I k,B true])::RCs PP 9 [.d (sgF g),I a,I b] [] (I j)::((!(true==decide (j>=0)))=false)::((!(true==decide (j>=0)))=false)::(TT)::(TT)::(TT)::((!(true==decide (j>=0)))=false)::(TT)::((!(true==decide (j>=0)))=false)::((k != j)=false)::((k != j)=false)::((k != j)=false)::(FF)::(FF)::((k != j)=false)::(FF)::((k != j)=false)::(FF)::tlP g o m x y e a b c r l) (qs:=[]) (by kernel_rfl)
  ⟨h6,h8,h9,p1,p1,rfl,rfl,rfl,p1,rfl,p1,p2,p2,p2,rfl,rfl,p2,rfl,p2,rfl,ht⟩ trivial)
def qLm (h6:RCs PP 6 [.d (scF s),.d (sgF g)] [] (.d (.bool true))) (h8:RCs PP 8 [.d (sgF g),I a,I b] [] (.tup [I 0,B false])) (h9:RCs PP 9 [.d (sgF g),I a,I b] [] (I j)) (p1:(!(false==decide (j>=0)))=false) (ht:qh (tlP g o m x y e a b c r l)) :
  RCs PP 3 [.d (scF s),.d (sgF g),I a,I b,I c] [] (.d (.bool (eqY y))) :=
 qE (qg3 (aY 0 j false o m e r x l y)) (by kernel_rfl) (qb.fin' (qg3 (aY 0 j false o m e r x l y)) (ql [(40,false),(42,false),(48,false),(51,true),(55,false),(73,true),(79,true),(87,true),(90,true),(99,true)] [] [] 0 false true) (fun _=>false) 300
  (ps:=RCs PP 6 [.d (scF s),.d (sgF g)] [] (.d (.bool true))::RCs PP 8 [.d (sgF g),I a,I b] [] (.tup [I 0,B false])::RCs PP 9 [.d (sgF g),I a,I b] [] (I j)::((!(false==decide (j>=0)))=false)::((!(false==decide (j>=0)))=false)::(FF)::(FF)::(FF)::((!(false==decide (j>=0)))=false)::(FF)::((!(false==decide (j>=0)))=false)::(FF)::(FF)::(FF)::(TT)::(TT)::(FF)::(TT)::(FF)::(FF)::tlP g o m x y e a b c r l) (qs:=[]) (by kernel_rfl)
  ⟨h6,h8,h9,p1,p1,rfl,rfl,rfl,p1,rfl,p1,rfl,rfl,rfl,rfl,rfl,rfl,rfl,rfl,rfl,ht⟩ trivial)
end
section
def qfB (l:List UInt8):List D:=.int .u8 35::qe l
def qz8 (l:List UInt8):List D:=qb2 (upd (bl2 35 l) (1+l.length) (64 - (1+l.length)) fun i=>(qcJ (1+l.length)).getD i 0)
def JF (m:Nat):Prop:=∀x:Nat->UInt8,qz8 ((List.range m).map x)=JI (qfB ((List.range m).map x))
def qLt:JF 4:=fun x=>by kernel_rfl
def qLu:JF 5:=fun x=>by kernel_rfl
def qLv:JF 6:=fun x=>by kernel_rfl
def qLw:JF 7:=fun x=>by kernel_rfl
def qLx:JF 8:=fun x=>by kernel_rfl
def qLy:JF 9:=fun x=>by kernel_rfl
def qLz:JF 10:=fun x=>by kernel_rfl
def qLA:JF 11:=fun x=>by kernel_rfl
def qLB:JF 12:=fun x=>by kernel_rfl
def qLC:JF 13:=fun x=>by kernel_rfl
def qLD:JF 14:=fun x=>by kernel_rfl
def qLE:JF 15:=fun x=>by kernel_rfl
def qLF:JF 16:=fun x=>by kernel_rfl
def qLG:JF 17:=fun x=>by kernel_rfl
def qLH:JF 18:=fun x=>by kernel_rfl
def qLI:JF 19:=fun x=>by kernel_rfl
def qLJ:JF 20:=fun x=>by kernel_rfl
def qLK:JF 21:=fun x=>by kernel_rfl
def qLL:JF 22:=fun x=>by kernel_rfl
def qLM {m:Nat} (h0:4<=m) (h1:m<=22):JF m:=by
 have h:m=4\/m=5\/m=6\/m=7\/m=8\/m=9\/m=10\/m=11\/m=12\/m=13\/m=14\/m=15\/m=16\/m=17\/m=18\/m=19\/m=20\/m=21\/m=22:=by omega
 rcases h with rfl|rfl|rfl|rfl|rfl|rfl|rfl|rfl|rfl|rfl|rfl|rfl|rfl|rfl|rfl|rfl|rfl|rfl|rfl
 ·exact qLt
 ·exact qLu
 ·exact qLv
 ·exact qLw
 ·exact qLx
 ·exact qLy
 ·exact qLz
 ·exact qLA
 ·exact qLB
 ·exact qLC
 ·exact qLD
 ·exact qLE
 ·exact qLF
 ·exact qLG
 ·exact qLH
 ·exact qLI
 ·exact qLJ
 ·exact qLK
 ·exact qLL
def qLN {l:List UInt8} (h0:4<=l.length) (h1:l.length<=22):qz8 l=JI (qfB l):=by
 have e:(List.range l.length).map (fun i=>l.getD i 0)=l:=by
  refine qU6 (by simp) fun j g1 g2=>?_
  rw[qVI,qVJ,zzG,qTE g2]; rfl
 have:=qLM h0 h1 (fun i=>l.getD i 0);rw[e]at this;exact this
variable [PW]
def qLO {k n:Int} (hk:qy k) (hn:qy n):qeq k n=.agg (cpN (qaL (qfB (qC (YL [k,n])))) 16):=by
 obtain⟨l0,l1⟩:=qsL hk hn;unfold qeq qaL;rw[<-qLN l0 l1,<-qAg];rfl
def qLP {k n:Int} (hk:qy k) (hn:qy n):qbs (qfB (qC (YL [k,n]))):=by
 obtain⟨l0,l1⟩:=qsL hk hn;unfold qbs qfB;rw[qT9,qZ];omega
end
end Go.Aev.R29
namespace Go.Aev.R29
open Go Go.Aev Go.Aev.R
variable [PW]
def qjs:Con:={pts:=[ZcD,ZcD],pre:=[],rts:=[Zdm],post:=[]}
def qnE:RFn:=mF 17 qjs []
def qbp:Tab:=[(51,qcQ),(50,qjA)]
def qRE:qH PP 17 qjs (Ev0 PP qnE qbp):=fe qnE qbp (qj qsB (qj qBE (qo))) (by kernel_rfl) ⟨fun U=>by kernel_rfl,trivial⟩
def qnF:Con:={qjs with post:=qjs.post++[],fact:=qi6}
def qtR:TQ:=.done [(51,[Zkq]),(50,[.mk (.i .i64) (.i 291),Zkr])] (.u 2 0 (.w 4 (.mk (.i .u8) (.u 1 0 Zav)) (.w 4 (.mk (.i .u8) (.u 1 1 Zav)) (.w 4 (.mk (.i .u8) (.u 1 2 Zav)) (.w 4 (.mk (.i .u8) (.u 1 3 Zav)) (.w 4 (.mk (.i .u8) (.u 1 4 Zav)) (.w 4 (.mk (.i .u8) (.u 1 5 Zav)) (.w 4 (.mk (.i .u8) (.u 1 6 Zav)) (.w 4 (.mk (.i .u8) (.u 1 7 Zav)) (.w 4 (.mk (.i .u8) (.u 1 8 Zav)) (.w 4 (.mk (.i .u8) (.u 1 9 Zav)) (.w 4 (.mk (.i .u8) (.u 1 10 Zav)) (.w 4 (.mk (.i .u8) (.u 1 11 Zav)) (.w 4 (.mk (.i .u8) (.u 1 12 Zav)) (.w 4 (.mk (.i .u8) (.u 1 13 Zav)) (.w 4 (.mk (.i .u8) (.u 1 14 Zav)) (.w 4 (.mk (.i .u8) (.u 1 15 Zav)) .z)))))))))))))))))
def qRF:qN PP qnE qbp=[qtR]:=by kernel_rfl
def qdz (U:Nat->D):D:=.str ⟨⟨(((toL (wOf PP qbp 51 [.list [.int .i64 (toI (U 0)),.int .i64 (toI (U 1))]])).drop 0).take (toL (wOf PP qbp 51 [.list [.int .i64 (toI (U 0)),.int .i64 (toI (U 1))]])).length).map unB⟩⟩
def qRG (U:Nat->D):(qhn qtR).den (wOf PP qbp) U=.agg ((List.range 16).map fun i=>(K.i .u8).den (cel (wOf PP qbp 50 [.int .i64 291,.list [qdz U]]) i)):=by kernel_rfl
def qRH {ds:List D} {d:D} (hp:qG qjs ds) (h:Ev0 PP qnE qbp ds d):qi6 ds d:=by
 obtain⟨k,ek,k0,k1⟩:qd (.rg (-9223372036854775808) 9223372036854775807) (qa ds 0):=hp.1.2 0 _ rfl;obtain⟨n,en,n0,n1⟩:qd (.rg (-9223372036854775808) 9223372036854775807) (qa ds 1):=hp.1.2 1 _ rfl;have hk:M44.qy k:=by unfold M44.qy; omega
 have hn:M44.qy n:=by unfold M44.qy; omega
 refine Yc qRF (I:=fun k U=>False) (Q:=qi6 ds) (fun k st q U d hst hq hg hi ht=>hi.elim) ?_ h;intro d ht;obtain⟨⟨c1,c2,_⟩,rfl⟩:=ht;have f1:qsx [.list [.int .i64 (toI (qa ds 0)),.int .i64 (toI (qa ds 1))]] (wOf PP qbp 51 [.list [.int .i64 (toI (qa ds 0)),.int .i64 (toI (qa ds 1))]]):=(c1 qcQ rfl).2.2;have f1:toL (wOf PP qbp 51 [.list [.int .i64 (toI (qa ds 0)),.int .i64 (toI (qa ds 1))]])=qe (M44.qaj [toI (qa ds 0),toI (qa ds 1)]):=f1;have et:qdz (qa ds)=.str ⟨⟨M44.YL [k,n]⟩⟩:=by
  unfold qdz;rw[f1,qTY,qTX (qTF _),M44.qb5,ek,en];show D.str ⟨⟨M44.qaj [k,n]⟩⟩=_;have:M44.qaj [k,n]=M44.YL [k,n]:=by
   unfold M44.qaj M44.YL;simp only[qUq,qV6,M44.qqY hk,M44.qqY hn];rw[M44.qqY (show M44.qy (([k,n]:List Int).length:Nat) from by show M44.qy ((2:Nat):Int); unfold M44.qy; decide)]
  rw[this]
 have f2:OfQ [.int .i64 291,.list [qdz (qa ds)]] (wOf PP qbp 50 [.int .i64 291,.list [qdz (qa ds)]]):=(c2 qjA rfl).2.2;have f2:qbs (inP 291 [qdz (qa ds)] 1)->wOf PP qbp 50 [.int .i64 291,.list [qdz (qa ds)]]=.agg (cpN (qaL (inP 291 [qdz (qa ds)] 1)) 16):=f2;have ei:inP 291 [qdz (qa ds)] 1=qfB (M44.qC (M44.YL [k,n])):=by
  rw[et];unfold inP qfB qnu;simp;exact⟨by decide,rfl⟩
 rw[ei]at f2;have f2:=f2 (qLP hk hn);show(qhn qtR).den (wOf PP qbp) (qa ds)=_;rw[qRG,f2,qt3 (qjG _ 16) (qjH _ 16)];show _=qeq (toI (qa ds 0)) (toI (qa ds 1));rw[ek,en];exact(qLO hk hn).symm
def qBs:qm PP 17 qnF:=qRE.more fun ds d hp _ h=>⟨fun f hf=>(by cases hf),qRH hp h⟩
def qnI:Con:={pts:=[ZaN],pre:=[.le Z7 ZbM,.pre Zbd Z7 ZcD],rts:=[.l 60 Zdm],post:=[]}
def qnJ:RFn:=mF 20 qnI [⟨3,[Zal,(3,ZcL),(4,ZbQ)],[ZhM],[ZaN],[],(Za,.w 1 Z7 Za,Zk,Za,Za,Za)⟩,⟨3,[Zal,(3,.o (.sl 1 16 Za Zc Zb false)),ZbR],[ZhM,.dat 16 Zf false],[ZaN,.i .i64,.i .i64,.i .i64,.l 300 Zdm],[.le Zd Z7,ZcN,Zci,ZcO],(Za,.w 1 Z7 Zd,Zk,Za,Za,Za)⟩]
def qhi:Tab:=[(17,qnF)]
def qRQ:qH PP 20 qnI (Ev0 PP qnJ qhi):=fe qnJ qhi (qj qBs (qo)) (by kernel_rfl) (by refine⟨?_,?_,?_,trivial⟩<;>intro<;>kernel_rfl)
def qRR:Con:={qnI with post:=qnI.post++[.nle Z7 Zi],fact:=qhj}
def qRS:TQ:=.next [] 0 [Ze]
def qBt:TQ:=.fork (.w 10 Za Z7) (.next [(17,[ZE,Zkt])] 1 [Ze,.u 0 0 Zku,.u 0 0 Zku,ZcZ,Zku]) (.done [] .z)
def qBu:TQ:=.fork (.w 10 Zd Z7) (.next [(17,[Zeg,Zkv])] 1 [Ze,.w 8 Zc (.u 0 0 Zkw),.w 8 Zc (.u 0 0 Zkw),ZaI,.w 5 Zc2 Zkw]) (.done [] Zc2)
def qRT:qN PP qnJ qhi=[qRS,qBt,qBu]:=by kernel_rfl
abbrev W20:Nat->List D->D:=wOf PP qhi
def qeD (l:List D) (n:Nat):List D:=(List.range n).map fun j=>J0 (.int .i64 (j:Nat)) (.int .i64 (toI (l.getD j .nilp)))
def qRU (l:List D) (n:Nat):qeD l (n+1)=qeD l n++[J0 (.int .i64 (n:Nat)) (.int .i64 (toI (l.getD n .nilp)))]:=by
 unfold qeD;rw[List.range_succ,qUC]; rfl
structure LfI (s:D) (k:Int):Prop where
 i0:0<=k
 i1:k<=(((toL (cel s 16)).length:Nat):Int)
def qBv {U:Nat->D} {k:Int} {l:List D} {K N:T} (h0:0<=k) (hK:K.den W20 U=.int .i64 k) (hN:N.den W20 U=.int .i64 (toI (l.getD k.toNat .nilp))) (hc:YA PP qhi U 17 [K,N]) :
  dgD (W20 17 [K.den W20 U,N.den W20 U])=J0 (.int .i64 ((k.toNat:Nat):Int)) (.int .i64 (toI (l.getD k.toNat .nilp))):=by
 have hf:qi6 [K.den W20 U,N.den W20 U] (W20 17 [K.den W20 U,N.den W20 U]):=(hc qnF rfl).2.2;have ht:qd (Y4 301 301) (W20 17 [K.den W20 U,N.den W20 U]):=(hc qnF rfl).2.1.1;have hf:W20 17 [K.den W20 U,N.den W20 U]=J0 (K.den W20 U) (N.den W20 U):=hf;rw[YZ ht,hf,hK,hN,show((k.toNat:Nat):Int)=k by omega]
def qcm.one {n:Nat} {row acc:List D} {w:D} (h:n<=row.length/\row.take n=acc):n+[w].length<=((row.drop 0).take n++[w]).length/\((row.drop 0).take n++[w]).take (n+[w].length)=acc++[w]:=by
 obtain⟨h1,h2⟩:=h;have hl:acc.length=n:=by rw[<-h2,qTU]; omega
 rw[qTY,h2];have e:[w].length=1:=rfl;exact⟨by rw[qTN]; omega,by rw[qTX (by rw[qTN]; omega)]⟩
def qRV {ds:List D} {d:D} (h:Ev0 PP qnJ qhi ds d):qhj ds d:=by
 refine Yc qRT (I:=fun k U=>match k with
  | 0=>True|_=>LfI (qa ds 0) (toI (U 3))/\(toN (U 1)<=(toL (U 4)).length/\(toL (U 4)).take (toN (U 1))=qeD (toL (cel (qa ds 0) 16)) (toI (U 3)).toNat)) (Q:=qhj ds) ?_ ?_ h
 ·intro k st q U d hst hq hg hi ht;have h0:=hg.arg 0 (by decide);rcases k with _|_|k
  ·have hq:qBt=q:=by simpa using hq
   subst hq;rcases ht with⟨c,⟨hc,_⟩,hn⟩|⟨c,_,rfl⟩
   ·have c:decide ((0:Int)<(((toL (cel (U 0) 16)).length:Nat):Int))=true:=c;have c:=of_decide_eq_true c;rw[h0]at c;have hw:=qBv (k:=0) (l:=toL (cel (qa ds 0) 16)) (by decide) (K:=.mk (.i .i64) (.i 0)) (N:=.mk (.i .i64) (.w 3 (.u 1 16 (.v 0)) (.i 0))) rfl (by rw[<-h0]; rfl) hc;refine hn ⟨⟨by show(0:Int)<=0+1; decide,by show(0:Int)+1<=_; omega⟩,?_⟩;show 0+1<=1/\List.take (0+1) [dgD (W20 17 _)]=qeD _ ((0:Int)+1).toNat;refine⟨by omega,?_⟩;exact congrArg (fun x=>[x]) hw
   ·have c:decide ((0:Int)<(((toL (cel (U 0) 16)).length:Nat):Int))=false:=c;have c:=of_decide_eq_false c;rw[h0]at c;show D.list []=.list (qbL _);unfold qbL;rw[show(toL (cel (qa ds 0) 16)).length=0 by omega]; rfl
  ·have hq:qBu=q:=by simpa using hq
   subst hq;obtain⟨hi,hl⟩:=hi;have i0:=hi.i0;have i1:=hi.i1;rcases ht with⟨c,⟨hc,_⟩,hn⟩|⟨c,_,rfl⟩
   ·have c:decide (toI (U 3)<(((toL (cel (U 0) 16)).length:Nat):Int))=true:=c;have c:=of_decide_eq_true c;rw[h0]at c;have hw:=qBv (k:=toI (U 3)) (l:=toL (cel (qa ds 0) 16)) i0 (K:=.mk (.i .i64) (.v 3)) (N:=.mk (.i .i64) (.w 3 (.u 1 16 (.v 0)) (.v 3))) rfl (by rw[<-h0]; rfl) hc;refine hn ⟨⟨by show(0:Int)<=toI (U 3)+1; omega,by show toI (U 3)+1<=_; omega⟩,?_⟩;have h1:=qcm.one (w:=dgD (W20 17 [.int .i64 (toI (U 3)),.int .i64 (toI ((toL (cel (U 0) 16)).getD (toI (U 3)).toNat .nilp))])) hl;have e:qeD (toL (cel (qa ds 0) 16)) (toI (U 3)+1).toNat=qeD (toL (cel (qa ds 0) 16)) (toI (U 3)).toNat++[dgD (W20 17 [.int .i64 (toI (U 3)),.int .i64 (toI ((toL (cel (U 0) 16)).getD (toI (U 3)).toNat .nilp))])]:=by
     rw[show(toI (U 3)+1).toNat=(toI (U 3)).toNat+1 by omega,qRU];exact congrArg (fun x=>_++[x]) hw.symm
    exact⟨h1.1,h1.2.trans e.symm⟩
   ·have c:decide (toI (U 3)<(((toL (cel (U 0) 16)).length:Nat):Int))=false:=c;have c:=of_decide_eq_false c;rw[h0]at c;show D.list (((toL (U 4)).drop 0).take (toN (U 1)))=.list (qeD _ (toL (cel (qa ds 0) 16)).length);rw[qTY,hl.2,show(toI (U 3)).toNat=(toL (cel (qa ds 0) 16)).length by omega]
  ·simp at hq
 ·intro d ht;obtain⟨_,hn⟩:=ht;exact hn trivial
def qRW {ds:List D} (h:ds.length=1):∃a,ds=[a]:=by
 match ds,h with
 | [a],_=>exact⟨a,rfl⟩
def qRX:qm PP 20 qRR:=qRQ.more fun ds d hp _ h=>by
 have hq:qhj ds d:=qRV h;refine⟨fun f hf'=>?_,hq⟩;have hf:d=.list (qbL (toL (cel (qa ds 0) 16))):=hq;have hl:ds.length=1:=hp.1.1.trans (by rfl);clear h hp;obtain⟨a,rfl⟩:=qRW hl;have hf:d=.list (qbL (toL (cel a 16))):=hf;simp only[qTD,qTJ,or_false]at hf';subst hf';have e:(qbL (toL (cel a 16))).length=(toL (cel a 16)).length:=qsN _;have g:(toL (cel a 16)).length<=(toL d).length:=by
  rw[hf]; exact qVO e.symm
 exact g
end Go.Aev.R29
namespace Go.Aev.R29
open Go Go.Aev Go.Aev.R Go.Aev.M44
abbrev yRG:Y:=.rg (-9223372036854775808) 9223372036854775807
def qmF {c:Con} {a:D} {y:Y} (hp:c.pts=[y]) (h1:qd y a) (hf:∀f∈c.pre,f.den PW.wV rc0 (qa [a])):qG c [a] :=
 ⟨⟨by rw[hp]; rfl,fun i z hz=>by
  rw[hp]at hz
  match i,hz with
  | 0,hz=>cases hz; exact h1
  | i+1,hz=>cases hz⟩,hf⟩
def qi5 {c:Con} {a b:D} {y z:Y} (hp:c.pts=[y,z]) (h1:qd y a) (h2:qd z b) (hf:∀f∈c.pre,f.den PW.wV rc0 (qa [a,b])):qG c [a,b] :=
 ⟨⟨by rw[hp]; rfl,fun i z hz=>by
  rw[hp]at hz
  match i,hz with
  | 0,hz=>cases hz; exact h1
  | 1,hz=>cases hz; exact h2
  | i+2,hz=>cases hz⟩,hf⟩
def qz1 {c:Con} {a b d:D} {y z w:Y} (hp:c.pts=[y,z,w]) (h1:qd y a) (h2:qd z b) (h3:qd w d) (hf:∀f∈c.pre,f.den PW.wV rc0 (qa [a,b,d])):qG c [a,b,d] :=
 ⟨⟨by rw[hp]; rfl,fun i z hz=>by
  rw[hp]at hz
  match i,hz with
  | 0,hz=>cases hz; exact h1
  | 1,hz=>cases hz; exact h2
  | 2,hz=>cases hz; exact h3
  | i+3,hz=>cases hz⟩,hf⟩
def qz2 {c:Con} {a b d e:D} {y z w v:Y} (hp:c.pts=[y,z,w,v]) (h1:qd y a) (h2:qd z b) (h3:qd w d) (h4:qd v e) (hf:∀f∈c.pre,f.den PW.wV rc0 (qa [a,b,d,e])):qG c [a,b,d,e] :=
 ⟨⟨by rw[hp]; rfl,fun i z hz=>by
  rw[hp]at hz
  match i,hz with
  | 0,hz=>cases hz; exact h1
  | 1,hz=>cases hz; exact h2
  | 2,hz=>cases hz; exact h3
  | 3,hz=>cases hz; exact h4
  | i+4,hz=>cases hz⟩,hf⟩
section
variable {g:D} {a b c:Int}
def qK8 (ht:qd (qK 300 300) g) (hn:∀f∈qg9.pre,f.den PW.wV rc0 (qa [g,.int .i64 a,.int .i64 b])):RCs PP 8 [.d g,I a,I b] [] (.tup [I (Ya (qx g) a b).1,B (Ya (qx g) a b).2]):=by
 obtain⟨d,⟨_,hf⟩,hr⟩:=qAC [g,.int .i64 a,.int .i64 b] (qz1 rfl ht ⟨_,rfl⟩ ⟨_,rfl⟩ hn);have hf:d=.agg [.int .i64 (Ya (qx g) a b).1,.bool (Ya (qx g) a b).2]:=hf;rw[hf]at hr; exact hr
def qK9 (ht:qd (qK 300 300) g) (hn:∀f∈qfW.pre,f.den PW.wV rc0 (qa [g,.int .i64 a,.int .i64 b])):RCs PP 9 [.d g,I a,I b] [] (I (Yd (qx g) a b)):=by
 obtain⟨d,⟨_,hf⟩,hr⟩:=qB1 [g,.int .i64 a,.int .i64 b] (qz1 rfl ht ⟨_,rfl⟩ ⟨_,rfl⟩ hn);have hf:d=.int .i64 (Yd (qx g) a b):=hf;rw[hf]at hr; exact hr
def k3 (g:D) (a b c:Int):List D×Int:=qaF (qx g) (toL (cel g 16)) a b c
def qLa (ht:qd (qK 300 300) g) (hq:qjN g) (hc:qd yRG (.int .i64 c)) (hn:∀f∈qdy.pre,f.den PW.wV rc0 (qa [g,.int .i64 a,.int .i64 b,.int .i64 c])) :
  RCs PP 10 [.d g,I a,I b,I c] [] (.tup [.d (sgF (Je g (k3 g a b c).1)),I (k3 g a b c).2])/\qd (qK 300 300) (Je g (k3 g a b c).1):=by
 obtain⟨d,⟨⟨ht',_⟩,hf⟩,hr⟩:=qRA [g,.int .i64 a,.int .i64 b,.int .i64 c] (qz2 rfl ht ⟨_,rfl⟩ ⟨_,rfl⟩ hc hn);have hf:d=.agg [Je g (qaH (qx g) (toL (cel g 16)) a b c).1,.int .i64 (qaH (qx g) (toL (cel g 16)) a b c).2]:=hf;rw[qK7 hq.g]at hf;have hf:d=.agg [Je g (k3 g a b c).1,.int .i64 (k3 g a b c).2]:=hf;rw[hf]at hr ht';obtain⟨cs,e,x,xs,e2,hx,_⟩:=ht';cases e; cases e2;have ea:qan qtP.rts (.agg [Je g (k3 g a b c).1,.int .i64 (k3 g a b c).2])=.tup [.d (sgF (Je g (k3 g a b c).1)),I (k3 g a b c).2]:=by kernel_rfl
 have hr:RCs PP 10 [.d g,I a,I b,I c] [] (qan qtP.rts (.agg [Je g (k3 g a b c).1,.int .i64 (k3 g a b c).2])):=hr;rw[ea]at hr;exact⟨hr,hx⟩
def qLb (ht:qd (qK 300 300) g) (hc:qd yRG (.int .i64 c)) (hn:∀f∈qdx.pre,f.den PW.wV rc0 (qa [g,.int .i64 a,.int .i64 b,.int .i64 c])) :
  RCs PP 11 [.d g,I a,I b,I c] [] (.d (.agg ((sgF (Je g (k3 g a b c).1)).cells++[.int .i64 (k3 g a b c).2]))):=by
 obtain⟨d,⟨_,hf⟩,hr⟩:=qRt [g,.int .i64 a,.int .i64 b,.int .i64 c] (qz2 rfl ht ⟨_,rfl⟩ ⟨_,rfl⟩ hc hn);have hf:d=mkM g (k3 g a b c).1 (k3 g a b c).2:=hf;rw[hf]at hr;have ea:qan qtO.rts (mkM g (k3 g a b c).1 (k3 g a b c).2)=.d (.agg ((sgF (Je g (k3 g a b c).1)).cells++[.int .i64 (k3 g a b c).2])):=by kernel_rfl
 have hr:RCs PP 11 [.d g,I a,I b,I c] [] (qan qtO.rts (mkM g (k3 g a b c).1 (k3 g a b c).2)):=hr;rw[ea]at hr;exact hr
def qLc (l:List D):sgF (Je g l)=Je g l:=by kernel_rfl
def qLd {o:D} (ho:qd (qK 300 300) o):RCs PP 12 [.d o,.d o] [] (.d (.bool true)):=by
 obtain⟨d,⟨⟨⟨v,rfl⟩,_⟩,hf⟩,hr⟩:=qWV [o,o] (qi5 rfl ho ho fun f hf=>by cases hf);have hf:(o=o->v=true):=hf;rw[hf rfl]at hr; exact hr
def qLe (ht:qd (qK 300 300) g) (h1:∀f∈qmQ.pre,f.den PW.wV rc0 (qa [g])) (h2:∀f∈qeG.pre,f.den PW.wV rc0 (qa [g])) :
  RCs PP 14 [.d g] [] (.d (.list (qap g)))/\RCs PP 15 [.d g] [] (.d (.list (qap g)))/\RCs PP 13 [.d (.list (qap g)),.d (.list (qap g))] [] (.d (.bool true)):=by
 obtain⟨d,⟨⟨ht1,_⟩,hf⟩,hr⟩:=qMw [g] (qmF rfl ht h1);have hf:d=.list (qap g):=hf;rw[hf]at hr ht1;obtain⟨d',⟨_,hf'⟩,hr'⟩:=qTw [g] (qmF rfl ht h2);have hf':d'=.list (qap g):=hf';rw[hf']at hr';obtain⟨d2,⟨⟨⟨v,rfl⟩,_⟩,hf2⟩,hr2⟩:=qX1 [.list (qap g),.list (qap g)] (qi5 rfl ht1 ht1 fun f hf=>by cases hf);have hf2:(D.list (qap g)=D.list (qap g)->v=true):=hf2;rw[hf2 rfl]at hr2;exact⟨hr,hr',hr2⟩
def qLf (ha:qd yRG (.int .i64 a)) (hc:qd yRG (.int .i64 c)):RCs PP 16 [I a,I c] [] (.d (dgD (J0 (.int .i64 a) (.int .i64 c))))/\RCs PP 17 [I a,I c] [] (.d (dgD (J0 (.int .i64 a) (.int .i64 c)))):=by
 obtain⟨d,⟨_,hf⟩,hr⟩:=qz9 [.int .i64 a,.int .i64 c] (qi5 rfl ha hc fun f hf=>by cases hf);have hf:d=J0 (.int .i64 a) (.int .i64 c):=hf;obtain⟨d',⟨_,hf'⟩,hr'⟩:=qBs [.int .i64 a,.int .i64 c] (qi5 rfl ha hc fun f hf=>by cases hf);have hf':d'=J0 (.int .i64 a) (.int .i64 c):=hf';rw[hf]at hr; rw[hf']at hr';exact⟨hr,hr'⟩
def qLg {o:D} (ho:qg2 o):RCs PP 18 [.d o] [] (.d (dgD (Jp (lvs o).length (lvs o))))/\RCs PP 20 [.d o] [] (.d (.list (lvs o)))/\RCs PP 19 [.d (.list (lvs o))] [] (.d (dgD (Jp (lvs o).length (lvs o)))):=by
 obtain⟨r1,r2⟩:=ho.root;obtain⟨d,⟨⟨ht,_⟩,hf⟩,hr⟩:=qRX [o] (qmF rfl ho.t ho.pre.2);have hf:d=.list (lvs o):=hf;rw[hf]at hr ht;have l1:=ho.l1;have hl:=qsJ o;obtain⟨d',⟨_,hf'⟩,hr'⟩:=qMp [.list (lvs o)] (qmF rfl ht fun f hf=>by
  rw[qUJ.1 (show f∈[_] from hf)];show 1<=(lvs o).length;omega)
 have hf':d'=Jp (lvs o).length (lvs o):=hf';rw[hf']at hr';exact⟨by rw[YZ r2]; exact r1,hr,hr'⟩
def qLh (hd:∀j:Nat,j<(toL (cel g 16)).length->qd yRG ((toL (cel g 16)).getD j .nilp)) (l1:1<=(toL (cel g 16)).length) (l2:(toL (cel g 16)).length<=60) (hc:qd yRG (.int .i64 c)) (ht:qd (qK 300 300) (Je g (k3 g a b c).1)):qg2 (Je g (k3 g a b c).1):=by
 obtain⟨e1,e2⟩:=qsI (qzW (qx g) (toL (cel g 16)) a b c) hd hc;have e1:(k3 g a b c).1.length=(toL (cel g 16)).length:=e1;have ec:toL (cel (Je g (k3 g a b c).1) 16)=(k3 g a b c).1:=rfl;exact⟨ht,by rw[ec,e1]; exact l1,by rw[ec,e1]; exact l2,by rw[ec]; exact e2⟩
end
def qLi {s g x2 x3 x4:D} (hs:qd (Yu 140737488355328 140737488355328) s) (hg:qd (qK 140737488355328 140737488355328) g) (hd:∀j:Nat,j<(toL (cel g 16)).length->qd yRG ((toL (cel g 16)).getD j .nilp))
  (h2:qd yRG x2) (h3:qd yRG x3) (h4:qd yRG x4):RCs PP 3 [.d s,.d g,.d x2,.d x3,.d x4] [] (.d (.bool true)):=by
 have es:scF s=s:=YM (by kernel_rfl) hs;have eg:sgF g=g:=YM (by kernel_rfl) hg;obtain⟨a,rfl,ha⟩:=h2;obtain⟨b,rfl,hb⟩:=h3;obtain⟨c,rfl,hc⟩:=h4;have ha:qd yRG (.int .i64 a):=⟨a,rfl,ha⟩
 have hc:qd yRG (.int .i64 c):=⟨c,rfl,hc⟩
 obtain⟨d6,⟨⟨⟨v,rfl⟩,q6⟩,f6⟩,r6⟩:=qYM [s,g] (qi5 rfl hs hg fun f hf=>by cases hf);have r6:RCs PP 6 [.d s,.d g] [] (.d (.bool v)):=r6
 cases v with
 | false =>
  have:=qLk (s:=s) (g:=g) (a:=a) (b:=b) (c:=c) (by rw[es,eg]; exact r6) S29.qzx;rw[es,eg]at this; exact this
 | true =>
  have hq:qjN g:=f6 rfl;have p0:=q6 _ (qTL (l:=qhy.post) (n:=0) (by decide));have p1:=q6 _ (qTL (l:=qhy.post) (n:=1) (by decide));have p2:=q6 _ (qTL (l:=qhy.post) (n:=2) (by decide));have p5:=q6 _ (qTL (l:=qhy.post) (n:=5) (by decide));have p6:=q6 _ (qTL (l:=qhy.post) (n:=6) (by decide));have ht:qd (qK 300 300) g:=p0 rfl;have l1:1<=(toL (cel g 16)).length:=p1 rfl;have l2:(((toL (cel g 16)).length:Nat):Int)<=60:=p2 rfl;have n5:=p5 rfl;have n6:=p6 rfl;have l2:(toL (cel g 16)).length<=60:=by omega
  have nz:∀x y:D,∀f∈qg9.pre,f.den PW.wV rc0 (qa [g,x,y]):=fun x y f hf=>by
   rw[qUJ.1 (show f∈[_] from hf)];exact n6
  have nz2:∀x y:D,∀f∈qfW.pre,f.den PW.wV rc0 (qa [g,x,y]):=fun x y f hf=>by
   rw[qUJ.1 (show f∈[_] from hf)];exact n6
  have nk:∀x y z:D,∀f∈qdy.pre,f.den PW.wV rc0 (qa [g,x,y,z]):=fun x y z f hf=>by
   simp only[qdy,qTD,qTJ,or_false]at hf;rcases hf with rfl|rfl|rfl
   ·exact n6
   ·exact n5
   ·exact hd
  have nk2:∀x y z:D,∀f∈qdx.pre,f.den PW.wV rc0 (qa [g,x,y,z]):=fun x y z f hf=>by
   simp only[qdx,qTD,qTJ,or_false]at hf;rcases hf with rfl|rfl|rfl
   ·exact n6
   ·exact n5
   ·exact hd
  have nr:∀f∈qmQ.pre,f.den PW.wV rc0 (qa [g]):=fun f hf=>by
   simp only[qmQ,qTD,qTJ,or_false]at hf;rcases hf with rfl|rfl
   ·exact n6
   ·exact n5
  have nr2:∀f∈qeG.pre,f.den PW.wV rc0 (qa [g]):=fun f hf=>by
   simp only[qeG,qTD,qTJ,or_false]at hf;rcases hf with rfl|rfl
   ·exact n6
   ·exact n5
  have r8:=qK8 (a:=a) (b:=b) ht (nz _ _);have r9:=qK9 (a:=a) (b:=b) ht (nz2 _ _);obtain⟨r10,ho⟩:=qLa (a:=a) (b:=b) ht hq hc (nk _ _ _);have r11:=qLb (a:=a) (b:=b) ht hc (nk2 _ _ _);have r12:=qLd ho;obtain⟨r14,r15,r13⟩:=qLe ht nr nr2;obtain⟨r16,r17⟩:=qLf ha hc;obtain⟨r18,r20,r19⟩:=qLg (qLh (a:=a) (b:=b) hd l1 l2 hc ho);have eo:=qLc (g:=g) (k3 g a b c).1;have tl:qh (tlP g (Je g (k3 g a b c).1) (Je g (k3 g a b c).1) (J0 (.int .i64 a) (.int .i64 c)) (Jp (lvs (Je g (k3 g a b c).1)).length (lvs (Je g (k3 g a b c).1))) (k3 g a b c).2 a b c (qap g) (lvs (Je g (k3 g a b c).1))):=by
   have p3:((k3 g a b c).2==(k3 g a b c).2)=true:=beq_self_eq_true _;have p4:=qsK (J0 (.int .i64 a) (.int .i64 c));have r7:=S29.qzx;rw[<-eo]at r12 r18 r20;rw[<-eg]at r10 r11 r14 r15;exact⟨r10,r11,p3,p3,p3,p3,r12,p3,rfl,rfl,r14,rfl,rfl,r15,rfl,r13,rfl,r7,rfl,rfl,rfl,rfl,rfl,r16,rfl,rfl,rfl,r17,rfl,rfl,rfl,rfl,rfl,rfl,p4,p4,r18,p4,p4,p4,r20,p4,r19,p4,rfl,rfl,rfl,rfl,p4,trivial⟩
  rcases qz0 hq.g.d a b with⟨a1,a2⟩|⟨k,_,a1,a2⟩
  ·rw[a2]at r8;have:=qLm (s:=s) (by rw[es,eg]; exact r6) (by rw[eg]; exact r8) (by rw[eg]; exact r9) (by rw[decide_eq_false (by omega)]; rfl) tl;rw[es,eg,qsK]at this; exact this
  ·rw[a2]at r8;rw[a1]at r9;have:=qLl (s:=s) (k:=(k:Int)) (j:=(k:Int)) (by rw[es,eg]; exact r6) (by rw[eg]; exact r8) (by rw[eg]; exact r9) (by rw[decide_eq_true (by omega)]; rfl) (by simp) tl;rw[es,eg,qsK]at this; exact this
end Go.Aev.R29
namespace Go.Aev.R29
open Go Go.Aev Go.Aev.R
open Go.RowKit (Below)
def glb_of {W:World} (h:∀(g:Nat),g<2->∀(j:Nat) (n:Nat),consts[j]?=some n->W.cell? ⟨g,j,none⟩=some (.int .u32 n)):Glb (SW W) W:=by
 intro g x hx;have hg:g<2/\x=.agg (consts.map fun(n:Nat)=>.int .u32 n):=by
  match g,hx with
  | 0,hx =>
   have hx':some (D.agg (consts.map fun(n:Nat)=>D.int .u32 n))=some x:=hx;cases hx'; exact⟨by omega,rfl⟩
  | 1,hx =>
   have hx':some (D.agg (consts.map fun(n:Nat)=>D.int .u32 n))=some x:=hx;cases hx'; exact⟨by omega,rfl⟩
  | g+2,hx =>
   have hx':(none:Option D)=some x:=hx;cases hx'
 obtain⟨hg2,rfl⟩:=hg;have h0:=h g hg2 0 1116352408 rfl;have hsz:g<W.heap.size:=by
  unfold World.cell? at h0;split at h0
  ·rename_i hb; exact(qUY.1 hb).1
  ·cases h0
 refine .dp _ g 0 (fun j=>.int .u32 ((consts.getD j 0:Nat):Int)) hsz (fun j d hd=>?_) (fun j d hd=>?_)
 ·simp only[D.cells,qT3,qTP]at hd;obtain⟨n,hn,rfl⟩:=hd;rw[qT6,zzG,hn];exact h g hg2 j n hn
 ·simp only[D.cells,qT3,qTP]at hd;obtain⟨n,hn,rfl⟩:=hd;rw[zzG,hn];exact .int _ _
def qKV {x0 x1 x2 x3 x4:D} (h:RCs PP 3 [.d x0,.d x1,.d x2,.d x3,.d x4] [] (.d (.bool true))) {W:World} (hg:Glb (SW W) W) {v0 v1 v2 v3 v4:Value} (h0:RD (SW W) W x0 v0) (h1:RD (SW W) W x1 v1) (h2:RD (SW W) W x2 v2) (h3:RD (SW W) W x3 v3) (h4:RD (SW W) W x4 v4) :
  Calls PP 3 #[v0,v1,v2,v3,v4] W fun e W'=>e=.returned (.bool true)/\Below W.heap.size W W':=by
 refine(h W _ (fun _=>none) (SW W) W #[v0,v1,v2,v3,v4] (Inv.start W (fun b hb=>hb) hg) (fun r row h=>by simp at h) ⟨rfl,fun j a b ha hb=>?_⟩).mono fun e w' ⟨r,he,S',_,_,hr,hb,hs,ho,ht,hout⟩=>?_
 ·match j with
  | 0=>simp at ha hb; subst ha; subst hb; exact .d _ _ h0|1=>simp at ha hb; subst ha; subst hb; exact .d _ _ h1|2=>simp at ha hb; subst ha; subst hb; exact .d _ _ h2|3=>simp at ha hb; subst ha; subst hb; exact .d _ _ h3|4=>simp at ha hb; subst ha; subst hb; exact .d _ _ h4|_+5=>simp at ha
 ·have:=qdb (hr (fun _=>none));subst this;exact⟨he,ho,ht,hout,hs,hb⟩
def qzP:List Y:=qfF (qch.unG (qK BG BG))
def qKW:Y:=.l BG (.rg (-9223372036854775808) 9223372036854775807)
def qmD:List Y:=qzP.take 16++[qKW]
def qsC:List Y:=qfF (qch.unG (Yu BG BG))
def qKX:fit 8 24 qsC=true:=by kernel_rfl
def qKY:fit 8 41 qmD=true:=by kernel_rfl
def qfA:Y:=.rg (-9223372036854775808) 9223372036854775807
def qsD:fit 8 3 [qfA]=true:=by kernel_rfl
def Tys.split:∀{ys ys':List Y} {ds:List D},Tys (ys++ys') ds->∃d1 d2,ds=d1++d2/\d1.length=ys.length/\Tys ys d1/\Tys ys' d2
 | [],ys',ds,h=>⟨[],ds,rfl,rfl,.nil,h⟩|y::ys,ys',_,.cons h t=>by
  obtain⟨d1,d2,rfl,hl,a,b⟩:=Tys.split (ys:=ys) t;exact⟨_::d1,d2,rfl,by simp[hl],.cons h a,b⟩
def qKZ {ds:List D} (h:Tys qmD ds):qd (qK BG BG) (.agg ds)/\∀j:Nat,j<(toL (cel (.agg ds) 16)).length->qd (.rg (-9223372036854775808) 9223372036854775807) ((toL (cel (.agg ds) 16)).getD j .nilp):=by
 obtain⟨d1,d2,rfl,hl,a,b⟩:=Tys.split h
 cases b with
 | cons hd hn =>
  rename_i d d3;cases hn;have hl16:d1.length=16:=hl;obtain⟨es,rfl,e1,e2⟩:=hd;have hc:cel (.agg (d1++[.list es])) 16=.list es:=by
   show(d1++[D.list es]).getD 16 .nilp=_;rw[zzG,qT1 (by omega),hl16]; rfl
  refine⟨⟨_,rfl,qi9 (r:=qch.unG (qK BG BG)) (by kernel_rfl) ?_⟩,fun j hj=>?_⟩
  ·have:Tys (qzP.take 16++[.l BG (.i .i64)]) (d1++[.list es]):=a.append (.cons ⟨es,rfl,e1,fun x hx=>by
    obtain⟨n,hn,_⟩:=e2 x hx;exact⟨n,hn⟩⟩ .nil)
   exact this
  ·rw[hc]at hj ⊢;have hj:j<es.length:=hj;show qd _ (es.getD j .nilp);rw[zzG,qTE hj];exact e2 _ (qTL hj)
def qsE {y:Y} {ds:List D} (h:Tys [y] ds):∃d,ds=[d]/\qd y d:=by
 cases h with
 | cons h t=>cases t; exact⟨_,rfl,h⟩
def qK0 {a0 a1:List D} {x2 x3 x4:D} (h0:Tys qsC a0) (h1:Tys qmD a1) (h2:qd qfA x2) (h3:qd qfA x3) (h4:qd qfA x4):RCs PP 3 [.d (.agg a0),.d (.agg a1),.d x2,.d x3,.d x4] [] (.d (.bool true)):=by
 obtain⟨s1,s2⟩:=qKZ h1;exact qLi ⟨a0,rfl,qi9 (r:=qch.unG (Yu BG BG)) (by kernel_rfl) h0⟩ s1 s2 h2 h3 h4
def qzQ {ds:List D} {v:Value} {W:World} (h:RDs W ds v.cells.toList) (hl:2<=ds.length):RD (SW W) W (.agg ds) v:=by
 have hsz:v.cells.size=ds.length:=by
  have:=h.1;simpa using this
 have hv:∃arr,v=.agg arr:=by
  cases v<;>first
   | exact⟨_,rfl⟩
   | (simp[Value.cells]at hsz; omega)
 obtain⟨arr,rfl⟩:=hv;exact .agg ds arr (by simpa[Value.cells]using hsz) (fun j d v hd hv=>h.2 j d v hd (by simpa[Value.cells]using hv))
def qsF {d:D} {v:Value} {W:World} (h:RDs W [d] v.cells.toList) (hv:∀arr,v≠.agg arr):RD (SW W) W d v:=by
 have e:v.cells.toList=[v]:=by
  cases v<;>first
   | rfl
   | exact absurd rfl (hv _)
 rw[e]at h;exact h.2 0 d v rfl rfl
def law_calls {H:Type} {en:TypeId×Value->H} (K:Bulk H) {W:World} (hg:Glb (SW W) W) {v0 v1 v2 v3 v4:Value} (hv2:∀arr,v2≠.agg arr) (hv3:∀arr,v3≠.agg arr) (hv4:∀arr,v4≠.agg arr) {d0 d1 d2 d3 d4:DataW H} {p0 p1 p2 p3 p4:List MemPlace}
  (h0:DataW.Trod en PP W 0 (fun _=>true) true 24 v0 d0 p0) (h1:DataW.Trod en PP W 0 (fun _=>true) true 41 v1 d1 p1) (h2:DataW.Trod en PP W 0 (fun _=>true) true 3 v2 d2 p2) (h3:DataW.Trod en PP W 0 (fun _=>true) true 3 v3 d3 p3) (h4:DataW.Trod en PP W 0 (fun _=>true) true 3 v4 d4 p4)
  (b0:K.f d0<=BG) (b1:K.f d1<=BG) (b2:K.f d2<=BG) (b3:K.f d3<=BG) (b4:K.f d4<=BG) :
  Calls PP 3 #[v0,v1,v2,v3,v4] W fun e W'=>e=.returned (.bool true)/\Below W.heap.size W W':=by
 obtain⟨f0,t0⟩:=h0;obtain⟨f1,t1⟩:=h1;obtain⟨f2,t2⟩:=h2;obtain⟨f3,t3⟩:=h3;obtain⟨f4,t4⟩:=h4;obtain⟨a0,g0⟩:=qja K f0 8 24 qsC _ _ qKX t0;obtain⟨a1,g1⟩:=qja K f1 8 41 qmD _ _ qKY t1;obtain⟨a2,g2⟩:=qja K f2 8 3 [qfA] _ _ qsD t2;obtain⟨a3,g3⟩:=qja K f3 8 3 [qfA] _ _ qsD t3;obtain⟨a4,g4⟩:=qja K f4 8 3 [qfA] _ _ qsD t4;obtain⟨x2,rfl,y2⟩:=qsE (g2.ty b2);obtain⟨x3,rfl,y3⟩:=qsE (g3.ty b3);obtain⟨x4,rfl,y4⟩:=qsE (g4.ty b4);have l0:a0.length=3:=g0.len;have l1:a1.length=17:=g1.len;exact qKV (qK0 (g0.ty b0) (g1.ty b1) y2 y3 y4) hg (qzQ g0.rd (by omega)) (qzQ g1.rd (by omega)) (qsF g2.rd hv2) (qsF g3.rd hv3) (qsF g4.rd hv4)
end Go.Aev.R29
end
