/- Lemmas: a machine that the model follows, and contracts. Conditions: none. -/
import Derived.Test.YtakpdahnlpjooaaGreatDoorK13
set_option linter.all false
set_option maxRecDepth 1000000
set_option maxHeartbeats 0
noncomputable section
namespace Go.Aev.R29
open Go Go.Aev Go.Aev.R
variable [PW]
def qny:Con:={pts:=[Zw,Zgq],pre:=[Zcq,.rows 904 Zc Zi ZG],rts:=Zh2,post:=[.imp ZdS Zgj,.imp ZdS Zgk,.imp ZdS (.le Zcv ZeR),.imp ZdS (.le ZeR Zcv),.imp ZdS (.le ZeT ZeS),.imp ZdS (.le ZeS ZeT),.le Za Zcv,Zj8,.le Zcv ZaY,.le Za Zdf,.ifF (.and (.le ZeR ZaY) Zgl) (.le Zdf Za)]}
def qRj:RFn:=mF 225 qny [⟨3,[Zs,Z2,ZbY,(5,ZcV),(6,Zck)],[Zq,ZeY,.box [.c (.i .i64) Zd,Zfm,Zec,ZfZ,Zg0,Zhi,Zhj,ZhS,.c (.i .i64) Zbu,.c .l Zao,.c (.i .i64) Zb0] false],[Zw,Zgq,.i .i64,.i .i64,ZP,ZP,Zau,.i .i64,.i .i64,.i .i64,.i .i64,.i .i64,ZeZ,.i .i64],[ZcX,Zgn,Zah,.le Zd ZaY,.le (.u 11 3 Zao) Zd,.le Za Zb0,.imp ZdT (.le ZG ZeD),.imp ZdT (.le ZeD ZG),.imp ZdT (.le Zd (.u 12 1 (.w 6 Zb Zc))),.imp ZdT (.le (.u 12 1 (.w 6 Zb Zc)) Zd),.imp ZdT (.le Zab ZeS),.imp ZdT (.le ZeS Zab),.ifF (.and (.le ZeR ZaY) Zgl) (.le Zb0 Za)],(Za,.w 1 Zi Zb,Zk,Za,Za,Za)⟩]
def qRk:Tab:=[(214,qnx)]
def qBp:qm PP 225 qny:=(fe qRj qRk (qj qBo (qo)) (by kernel_rfl) (by refine⟨?_,?_,trivial⟩<;>intro<;>kernel_rfl)).ok
def qfQ:Con:={pts:=[qfg,.i .i64],pre:=[.le Zc (.i 100),Zaa],rts:=[.i .i64],post:=[.le Zb Zfe,ZcX,.le Zb Zbv]}
def qnG:RFn:={g:=303,con:=qfQ,wr:=true,pn:=14,rec':={ms:=[(303,Zc)],cur:=Zc},sts:=[{id:=3,env:=[ZbW,Z2,ZaP,(6,ZbP)],rows:=[Zd6],tys:=[qfg,.i .i64,.i .i64,.i .i64],inv:=[Z3,.le Zb (.u 14 0 Za9),.le Zb Zc,Zah],ms:=(Za,.w 1 Zch Zd,Zk,Za,Za,Za)}]}
def qnH:Tab:=[]
def qRL:qaA PP qnH:=qo
def qRM:J8 PP qnG ((303,qfQ)::qnH)=true:=by kernel_rfl
def qRN:J9 PP qnG ((303,qfQ)::qnH) (qJ PP qnG):=by refine⟨?_,?_,trivial⟩<;>intro<;>kernel_rfl
def qRO:qH PP 303 qfQ (Ev0 PP qnG ((303,qfQ)::qnH)):=qgH Yz mixed qRL rfl qRM qRN
def qRP:qm PP 303 qfQ:=qRO.ok
def qnt:Con:={pts:=[Zw,Zd9],pre:=[.rows 904 Zc Zi ZG],rts:=[qlE],post:=[.imp Zdc Zgj,.imp Zdc Zgk,.imp Zdc (.le Zcv ZeR),.imp Zdc (.le ZeR Zcv),.imp Zdc (.le (.u 13 0 Zb) (.w 0 Zg (.u 14 0 Zc))),.le Za Zcv,Zj8,.le Zcv ZaY,.le Za (.u 1 12 Zb),.ifF (.and Zcq (.and (.le ZeR ZaY) (.and (.le (.u 14 0 Zc) (.i 23)) Zgl))) (.le (.u 1 12 Zb) Za),.ifF Zgl (.imp Zdc (.le ZeT ZeS)),.ifF Zgl (.imp Zdc (.le ZeS ZeT))]}
def qQZ:RFn:=mF 221 qnt []
def qQ0:Tab:=[(226,qoI),(225,qny),(303,qfQ)]
def qBk:qm PP 221 qnt:=(fe qQZ qQ0 (qj qCi (qj qBp (qj qRP (qo)))) (by kernel_rfl) ⟨fun U=>by kernel_rfl,trivial⟩).ok
def qhk:Con:={pts:=[Zel,Zbe],pre:=[],rts:=[.b],post:=[.imp Zb Zds,.imp Zb ZgN]}
def qR5:RFn:=mF 80 qhk [⟨4,Zei,[],[Zel,Zbe,.i .i64],[Z3,Zds,ZgN],(Za,.w 1 Zu Zb,Zk,Za,Za,Za)⟩]
def qR6:Tab:=[]
def qR7:qm PP 80 qhk:=(fe qR5 qR6 qo (by kernel_rfl) (by refine⟨?_,?_,trivial⟩<;>intro<;>kernel_rfl)).ok
def qjM:Con:={pts:=[Zdm],pre:=[],rts:=[.s 16],post:=[]}
def qYo:RFn:=mF 186 qjM []
def qYp:Tab:=[]
def qux:qm PP 186 qjM:=(fe qYo qYp qo (by kernel_rfl) ⟨fun U=>by kernel_rfl,trivial⟩).ok
end Go.Aev.R29
namespace Go.Aev.M44
open Go Go.Aev
abbrev PP:Program:=Go.Aev.R29.PP
def mk (po:FuncId->Bool) (sRC:FuncId->List V->Aev.Rows->Option (List Prop×V)):qt:=qqS PP po sRC
def qd5 {po:FuncId->Bool} {sRC:FuncId->List V->Aev.Rows->Option (List Prop×V)} (ht:qii (mk po sRC)):COK (mk po sRC).cfg:=qFA Go.Aev.R29.Yz Go.Aev.R29.mixed ht
def c0:qt:=mk (fun _=>true) (fun _ _ _=>none)
def qS:COK c0.cfg:=qd5 (fun g args rows ps v h=>by cases h)
def cM:qt:=mk (fun _=>false) (fun _ _ _=>none)
def qV:COK cM.cfg:=qd5 (fun g args rows ps v h=>by cases h)
def orI (a b:Int):Int:=IntKind.u32.wrap (BitVec.ofInt 32 a|||BitVec.ofInt 32 b).toNat
def qF (a b:Int):Int:=IntKind.u32.wrap (BitVec.ofInt 32 a^^^BitVec.ofInt 32 b).toNat
def qaR (x:Int) (s r:Nat):Int:=orI (IntKind.u32.wrap (x*2 ^ s)) (x.fdiv (2 ^ r))
end Go.Aev.M44
namespace Go.Aev.R29
open Go Go.Aev Go.Aev.R
def u32 (n:Int):Int:=IntKind.u32.wrap n
def YC (a:Int) (s:Nat):Int:=u32 (a*2 ^ s)
def qbO (a:Int) (s:Nat):Int:=a.fdiv (2 ^ s)
def qB (a b:Int):Int:=u32 (a+b)
def Jy (x:Int) (n:Nat):Int:=M44.orI (qbO x n) (YC x (32 - n))
def gw (ws:List D) (i:Nat):Int:=toI (ws.getD i .nilp)
def fW (f:List D->Nat->Int):Nat->List D
 | 0=>List.replicate 64 (.int .u32 0)|t+1=>(fW f t).set t (.int .u32 (f (fW f t) t))
def qAu (r:Int->Nat->Int) (ws:List D) (t:Nat):Int :=
 qB (qB (qB (gw ws (t - 16)) (M44.qF (M44.qF (r (gw ws (t - 15)) 7) (r (gw ws (t - 15)) 18)) (qbO (gw ws (t - 15)) 3))) (gw ws (t - 7))) (M44.qF (M44.qF (r (gw ws (t - 2)) 17) (r (gw ws (t - 2)) 19)) (qbO (gw ws (t - 2)) 10))
def wS (b:List D) (ws:List D) (t:Nat):Int:=match Nat.blt t 16 with
 | true=>M44.orI (M44.orI (M44.orI (YC (u32 (gw b (4*t))) 24) (YC (u32 (gw b (4*t+1))) 16)) (YC (u32 (gw b (4*t+2))) 8)) (u32 (gw b (4*t+3)))|false=>qAu Jy ws t
def qjd (f:List D->Nat->Int) (t:Nat):fW f (t+1)=(fW f t).set t (.int .u32 (f (fW f t) t)):=rfl
def qAv {b ws:List D} {t:Nat} (h:Nat.blt t 16=true):wS b ws t=M44.orI (M44.orI (M44.orI (YC (u32 (gw b (4*t))) 24) (YC (u32 (gw b (4*t+1))) 16)) (YC (u32 (gw b (4*t+2))) 8)) (u32 (gw b (4*t+3))):=by
 unfold wS; rw[h]
def qAw {b ws:List D} {t:Nat} (h:Nat.blt t 16=false):wS b ws t=qAu Jy ws t:=by
 unfold wS; rw[h]
def qg7 (f:List D->Nat->Int):∀t,(fW f t).length=64
 | 0=>by simp[fW]
 | t+1=>by unfold fW; rw[qUI,qg7 f t]
def qje (f:List D->Nat->Int):∀t,∀x∈fW f t,∃n:Int,x=.int .u32 n
 | 0,x,h=>by
  have:=qVK h;exact⟨0,this⟩
 | t+1,x,h=>by
  unfold fW at h;rcases qVb h with h|h
  ·exact qje f t x h
  ·exact⟨_,h⟩
def qg8 {m:Nat} (hm:m<4294967296):u32 m=m:=by
 unfold u32;simp[IntKind.wrap,IntKind.bits,IntKind.signed];omega
def qfK {m n:Nat} (hm:m<4294967296) (hn:n<4294967296):M44.orI m n=((m|||n:Nat):Int):=by
 have e:(BitVec.ofInt 32 (m:Int)|||BitVec.ofInt 32 (n:Int)).toNat=m|||n:=by
  rw[BitVec.toNat_or];simp[BitVec.ofInt_natCast,qVN hm,qVN hn]
 show IntKind.u32.wrap ((BitVec.ofInt 32 (m:Int)|||BitVec.ofInt 32 (n:Int)).toNat:Int)=_;rw[e];exact qg8 (Nat.or_lt_two_pow (n:=32) hm hn)
def qsX {m s:Nat} (h:m*2 ^ s<4294967296):YC m s=((m*2 ^ s:Nat):Int):=by
 unfold YC;have:((m:Int)*2 ^ s)=((m*2 ^ s:Nat):Int):=by push_cast; rfl
 rw[this]; exact qg8 h
def qmR {m n k:Nat} (hm:m<2 ^ k) (hn:n<2 ^ k):m|||n<2 ^ k:=Nat.or_lt_two_pow hm hn
def qjf {m:Nat} (h:m<16777216):YC m 8=((m*256:Nat):Int):=qsX (m:=m) (s:=8) (by omega)
def qMx {m:Nat} (h:m<65536):YC m 16=((m*65536:Nat):Int):=qsX (m:=m) (s:=16) (by omega)
def qMy {m:Nat} (h:m<256):YC m 24=((m*16777216:Nat):Int):=qsX (m:=m) (s:=24) (by omega)
def qMz (a b c d:Nat):((a*256|||b)*256|||c)*256|||d=a*16777216|||b*65536|||c*256|||d:=by
 have e8:∀n:Nat,n*256=n<<<8:=fun n=>(qWx n 8).symm
 have e16:∀n:Nat,n*65536=n<<<16:=fun n=>(qWx n 16).symm
 have e24:∀n:Nat,n*16777216=n<<<24:=fun n=>(qWx n 24).symm
 simp only[e8,e16,e24,Nat.shiftLeft_or_distrib,<-Nat.shiftLeft_add]
def qMA {a b c d:Nat} (ha:a<256) (hb:b<256) (hc:c<256) (hd:d<256) :
  M44.orI (YC (M44.orI (YC (M44.orI (YC (M44.orI (YC 0 8) (u32 a)) 8) (u32 b)) 8) (u32 c)) 8) (u32 d)=M44.orI (M44.orI (M44.orI (YC (u32 a) 24) (YC (u32 b) 16)) (YC (u32 c) 8)) (u32 d):=by
 have z:YC 0 8=((0:Nat):Int):=qjf (m:=0) (by decide);have k0:M44.orI ((0:Nat):Int) (a:Int)=(a:Int):=by rw[qfK (by omega) (by omega),Nat.zero_or]
 have b1:a*256|||b<65536:=qmR (k:=16) (by omega) (by omega);have k1:M44.orI ((a*256:Nat):Int) (b:Int)=((a*256|||b:Nat):Int):=qfK (by omega) (by omega);have b2:(a*256|||b)*256|||c<16777216:=qmR (k:=24) (by omega) (by omega);have k2:M44.orI (((a*256|||b)*256:Nat):Int) (c:Int)=(((a*256|||b)*256|||c:Nat):Int):=qfK (by omega) (by omega);have k3:M44.orI ((((a*256|||b)*256|||c)*256:Nat):Int) (d:Int)=((((a*256|||b)*256|||c)*256|||d:Nat):Int):=qfK (by omega) (by omega);have g4:a*16777216|||b*65536<4294967296:=qmR (k:=32) (by omega) (by omega);have g5:a*16777216|||b*65536|||c*256<4294967296:=qmR (k:=32) (by omega) (by omega);have m1:M44.orI ((a*16777216:Nat):Int) ((b*65536:Nat):Int)=((a*16777216|||b*65536:Nat):Int):=qfK (by omega) (by omega);have m2:M44.orI ((a*16777216|||b*65536:Nat):Int) ((c*256:Nat):Int)=((a*16777216|||b*65536|||c*256:Nat):Int):=qfK (by omega) (by omega);have m3:M44.orI ((a*16777216|||b*65536|||c*256:Nat):Int) (d:Int)=((a*16777216|||b*65536|||c*256|||d:Nat):Int):=qfK (by omega) (by omega);rw[qg8 (show a<4294967296 by omega),qg8 (show b<4294967296 by omega),qg8 (show c<4294967296 by omega),qg8 (show d<4294967296 by omega),z,k0,qjf (show a<16777216 by omega),k1,qjf (show a*256|||b<16777216 by omega),k2,qjf b2,k3,qMy ha,qMx (show b<65536 by omega),qjf (show c<16777216 by omega),m1,m2,m3,qMz]
def qMB (a b:Int):M44.orI a b=M44.orI b a:=by unfold M44.orI; rw[BitVec.or_comm]
def qfL (x:Int) (n:Nat):M44.qaR x (32 - n) n=Jy x n:=qMB _ _
def qAx (f:List D->Nat->Int):∀{t j:Nat},t<=j->j<64->(fW f t).getD j .nilp=.int .u32 0
 | 0,j,_,hj=>by
  unfold fW;rw[zzG,qWa,if_pos hj]; rfl
 | t+1,j,h,hj=>by
  rw[qjd,zzG,qUF (by omega),<-zzG];exact qAx f (by omega) hj
def qMC (f:List D->Nat->Int) {t:Nat} (h:t<64):(fW f t).set t (.int .u32 0)=fW f t:=by
 refine qU6 (by simp) fun j h1 h2=>?_
 rw[List.getElem_set];split
 ·rename_i e;subst e;have:=qAx f (qTF t) h;rw[zzG,qTE h2]at this;exact this.symm
 ·rfl
def qjg (b:List D) (t:Nat):Nat->Int
 | 0=>0|j+1=>M44.orI (YC (qjg b t j) 8) (u32 (gw b (4*t+j)))
def qmS {ws:List D} (hl:ws.length=64) (hi:∀x∈ws,∃n:Int,x=.int .u32 n):((List.range 64).map fun i=>(K.i .u32).den (ws.getD i .nilp))=ws:=by
 refine qU6 (by simp[hl]) fun j h1 h2=>?_
 rw[qVI,qVJ,zzG,qTE h2];obtain⟨n,hn⟩:=hi _ (qTL h2);rw[qTT,hn];rfl
def YU (a b:Int):Int:=IntKind.u32.wrap (BitVec.ofInt 32 a&&&BitVec.ofInt 32 b).toNat
def qAo (a b:Int):M44.qF a b=M44.qF b a:=by unfold M44.qF; rw[BitVec.xor_comm]
def wd (n:Int):D:=.int .u32 n
def kL:List D:=[wd 1116352408,wd 1899447441,wd 3049323471,wd 3921009573,wd 961987163,wd 1508970993,wd 2453635748,wd 2870763221,wd 3624381080,wd 310598401,wd 607225278,wd 1426881987,wd 1925078388,wd 2162078206,wd 2614888103,wd 3248222580,wd 3835390401,wd 4022224774,wd 264347078,wd 604807628,wd 770255983,wd 1249150122,wd 1555081692,wd 1996064986,wd 2554220882,wd 2821834349,wd 2952996808,wd 3210313671,wd 3336571891,wd 3584528711,wd 113926993,wd 338241895,wd 666307205,wd 773529912,wd 1294757372,wd 1396182291,wd 1695183700,wd 1986661051,wd 2177026350,wd 2456956037,wd 2730485921,wd 2820302411,wd 3259730800,wd 3345764771,wd 3516065817,wd 3600352804,wd 4094571909,wd 275423344,wd 430227734,wd 506948616,wd 659060556,wd 883997877,wd 958139571,wd 1322822218,wd 1537002063,wd 1747873779,wd 1955562222,wd 2024104815,wd 2227730452,wd 2361852424,wd 2428436474,wd 2756734187,wd 3204031479,wd 3329325298]
def sg (x:Int) (a b c:Nat):Int:=M44.qF (M44.qF (Jy x a) (Jy x b)) (Jy x c)
def t1S (k w:Int) (v:List D):Int:=qB (qB (qB (qB (gw v 7) (sg (gw v 4) 6 11 25)) (M44.qF (YU (gw v 4) (gw v 5)) (YU (M44.qF (gw v 4) 4294967295) (gw v 6)))) k) w
def t2S (v:List D):Int:=qB (sg (gw v 0) 2 13 22) (M44.qF (M44.qF (YU (gw v 0) (gw v 1)) (YU (gw v 0) (gw v 2))) (YU (gw v 1) (gw v 2)))
def qjc (k w:Int) (v:List D):List D :=
 [wd (qB (t1S k w v) (t2S v)),wd (gw v 0),wd (gw v 1),wd (gw v 2),wd (qB (gw v 3) (t1S k w v)),wd (gw v 4),wd (gw v 5),wd (gw v 6)]
def qaG (w:List D) (s:List D):Nat->List D
 | 0=>s|i+1=>qjc (gw kL i) (gw w i) (qaG w s i)
def qac (s:List D):Prop:=∃a b c d e f g h:Int,s=[wd a,wd b,wd c,wd d,wd e,wd f,wd g,wd h]
def qmM (w:List D) {s:List D} (hs:qac s):∀n,qac (qaG w s n)
 | 0=>hs|n+1=>⟨_,_,_,_,_,_,_,_,rfl⟩
def qfG (v s:List D):Nat->List D
 | 0=>s|i+1=>(qfG v s i).set i (wd (qB (gw (qfG v s i) i) (gw v i)))
def qfH (A E s:List D):Nat->List D
 | 0=>s|i+1 =>
  ((qfH A E s i).set i (wd (qB (gw (qfH A E s i) i) (gw A i)))).set (i+4) (wd (qB (gw ((qfH A E s i).set i (wd (qB (gw (qfH A E s i) i) (gw A i)))) (i+4)) (gw E i)))
def qMa {v s:List D} (hv:qac v) (hs:qac s):qfH (v.take 4) (v.drop 4) s 4=qfG v s 8:=by
 obtain⟨a,b,c,d,e,f,g,h,rfl⟩:=hv;obtain⟨a',b',c',d',e',f',g',h',rfl⟩:=hs;rfl
def qAp {v s:List D} (hv:qac v) (hs:qac s):qac (qfG v s 8):=by
 obtain⟨a,b,c,d,e,f,g,h,rfl⟩:=hv;obtain⟨a',b',c',d',e',f',g',h',rfl⟩:=hs;exact⟨_,_,_,_,_,_,_,_,rfl⟩
def qao (b s:List D):List D:=qfG (qaG (fW (wS b) 64) s 64) s 8
def qMb (b:List D) {s:List D} (hs:qac s):qac (qao b s):=qAp (qmM _ hs _) hs
def wds (d:D):List D:=[wd (toI (cel d 0)),wd (toI (cel d 1)),wd (toI (cel d 2)),wd (toI (cel d 3)),wd (toI (cel d 4)),wd (toI (cel d 5)),wd (toI (cel d 6)),wd (toI (cel d 7))]
def qAq (d:D):qac (wds d):=⟨_,_,_,_,_,_,_,_,rfl⟩
def qMc {s:List D} (h:qac s):wds (.agg s)=s:=by
 obtain⟨a,b,c,d,e,f,g,h,rfl⟩:=h;rfl
def qMd {s:List D} (h:qac s):[wd (gw s 0),wd (gw s 1),wd (gw s 2),wd (gw s 3),wd (gw s 4),wd (gw s 5),wd (gw s 6),wd (gw s 7)]=s:=by
 obtain⟨a,b,c,d,e,f,g,h,rfl⟩:=h;rfl
section
def qer (ds:List D) (d:D):Prop:=d=.int .u32 (M44.qaR (toI (qa ds 0)) (32 - (-toI (qa ds 1)).toNat) (-toI (qa ds 1)).toNat)
def qMq:Con:={pts:=[.i .u32,.i .i64],pre:=[.le (.i (-31)) Zc,.le Zc (.i (-1))],rts:=[.i .u32],post:=[]}
def qbN:Con:={qMq with fact:=qer}
def qMr (x:Int) (k:Nat) (h1:1<=k) (h2:k<=31):RCs PP 390 [.d (.int .u32 x),I (-(k:Int))] [] (.d (.int .u32 (M44.qaR x (32 - k) k))):=by
 have hk:k=1\/k=2\/k=3\/k=4\/k=5\/k=6\/k=7\/k=8\/k=9\/k=10\/k=11\/k=12\/k=13\/k=14\/k=15\/k=16\/k=17\/k=18\/k=19\/k=20\/k=21\/k=22\/k=23\/k=24\/k=25\/k=26\/k=27\/k=28\/k=29\/k=30\/k=31:=by omega
 rcases hk with rfl|rfl|rfl|rfl|rfl|rfl|rfl|rfl|rfl|rfl|rfl|rfl|rfl|rfl|rfl|rfl|rfl|rfl|rfl|rfl|rfl|rfl|rfl|rfl|rfl|rfl|rfl|rfl|rfl|rfl|rfl
 all_goals exact qd4 M44.qV (by kernel_rfl) (qb.toFin M44.qV (ql []) qr 200 (ps:=[]) (v:=.d (.int .u32 (M44.qaR x _ _))) (rows:=[]) (by kernel_rfl) trivial rfl)
variable [PW]
def qAs:qm PP 390 qbN:=fun ds hp=>by
 obtain⟨a,b,rfl⟩:∃a b,ds=[a,b]:=by
  match ds,hp.1.1 with
  | [a,b],_=>exact⟨a,b,rfl⟩
 obtain⟨x,rfl⟩:qd (.i .u32) a:=hp.1.2 0 _ rfl;obtain⟨n,rfl⟩:qd (.i .i64) b:=hp.1.2 1 _ rfl;have h1:-31<=n:=hp.2 _ (qTR ..);have h2:n<=-1:=hp.2 _ (qTG _ (qTR ..));have key:∀(m s r:Nat),n=-(m:Int)->s=32 - m->r=m->RCs PP 390 [.d (.int .u32 x),I n] [] (.d (.int .u32 (M44.qaR x s r)))->∃d,JZ qbN [.int .u32 x,.int .i64 n] d/\JS PP 390 qbN [.int .u32 x,.int .i64 n] d:=by
  rintro m s r rfl rfl rfl h
  refine⟨.int .u32 (M44.qaR x (32 - r) r),⟨⟨⟨_,rfl⟩,fun f hf=>by cases hf⟩,?_⟩,h⟩;show _=D.int .u32 (M44.qaR x (32 - (- -(r:Int)).toNat) (- -(r:Int)).toNat);rw[Int.neg_neg,qTK]
 obtain⟨m,rfl⟩:∃m:Nat,n=-(m:Int):=⟨(-n).toNat,by omega⟩
 exact key m _ _ rfl rfl rfl (qMr x m (by omega) (by omega))
end
def qi1:Nat->D->List D
 | 0,_=>[]|n+1,d=>toL (cel d 11)++(toL (cel d 10)).flatMap (qi1 n)
def YI (d:D):List D:=qi1 (SizeOf.sizeOf d) d
def qsu:∀(n m:Nat) (d:D),SizeOf.sizeOf d<=n->SizeOf.sizeOf d<=m->qi1 n d=qi1 m d
 | 0,m,d,h,_=>by cases d<;>simp at h<;>omega
 | n+1,0,d,_,h=>by cases d<;>simp at h<;>omega
 | n+1,m+1,d,h1,h2=>by
  unfold qi1
  congr 1
  refine flatMap_congr' fun x hx=>?_
  have:=qft hx;exact qsu n m x (by omega) (by omega)
where
 flatMap_congr' {f g:D->List D} {l:List D} (h:∀x∈l,f x=g x):l.flatMap f=l.flatMap g:=by
  induction l with
  | nil=>rfl|cons x r ih =>
   rw[qUq,qUq,h x qTR,ih fun y hy=>h y (qTG _ hy)]
def qfx (d:D):YI d=toL (cel d 11)++(toL (cel d 10)).flatMap YI:=by
 unfold YI
 cases hn:SizeOf.sizeOf d with
 | zero=>cases d<;>simp at hn
 | succ n =>
  show _++_=_
  congr 1
  refine qsu.flatMap_congr' fun x hx=>?_
  have:=qft hx;exact qsu n _ x (by omega) (qTF _)
def qKM {f:D->List D} {l:List D} {k:Nat} (hk:k<l.length):(l.take k).flatMap f++f (l.getD k .nilp)=(l.take (k+1)).flatMap f:=by
 rw[List.take_succ,List.flatMap_append,qTE hk,zzG,qTE hk];simp
def qx (s:D):List D:=toL (cel s 14)++(toL (cel s 13)).flatMap YI
def qzC:Y->List K
 | .g r=>r.kinds|_=>[]
def qmC (y:Y) (v:Nat):T:=.u 2 0 (qX ((cellsOf (.v v) (qzC y) 0).map fun p=>.mk p.1 p.2))
def isE (x:D) (a b:Int):Bool:=toI (cel x 0)==a&&toI (cel x 1)==b
def qbi (a b:Int):List D->Int->Int
 | [],_=>-1|x::r,i=>match isE x a b with
  | true=>i|false=>qbi a b r (i+1)
def Yd (l:List D) (a b:Int):Int:=qbi a b l 0
def qsG {a b:Int}:∀{l:List D} {i:Int} {k:Nat},k<=l.length->(∀j,j<k->isE (l.getD j .nilp) a b=false)->qbi a b l i=qbi a b (l.drop k) (i+(k:Nat))
 | l,i,0,_,_=>by rw[qTY]; congr 1; omega
 | [],i,k+1,h,_=>by cases h
 | x::r,i,k+1,h,hj=>by
  have h0:isE x a b=false:=hj 0 (by omega);have ih:=qsG (l:=r) (i:=i+1) (k:=k) (by simpa using h) fun j hk=>hj (j+1) (by omega)
  show(match isE x a b with|true=>i|false=>qbi a b r (i+1))=qbi a b (r.drop k) _;rw[h0];show qbi a b r (i+1)=_;rw[ih]; congr 1; omega
def qK1 {l:List D} {a b:Int} {k:Nat} (hk:k<l.length) (hj:∀j,j<k->isE (l.getD j .nilp) a b=false) (h:isE (l.getD k .nilp) a b=true):Yd l a b=(k:Nat):=by
 unfold Yd;rw[qsG (qUo hk) hj,qV7 hk];rw[zzG,qTE hk]at h;have h:isE l[k] a b=true:=h;show(match isE l[k] a b with|true=>_|false=>_)=_;rw[h]; show(0:Int)+_=_; omega
def qzR {l:List D} {a b:Int} (hj:∀j,j<l.length->isE (l.getD j .nilp) a b=false):Yd l a b=-1:=by
 unfold Yd;rw[qsG (qTF _) hj,List.drop_length]; rfl
def qzS (a b:Int):∀(l:List D) (i:Int),qbi a b l i=-1/\(∀j,j<l.length->isE (l.getD j .nilp) a b=false)\/∃k,k<l.length/\qbi a b l i=i+(k:Nat)/\isE (l.getD k .nilp) a b=true
 | [],i=>.inl ⟨rfl,fun j hj=>by cases hj⟩
 | x::r,i=>by
  cases e:isE x a b with
  | true =>
   refine .inr ⟨0,by simp,?_,e⟩;show(match isE x a b with|true=>i|false=>qbi a b r (i+1))=_;rw[e]; show i=_; omega
  | false =>
   have h0:qbi a b (x::r) i=qbi a b r (i+1):=by
    show(match isE x a b with|true=>i|false=>qbi a b r (i+1))=_;rw[e]
   rw[h0];rcases qzS a b r (i+1)with⟨h1,h2⟩|⟨k,h1,h2,h3⟩
   ·refine .inl ⟨h1,fun j hj=>?_⟩
    cases j with
    | zero=>exact e|succ j=>exact h2 j (by simpa using hj)
   ·exact .inr ⟨k+1,by simpa using h1,by rw[h2]; omega,h3⟩
def qK2 (l:List D) (a b:Int):Yd l a b=-1/\(∀j,j<l.length->isE (l.getD j .nilp) a b=false)\/∃k,k<l.length/\Yd l a b=(k:Nat)/\isE (l.getD k .nilp) a b=true:=by
 rcases qzS a b l 0 with h|⟨k,h1,h2,h3⟩
 ·exact .inl h
 ·exact .inr ⟨k,h1,by unfold Yd; rw[h2]; omega,h3⟩
def qaF (es died:List D) (a b c:Int):List D×Int :=
 match decide (Yd es a b<0)with
 | true=>(died,5)|false=>match toI (died.getD (Yd es a b).toNat .nilp)==0 with
  | false=>(died,4)|true=>match decide (c<=toI (cel (es.getD (Yd es a b).toNat .nilp) 6))||decide (c>1073741824)with
   | true=>(died,9)|false=>(died.set (Yd es a b).toNat (.int .i64 c),0)
section
variable {es died:List D} {a b c:Int}
def qzT (h:Yd es a b<0):qaF es died a b c=(died,5):=by
 unfold qaF; rw[decide_eq_true h]
def qzU (h:¬Yd es a b<0) (h2:(toI (died.getD (Yd es a b).toNat .nilp)==0)=false):qaF es died a b c=(died,4):=by
 unfold qaF; rw[decide_eq_false h];show(match toI (died.getD (Yd es a b).toNat .nilp)==0 with|false=>_|true=>_)=_;rw[h2]
def qsH (h:¬Yd es a b<0) (h2:(toI (died.getD (Yd es a b).toNat .nilp)==0)=true) (h3:(decide (c<=toI (cel (es.getD (Yd es a b).toNat .nilp) 6))||decide (c>1073741824))=true):qaF es died a b c=(died,9):=by
 unfold qaF; rw[decide_eq_false h];show(match toI (died.getD (Yd es a b).toNat .nilp)==0 with|false=>_|true=>_)=_;rw[h2];show(match decide (c<=toI (cel (es.getD (Yd es a b).toNat .nilp) 6))||decide (c>1073741824)with|true=>_|false=>_)=_;rw[h3]
def qzV (h:¬Yd es a b<0) (h2:(toI (died.getD (Yd es a b).toNat .nilp)==0)=true) (h3:(decide (c<=toI (cel (es.getD (Yd es a b).toNat .nilp) 6))||decide (c>1073741824))=false):qaF es died a b c=(died.set (Yd es a b).toNat (.int .i64 c),0):=by
 unfold qaF; rw[decide_eq_false h];show(match toI (died.getD (Yd es a b).toNat .nilp)==0 with|false=>_|true=>_)=_;rw[h2];show(match decide (c<=toI (cel (es.getD (Yd es a b).toNat .nilp) 6))||decide (c>1073741824)with|true=>_|false=>_)=_;rw[h3]
end
def qzW (es died:List D) (a b c:Int):(qaF es died a b c).1=died\/∃k,(qaF es died a b c).1=died.set k (.int .i64 c):=by
 unfold qaF;split
 ·exact .inl rfl
 ·split
  ·exact .inl rfl
  ·split
   ·exact .inl rfl
   ·exact .inr ⟨_,rfl⟩
def qsI {died l:List D} {c:Int} {lo hi:Int} (hl:l=died\/∃k,l=died.set k (.int .i64 c)) (hd:∀j,j<died.length->qd (.rg lo hi) (died.getD j .nilp)) (hc:qd (.rg lo hi) (.int .i64 c)):l.length=died.length/\∀j,j<l.length->qd (.rg lo hi) (l.getD j .nilp):=by
 rcases hl with rfl|⟨k,rfl⟩
 ·exact⟨rfl,hd⟩
 ·refine⟨qUI,fun j hj=>?_⟩;rw[qUI]at hj;rw[zzG,List.getElem?_set];split
  ·split
   ·exact hc
   ·omega
  ·rw[<-zzG]; exact hd j hj
def qdq (x:D) (c:Int):Bool:=c==0||(decide (c>toI (cel x 6))&&decide (c<=1073741824))
def Je (s:D) (l:List D):D:=(qK 300 300).form (.agg ((List.range 16).map (cel s)++[.list l]))
def mkM (s:D) (l:List D) (e:Int):D:=.agg ((Je s l).cells++[.int .i64 e])
def gtE (x y:D):Bool:=decide (toI (cel x 0)>toI (cel y 0))||(toI (cel x 0)==toI (cel y 0)&&decide (toI (cel x 1)>toI (cel y 1)))
def leE (x y:D):Prop:=toI (cel x 0)<toI (cel y 0)\/toI (cel x 0)=toI (cel y 0)/\toI (cel x 1)<=toI (cel y 1)
def ltE (x y:D):Prop:=toI (cel x 0)<toI (cel y 0)\/toI (cel x 0)=toI (cel y 0)/\toI (cel x 1)<toI (cel y 1)
def qMD {x y:D} (h:gtE x y=true):leE y x:=by
 unfold gtE at h; unfold leE;simp only[qTM,qTC,beq_iff_eq,decide_eq_true_eq]at h;omega
def qME {x y:D} (h:gtE x y=false):leE x y:=by
 unfold gtE at h; unfold leE;simp only[Bool.or_eq_false_iff,Bool.and_eq_false_iff,beq_eq_false_iff_ne,decide_eq_false_iff_not]at h;omega
def qMF {x y z:D} (h1:leE x y) (h2:leE y z):leE x z:=by
 unfold leE at *; omega
def qMG {acc:List D} {x:D} {p:Nat} (hs:acc.Pairwise leE) (hp:p<=acc.length) (h1:∀i,p<=i->i<acc.length->gtE (acc.getD i .nilp) x=true) (h2:p=0\/gtE (acc.getD (p - 1) .nilp) x=false):(acc.take p++x::acc.drop p).Pairwise leE:=by
 have hs':=hs;rw[<-qUw p acc,qWl]at hs';obtain⟨s1,s2,s3⟩:=hs';rw[qWl];refine⟨s1,?_,?_⟩
 ·rw[qVn];refine⟨fun y hy=>?_,s2⟩;obtain⟨i,hi⟩:=qUS hy;rw[qUk]at hi;have hl:=(qWy.1 hi).1;have:=h1 (p+i) (by omega) hl;rw[zzG,hi]at this;exact qMD this
 ·intro a ha b hb;rcases qTD.1 hb with rfl|hb
  ·obtain⟨j,hj⟩:=qUS ha;have hjl:j<p:=by
    have:=(qWy.1 hj).1;rw[qTU]at this; omega
   rw[qWg hjl]at hj;rcases h2 with h2|h2
   ·omega
   ·have hq:=qME h2;rw[zzG,qTE (by omega)]at hq;have hq:leE acc[p - 1] b:=hq
    by_cases e:j=p - 1
    ·subst e;rw[qTE (by omega)]at hj;cases hj; exact hq
    ·have hjj:=(qWy.1 hj)
     obtain⟨hjl2,e2⟩:=hjj;have:=qWB.1 hs j (p - 1) hjl2 (by omega) (by omega);rw[e2]at this;exact qMF this hq
  ·exact s3 a ha b hb
def qMH (acc:List D) (x:D) (p:Nat):(acc.take p++x::acc.drop p).Perm (x::acc):=by
 have:=List.perm_middle (l₁:=acc.take p) (l₂:=acc.drop p) (a:=x);rw[qUw]at this;exact this
structure qck (l:List D) (n:Nat) (row:List D) (k:Int):Prop where
 n:n=row.length
 i0:0<=k
 i1:k<=((l.length:Nat):Int)
 p:row.Perm (l.take k.toNat)
 s:row.Pairwise leE
structure qes (l:List D) (n:Nat) (row:List D) (k a:Int):Prop where
 i:qck l n row k
 k1:k<((l.length:Nat):Int)
 a0:0<=a
 a1:a<=((row.length:Nat):Int)
 g:∀i:Nat,a.toNat<=i->i<row.length->gtE (row.getD i .nilp) (l.getD k.toNat .nilp)=true
def qes.next {l:List D} {n:Nat} {row:List D} {k a:Int} (h:qes l n row k a) (ha:0<a) (hg:gtE (row.getD (a - 1).toNat .nilp) (l.getD k.toNat .nilp)=true):qes l n row k (a - 1):=by
 obtain⟨i,k1,a0,a1,g⟩:=h;refine⟨i,k1,by omega,by omega,fun j hj hl=>?_⟩
 by_cases e:j=(a - 1).toNat
 ·rw[e]; exact hg
 ·exact g j (by omega) hl
def qes.done {l:List D} {n n':Nat} {row row':List D} {k a:Int} (h:qes l n row k a) (hx:a<=0\/gtE (row.getD (a - 1).toNat .nilp) (l.getD k.toNat .nilp)=false)
  (hr:row'=(row.drop 0).take (a.toNat - 0)++l.getD k.toNat .nilp::(row.drop (0+a.toNat)).take (n - a.toNat)) (hn:n'=row'.length):qck l n' row' (k+1):=by
 obtain⟨⟨i1,i2,i3,i4,i5⟩,k1,a0,a1,g⟩:=h;have e:row'=row.take a.toNat++l.getD k.toNat .nilp::row.drop a.toNat:=by
  rw[hr,qTY,qUO,qT6,qTX (l:=row.drop a.toNat) (by rw[qT8]; omega)]
 have hk:k.toNat<l.length:=by omega
 refine⟨hn,by omega,by omega,?_,?_⟩
 ·rw[e,show(k+1).toNat=k.toNat+1 by omega,List.take_succ_eq_append_getElem hk];refine(qMH _ _ _).trans ?_;rw[zzG,qTE hk];exact((i4.cons l[k.toNat]).trans (List.perm_append_singleton _ _).symm)
 ·rw[e];refine qMG i5 (by omega) g ?_;rcases hx with hx|hx
  ·exact .inl (by omega)
  ·refine .inr ?_;rw[show a.toNat - 1=(a - 1).toNat by omega]; exact hx
section
variable {A B:List D} {x:D}
def qs0 (hA:((A.length:Nat):Int)<=0) (hB:((B.length:Nat):Int)<=0):[x]=A++x::B/\0+[x].length=[x].length:=by
 rw[qVS.1 (Nat.le_zero.1 (Int.ofNat_le.1 hA)),qVS.1 (Nat.le_zero.1 (Int.ofNat_le.1 hB))];exact⟨rfl,qT6 _⟩
def qs1 (hA:((A.length:Nat):Int)<=0):([x].drop 0).take (0+[x].length)++B=A++x::B/\(0+[x].length)+B.length=(([x].drop 0).take (0+[x].length)++B).length:=by
 rw[qVS.1 (Nat.le_zero.1 (Int.ofNat_le.1 hA))];exact⟨rfl,by simp; omega⟩
def qs2 (hB:((B.length:Nat):Int)<=0):(A.drop 0).take (0+A.length)++[x]=A++x::B/\(0+A.length)+[x].length=((A.drop 0).take (0+A.length)++[x]).length:=by
 rw[qVS.1 (Nat.le_zero.1 (Int.ofNat_le.1 hB)),qTY,qT6,qTX (qTF _)];exact⟨rfl,by simp⟩
def qs3:((((A.drop 0).take (0+A.length)++[x]).drop 0).take ((0+A.length)+[x].length)++B)=A++x::B/\((0+A.length)+[x].length)+B.length=((((A.drop 0).take (0+A.length)++[x]).drop 0).take ((0+A.length)+[x].length)++B).length:=by
 rw[qTY,qTY,qT6,qTX (l:=A) (qTF _),qTX (by simp)];exact⟨by simp,by simp; omega⟩
end
def qck.start {l:List D} (h:0<((l.length:Nat):Int)):qck l (0+[l.getD 0 .nilp].length) [l.getD 0 .nilp] (0+1):=by
 refine⟨rfl,by omega,by omega,?_,List.pairwise_singleton _ _⟩;have hl:0<l.length:=by omega
 match l,hl with
 | x::r,_=>exact List.Perm.refl _
def qck.ins {l:List D} {n:Nat} {row:List D} {k:Int} (h:qck l n row k) (hk:k<((l.length:Nat):Int)):qes l n row k ((n:Nat):Int):=by
 refine⟨h,hk,by omega,by rw[h.n]; exact qVY _,fun i h1 h2=>?_⟩;have:=h.n;omega
def Jo (ds:List D) (d:D):Prop:=qa ds 0=qa ds 1->toB d=true
def qsT (ds:List D) (d:D):Prop:=qa ds 0=qa ds 1->toI d=0
def qAl {a:Int} {P:Prop} (h:decide (a<a)=true):P:=absurd (of_decide_eq_true h) (Int.lt_irrefl _)
def qAm {a:Int} {P:Prop} (h:decide (a>a)=true):P:=absurd (of_decide_eq_true h) (Int.lt_irrefl _)
def qci {a:Int} {P:Prop} (h:(a != a)=true):P:=by simp at h
def qjb {d:D} {P:Prop} (h:(!toB d)=true) (hd:toB d=true):P:=by rw[hd]at h; cases h
def qAn:∀{l:List D},(∀x∈l,∃k n,x=.int k n)->qbc l l=true
 | [],_=>rfl|x::r,h=>by
  obtain⟨k,n,rfl⟩:=h x qTR;show((n==n)&&qbc r r)=true;rw[beq_self_eq_true,qAn fun y hy=>h y (qTG _ hy)]; rfl
def qdr (e x:D):D:=.agg (((q5 300 300).form e).cells++[.int .i64 (toI x)])
def qbk (es died:List D) (n:Nat):List D:=(List.range n).map fun j=>qdr (es.getD j .nilp) (died.getD j .nilp)
def qMs (es died:List D) (n:Nat):qbk es died (n+1)=qbk es died n++[qdr (es.getD n .nilp) (died.getD n .nilp)]:=by
 unfold qbk;rw[List.range_succ,qUC]; rfl
def qap (s:D):List D:=qbk (qx s) (toL (cel s 16)) (qx s).length
end Go.Aev.R29
namespace Go.Aev.R29
open Go Go.Aev Go.Aev.R
variable [PW]
def zD:D:=.int .u8 0
def qt8 (L:Nat) (i:Int):D:=.int .u8 (IntKind.u8.wrap ((IntKind.u64.wrap (8*IntKind.u64.wrap (L:Int))).fdiv (2 ^ (min (56 - 8*i).toNat 64))))
def qdA (L:Nat):Nat->List D
 | 0=>[]|i+1=>qdA L i++[qt8 L i]
def qS6 (L i:Nat):qdA L (i+1)=qdA L i++[qt8 L i]:=rfl
def qt9 (L:Nat):∀i,(qdA L i).length=i
 | 0=>rfl|i+1=>by unfold qdA; rw[qTN,qt9 L i]; rfl
def qbr (x:List D) (j:Nat):List D:=x++(.int .u8 128::List.replicate j zD)
def JI (x:List D):List D:=qbr x (55 - x.length)++qdA x.length 8
def qbs (x:List D):Prop:=1<=x.length/\x.length<=55
def qua (ds:List D) (d:D):Prop:=qbs (toL (qa ds 0))->d=.list (JI (toL (qa ds 0)))
structure qS7 (x:List D) (U:Nat->D):Prop where
 ex:∃j,j<=55 - x.length/\toN (U 1)=x.length+1+j/\toL (U 3)=qbr x j
structure qS8 (x:List D) (U:Nat->D):Prop where
 lo:0<=toI (U 3)
 hi:toI (U 3)<=8
 n:toN (U 1)=56+toN (U 3)
 l:toL (U 4)=qbr x (55 - x.length)++qdA x.length (toN (U 3))
def qub (x:List D) (j:Nat):(qbr x j).length=x.length+1+j:=by
 unfold qbr;rw[qTN,qT9,qU0];omega
def qS9 {x:List D} (h:qbs x):(JI x).length=64:=by
 unfold JI;obtain⟨h1,h2⟩:=h;rw[qTN,qub,qt9];omega
def qTa:∀m:Nat,m<=56->((((m:Nat):Int).tmod 64) != 56)=false->m=56:=by decide
def qTb (x:List D) (j:Nat):qbr x j++[zD]=qbr x (j+1):=by
 unfold qbr;rw[List.replicate_succ',qTW];rfl
def qjB:Con:={pts:=[Zb2],pre:=[],rts:=[Zcy],post:=[Zgv,.le ZR Zi,.le Zi (.w 0 Zu (.i 80))]}
def qn0:RFn:=mF 281 qjB [⟨3,[ZJ,Zig],[.dat 1 Zd false],[Zb2,.i .i64,.i .i64,Zcy],[.le Za ZQ,.nle Zg ZQ,.le Zih (.w 0 Zu (.i 72)),.le ZQ Zih,.nle (.w 0 Za ZQ) Zam,ZdD],(Zg,.w 1 Zih ZQ,Zk,Za,Za,Za)⟩,⟨7,[Zig,(4,.o (.c (.i .u64) ZkL)),(5,ZbP)],[Zfg],[Zb2,.i .i64,.i .i64,.i .i64,Zcy],[Zah,.le Zd Zaf,ZdF,.le Zgw (.w 0 Zu (.i 72)),.le Zgw ZkM,.le ZkM Zgw,Zks,ZdD],(Za,.w 1 Zaf Zd,Zk,Za,Za,Za)⟩]
def qn1:Tab:=[]
def qTc:qH PP 281 qjB (Ev0 PP qn0 qn1):=fe qn0 qn1 qo (by kernel_rfl) (by refine⟨?_,?_,?_,trivial⟩<;>intro<;>kernel_rfl)
def quc:Con:={qjB with post:=qjB.post++[],fact:=qua}
def qTd:TQ:=.fork (.w 11 Zu Za) (.next [] 0 [Ze,.w 8 Za (.u 0 0 Zii),.w 8 Za (.u 0 0 Zii),Zii]) (.next [] 0 [Ze,ZkN,ZkN,.w 5 (.w 6 (.w 8 Za Zu) (.w 7 Za Ze)) Zii])
def qBF:TQ:=.fork (.w 15 (.w 110 ZQ ZR) (.i 56)) (.next [] 0 [Ze,ZkO,ZkO,.w 5 (.w 6 Zc (.w 7 Za Zd)) (.w 4 ZA .z)]) (.next [] 1 [Ze,Zc,Zb,Za,Zd])
def qBG:TQ:=.fork (.w 10 Zd Zaf) (.next [] 1 [Ze,.w 8 Zc (.u 0 0 ZkP),.w 8 Zc (.u 0 0 ZkP),ZaI,.w 5 Zc2 ZkP]) (.done [] Zc2)
def qTe:qN PP qn0 qn1=[qTd,qBF,qBG]:=by kernel_rfl
def qTf {ds:List D} {d:D} (hp:qG qjB ds) (h:Ev0 PP qn0 qn1 ds d):qua ds d:=by
 intro hl;obtain⟨hl1,hl2⟩:=hl
 refine Yc qTe (I:=fun k U=>match k with
  | 0=>qS7 (toL (qa ds 0)) U|_=>qS8 (toL (qa ds 0)) U) (Q:=fun d=>d=.list (JI (toL (qa ds 0)))) ?_ ?_ h
 ·intro k st q U d hst hq hg hi ht;have h0:=hg.arg 0 (by decide);rcases k with _|_|k
  ·have hq:qBF=q:=by simpa using hq
   subst hq;obtain⟨j,hj,e1,e3⟩:=hi;rcases ht with⟨hlt,_,hn⟩|⟨hge,_,hn⟩
   ·have hlt:((((toN (U 1):Nat):Int).tmod 64) != 56)=true:=hlt;rw[e1]at hlt;have hj2:j≠55 - (toL (qa ds 0)).length:=by
     rintro rfl
     rw[show(toL (qa ds 0)).length+1+(55 - (toL (qa ds 0)).length)=56 by omega]at hlt
     revert hlt
     decide
    refine hn ⟨j+1,by omega,?_,?_⟩
    ·show((toN (U 1)+1:Nat):Int).toNat=(toL (qa ds 0)).length+1+(j+1);rw[qTK];omega
    ·show((toL (U 3)).drop 0).take (toN (U 1))++[zD]=qbr _ (j+1);rw[qTY,e3,e1,qTX (by rw[qub]; exact qTF _),qTb]
   ·have hge:((((toN (U 1):Nat):Int).tmod 64) != 56)=false:=hge;rw[e1]at hge;have hj2:j=55 - (toL (qa ds 0)).length:=by
     have:=qTa _ (by omega) hge;omega
    subst hj2;refine hn ⟨?_,?_,?_,?_⟩
    ·show(0:Int)<=0;decide
    ·show(0:Int)<=8;decide
    ·show toN (U 1)=56+0;omega
    ·show toL (U 3)=qbr _ _++[];rw[qT7,e3]
  ·have hq:qBG=q:=by simpa using hq
   subst hq;obtain⟨i1,i2,i3,i4⟩:=hi;have el:(qbr (toL (qa ds 0)) (55 - (toL (qa ds 0)).length)++qdA (toL (qa ds 0)).length (toN (U 3))).length=56+toN (U 3):=by
    rw[qTN,qub,qt9]; omega
   rcases ht with⟨hlt,_,hn⟩|⟨hge,_,rfl⟩
   ·have hlt:decide (toI (U 3)<8)=true:=hlt;have hlt:=of_decide_eq_true hlt;have e1:(toI (U 3)+1).toNat=toN (U 3)+1:=by unfold toN; omega
    have e2:toI (U 3)=((toN (U 3):Nat):Int):=by unfold toN; omega
    refine hn ⟨?_,?_,?_,?_⟩
    ·show 0<=toI (U 3)+1;omega
    ·show toI (U 3)+1<=8;omega
    ·show((toN (U 1)+1:Nat):Int).toNat=56+(toI (U 3)+1).toNat;rw[qTK,e1];omega
    ·show((toL (U 4)).drop 0).take (toN (U 1))++[.int .u8 (IntKind.u8.wrap ((IntKind.u64.wrap (8*IntKind.u64.wrap ((toL (U 0)).length:Int))).fdiv (2 ^ (min (56 - 8*toI (U 3)).toNat 64))))]=qbr _ _++qdA _ (toI (U 3)+1).toNat;rw[qTY,i4,i3,qTX (by rw[el]; exact qTF _),e1,h0];rw[qS6,<-qTW];unfold qt8;rw[<-e2]
   ·have hge:decide (toI (U 3)<8)=false:=hge;have hge:=of_decide_eq_false hge;have e:toN (U 3)=8:=by unfold toN; omega
    show D.list (((toL (U 4)).drop 0).take (toN (U 1)))=_;rw[qTY,i4,i3,qTX (by rw[el]; exact qTF _),e];rfl
  ·simp at hq
 ·intro d ht;rcases ht with⟨hlt,_,hn⟩|⟨hge,_,hn⟩
  ·have hlt:decide (((toL (qa ds 0)).length:Int)<=0)=true:=hlt;have hlt:=of_decide_eq_true hlt;omega
  ·refine hn ⟨0,qVB _,?_,?_⟩
   ·show((((0+(toL (qa ds 0)).length:Nat):Int).toNat+1:Nat):Int).toNat=(toL (qa ds 0)).length+1+0;rw[qTK,qTK];omega
   ·show((toL (qa ds 0)).drop 0).take ((0+(toL (qa ds 0)).length:Nat):Int).toNat++[.int .u8 128]=qbr _ 0;rw[qTY,qTK,qT6,qUM];rfl
def qTg:qm PP 281 quc:=qTc.more fun ds d hp _ h=>⟨fun f hf=>(by cases hf),qTf hp h⟩
def qa2 (ds:List D) (d:D):Prop:=d=.int .u32 (Jy (toI (qa ds 0)) (toI (qa ds 1)).toNat)
def qjC:Con:={pts:=[.i .u32,.i .i64],pre:=[Zaa,.le Zc ZcR],rts:=[.i .u32],post:=[]}
def qn2:RFn:=mF 283 qjC []
def qn3:Tab:=[]
def qTn:qH PP 283 qjC (Ev0 PP qn2 qn3):=fe qn2 qn3 qo (by kernel_rfl) ⟨fun U=>by kernel_rfl,trivial⟩
def qbt:Con:={qjC with post:=qjC.post++[],fact:=qa2}
def qTo:TQ:=.done [] (.mk (.i .u32) (.w 152 (.w 132 Ze Zc) (.w 122 Ze (.w 1 ZcR Zc))))
def qTp:qN PP qn2 qn3=[qTo]:=by kernel_rfl
def qTq {ds:List D} {d:D} (hp:qG qjC ds) (h:Ev0 PP qn2 qn3 ds d):qa2 ds d:=by
 have h0:0<=toI (qa ds 1):=hp.2 _ (qTR ..);have h1:toI (qa ds 1)<=32:=hp.2 _ (qTG _ (qTR ..));refine Yc qTp (I:=fun k U=>False) (Q:=qa2 ds) (fun k st q U d hst hq hg hi ht=>hi.elim) ?_ h;intro d ht;obtain⟨_,rfl⟩:=ht;unfold qa2 Jy qbO YC;have e1:min (toI (qa ds 1)).toNat 32=(toI (qa ds 1)).toNat:=by omega
 have e2:min (32 - toI (qa ds 1)).toNat 32=32 - (toI (qa ds 1)).toNat:=by omega
 show D.int .u32 (IntKind.u32.wrap (BitVec.ofInt 32 ((toI (qa ds 0)).fdiv (2 ^ min (toI (qa ds 1)).toNat 32))|||BitVec.ofInt 32 (IntKind.u32.wrap (toI (qa ds 0)*2 ^ min (32 - toI (qa ds 1)).toNat 32))).toNat)=_;rw[e1,e2];rfl
def qBH:qm PP 283 qbt:=qTn.more fun ds d hp _ h=>⟨fun f hf=>(by cases hf),qTq hp h⟩
def qoQ (ds:List D) (d:D):Prop:=d=.agg (fW (wS (toL (qa ds 0))) 64)
def qjS:Con:={pts:=[Zcy],pre:=[.nle ZR Zu],rts:=[.g (.ec (.i .u32) (.ec (.i .u32) (.ec (.i .u32) (.ec (.i .u32) (.ec (.i .u32) (.ec (.i .u32) (.ec (.i .u32) (.ec (.i .u32) (.ec (.i .u32) (.ec (.i .u32) (.ec (.i .u32) (.ec (.i .u32) (.ec (.i .u32) (.ec (.i .u32) (.ec (.i .u32) (.ec (.i .u32) (.ec (.i .u32) (.ec (.i .u32) (.ec (.i .u32) (.ec (.i .u32) (.ec (.i .u32) (.ec (.i .u32) (.ec (.i .u32) (.ec (.i .u32) (.ec (.i .u32) (.ec (.i .u32) (.ec (.i .u32) (.ec (.i .u32) (.ec (.i .u32) (.ec (.i .u32) (.ec (.i .u32) (.ec (.i .u32) (.ec (.i .u32) (.ec (.i .u32) (.ec (.i .u32) (.ec (.i .u32) (.ec (.i .u32) (.ec (.i .u32) (.ec (.i .u32) (.ec (.i .u32) (.ec (.i .u32) (.ec (.i .u32) (.ec (.i .u32) (.ec (.i .u32) (.ec (.i .u32) (.ec (.i .u32) (.ec (.i .u32) (.ec (.i .u32) (.ec (.i .u32) (.ec (.i .u32) (.ec (.i .u32) (.ec (.i .u32) (.ec (.i .u32) (.ec (.i .u32) (.ec (.i .u32) (.ec (.i .u32) Zjh))))))))))))))))))))))))))))))))))))))))))))))))))))))))],post:=[]}
def qoR:RFn:=mF 282 qjS [⟨3,[ZJ,Z2,ZbK,(4,ZcU)],Zin,Zio,[.nle ZR Zx,Zaa],(Zg,.w 1 ZaE Zc,Zk,Za,Za,Za)⟩,⟨7,[Z2,ZbK,(5,ZcU)],Zin,Zio,[.le ZaE Zc,.nle ZR Zx],(Za,.w 1 ZR Zc,Zk,Za,Za,Za)⟩]
def qbR:Tab:=[(283,qbt)]
def qY4:qH PP 282 qjS (Ev0 PP qoR qbR):=fe qoR qbR (qj qBH (qo)) (by kernel_rfl) (by refine⟨?_,?_,?_,trivial⟩<;>intro<;>kernel_rfl)
def quH:Con:={qjS with post:=qjS.post++[],fact:=qoQ}
def qY5:TQ:=.next [] 0 [Ze,Za,.w 4 Zn (.w 4 Zn (.w 4 Zn (.w 4 Zn (.w 4 Zn (.w 4 Zn (.w 4 Zn (.w 4 Zn (.w 4 Zn (.w 4 Zn (.w 4 Zn (.w 4 Zn (.w 4 Zn (.w 4 Zn (.w 4 Zn (.w 4 Zn (.w 4 Zn (.w 4 Zn (.w 4 Zn (.w 4 Zn (.w 4 Zn (.w 4 Zn (.w 4 Zn (.w 4 Zn (.w 4 Zn (.w 4 Zn (.w 4 Zn (.w 4 Zn (.w 4 Zn (.w 4 Zn (.w 4 Zn (.w 4 Zn (.w 4 Zn (.w 4 Zn (.w 4 Zn (.w 4 Zn (.w 4 Zn (.w 4 Zn (.w 4 Zn (.w 4 Zn (.w 4 Zn (.w 4 Zn (.w 4 Zn (.w 4 Zn (.w 4 Zn (.w 4 Zn (.w 4 Zn (.w 4 Zn (.w 4 Zn (.w 4 Zn (.w 4 Zn (.w 4 Zn (.w 4 Zn (.w 4 Zn (.w 4 Zn (.w 4 Zn (.w 4 Zn (.w 4 Zn (.w 4 Zn (.w 4 Zn (.w 4 Zn (.w 4 Zn (.w 4 Zn (.w 4 Zn .z)))))))))))))))))))))))))))))))))))))))))))))))))))))))))))))))]
def qCl:TQ:=.fork ZgA (.next [] 0 [Ze,Zbv,.w 21 Zb (.u 2 0 (.w 4 Zag (.w 4 (.mk (.i .u32) (.w 152 (.w 152 (.w 152 (.w 122 (.u 5 2 (.w 3 Ze Zdh)) (.i 24)) (.w 122 (.u 5 2 (.w 3 Ze (.w 0 Zdh Zg))) ZaE)) (.w 122 (.u 5 2 (.w 3 Ze (.w 0 Zdh ZT))) Zaf)) (.u 5 2 (.w 3 Ze (.w 0 Zdh Zai))))) .z)))]) (.next [] 1 [Ze,ZaE,Zb])
def qCm:TQ:=.fork (.w 10 Zc ZR) (.next [(283,[.mk (.i .u32) (.w 3 (.v 2) (.w 1 (.v 1) (.i 15))),.mk (.i .i64) (.i 7)]),(283,[.mk (.i .u32) (.w 3 (.v 2) (.w 1 (.v 1) (.i 15))),.mk (.i .i64) (.i 18)]),(283,[.mk (.i .u32) (.w 3 (.v 2) (.w 1 (.v 1) (.i 2))),.mk (.i .i64) (.i 17)]),(283,[.mk (.i .u32) (.w 3 (.v 2) (.w 1 (.v 1) (.i 2))),.mk (.i .i64) (.i 19)])] 1 [Ze,Zbv,.w 21 Zb (.u 2 0 (.w 4 Zag (.w 4 (.mk (.i .u32) (.u 5 2 (.w 0 (.u 5 2 (.w 0 (.u 5 2 (.w 0 Zk4 (.w 162 (.w 162 (.u 3 283 (.w 4 ZcA (.w 4 (.mk (.i .i64) (.i 7)) .z))) (.u 3 283 (.w 4 ZcA (.w 4 (.mk (.i .i64) (.i 18)) .z)))) (.w 132 ZkY Zai)))) Zk5)) (.w 162 (.w 162 (.u 3 283 (.w 4 ZcB (.w 4 (.mk (.i .i64) (.i 17)) .z))) (.u 3 283 (.w 4 ZcB (.w 4 (.mk (.i .i64) (.i 19)) .z)))) (.w 132 Zk1 Zb5))))) .z)))]) (.done [] (.u 2 0 (.w 4 (.mk (.i .u32) (.w 3 Zb Za)) (.w 4 (.mk (.i .u32) (.w 3 Zb Zg)) (.w 4 (.mk (.i .u32) (.w 3 Zb ZT)) (.w 4 (.mk (.i .u32) (.w 3 Zb Zai)) (.w 4 (.mk (.i .u32) (.w 3 Zb Z4)) (.w 4 (.mk (.i .u32) (.w 3 Zb (.i 5))) (.w 4 (.mk (.i .u32) (.w 3 Zb (.i 6))) (.w 4 (.mk (.i .u32) (.w 3 Zb (.i 7))) (.w 4 (.mk (.i .u32) (.w 3 Zb Zaf)) (.w 4 (.mk (.i .u32) (.w 3 Zb (.i 9))) (.w 4 (.mk (.i .u32) (.w 3 Zb Zb5)) (.w 4 (.mk (.i .u32) (.w 3 Zb (.i 11))) (.w 4 (.mk (.i .u32) (.w 3 Zb (.i 12))) (.w 4 (.mk (.i .u32) (.w 3 Zb (.i 13))) (.w 4 (.mk (.i .u32) (.w 3 Zb (.i 14))) (.w 4 (.mk (.i .u32) (.w 3 Zb (.i 15))) (.w 4 (.mk (.i .u32) (.w 3 Zb ZaE)) (.w 4 (.mk (.i .u32) (.w 3 Zb (.i 17))) (.w 4 (.mk (.i .u32) (.w 3 Zb (.i 18))) (.w 4 (.mk (.i .u32) (.w 3 Zb (.i 19))) (.w 4 (.mk (.i .u32) (.w 3 Zb (.i 20))) (.w 4 (.mk (.i .u32) (.w 3 Zb (.i 21))) (.w 4 (.mk (.i .u32) (.w 3 Zb (.i 22))) (.w 4 (.mk (.i .u32) (.w 3 Zb (.i 23))) (.w 4 (.mk (.i .u32) (.w 3 Zb (.i 24))) (.w 4 (.mk (.i .u32) (.w 3 Zb (.i 25))) (.w 4 (.mk (.i .u32) (.w 3 Zb (.i 26))) (.w 4 (.mk (.i .u32) (.w 3 Zb (.i 27))) (.w 4 (.mk (.i .u32) (.w 3 Zb (.i 28))) (.w 4 (.mk (.i .u32) (.w 3 Zb (.i 29))) (.w 4 (.mk (.i .u32) (.w 3 Zb (.i 30))) (.w 4 (.mk (.i .u32) (.w 3 Zb (.i 31))) (.w 4 (.mk (.i .u32) (.w 3 Zb ZcR)) (.w 4 (.mk (.i .u32) (.w 3 Zb (.i 33))) (.w 4 (.mk (.i .u32) (.w 3 Zb (.i 34))) (.w 4 (.mk (.i .u32) (.w 3 Zb (.i 35))) (.w 4 (.mk (.i .u32) (.w 3 Zb (.i 36))) (.w 4 (.mk (.i .u32) (.w 3 Zb (.i 37))) (.w 4 (.mk (.i .u32) (.w 3 Zb (.i 38))) (.w 4 (.mk (.i .u32) (.w 3 Zb (.i 39))) (.w 4 (.mk (.i .u32) (.w 3 Zb (.i 40))) (.w 4 (.mk (.i .u32) (.w 3 Zb (.i 41))) (.w 4 (.mk (.i .u32) (.w 3 Zb (.i 42))) (.w 4 (.mk (.i .u32) (.w 3 Zb (.i 43))) (.w 4 (.mk (.i .u32) (.w 3 Zb (.i 44))) (.w 4 (.mk (.i .u32) (.w 3 Zb (.i 45))) (.w 4 (.mk (.i .u32) (.w 3 Zb (.i 46))) (.w 4 (.mk (.i .u32) (.w 3 Zb (.i 47))) (.w 4 (.mk (.i .u32) (.w 3 Zb (.i 48))) (.w 4 (.mk (.i .u32) (.w 3 Zb (.i 49))) (.w 4 (.mk (.i .u32) (.w 3 Zb (.i 50))) (.w 4 (.mk (.i .u32) (.w 3 Zb (.i 51))) (.w 4 (.mk (.i .u32) (.w 3 Zb (.i 52))) (.w 4 (.mk (.i .u32) (.w 3 Zb (.i 53))) (.w 4 (.mk (.i .u32) (.w 3 Zb (.i 54))) (.w 4 (.mk (.i .u32) (.w 3 Zb (.i 55))) (.w 4 (.mk (.i .u32) (.w 3 Zb (.i 56))) (.w 4 (.mk (.i .u32) (.w 3 Zb (.i 57))) (.w 4 (.mk (.i .u32) (.w 3 Zb (.i 58))) (.w 4 (.mk (.i .u32) (.w 3 Zb (.i 59))) (.w 4 (.mk (.i .u32) (.w 3 Zb ZbM)) (.w 4 (.mk (.i .u32) (.w 3 Zb (.i 61))) (.w 4 (.mk (.i .u32) (.w 3 Zb (.i 62))) (.w 4 (.mk (.i .u32) (.w 3 Zb (.i 63))) .z))))))))))))))))))))))))))))))))))))))))))))))))))))))))))))))))))
def qY6:qN PP qoR qbR=[qY5,qCl,qCm]:=by kernel_rfl
def qY7 {ds:List D} {d:D} (hp:qG qjS ds) (h:Ev0 PP qoR qbR ds d):qoQ ds d:=by
 refine Yc qY6 (I:=fun k U=>toL (U 2)=fW (wS (toL (qa ds 0))) (toN (U 1))/\0<=toI (U 1)/\match k with
  | 0=>toI (U 1)<=16|_=>16<=toI (U 1)/\toI (U 1)<=64) (Q:=qoQ ds) ?_ ?_ h
 ·intro k st q U d hst hq hg hi ht;have h0:=hg.arg 0 (by decide);rcases k with _|_|k
  ·have hq:qCl=q:=by simpa using hq
   subst hq;obtain⟨i1,i2,i3⟩:=hi;rcases ht with⟨hlt,_,hn⟩|⟨hge,_,hn⟩
   ·have hlt:decide (toI (U 1)<16)=true:=hlt;have hlt:=of_decide_eq_true hlt;refine hn ⟨?_,?_,?_⟩
    ·show(toL (U 2)).set (toN (U 1)) (.int .u32 (M44.orI (M44.orI (M44.orI (YC (u32 (gw (toL (U 0)) (4*toI (U 1)).toNat)) 24) (YC (u32 (gw (toL (U 0)) (4*toI (U 1)+1).toNat)) 16)) (YC (u32 (gw (toL (U 0)) (4*toI (U 1)+2).toNat)) 8)) (u32 (gw (toL (U 0)) (4*toI (U 1)+3).toNat))))=fW _ (toI (U 1)+1).toNat;have e0:(4*toI (U 1)).toNat=4*toN (U 1):=by unfold toN; omega
     have e1:(4*toI (U 1)+1).toNat=4*toN (U 1)+1:=by unfold toN; omega
     have e2:(4*toI (U 1)+2).toNat=4*toN (U 1)+2:=by unfold toN; omega
     have e3:(4*toI (U 1)+3).toNat=4*toN (U 1)+3:=by unfold toN; omega
     have e4:(toI (U 1)+1).toNat=toN (U 1)+1:=by unfold toN; omega
     have e5:Nat.blt (toN (U 1)) 16=true:=by rw[qT0]; unfold toN; omega
     rw[e0,e1,e2,e3,e4,i1,h0];rw[qjd,qAv e5]
    ·show 0<=toI (U 1)+1;omega
    ·show toI (U 1)+1<=16;omega
   ·have hge:decide (toI (U 1)<16)=false:=hge;have hge:=of_decide_eq_false hge;refine hn ⟨?_,?_,?_,?_⟩
    ·have i3:toI (U 1)<=16:=i3;have e:toN (U 1)=16:=by unfold toN; omega
     rw[e]at i1;exact i1
    ·show(0:Int)<=16;decide
    ·show(16:Int)<=16;decide
    ·show(16:Int)<=64;decide
  ·have hq:qCm=q:=by simpa using hq
   subst hq;obtain⟨i1,i2,i3,i4⟩:=hi;rcases ht with⟨hlt,hc,hn⟩|⟨hge,_,rfl⟩
   ·have hlt:decide (toI (U 1)<64)=true:=hlt;have hlt:=of_decide_eq_true hlt;refine hn ⟨?_,?_,?_,?_⟩
    ·obtain⟨c1,c2,c3,c4,_⟩:=hc;have f1:qa2 _ _:=(c1 qbt rfl).2.2;have f2:qa2 _ _:=(c2 qbt rfl).2.2;have f3:qa2 _ _:=(c3 qbt rfl).2.2;have f4:qa2 _ _:=(c4 qbt rfl).2.2;show(toL (U 2)).set (toN (U 1)) (.int .u32 (qB (qB (qB (gw (toL (U 2)) (toI (U 1) - 16).toNat) (M44.qF (M44.qF (toI (wOf PP qbR 283 (List.map (T.den (wOf PP qbR) U) [(.mk (.i .u32) (.w 3 (.v 2) (.w 1 (.v 1) (.i 15)))),(.mk (.i .i64) (.i 7))]))) (toI (wOf PP qbR 283 (List.map (T.den (wOf PP qbR) U) [(.mk (.i .u32) (.w 3 (.v 2) (.w 1 (.v 1) (.i 15)))),(.mk (.i .i64) (.i 18))])))) (qbO (gw (toL (U 2)) (toI (U 1) - 15).toNat) 3))) (gw (toL (U 2)) (toI (U 1) - 7).toNat)) (M44.qF (M44.qF (toI (wOf PP qbR 283 (List.map (T.den (wOf PP qbR) U) [(.mk (.i .u32) (.w 3 (.v 2) (.w 1 (.v 1) (.i 2)))),(.mk (.i .i64) (.i 17))]))) (toI (wOf PP qbR 283 (List.map (T.den (wOf PP qbR) U) [(.mk (.i .u32) (.w 3 (.v 2) (.w 1 (.v 1) (.i 2)))),(.mk (.i .i64) (.i 19))])))) (qbO (gw (toL (U 2)) (toI (U 1) - 2).toNat) 10))))=fW _ (toI (U 1)+1).toNat;rw[f1,f2,f3,f4];show(toL (U 2)).set (toN (U 1)) (.int .u32 (qB (qB (qB (gw (toL (U 2)) (toI (U 1) - 16).toNat) (M44.qF (M44.qF (Jy (gw (toL (U 2)) (toI (U 1) - 15).toNat) 7) (Jy (gw (toL (U 2)) (toI (U 1) - 15).toNat) 18)) (qbO (gw (toL (U 2)) (toI (U 1) - 15).toNat) 3))) (gw (toL (U 2)) (toI (U 1) - 7).toNat)) (M44.qF (M44.qF (Jy (gw (toL (U 2)) (toI (U 1) - 2).toNat) 17) (Jy (gw (toL (U 2)) (toI (U 1) - 2).toNat) 19)) (qbO (gw (toL (U 2)) (toI (U 1) - 2).toNat) 10))))=fW _ (toI (U 1)+1).toNat;have e0:(toI (U 1) - 16).toNat=toN (U 1) - 16:=by unfold toN; omega
     have e1:(toI (U 1) - 15).toNat=toN (U 1) - 15:=by unfold toN; omega
     have e2:(toI (U 1) - 7).toNat=toN (U 1) - 7:=by unfold toN; omega
     have e3:(toI (U 1) - 2).toNat=toN (U 1) - 2:=by unfold toN; omega
     have e4:(toI (U 1)+1).toNat=toN (U 1)+1:=by unfold toN; omega
     have e5:Nat.blt (toN (U 1)) 16=false:=by
      rw[<-Bool.not_eq_true,qT0]; unfold toN; omega
     rw[e0,e1,e2,e3,e4,i1];rw[qjd,qAw e5];rfl
    ·show 0<=toI (U 1)+1;omega
    ·show 16<=toI (U 1)+1;omega
    ·show toI (U 1)+1<=64;omega
   ·have hge:decide (toI (U 1)<64)=false:=hge;have hge:=of_decide_eq_false hge;have e:toN (U 1)=64:=by unfold toN; omega
    rw[e]at i1;show D.agg ((List.range 64).map fun i=>(K.i .u32).den ((toL (U 2)).getD i .nilp))=_;rw[i1,qmS (qg7 _ 64) (qje _ 64)]
  ·simp at hq
 ·intro d ht;refine ht.2 ⟨rfl,?_,?_⟩
  ·show(0:Int)<=0;decide
  ·show(0:Int)<=16;decide
def qY8:qm PP 282 quH:=qY4.more fun ds d hp _ h=>⟨fun f hf=>(by cases hf),qY7 hp h⟩
def ivL:List D:=[wd 1779033703,wd 3144134277,wd 1013904242,wd 2773480762,wd 1359893119,wd 2600822924,wd 528734635,wd 1541459225]
def qoF (s:List D) (i:Int):D:=.int .u8 (IntKind.u8.wrap ((gw s (IntKind.i64.wrap (i.tdiv 4)).toNat).fdiv (2 ^ (min (24 - 8*i.tmod 4).toNat 32))))
def Y0 (s:List D):Nat->List D
 | 0=>List.replicate 32 zD|i+1=>(Y0 s i).set i (qoF s i)
def qjK (s:List D):∀i,(Y0 s i).length=32
 | 0=>by simp[Y0]
 | i+1=>by unfold Y0; rw[qUI,qjK s i]
def qoG (s:List D):∀t,∀x∈Y0 s t,∃n:Int,x=.int .u8 n
 | 0,x,h=>⟨0,qVK h⟩|t+1,x,h=>by
  unfold Y0 at h;rcases qVb h with h|h
  ·exact qoG s t x h
  ·exact⟨_,h⟩
def quu {ws:List D} (hl:ws.length=32) (hi:∀x∈ws,∃n:Int,x=.int .u8 n):((List.range 32).map fun i=>(K.i .u8).den (ws.getD i .nilp))=ws:=by
 refine qU6 (by simp[hl]) fun j h1 h2=>?_
 rw[qVI,qVJ,zzG,qTE h2];obtain⟨n,hn⟩:=hi _ (qTL h2);rw[qTT,hn];rfl
def qX6 {ws:List D} (hl:ws.length=64) (hi:∀x∈ws,∃n:Int,x=.int .u32 n):((List.range 64).map fun i=>(K.i .u32).den (cel (.agg ws) i))=ws:=qmS hl hi
def quv (ds:List D) (d:D):Prop:=qbs (toL (qa ds 0))->d=.agg (Y0 (qao (JI (toL (qa ds 0))) ivL) 32)
structure qX7 (b:List D) (U:Nat->D):Prop where
 l:toL (U 1)=b
 s:(toI (U 2)=0/\toL (U 3)=ivL)\/(toI (U 2)=64/\toL (U 3)=qao b ivL)
structure qX8 (b:List D) (U:Nat->D):Prop where
 l:toL (U 1)=b
 z:toI (U 2)=0
 lo:0<=toI (U 3)
 hi:toI (U 3)<=64
 s:toL (U 4)=ivL
 w:toL (U 5)=fW (wS b) 64
 v:toL (U 6)=qaG (fW (wS b) 64) ivL (toN (U 3))
structure qX9 (b:List D) (U:Nat->D):Prop where
 lo:0<=toI (U 1)
 hi:toI (U 1)<=32
 s:toL (U 2)=qao b ivL
 o:toL (U 3)=Y0 (qao b ivL) (toN (U 1))
structure qYa (b:List D) (U:Nat->D):Prop where
 l:toL (U 1)=b
 z:toI (U 2)=0
 lo:0<=toI (U 3)
 hi:toI (U 3)<=8
 s:toL (U 4)=qfG (qaG (fW (wS b) 64) ivL 64) ivL (toN (U 3))
 v:toL (U 5)=qaG (fW (wS b) 64) ivL 64
def qjL:Con:={pts:=[Zb2],pre:=[],rts:=[.g (.ec .y8 (.ec .y8 (.ec .y8 (.ec .y8 (.ec .y8 (.ec .y8 (.ec .y8 (.ec .y8 (.ec .y8 (.ec .y8 (.ec .y8 (.ec .y8 (.ec .y8 (.ec .y8 (.ec .y8 (.ec .y8 (.ec .y8 (.ec .y8 (.ec .y8 (.ec .y8 (.ec .y8 (.ec .y8 (.ec .y8 (.ec .y8 (.ec .y8 (.ec .y8 (.ec .y8 (.ec .y8 (.ec .y8 (.ec .y8 (.ec .y8 (.ec .y8 .e0))))))))))))))))))))))))))))))))],post:=[]}
def qdB:RFn:=mF 190 qjL [⟨4,[Z2,ZbK,(4,ZgO),ZaP],[ZgI,.arr 8 (.i .u32) Zd false],[Zb2,Zcy,.i .i64,Zc0],[Z3,Zir,Zgv,.nle Zaf Zam],(Zg,Zis,Zk,Za,Za,Za)⟩,⟨9,[Z2,ZbK,(4,ZgO),ZaP,(6,ZcV),ZdB,(8,ZbP)],[ZgI,.arr 8 (.i .u32) Zf false,.arr 64 (.i .u32) Zj false,.arr 8 (.i .u32) Zt false],[Zb2,Zcy,.i .i64,.i .i64,Zc0,ZfI,Zc0],[Z3,Zir,Zgv,Zgn,Zah,.nle Zaf ZL,.nle ZR Zan,.nle Zaf Zab],(Zg,Zis,Zg,.w 1 ZR Zd,Zk,Za)⟩,⟨20,[Z2,ZbK,(12,ZcV),(13,ZcU)],[ZgI,.arr 8 (.i .u32) Zb false,.arr 32 (.i .u8) Zd false],[Zb2,.i .i64,Zc0,.l 32 .y8],[.nle Zaf Zx,.nle ZcR Zam,Zaa],(Za,.w 1 ZcR Zc,Zk,Za,Za,Za)⟩,⟨15,[Z2,ZbK,(4,ZgO),ZaP,(7,ZcV),(11,ZbP)],[ZgI,.arr 8 (.i .u32) Zf false,.arr 8 (.i .u32) Zj false],[Zb2,Zcy,.i .i64,.i .i64,Zc0,Zc0],[Z3,Zir,Zgv,Zgn,.nle Zaf ZL,.nle Zaf Zan,Zah],(Zg,Zis,Za,.w 1 Zaf Zd,Zk,Za)⟩]
def qY:Tab:=[(281,quc),(282,quH),(283,qbt)]
def qYb:qbh PP qdB qY=true:=by kernel_rfl
def qYc:chX PP qdB qY 0=true:=by kernel_rfl
def qYd:chX PP qdB qY 1=true:=by kernel_rfl
def qYe:chX PP qdB qY 2=true:=by kernel_rfl
def qYf:chX PP qdB qY 3=true:=by kernel_rfl
def qYg:qH PP 190 qjL (Ev0 PP qdB qY):=fe qdB qY (qj qTg (qj qY8 (qj qBH (qo)))) (qb8 qYb ⟨qYc,qYd,qYe,qYf,trivial⟩) (by refine⟨?_,?_,?_,?_,?_,trivial⟩<;>intro<;>kernel_rfl)
def quw:Con:={qjL with post:=qjL.post++[],fact:=quv}
def qYh:TQ:=.next [(281,[.mk .l (.v 0)])] 0 [Ze,.u 3 281 (.w 4 Zdg .z),Za,.w 4 (.mk (.i .u32) (.i 1779033703)) (.w 4 (.mk (.i .u32) (.i 3144134277)) (.w 4 (.mk (.i .u32) (.i 1013904242)) (.w 4 (.mk (.i .u32) (.i 2773480762)) (.w 4 (.mk (.i .u32) (.i 1359893119)) (.w 4 (.mk (.i .u32) (.i 2600822924)) (.w 4 (.mk (.i .u32) (.i 528734635)) (.w 4 (.mk (.i .u32) (.i 1541459225)) .z)))))))]
def qoH:TQ:=.fork (.w 10 Zb Zi) (.next [(282,[.mk .l (.w 6 (.w 9 (.w 0 (.v 2) (.i 64)) (.v 2)) (.w 7 (.v 2) (.v 1)))])] 1 [Ze,Zc,Zb,Za,Zd,.w 4 (.mk (.i .u32) (.u 1 0 Zo)) (.w 4 (.mk (.i .u32) (.u 1 1 Zo)) (.w 4 (.mk (.i .u32) (.u 1 2 Zo)) (.w 4 (.mk (.i .u32) (.u 1 3 Zo)) (.w 4 (.mk (.i .u32) (.u 1 4 Zo)) (.w 4 (.mk (.i .u32) (.u 1 5 Zo)) (.w 4 (.mk (.i .u32) (.u 1 6 Zo)) (.w 4 (.mk (.i .u32) (.u 1 7 Zo)) (.w 4 (.mk (.i .u32) (.u 1 8 Zo)) (.w 4 (.mk (.i .u32) (.u 1 9 Zo)) (.w 4 (.mk (.i .u32) (.u 1 10 Zo)) (.w 4 (.mk (.i .u32) (.u 1 11 Zo)) (.w 4 (.mk (.i .u32) (.u 1 12 Zo)) (.w 4 (.mk (.i .u32) (.u 1 13 Zo)) (.w 4 (.mk (.i .u32) (.u 1 14 Zo)) (.w 4 (.mk (.i .u32) (.u 1 15 Zo)) (.w 4 (.mk (.i .u32) (.u 1 16 Zo)) (.w 4 (.mk (.i .u32) (.u 1 17 Zo)) (.w 4 (.mk (.i .u32) (.u 1 18 Zo)) (.w 4 (.mk (.i .u32) (.u 1 19 Zo)) (.w 4 (.mk (.i .u32) (.u 1 20 Zo)) (.w 4 (.mk (.i .u32) (.u 1 21 Zo)) (.w 4 (.mk (.i .u32) (.u 1 22 Zo)) (.w 4 (.mk (.i .u32) (.u 1 23 Zo)) (.w 4 (.mk (.i .u32) (.u 1 24 Zo)) (.w 4 (.mk (.i .u32) (.u 1 25 Zo)) (.w 4 (.mk (.i .u32) (.u 1 26 Zo)) (.w 4 (.mk (.i .u32) (.u 1 27 Zo)) (.w 4 (.mk (.i .u32) (.u 1 28 Zo)) (.w 4 (.mk (.i .u32) (.u 1 29 Zo)) (.w 4 (.mk (.i .u32) (.u 1 30 Zo)) (.w 4 (.mk (.i .u32) (.u 1 31 Zo)) (.w 4 (.mk (.i .u32) (.u 1 32 Zo)) (.w 4 (.mk (.i .u32) (.u 1 33 Zo)) (.w 4 (.mk (.i .u32) (.u 1 34 Zo)) (.w 4 (.mk (.i .u32) (.u 1 35 Zo)) (.w 4 (.mk (.i .u32) (.u 1 36 Zo)) (.w 4 (.mk (.i .u32) (.u 1 37 Zo)) (.w 4 (.mk (.i .u32) (.u 1 38 Zo)) (.w 4 (.mk (.i .u32) (.u 1 39 Zo)) (.w 4 (.mk (.i .u32) (.u 1 40 Zo)) (.w 4 (.mk (.i .u32) (.u 1 41 Zo)) (.w 4 (.mk (.i .u32) (.u 1 42 Zo)) (.w 4 (.mk (.i .u32) (.u 1 43 Zo)) (.w 4 (.mk (.i .u32) (.u 1 44 Zo)) (.w 4 (.mk (.i .u32) (.u 1 45 Zo)) (.w 4 (.mk (.i .u32) (.u 1 46 Zo)) (.w 4 (.mk (.i .u32) (.u 1 47 Zo)) (.w 4 (.mk (.i .u32) (.u 1 48 Zo)) (.w 4 (.mk (.i .u32) (.u 1 49 Zo)) (.w 4 (.mk (.i .u32) (.u 1 50 Zo)) (.w 4 (.mk (.i .u32) (.u 1 51 Zo)) (.w 4 (.mk (.i .u32) (.u 1 52 Zo)) (.w 4 (.mk (.i .u32) (.u 1 53 Zo)) (.w 4 (.mk (.i .u32) (.u 1 54 Zo)) (.w 4 (.mk (.i .u32) (.u 1 55 Zo)) (.w 4 (.mk (.i .u32) (.u 1 56 Zo)) (.w 4 (.mk (.i .u32) (.u 1 57 Zo)) (.w 4 (.mk (.i .u32) (.u 1 58 Zo)) (.w 4 (.mk (.i .u32) (.u 1 59 Zo)) (.w 4 (.mk (.i .u32) (.u 1 60 Zo)) (.w 4 (.mk (.i .u32) (.u 1 61 Zo)) (.w 4 (.mk (.i .u32) (.u 1 62 Zo)) (.w 4 (.mk (.i .u32) (.u 1 63 Zo)) .z))))))))))))))))))))))))))))))))))))))))))))))))))))))))))))))),Zd]) (.next [] 2 [Ze,Za,Zd,.w 4 ZA (.w 4 ZA (.w 4 ZA (.w 4 ZA (.w 4 ZA (.w 4 ZA (.w 4 ZA (.w 4 ZA (.w 4 ZA (.w 4 ZA (.w 4 ZA (.w 4 ZA (.w 4 ZA (.w 4 ZA (.w 4 ZA (.w 4 ZA Zia)))))))))))))))])
def qCe:TQ:=.fork (.w 10 Zd ZR) (.next [(283,[.mk (.i .u32) (.w 3 (.v 6) (.i 4)),.mk (.i .i64) (.i 6)]),(283,[.mk (.i .u32) (.w 3 (.v 6) (.i 4)),.mk (.i .i64) (.i 11)]),(283,[.mk (.i .u32) (.w 3 (.v 6) (.i 4)),.mk (.i .i64) (.i 25)]),(283,[.mk (.i .u32) (.w 3 (.v 6) (.i 0)),.mk (.i .i64) (.i 2)]),(283,[.mk (.i .u32) (.w 3 (.v 6) (.i 0)),.mk (.i .i64) (.i 13)]),(283,[.mk (.i .u32) (.w 3 (.v 6) (.i 0)),.mk (.i .i64) (.i 22)])] 1 [Ze,Zc,Zb,ZaI,Zf,Zj,.w 4 (.mk (.i .u32) (.u 5 2 (.w 0 Zlz (.u 5 2 (.w 0 (.w 162 (.w 162 (.u 3 283 (.w 4 Zdj (.w 4 ZfL .z))) (.u 3 283 (.w 4 Zdj (.w 4 ZfM .z)))) (.u 3 283 (.w 4 Zdj (.w 4 Zhq .z)))) (.w 162 (.w 162 (.w 142 ZfY Ziu) (.w 142 ZfY Ziv)) (.w 142 Ziu Ziv))))))) (.w 4 Zdj (.w 4 (.mk (.i .u32) Ziu) (.w 4 (.mk (.i .u32) Ziv) (.w 4 (.mk (.i .u32) (.u 5 2 (.w 0 (.w 3 Zt Zai) Zlz))) (.w 4 Zdi (.w 4 (.mk (.i .u32) (.w 3 Zt (.i 5))) (.w 4 (.mk (.i .u32) (.w 3 Zt (.i 6))) .z)))))))]) (.next [] 3 [Ze,Zc,Zb,Za,Zf,Zt])
def qCf:TQ:=.fork (.w 10 Zc ZcR) (.next [] 2 [Ze,Zbv,Zb,.w 21 Zd (.u 2 0 (.w 4 Zag (.w 4 (.mk (.i .u8) (.u 5 1 (.w 132 (.w 3 Zb (.w 100 Zc Z4)) (.w 1 (.i 24) (.w 2 Zaf (.w 110 Zc Z4)))))) .z)))]) (.done [] (.u 2 0 (.w 4 Zk8 (.w 4 Zk9 (.w 4 Zla (.w 4 Zlb (.w 4 Zlc (.w 4 Zld (.w 4 Zle (.w 4 Zlf (.w 4 Zlg (.w 4 Zlh (.w 4 Zli (.w 4 Zlj (.w 4 Zlk (.w 4 Zll (.w 4 Zlm (.w 4 Zln (.w 4 (.mk (.i .u8) (.w 3 Zd ZaE)) (.w 4 (.mk (.i .u8) (.w 3 Zd (.i 17))) (.w 4 (.mk (.i .u8) (.w 3 Zd (.i 18))) (.w 4 (.mk (.i .u8) (.w 3 Zd (.i 19))) (.w 4 (.mk (.i .u8) (.w 3 Zd (.i 20))) (.w 4 (.mk (.i .u8) (.w 3 Zd (.i 21))) (.w 4 (.mk (.i .u8) (.w 3 Zd (.i 22))) (.w 4 (.mk (.i .u8) (.w 3 Zd (.i 23))) (.w 4 (.mk (.i .u8) (.w 3 Zd (.i 24))) (.w 4 (.mk (.i .u8) (.w 3 Zd (.i 25))) (.w 4 (.mk (.i .u8) (.w 3 Zd (.i 26))) (.w 4 (.mk (.i .u8) (.w 3 Zd (.i 27))) (.w 4 (.mk (.i .u8) (.w 3 Zd (.i 28))) (.w 4 (.mk (.i .u8) (.w 3 Zd (.i 29))) (.w 4 (.mk (.i .u8) (.w 3 Zd (.i 30))) (.w 4 (.mk (.i .u8) (.w 3 Zd (.i 31))) .z))))))))))))))))))))))))))))))))))
def qCg:TQ:=.fork (.w 10 Zd Zaf) (.next [] 3 [Ze,Zc,Zb,ZaI,.w 21 Zf (.u 2 0 (.w 4 Zeg (.w 4 (.mk (.i .u32) (.u 5 2 (.w 0 (.w 3 Zf Zd) (.w 3 Zj Zd)))) .z))),Zj]) (.next [] 0 [Ze,Zc,.w 0 Zb ZR,Zf])
def qYi:qN PP qdB qY=[qYh,qoH,qCe,qCf,qCg]:=by kernel_rfl
def qCh (k:Nat):TQ->T
 | .fork _ (.next _ _ l) _=>l.getD k .z|_=>.z
def qYj (U:Nat->D):toL ((qCh 5 qoH).den (wOf PP qY) U)=(List.range 64).map fun i=>(K.i .u32).den (cel (wOf PP qY 282 [.list (((toL (U 1)).drop (toI (U 2)).toNat).take ((((toI (U 2)+64).toNat - (toI (U 2)).toNat:Nat):Int).toNat))]) i):=by kernel_rfl
def qYk {ds:List D} {d:D} (hp:qG qjL ds) (h:Ev0 PP qdB qY ds d):quv ds d:=by
 intro hl;have hbl:(JI (toL (qa ds 0))).length=64:=qS9 hl
 refine Yc qYi (I:=fun k U=>match k with
  | 0=>qX7 (JI (toL (qa ds 0))) U|1=>qX8 (JI (toL (qa ds 0))) U|2=>qX9 (JI (toL (qa ds 0))) U|_=>qYa (JI (toL (qa ds 0))) U) (Q:=fun d=>d=.agg (Y0 (qao (JI (toL (qa ds 0))) ivL) 32)) ?_ ?_ h
 ·intro k st q U d hst hq hg hi ht;rcases k with _|_|_|_|k
  ·have hq:qoH=q:=by simpa using hq
   subst hq;obtain⟨i1,i2⟩:=hi;rcases ht with⟨hlt,hc,hn⟩|⟨hge,_,hn⟩
   ·have hlt:decide (toI (U 2)<((toL (U 1)).length:Int))=true:=hlt;rw[i1,hbl]at hlt;have hlt:=of_decide_eq_true hlt;rcases i2 with⟨z,s⟩|⟨z,s⟩
    ·obtain⟨c1,_⟩:=hc;have f1:qoQ _ _:=(c1 quH rfl).2.2;have f1:wOf PP qY 282 [.list (((toL (U 1)).drop (toI (U 2)).toNat).take ((((toI (U 2)+64).toNat - (toI (U 2)).toNat:Nat):Int).toNat))]=.agg (fW (wS (((toL (U 1)).drop (toI (U 2)).toNat).take ((((toI (U 2)+64).toNat - (toI (U 2)).toNat:Nat):Int).toNat))) 64):=f1;refine hn ⟨i1,z,?_,?_,s,?_,s⟩
     ·show(0:Int)<=0;decide
     ·show(0:Int)<=64;decide
     ·show toL ((qCh 5 qoH).den (wOf PP qY) U)=fW (wS (JI (toL (qa ds 0)))) 64;rw[qYj,f1,qX6 (qg7 _ 64) (qje _ 64),z,i1];have e:(((((0:Int)+64).toNat - (0:Int).toNat:Nat):Int).toNat)=64:=by decide
      rw[e];show fW (wS (((JI (toL (qa ds 0))).drop 0).take 64)) 64=_;rw[qTY,qTX (by rw[hbl]; exact qTF _)]
    ·rw[z]at hlt;exact absurd hlt (by decide)
   ·have hge:decide (toI (U 2)<((toL (U 1)).length:Int))=false:=hge;rw[i1,hbl]at hge;have hge:=of_decide_eq_false hge;rcases i2 with⟨z,s⟩|⟨z,s⟩
    ·rw[z]at hge;exact absurd (by decide) hge
    ·refine hn ⟨?_,?_,s,rfl⟩
     ·show(0:Int)<=0;decide
     ·show(0:Int)<=32;decide
  ·have hq:qCe=q:=by simpa using hq
   subst hq;obtain⟨i1,i2,i3,i4,i5,i6,i7⟩:=hi;rcases ht with⟨hlt,hc,hn⟩|⟨hge,_,hn⟩
   ·have hlt:decide (toI (U 3)<64)=true:=hlt;have hlt:=of_decide_eq_true hlt;obtain⟨c1,c2,c3,c4,c5,c6,_⟩:=hc;have f1:qa2 _ _:=(c1 qbt rfl).2.2;have f2:qa2 _ _:=(c2 qbt rfl).2.2;have f3:qa2 _ _:=(c3 qbt rfl).2.2;have f4:qa2 _ _:=(c4 qbt rfl).2.2;have f5:qa2 _ _:=(c5 qbt rfl).2.2;have f6:qa2 _ _:=(c6 qbt rfl).2.2;have g1:toI (wOf PP qY 283 (List.map (T.den (wOf PP qY) U) [(.mk (.i .u32) (.w 3 (.v 6) (.i 4))),(.mk (.i .i64) (.i 6))]))=Jy (gw (toL (U 6)) 4) 6:=congrArg toI f1;have g2:toI (wOf PP qY 283 (List.map (T.den (wOf PP qY) U) [(.mk (.i .u32) (.w 3 (.v 6) (.i 4))),(.mk (.i .i64) (.i 11))]))=Jy (gw (toL (U 6)) 4) 11:=congrArg toI f2;have g3:toI (wOf PP qY 283 (List.map (T.den (wOf PP qY) U) [(.mk (.i .u32) (.w 3 (.v 6) (.i 4))),(.mk (.i .i64) (.i 25))]))=Jy (gw (toL (U 6)) 4) 25:=congrArg toI f3;have g4:toI (wOf PP qY 283 (List.map (T.den (wOf PP qY) U) [(.mk (.i .u32) (.w 3 (.v 6) (.i 0))),(.mk (.i .i64) (.i 2))]))=Jy (gw (toL (U 6)) 0) 2:=congrArg toI f4;have g5:toI (wOf PP qY 283 (List.map (T.den (wOf PP qY) U) [(.mk (.i .u32) (.w 3 (.v 6) (.i 0))),(.mk (.i .i64) (.i 13))]))=Jy (gw (toL (U 6)) 0) 13:=congrArg toI f5;have g6:toI (wOf PP qY 283 (List.map (T.den (wOf PP qY) U) [(.mk (.i .u32) (.w 3 (.v 6) (.i 0))),(.mk (.i .i64) (.i 22))]))=Jy (gw (toL (U 6)) 0) 22:=congrArg toI f6;have e1:(toI (U 3)+1).toNat=toN (U 3)+1:=by unfold toN; omega
    refine hn ⟨i1,i2,?_,?_,i5,i6,?_⟩
    ·show 0<=toI (U 3)+1;omega
    ·show toI (U 3)+1<=64;omega
    ·show[wd (qB (qB (qB (qB (qB (gw (toL (U 6)) 7) (M44.qF (M44.qF (toI (wOf PP qY 283 (List.map (T.den (wOf PP qY) U) [(.mk (.i .u32) (.w 3 (.v 6) (.i 4))),(.mk (.i .i64) (.i 6))]))) (toI (wOf PP qY 283 (List.map (T.den (wOf PP qY) U) [(.mk (.i .u32) (.w 3 (.v 6) (.i 4))),(.mk (.i .i64) (.i 11))])))) (toI (wOf PP qY 283 (List.map (T.den (wOf PP qY) U) [(.mk (.i .u32) (.w 3 (.v 6) (.i 4))),(.mk (.i .i64) (.i 25))]))))) (M44.qF (YU (gw (toL (U 6)) 4) (gw (toL (U 6)) 5)) (YU (M44.qF (gw (toL (U 6)) 4) 4294967295) (gw (toL (U 6)) 6)))) (gw kL (toN (U 3)))) (gw (toL (U 5)) (toN (U 3)))) (qB (M44.qF (M44.qF (toI (wOf PP qY 283 (List.map (T.den (wOf PP qY) U) [(.mk (.i .u32) (.w 3 (.v 6) (.i 0))),(.mk (.i .i64) (.i 2))]))) (toI (wOf PP qY 283 (List.map (T.den (wOf PP qY) U) [(.mk (.i .u32) (.w 3 (.v 6) (.i 0))),(.mk (.i .i64) (.i 13))])))) (toI (wOf PP qY 283 (List.map (T.den (wOf PP qY) U) [(.mk (.i .u32) (.w 3 (.v 6) (.i 0))),(.mk (.i .i64) (.i 22))])))) (M44.qF (M44.qF (YU (gw (toL (U 6)) 0) (gw (toL (U 6)) 1)) (YU (gw (toL (U 6)) 0) (gw (toL (U 6)) 2))) (YU (gw (toL (U 6)) 1) (gw (toL (U 6)) 2))))),wd (gw (toL (U 6)) 0),wd (gw (toL (U 6)) 1),wd (gw (toL (U 6)) 2),wd (qB (gw (toL (U 6)) 3) (qB (qB (qB (qB (gw (toL (U 6)) 7) (M44.qF (M44.qF (toI (wOf PP qY 283 (List.map (T.den (wOf PP qY) U) [(.mk (.i .u32) (.w 3 (.v 6) (.i 4))),(.mk (.i .i64) (.i 6))]))) (toI (wOf PP qY 283 (List.map (T.den (wOf PP qY) U) [(.mk (.i .u32) (.w 3 (.v 6) (.i 4))),(.mk (.i .i64) (.i 11))])))) (toI (wOf PP qY 283 (List.map (T.den (wOf PP qY) U) [(.mk (.i .u32) (.w 3 (.v 6) (.i 4))),(.mk (.i .i64) (.i 25))]))))) (M44.qF (YU (gw (toL (U 6)) 4) (gw (toL (U 6)) 5)) (YU (M44.qF (gw (toL (U 6)) 4) 4294967295) (gw (toL (U 6)) 6)))) (gw kL (toN (U 3)))) (gw (toL (U 5)) (toN (U 3))))),wd (gw (toL (U 6)) 4),wd (gw (toL (U 6)) 5),wd (gw (toL (U 6)) 6)]=qaG _ ivL (toI (U 3)+1).toNat;rw[g1,g2,g3,g4,g5,g6,e1,i6,i7];rfl
   ·have hge:decide (toI (U 3)<64)=false:=hge;have hge:=of_decide_eq_false hge;have e:toN (U 3)=64:=by unfold toN; omega
    rw[e]at i7;refine hn ⟨i1,i2,?_,?_,i5,i7⟩
    ·show(0:Int)<=0;decide
    ·show(0:Int)<=8;decide
  ·have hq:qCf=q:=by simpa using hq
   subst hq;obtain⟨i1,i2,i3,i4⟩:=hi;rcases ht with⟨hlt,_,hn⟩|⟨hge,_,rfl⟩
   ·have hlt:decide (toI (U 1)<32)=true:=hlt;have hlt:=of_decide_eq_true hlt;have e1:(toI (U 1)+1).toNat=toN (U 1)+1:=by unfold toN; omega
    have e2:toI (U 1)=((toN (U 1):Nat):Int):=by unfold toN; omega
    refine hn ⟨?_,?_,i3,?_⟩
    ·show 0<=toI (U 1)+1;omega
    ·show toI (U 1)+1<=32;omega
    ·show(toL (U 3)).set (toN (U 1)) (qoF (toL (U 2)) (toI (U 1)))=Y0 _ (toI (U 1)+1).toNat;rw[e1,i3,i4];show _=(Y0 _ (toN (U 1))).set (toN (U 1)) (qoF _ _);rw[<-e2]
   ·have hge:decide (toI (U 1)<32)=false:=hge;have hge:=of_decide_eq_false hge;have e:toN (U 1)=32:=by unfold toN; omega
    rw[e]at i4;show D.agg ((List.range 32).map fun i=>(K.i .u8).den ((toL (U 3)).getD i .nilp))=_;rw[i4,quu (qjK _ 32) (qoG _ 32)]
  ·have hq:qCg=q:=by simpa using hq
   subst hq;obtain⟨i1,i2,i3,i4,i5,i6⟩:=hi;rcases ht with⟨hlt,_,hn⟩|⟨hge,_,hn⟩
   ·have hlt:decide (toI (U 3)<8)=true:=hlt;have hlt:=of_decide_eq_true hlt;have e1:(toI (U 3)+1).toNat=toN (U 3)+1:=by unfold toN; omega
    refine hn ⟨i1,i2,?_,?_,?_,i6⟩
    ·show 0<=toI (U 3)+1;omega
    ·show toI (U 3)+1<=8;omega
    ·show(toL (U 4)).set (toN (U 3)) (wd (qB (gw (toL (U 4)) (toN (U 3))) (gw (toL (U 5)) (toN (U 3)))))=qfG _ _ (toI (U 3)+1).toNat;rw[e1,i5,i6];rfl
   ·have hge:decide (toI (U 3)<8)=false:=hge;have hge:=of_decide_eq_false hge;have e:toN (U 3)=8:=by unfold toN; omega
    rw[e]at i5;refine hn ⟨i1,Or.inr ⟨?_,i5⟩⟩;show toI (U 2)+64=64;rw[i2];rfl
  ·simp at hq
 ·intro d ht;obtain⟨⟨c1,_⟩,hn⟩:=ht;have f1:qua _ _:=(c1 quc rfl).2.2;have f1:wOf PP qY 281 [.list (toL (qa ds 0))]=.list (JI (toL (qa ds 0))):=f1 hl;refine hn ⟨?_,Or.inl ⟨rfl,rfl⟩⟩;show toL (wOf PP qY 281 [.list (toL (qa ds 0))])=_;rw[f1];rfl
def qYl:qm PP 190 quw:=qYg.more fun ds d hp _ h=>⟨fun f hf=>(by cases hf),qYk hp h⟩
def qoo (ds:List D) (d:D):Prop:=d=.agg (fW (wS (toL (qa ds 0))) 64)
structure qWW (b:List D) (U:Nat->D):Prop where
 l:toL (U 2)=fW (wS b) (toN (U 1))
 lo:0<=toI (U 1)
 hi:toI (U 1)<=64
structure qWX (b:List D) (U:Nat->D):Prop where
 l:toL (U 3)=(fW (wS b) (toN (U 1))).set (toN (U 1)) (.int .u32 (qjg b (toN (U 1)) (toN (U 2))))
 lo:0<=toI (U 1)
 hi:toI (U 1)<16
 lo2:0<=toI (U 2)
 hi2:toI (U 2)<=4
def qop {b:List D} (h:∀x∈b,qd .y8 x) {i:Nat} (hi:i<b.length):∃n:Nat,n<256/\gw b i=n:=by
 have h1:=h _ (qTL hi);obtain⟨c,hn⟩:∃c:UInt8,b[i]=Yq c:=h1;refine⟨c.toNat,c.toNat_lt,?_⟩;unfold gw;rw[zzG,qTE hi,qTT,hn];rfl
def qWY {b ws:List D} (h:∀x∈b,qd .y8 x) (hl:64<=b.length) {t:Nat} (ht:t<16):qjg b t 4=wS b ws t:=by
 obtain⟨b0,l0,e0⟩:=qop h (i:=4*t) (by omega);obtain⟨b1,l1,e1⟩:=qop h (i:=4*t+1) (by omega);obtain⟨b2,l2,e2⟩:=qop h (i:=4*t+2) (by omega);obtain⟨b3,l3,e3⟩:=qop h (i:=4*t+3) (by omega);rw[qAv (by rw[qT0]; exact ht)];show M44.orI (YC (M44.orI (YC (M44.orI (YC (M44.orI (YC 0 8) (u32 (gw b (4*t+0)))) 8) (u32 (gw b (4*t+1)))) 8) (u32 (gw b (4*t+2)))) 8) (u32 (gw b (4*t+3)))=_;rw[qUQ,e0,e1,e2,e3];exact qMA l0 l1 l2 l3
def qjF:Con:={pts:=[Zcy],pre:=[.nle ZR Zu],rts:=[.g (.ec (.i .u32) (.ec (.i .u32) (.ec (.i .u32) (.ec (.i .u32) (.ec (.i .u32) (.ec (.i .u32) (.ec (.i .u32) (.ec (.i .u32) (.ec (.i .u32) (.ec (.i .u32) (.ec (.i .u32) (.ec (.i .u32) (.ec (.i .u32) (.ec (.i .u32) (.ec (.i .u32) (.ec (.i .u32) (.ec (.i .u32) (.ec (.i .u32) (.ec (.i .u32) (.ec (.i .u32) (.ec (.i .u32) (.ec (.i .u32) (.ec (.i .u32) (.ec (.i .u32) (.ec (.i .u32) (.ec (.i .u32) (.ec (.i .u32) (.ec (.i .u32) (.ec (.i .u32) (.ec (.i .u32) (.ec (.i .u32) (.ec (.i .u32) (.ec (.i .u32) (.ec (.i .u32) (.ec (.i .u32) (.ec (.i .u32) (.ec (.i .u32) (.ec (.i .u32) (.ec (.i .u32) (.ec (.i .u32) (.ec (.i .u32) (.ec (.i .u32) (.ec (.i .u32) (.ec (.i .u32) (.ec (.i .u32) (.ec (.i .u32) (.ec (.i .u32) (.ec (.i .u32) (.ec (.i .u32) (.ec (.i .u32) (.ec (.i .u32) (.ec (.i .u32) (.ec (.i .u32) (.ec (.i .u32) (.ec (.i .u32) (.ec (.i .u32) Zjh))))))))))))))))))))))))))))))))))))))))))))))))))))))))],post:=[]}
def qoq:RFn:=mF 279 qjF [⟨3,[ZJ,Z2,ZbK,(11,ZcU)],Zin,Zio,[.nle ZR Zx,Zaa],(Za,.w 1 ZR Zc,Zk,Za,Za,Za)⟩,⟨7,[ZJ,Z2,ZbK,(4,ZcU),(11,ZcU),(22,.o (.c .l Zip)),(23,.o (.c (.i .i64) (.u 0 0 Zip))),(24,Zck)],[ZkX,Zjj],[Zcy,.i .i64,.i .i64,ZfI],[.nle ZR Zam,Zaa,Z3,.bool ZgA true],(Za,.w 1 ZR Zc,Za,.w 1 (.u 0 0 Zip) Zb,Zk,Za)⟩]
def qbQ:Tab:=[(390,qbN)]
def qWZ:qH PP 279 qjF (Ev0 PP qoq qbQ):=fe qoq qbQ (qj qAs (qo)) (by kernel_rfl) (by refine⟨?_,?_,?_,trivial⟩<;>intro<;>kernel_rfl)
def quk:Con:={qjF with post:=qjF.post++[],fact:=qoo}
def qW0:TQ:=.next [] 0 [Ze,Za,.w 4 Zn (.w 4 Zn (.w 4 Zn (.w 4 Zn (.w 4 Zn (.w 4 Zn (.w 4 Zn (.w 4 Zn (.w 4 Zn (.w 4 Zn (.w 4 Zn (.w 4 Zn (.w 4 Zn (.w 4 Zn (.w 4 Zn (.w 4 Zn (.w 4 Zn (.w 4 Zn (.w 4 Zn (.w 4 Zn (.w 4 Zn (.w 4 Zn (.w 4 Zn (.w 4 Zn (.w 4 Zn (.w 4 Zn (.w 4 Zn (.w 4 Zn (.w 4 Zn (.w 4 Zn (.w 4 Zn (.w 4 Zn (.w 4 Zn (.w 4 Zn (.w 4 Zn (.w 4 Zn (.w 4 Zn (.w 4 Zn (.w 4 Zn (.w 4 Zn (.w 4 Zn (.w 4 Zn (.w 4 Zn (.w 4 Zn (.w 4 Zn (.w 4 Zn (.w 4 Zn (.w 4 Zn (.w 4 Zn (.w 4 Zn (.w 4 Zn (.w 4 Zn (.w 4 Zn (.w 4 Zn (.w 4 Zn (.w 4 Zn (.w 4 Zn (.w 4 Zn (.w 4 Zn (.w 4 Zn (.w 4 Zn (.w 4 Zn (.w 4 Zn (.w 4 Zn .z)))))))))))))))))))))))))))))))))))))))))))))))))))))))))))))))]
def qBS:TQ:=.fork (.w 10 Zc ZR) (.fork ZgA (.next [] 1 [Ze,Zc,Za,Zb]) (.next [(390,[.mk (.i .u32) (.w 3 (.v 2) (.w 1 (.v 1) (.i 15))),.mk (.i .i64) (.i (-7))]),(390,[.mk (.i .u32) (.w 3 (.v 2) (.w 1 (.v 1) (.i 15))),.mk (.i .i64) (.i (-18))]),(390,[.mk (.i .u32) (.w 3 (.v 2) (.w 1 (.v 1) (.i 2))),.mk (.i .i64) (.i (-17))]),(390,[.mk (.i .u32) (.w 3 (.v 2) (.w 1 (.v 1) (.i 2))),.mk (.i .i64) (.i (-19))])] 0 [Ze,Zbv,.w 21 Zb (.u 2 0 (.w 4 Zag (.w 4 (.mk (.i .u32) (.u 5 2 (.w 0 (.u 5 2 (.w 0 (.u 5 2 (.w 0 Zk4 (.w 162 (.w 162 (.u 3 390 (.w 4 ZcA (.w 4 ZkZ .z))) (.u 3 390 (.w 4 ZcA (.w 4 Zk0 .z)))) (.w 132 ZkY Zai)))) Zk5)) (.w 162 (.w 162 (.u 3 390 (.w 4 ZcB (.w 4 Zk2 .z))) (.u 3 390 (.w 4 ZcB (.w 4 Zk3 .z)))) (.w 132 Zk1 Zb5))))) .z)))])) (.done [] (.u 2 0 (.w 4 (.mk (.i .u32) (.w 3 Zb Za)) (.w 4 (.mk (.i .u32) (.w 3 Zb Zg)) (.w 4 (.mk (.i .u32) (.w 3 Zb ZT)) (.w 4 (.mk (.i .u32) (.w 3 Zb Zai)) (.w 4 (.mk (.i .u32) (.w 3 Zb Z4)) (.w 4 (.mk (.i .u32) (.w 3 Zb (.i 5))) (.w 4 (.mk (.i .u32) (.w 3 Zb (.i 6))) (.w 4 (.mk (.i .u32) (.w 3 Zb (.i 7))) (.w 4 (.mk (.i .u32) (.w 3 Zb Zaf)) (.w 4 (.mk (.i .u32) (.w 3 Zb (.i 9))) (.w 4 (.mk (.i .u32) (.w 3 Zb Zb5)) (.w 4 (.mk (.i .u32) (.w 3 Zb (.i 11))) (.w 4 (.mk (.i .u32) (.w 3 Zb (.i 12))) (.w 4 (.mk (.i .u32) (.w 3 Zb (.i 13))) (.w 4 (.mk (.i .u32) (.w 3 Zb (.i 14))) (.w 4 (.mk (.i .u32) (.w 3 Zb (.i 15))) (.w 4 (.mk (.i .u32) (.w 3 Zb ZaE)) (.w 4 (.mk (.i .u32) (.w 3 Zb (.i 17))) (.w 4 (.mk (.i .u32) (.w 3 Zb (.i 18))) (.w 4 (.mk (.i .u32) (.w 3 Zb (.i 19))) (.w 4 (.mk (.i .u32) (.w 3 Zb (.i 20))) (.w 4 (.mk (.i .u32) (.w 3 Zb (.i 21))) (.w 4 (.mk (.i .u32) (.w 3 Zb (.i 22))) (.w 4 (.mk (.i .u32) (.w 3 Zb (.i 23))) (.w 4 (.mk (.i .u32) (.w 3 Zb (.i 24))) (.w 4 (.mk (.i .u32) (.w 3 Zb (.i 25))) (.w 4 (.mk (.i .u32) (.w 3 Zb (.i 26))) (.w 4 (.mk (.i .u32) (.w 3 Zb (.i 27))) (.w 4 (.mk (.i .u32) (.w 3 Zb (.i 28))) (.w 4 (.mk (.i .u32) (.w 3 Zb (.i 29))) (.w 4 (.mk (.i .u32) (.w 3 Zb (.i 30))) (.w 4 (.mk (.i .u32) (.w 3 Zb (.i 31))) (.w 4 (.mk (.i .u32) (.w 3 Zb ZcR)) (.w 4 (.mk (.i .u32) (.w 3 Zb (.i 33))) (.w 4 (.mk (.i .u32) (.w 3 Zb (.i 34))) (.w 4 (.mk (.i .u32) (.w 3 Zb (.i 35))) (.w 4 (.mk (.i .u32) (.w 3 Zb (.i 36))) (.w 4 (.mk (.i .u32) (.w 3 Zb (.i 37))) (.w 4 (.mk (.i .u32) (.w 3 Zb (.i 38))) (.w 4 (.mk (.i .u32) (.w 3 Zb (.i 39))) (.w 4 (.mk (.i .u32) (.w 3 Zb (.i 40))) (.w 4 (.mk (.i .u32) (.w 3 Zb (.i 41))) (.w 4 (.mk (.i .u32) (.w 3 Zb (.i 42))) (.w 4 (.mk (.i .u32) (.w 3 Zb (.i 43))) (.w 4 (.mk (.i .u32) (.w 3 Zb (.i 44))) (.w 4 (.mk (.i .u32) (.w 3 Zb (.i 45))) (.w 4 (.mk (.i .u32) (.w 3 Zb (.i 46))) (.w 4 (.mk (.i .u32) (.w 3 Zb (.i 47))) (.w 4 (.mk (.i .u32) (.w 3 Zb (.i 48))) (.w 4 (.mk (.i .u32) (.w 3 Zb (.i 49))) (.w 4 (.mk (.i .u32) (.w 3 Zb (.i 50))) (.w 4 (.mk (.i .u32) (.w 3 Zb (.i 51))) (.w 4 (.mk (.i .u32) (.w 3 Zb (.i 52))) (.w 4 (.mk (.i .u32) (.w 3 Zb (.i 53))) (.w 4 (.mk (.i .u32) (.w 3 Zb (.i 54))) (.w 4 (.mk (.i .u32) (.w 3 Zb (.i 55))) (.w 4 (.mk (.i .u32) (.w 3 Zb (.i 56))) (.w 4 (.mk (.i .u32) (.w 3 Zb (.i 57))) (.w 4 (.mk (.i .u32) (.w 3 Zb (.i 58))) (.w 4 (.mk (.i .u32) (.w 3 Zb (.i 59))) (.w 4 (.mk (.i .u32) (.w 3 Zb ZbM)) (.w 4 (.mk (.i .u32) (.w 3 Zb (.i 61))) (.w 4 (.mk (.i .u32) (.w 3 Zb (.i 62))) (.w 4 (.mk (.i .u32) (.w 3 Zb (.i 63))) .z))))))))))))))))))))))))))))))))))))))))))))))))))))))))))))))))))
def qBT:TQ:=.fork (.w 10 Zb (.u 0 0 Zip)) (.next [] 1 [Ze,Zc,Zej,.w 21 Zd (.u 2 0 (.w 4 Zag (.w 4 (.mk (.i .u32) (.w 152 (.w 122 (.w 3 Zd Zc) Zaf) (.u 5 2 (.w 3 Zip Zb)))) .z)))]) (.next [] 0 [Ze,Zbv,Zd])
def qW1:qN PP qoq qbQ=[qW0,qBS,qBT]:=by kernel_rfl
def qW2 {ds:List D} {d:D} (hp:qG qjF ds) (h:Ev0 PP qoq qbQ ds d):qoo ds d:=by
 obtain⟨b,hb0,hbl,hby⟩:∃b:List D,qa ds 0=.list b/\b.length<=2199023255552/\∀x∈b,qd .y8 x:=by
  match ds,hp.1.1 with
  | [a],_=>exact hp.1.2 0 _ rfl
 have hl:64<=b.length:=by
  have h1:=hp.2 _ (qTR ..);have h2:(64:Int).toNat<=((toL (qa ds 0)).length:Int).toNat:=h1;rw[hb0]at h2;have h3:(64:Int).toNat<=(b.length:Int).toNat:=h2;omega
 have eb:toL (qa ds 0)=b:=by rw[hb0]; rfl
 have inner:∀t:Int,0<=t->t<16->((b.drop (4*t).toNat).take ((4*t+4).toNat - (4*t).toNat)).length=4:=by
  intro t h0 h1;rw[qTU,qT8];omega
 refine Yc qW1 (I:=fun k U=>match k with
  | 0=>qWW b U|_=>qWX b U) (Q:=qoo ds) ?_ ?_ h
 ·intro k st q U d hst hq hg hi ht;have h0:=hg.arg 0 (by decide);rw[hb0]at h0;rcases k with _|_|k
  ·have hq:qBS=q:=by simpa using hq
   subst hq;obtain⟨i1,i2,i3⟩:=hi;rcases ht with⟨hlt,ht⟩|⟨hge,_,rfl⟩
   ·have hlt:decide (toI (U 1)<64)=true:=hlt;have hlt:=of_decide_eq_true hlt;rcases ht with⟨h16,_,hn⟩|⟨h16,hc,hn⟩
    ·have h16:decide (toI (U 1)<16)=true:=h16;have h16:=of_decide_eq_true h16;refine hn ⟨?_,i2,h16,?_,?_⟩
     ·show toL (U 2)=(fW (wS b) (toN (U 1))).set (toN (U 1)) (.int .u32 0);rw[qMC (wS b) (by unfold toN; omega),i1]
     ·show(0:Int)<=0;decide
     ·show(0:Int)<=4;decide
    ·have h16:decide (toI (U 1)<16)=false:=h16;have h16:=of_decide_eq_false h16;refine hn ⟨?_,?_,?_⟩
     ·obtain⟨c1,c2,c3,c4,_⟩:=hc;have f1:qer _ _:=(c1 qbN rfl).2.2;have f2:qer _ _:=(c2 qbN rfl).2.2;have f3:qer _ _:=(c3 qbN rfl).2.2;have f4:qer _ _:=(c4 qbN rfl).2.2;show(toL (U 2)).set (toN (U 1)) (.int .u32 (qB (qB (qB (gw (toL (U 2)) (toI (U 1) - 16).toNat) (M44.qF (M44.qF (toI (wOf PP qbQ 390 (List.map (T.den (wOf PP qbQ) U) [(.mk (.i .u32) (.w 3 (.v 2) (.w 1 (.v 1) (.i 15)))),(.mk (.i .i64) (.i (-7)))]))) (toI (wOf PP qbQ 390 (List.map (T.den (wOf PP qbQ) U) [(.mk (.i .u32) (.w 3 (.v 2) (.w 1 (.v 1) (.i 15)))),(.mk (.i .i64) (.i (-18)))])))) (qbO (gw (toL (U 2)) (toI (U 1) - 15).toNat) 3))) (gw (toL (U 2)) (toI (U 1) - 7).toNat)) (M44.qF (M44.qF (toI (wOf PP qbQ 390 (List.map (T.den (wOf PP qbQ) U) [(.mk (.i .u32) (.w 3 (.v 2) (.w 1 (.v 1) (.i 2)))),(.mk (.i .i64) (.i (-17)))]))) (toI (wOf PP qbQ 390 (List.map (T.den (wOf PP qbQ) U) [(.mk (.i .u32) (.w 3 (.v 2) (.w 1 (.v 1) (.i 2)))),(.mk (.i .i64) (.i (-19)))])))) (qbO (gw (toL (U 2)) (toI (U 1) - 2).toNat) 10))))=fW _ (toI (U 1)+1).toNat;rw[f1,f2,f3,f4];show(toL (U 2)).set (toN (U 1)) (.int .u32 (qB (qB (qB (gw (toL (U 2)) (toI (U 1) - 16).toNat) (M44.qF (M44.qF (M44.qaR (gw (toL (U 2)) (toI (U 1) - 15).toNat) (32 - 7) 7) (M44.qaR (gw (toL (U 2)) (toI (U 1) - 15).toNat) (32 - 18) 18)) (qbO (gw (toL (U 2)) (toI (U 1) - 15).toNat) 3))) (gw (toL (U 2)) (toI (U 1) - 7).toNat)) (M44.qF (M44.qF (M44.qaR (gw (toL (U 2)) (toI (U 1) - 2).toNat) (32 - 17) 17) (M44.qaR (gw (toL (U 2)) (toI (U 1) - 2).toNat) (32 - 19) 19)) (qbO (gw (toL (U 2)) (toI (U 1) - 2).toNat) 10))))=fW _ (toI (U 1)+1).toNat;have e0:(toI (U 1) - 16).toNat=toN (U 1) - 16:=by unfold toN; omega
      have e1:(toI (U 1) - 15).toNat=toN (U 1) - 15:=by unfold toN; omega
      have e2:(toI (U 1) - 7).toNat=toN (U 1) - 7:=by unfold toN; omega
      have e3:(toI (U 1) - 2).toNat=toN (U 1) - 2:=by unfold toN; omega
      have e4:(toI (U 1)+1).toNat=toN (U 1)+1:=by unfold toN; omega
      have e5:Nat.blt (toN (U 1)) 16=false:=by
       rw[<-Bool.not_eq_true,qT0]; unfold toN; omega
      rw[e0,e1,e2,e3,e4,i1];rw[qjd,qAw e5];rw[qfL,qfL,qfL,qfL];rfl
     ·show 0<=toI (U 1)+1;omega
     ·show toI (U 1)+1<=64;omega
   ·have hge:decide (toI (U 1)<64)=false:=hge;have hge:=of_decide_eq_false hge;have e:toN (U 1)=64:=by unfold toN; omega
    rw[e]at i1;show D.agg ((List.range 64).map fun i=>(K.i .u32).den ((toL (U 2)).getD i .nilp))=_;rw[i1,qmS (qg7 _ 64) (qje _ 64),eb]
  ·have hq:qBT=q:=by simpa using hq
   subst hq;obtain⟨i1,i2,i3,i4,i5⟩:=hi;have ein:((((toL (U 0)).drop (4*toI (U 1)).toNat).take (((4*toI (U 1)+4).toNat - (4*toI (U 1)).toNat:Nat):Int).toNat)).length=4:=by
    rw[h0,qTK];exact inner _ i2 i3
   rcases ht with⟨hlt,_,hn⟩|⟨hge,_,hn⟩
   ·have hlt:decide (toI (U 2)<(((((toL (U 0)).drop (4*toI (U 1)).toNat).take (((4*toI (U 1)+4).toNat - (4*toI (U 1)).toNat:Nat):Int).toNat)).length:Int))=true:=hlt;rw[ein]at hlt;have hlt:=of_decide_eq_true hlt;refine hn ⟨?_,i2,i3,?_,?_⟩
    ·show(toL (U 3)).set (toN (U 1)) (.int .u32 (M44.orI (YC (gw (toL (U 3)) (toN (U 1))) 8) (u32 (gw (((toL (U 0)).drop (4*toI (U 1)).toNat).take (((4*toI (U 1)+4).toNat - (4*toI (U 1)).toNat:Nat):Int).toNat) (toN (U 2))))))=(fW (wS b) (toN (U 1))).set (toN (U 1)) (.int .u32 (qjg b (toN (U 1)) (toI (U 2)+1).toNat));have e4:(toI (U 2)+1).toNat=toN (U 2)+1:=by unfold toN; omega
     have eg:gw (((toL (U 0)).drop (4*toI (U 1)).toNat).take (((4*toI (U 1)+4).toNat - (4*toI (U 1)).toNat:Nat):Int).toNat) (toN (U 2))=gw b (4*toN (U 1)+toN (U 2)):=by
      unfold gw;rw[h0];show toI ((List.take _ (List.drop (4*toI (U 1)).toNat b)).getD _ _)=_;rw[zzG,zzG,qUh,if_pos (by rw[qTK]; unfold toN; omega),qUk];have:(4*toI (U 1)).toNat=4*toN (U 1):=by unfold toN; omega
      rw[this]
     have ea:gw (toL (U 3)) (toN (U 1))=qjg b (toN (U 1)) (toN (U 2)):=by
      unfold gw;rw[i1,zzG,qUV (by rw[qg7]; unfold toN; omega)];rfl
     rw[eg,ea,e4,i1,List.set_set];rfl
    ·show 0<=toI (U 2)+1;omega
    ·show toI (U 2)+1<=4;omega
   ·have hge:decide (toI (U 2)<(((((toL (U 0)).drop (4*toI (U 1)).toNat).take (((4*toI (U 1)+4).toNat - (4*toI (U 1)).toNat:Nat):Int).toNat)).length:Int))=false:=hge;rw[ein]at hge;have hge:=of_decide_eq_false hge;refine hn ⟨?_,?_,?_⟩
    ·show toL (U 3)=fW (wS b) (toI (U 1)+1).toNat;have e4:(toI (U 1)+1).toNat=toN (U 1)+1:=by unfold toN; omega
     have e5:toN (U 2)=4:=by unfold toN; omega
     rw[e4,qjd,i1,e5,qWY hby hl (by unfold toN; omega)]
    ·show 0<=toI (U 1)+1;omega
    ·show toI (U 1)+1<=64;omega
  ·simp at hq
 ·intro d ht;refine ht.2 ⟨rfl,?_,?_⟩
  ·show(0:Int)<=0;decide
  ·show(0:Int)<=64;decide
def qW3:qm PP 279 quk:=qWZ.more fun ds d hp _ h=>⟨fun f hf=>(by cases hf),qW2 hp h⟩
def qjw (ds:List D) (d:D):Prop:=d=.int .u32 (M44.qF (M44.qF (Jy (toI (qa ds 0)) (toI (qa ds 1)).toNat) (Jy (toI (qa ds 0)) (toI (qa ds 2)).toNat)) (Jy (toI (qa ds 0)) (toI (qa ds 3)).toNat))
def qjx:Con:={pts:=[.i .u32,.i .i64,.i .i64,.i .i64],pre:=[.le Zg Zc,.le Zc (.i 31),ZcX,.le Zb (.i 31),Zcj,.le Zd (.i 31)],rts:=[.i .u32],post:=[]}
def qnP:RFn:=mF 280 qjx []
def qcT:Tab:=[(390,qbN)]
def qSi:qH PP 280 qjx (Ev0 PP qnP qcT):=fe qnP qcT (qj qAs (qo)) (by kernel_rfl) ⟨fun U=>by kernel_rfl,trivial⟩
def qnQ:Con:={qjx with post:=qjx.post++[],fact:=qjw}
def qSj:TQ:=.done [(390,[.mk (.i .u32) (.v 0),.mk (.i .i64) (.u 5 0 (.u 9 0 (.v 1)))]),(390,[.mk (.i .u32) (.v 0),.mk (.i .i64) (.u 5 0 (.u 9 0 (.v 2)))]),(390,[.mk (.i .u32) (.v 0),.mk (.i .i64) (.u 5 0 (.u 9 0 (.v 3)))])] (.mk (.i .u32) (.w 162 (.w 162 (.u 3 390 (.w 4 ZdU (.w 4 Zky .z))) (.u 3 390 (.w 4 ZdU (.w 4 Zkz .z)))) (.u 3 390 (.w 4 ZdU (.w 4 ZkA .z)))))
def qSk:qN PP qnP qcT=[qSj]:=by kernel_rfl
def qSl {ds:List D} {d:D} (hp:qG qjx ds) (h:Ev0 PP qnP qcT ds d):qjw ds d:=by
 have u64:∀n:Int,1<=n->n<=31->(-IntKind.i64.wrap (0 - n)).toNat=n.toNat:=by
  intro n h0 h1;have:n=1\/n=2\/n=3\/n=4\/n=5\/n=6\/n=7\/n=8\/n=9\/n=10\/n=11\/n=12\/n=13\/n=14\/n=15\/n=16\/n=17\/n=18\/n=19\/n=20\/n=21\/n=22\/n=23\/n=24\/n=25\/n=26\/n=27\/n=28\/n=29\/n=30\/n=31:=by omega
  rcases this with rfl|rfl|rfl|rfl|rfl|rfl|rfl|rfl|rfl|rfl|rfl|rfl|rfl|rfl|rfl|rfl|rfl|rfl|rfl|rfl|rfl|rfl|rfl|rfl|rfl|rfl|rfl|rfl|rfl|rfl|rfl<;>decide
 have p1:1<=toI (qa ds 1):=hp.2 _ (qTR ..);have p2:toI (qa ds 1)<=31:=hp.2 _ (qTG _ (qTR ..));have p3:1<=toI (qa ds 2):=hp.2 _ (qTG _ (qTG _ (qTR ..)));have p4:toI (qa ds 2)<=31:=hp.2 _ (qTG _ (qTG _ (qTG _ (qTR ..))));have p5:1<=toI (qa ds 3):=hp.2 _ (qTG _ (qTG _ (qTG _ (qTG _ (qTR ..)))));have p6:toI (qa ds 3)<=31:=hp.2 _ (qTG _ (qTG _ (qTG _ (qTG _ (qTG _ (qTR ..))))));refine Yc qSk (I:=fun k U=>False) (Q:=qjw ds) (fun k st q U d hst hq hg hi ht=>hi.elim) ?_ h;intro d ht;obtain⟨⟨c1,c2,c3,_⟩,rfl⟩:=ht;have f1:qer _ _:=(c1 qbN rfl).2.2;have f2:qer _ _:=(c2 qbN rfl).2.2;have f3:qer _ _:=(c3 qbN rfl).2.2;show D.int .u32 (M44.qF (M44.qF (toI (wOf PP qcT 390 (List.map (T.den (wOf PP qcT) (qa ds)) [(.mk (.i .u32) (.v 0)),(.mk (.i .i64) (.u 5 0 (.u 9 0 (.v 1))))]))) (toI (wOf PP qcT 390 (List.map (T.den (wOf PP qcT) (qa ds)) [(.mk (.i .u32) (.v 0)),(.mk (.i .i64) (.u 5 0 (.u 9 0 (.v 2))))])))) (toI (wOf PP qcT 390 (List.map (T.den (wOf PP qcT) (qa ds)) [(.mk (.i .u32) (.v 0)),(.mk (.i .i64) (.u 5 0 (.u 9 0 (.v 3))))]))))=_;rw[f1,f2,f3];show D.int .u32 (M44.qF (M44.qF (M44.qaR (toI (qa ds 0)) (32 - (-IntKind.i64.wrap (0 - toI (qa ds 1))).toNat) (-IntKind.i64.wrap (0 - toI (qa ds 1))).toNat) (M44.qaR (toI (qa ds 0)) (32 - (-IntKind.i64.wrap (0 - toI (qa ds 2))).toNat) (-IntKind.i64.wrap (0 - toI (qa ds 2))).toNat)) (M44.qaR (toI (qa ds 0)) (32 - (-IntKind.i64.wrap (0 - toI (qa ds 3))).toNat) (-IntKind.i64.wrap (0 - toI (qa ds 3))).toNat))=_;rw[u64 _ p1 p2,u64 _ p3 p4,u64 _ p5 p6,qfL,qfL,qfL]
def qSm:qm PP 280 qnQ:=qSi.more fun ds d hp _ h=>⟨fun f hf=>(by cases hf),qSl hp h⟩
def qti (ds:List D) (d:D):Prop:=d=.agg (qao (toL (qa ds 1)) (wds (qa ds 0)))
structure qN2 (b s:List D) (U:Nat->D):Prop where
 lo:0<=toI (U 2)
 hi:toI (U 2)<=64
 w:toL (U 3)=fW (wS b) 64
 a:toL (U 4)=(qaG (fW (wS b) 64) s (toN (U 2))).take 4
 e:toL (U 5)=(qaG (fW (wS b) 64) s (toN (U 2))).drop 4
structure qN3 (b s:List D) (U:Nat->D):Prop where
 lo:0<=toI (U 2)
 hi:toI (U 2)<=4
 f:toL (U 3)=qfH ((qaG (fW (wS b) 64) s 64).take 4) ((qaG (fW (wS b) 64) s 64).drop 4) s (toN (U 2))
 a:toL (U 4)=(qaG (fW (wS b) 64) s 64).take 4
 e:toL (U 5)=(qaG (fW (wS b) 64) s 64).drop 4
def qAU (k w:Int) (A E:List D):List D :=
 [wd (qB (qB (qB (qB (qB (gw E 3) (sg (gw E 0) 6 11 25)) (M44.qF (YU (gw E 0) (gw E 1)) (YU (M44.qF 4294967295 (gw E 0)) (gw E 2)))) k) w) (qB (sg (gw A 0) 2 13 22) (M44.qF (M44.qF (YU (gw A 0) (gw A 1)) (YU (gw A 0) (gw A 2))) (YU (gw A 1) (gw A 2))))),wd (gw A 0),wd (gw A 1),wd (gw A 2)]
def qAV (k w:Int) (A E:List D):List D :=
 [wd (qB (gw A 3) (qB (qB (qB (qB (gw E 3) (sg (gw E 0) 6 11 25)) (M44.qF (YU (gw E 0) (gw E 1)) (YU (M44.qF 4294967295 (gw E 0)) (gw E 2)))) k) w)),wd (gw E 0),wd (gw E 1),wd (gw E 2)]
def qN4 {k w:Int} {v:List D} (hv:qac v):qAU k w (v.take 4) (v.drop 4)=(qjc k w v).take 4:=by
 obtain⟨a,b,c,d,e,f,g,h,rfl⟩:=hv;unfold qAU qjc t1S;rw[qAo 4294967295];rfl
def qN5 {k w:Int} {v:List D} (hv:qac v):qAV k w (v.take 4) (v.drop 4)=(qjc k w v).drop 4:=by
 obtain⟨a,b,c,d,e,f,g,h,rfl⟩:=hv;unfold qAV qjc t1S;rw[qAo 4294967295];rfl
def qN6 {ws:List D} (hl:ws.length=64) (hi:∀x∈ws,∃n:Int,x=.int .u32 n):((List.range 64).map fun i=>(K.i .u32).den (cel (.agg ws) i))=ws:=qmS hl hi
def qhe:Con:={pts:=[.g Zjh,.l 301 .y8],pre:=[.nle ZR Zi],rts:=[.g Zjh],post:=[]}
def qm2:RFn:=mF 189 qhe [⟨4,[Z2,ZbY,(5,ZcV),Zhl,(7,.o (.pt 4 0 Za 0)),(21,.o (.ag [(.i .u32,.i 1116352408),(.i .u32,.i 1899447441),(.i .u32,.i 3049323471),(.i .u32,.i 3921009573),(.i .u32,.i 961987163),(.i .u32,.i 1508970993),(.i .u32,.i 2453635748),(.i .u32,.i 2870763221),(.i .u32,.i 3624381080),(.i .u32,.i 310598401),(.i .u32,.i 607225278),(.i .u32,.i 1426881987),(.i .u32,.i 1925078388),(.i .u32,.i 2162078206),(.i .u32,.i 2614888103),(.i .u32,.i 3248222580),(.i .u32,.i 3835390401),(.i .u32,.i 4022224774),(.i .u32,.i 264347078),(.i .u32,.i 604807628),(.i .u32,.i 770255983),(.i .u32,.i 1249150122),(.i .u32,.i 1555081692),(.i .u32,.i 1996064986),(.i .u32,.i 2554220882),(.i .u32,.i 2821834349),(.i .u32,.i 2952996808),(.i .u32,.i 3210313671),(.i .u32,.i 3336571891),(.i .u32,.i 3584528711),(.i .u32,.i 113926993),(.i .u32,.i 338241895),(.i .u32,.i 666307205),(.i .u32,.i 773529912),(.i .u32,.i 1294757372),(.i .u32,.i 1396182291),(.i .u32,.i 1695183700),(.i .u32,.i 1986661051),(.i .u32,.i 2177026350),(.i .u32,.i 2456956037),(.i .u32,.i 2730485921),(.i .u32,.i 2820302411),(.i .u32,.i 3259730800),(.i .u32,.i 3345764771),(.i .u32,.i 3516065817),(.i .u32,.i 3600352804),(.i .u32,.i 4094571909),(.i .u32,.i 275423344),(.i .u32,.i 430227734),(.i .u32,.i 506948616),(.i .u32,.i 659060556),(.i .u32,.i 883997877),(.i .u32,.i 958139571),(.i .u32,.i 1322822218),(.i .u32,.i 1537002063),(.i .u32,.i 1747873779),(.i .u32,.i 1955562222),(.i .u32,.i 2024104815),(.i .u32,.i 2227730452),(.i .u32,.i 2361852424),(.i .u32,.i 2428436474),(.i .u32,.i 2756734187),(.i .u32,.i 3204031479),(.i .u32,.i 3329325298)])),(22,Zck)],[.arr 8 (.i .u32) ZfH false,Zji,Zjj,.arr 4 (.i .u32) Zf false,.arr 4 (.i .u32) Zj false],[.g Zjh,.l 301 .y8,.i .i64,ZfI,ZfJ,ZfJ],[.nle ZR Zam,.nle Z4 ZL,.nle Z4 Zan,Z3],(Zg,.w 1 ZR Zb,Zk,Za,Za,Za)⟩,⟨12,[Z2,ZbY,(6,ZcV),ZdB,(94,Zck)],[.arr 8 (.i .u32) Zd false,Zji,.arr 4 (.i .u32) Zf false,.arr 4 (.i .u32) Zj false],[.g Zjh,.l 301 .y8,.i .i64,Zc0,ZfJ,ZfJ],[.nle Zaf Zam,.nle Z4 ZL,.nle Z4 Zan,Z3],(Za,.w 1 Z4 Zb,Zk,Za,Za,Za)⟩]
def J1:Tab:=[(279,quk),(280,qnQ)]
def qN7:qH PP 189 qhe (Ev0 PP qm2 J1):=fe qm2 J1 (qj qW3 (qj qSm (qo))) (by kernel_rfl) (by refine⟨?_,?_,?_,trivial⟩<;>intro<;>kernel_rfl)
def qjl:Con:={qhe with post:=qhe.post++[],fact:=qti}
def qtj:TQ:=.next [(279,[.mk .l (.v 1)])] 0 [Ze,Zc,Za,.w 4 (.mk (.i .u32) (.u 1 0 Zm)) (.w 4 (.mk (.i .u32) (.u 1 1 Zm)) (.w 4 (.mk (.i .u32) (.u 1 2 Zm)) (.w 4 (.mk (.i .u32) (.u 1 3 Zm)) (.w 4 (.mk (.i .u32) (.u 1 4 Zm)) (.w 4 (.mk (.i .u32) (.u 1 5 Zm)) (.w 4 (.mk (.i .u32) (.u 1 6 Zm)) (.w 4 (.mk (.i .u32) (.u 1 7 Zm)) (.w 4 (.mk (.i .u32) (.u 1 8 Zm)) (.w 4 (.mk (.i .u32) (.u 1 9 Zm)) (.w 4 (.mk (.i .u32) (.u 1 10 Zm)) (.w 4 (.mk (.i .u32) (.u 1 11 Zm)) (.w 4 (.mk (.i .u32) (.u 1 12 Zm)) (.w 4 (.mk (.i .u32) (.u 1 13 Zm)) (.w 4 (.mk (.i .u32) (.u 1 14 Zm)) (.w 4 (.mk (.i .u32) (.u 1 15 Zm)) (.w 4 (.mk (.i .u32) (.u 1 16 Zm)) (.w 4 (.mk (.i .u32) (.u 1 17 Zm)) (.w 4 (.mk (.i .u32) (.u 1 18 Zm)) (.w 4 (.mk (.i .u32) (.u 1 19 Zm)) (.w 4 (.mk (.i .u32) (.u 1 20 Zm)) (.w 4 (.mk (.i .u32) (.u 1 21 Zm)) (.w 4 (.mk (.i .u32) (.u 1 22 Zm)) (.w 4 (.mk (.i .u32) (.u 1 23 Zm)) (.w 4 (.mk (.i .u32) (.u 1 24 Zm)) (.w 4 (.mk (.i .u32) (.u 1 25 Zm)) (.w 4 (.mk (.i .u32) (.u 1 26 Zm)) (.w 4 (.mk (.i .u32) (.u 1 27 Zm)) (.w 4 (.mk (.i .u32) (.u 1 28 Zm)) (.w 4 (.mk (.i .u32) (.u 1 29 Zm)) (.w 4 (.mk (.i .u32) (.u 1 30 Zm)) (.w 4 (.mk (.i .u32) (.u 1 31 Zm)) (.w 4 (.mk (.i .u32) (.u 1 32 Zm)) (.w 4 (.mk (.i .u32) (.u 1 33 Zm)) (.w 4 (.mk (.i .u32) (.u 1 34 Zm)) (.w 4 (.mk (.i .u32) (.u 1 35 Zm)) (.w 4 (.mk (.i .u32) (.u 1 36 Zm)) (.w 4 (.mk (.i .u32) (.u 1 37 Zm)) (.w 4 (.mk (.i .u32) (.u 1 38 Zm)) (.w 4 (.mk (.i .u32) (.u 1 39 Zm)) (.w 4 (.mk (.i .u32) (.u 1 40 Zm)) (.w 4 (.mk (.i .u32) (.u 1 41 Zm)) (.w 4 (.mk (.i .u32) (.u 1 42 Zm)) (.w 4 (.mk (.i .u32) (.u 1 43 Zm)) (.w 4 (.mk (.i .u32) (.u 1 44 Zm)) (.w 4 (.mk (.i .u32) (.u 1 45 Zm)) (.w 4 (.mk (.i .u32) (.u 1 46 Zm)) (.w 4 (.mk (.i .u32) (.u 1 47 Zm)) (.w 4 (.mk (.i .u32) (.u 1 48 Zm)) (.w 4 (.mk (.i .u32) (.u 1 49 Zm)) (.w 4 (.mk (.i .u32) (.u 1 50 Zm)) (.w 4 (.mk (.i .u32) (.u 1 51 Zm)) (.w 4 (.mk (.i .u32) (.u 1 52 Zm)) (.w 4 (.mk (.i .u32) (.u 1 53 Zm)) (.w 4 (.mk (.i .u32) (.u 1 54 Zm)) (.w 4 (.mk (.i .u32) (.u 1 55 Zm)) (.w 4 (.mk (.i .u32) (.u 1 56 Zm)) (.w 4 (.mk (.i .u32) (.u 1 57 Zm)) (.w 4 (.mk (.i .u32) (.u 1 58 Zm)) (.w 4 (.mk (.i .u32) (.u 1 59 Zm)) (.w 4 (.mk (.i .u32) (.u 1 60 Zm)) (.w 4 (.mk (.i .u32) (.u 1 61 Zm)) (.w 4 (.mk (.i .u32) (.u 1 62 Zm)) (.w 4 (.mk (.i .u32) (.u 1 63 Zm)) .z))))))))))))))))))))))))))))))))))))))))))))))))))))))))))))))),.w 6 Z4 (.w 7 Za ZfH),.w 6 Z4 (.w 7 Z4 ZfH)]
def qAW:TQ:=.fork (.w 10 Zb ZR) (.next [(280,[.mk (.i .u32) (.w 3 (.v 5) (.i 0)),.mk (.i .i64) (.i 6),.mk (.i .i64) (.i 11),.mk (.i .i64) (.i 25)]),(280,[.mk (.i .u32) (.w 3 (.v 4) (.i 0)),.mk (.i .i64) (.i 2),.mk (.i .i64) (.i 13),.mk (.i .i64) (.i 22)])] 0 [Ze,Zc,Zej,Zd,.w 4 (.mk (.i .u32) (.u 5 2 (.w 0 Zjl (.u 5 2 (.w 0 (.u 3 280 (.w 4 Zhp (.w 4 ZfL (.w 4 ZfM (.w 4 Zhq .z))))) (.w 162 (.w 162 (.w 142 Zho Zhr) (.w 142 Zho Zhs)) (.w 142 Zhr Zhs))))))) (.w 4 Zhp (.w 4 (.mk (.i .u32) Zhr) (.w 4 (.mk (.i .u32) Zhs) .z))),.w 4 (.mk (.i .u32) (.u 5 2 (.w 0 (.w 3 Zf Zai) Zjl))) (.w 4 Zhm (.w 4 (.mk (.i .u32) (.w 3 Zj Zg)) (.w 4 (.mk (.i .u32) (.w 3 Zj ZT)) .z)))]) (.next [] 1 [Ze,Zc,Za,ZfH,Zf,Zj])
def qAX:TQ:=.fork (.w 10 Zb Z4) (.next [] 1 [Ze,Zc,Zej,.w 21 Zjm (.u 2 0 (.w 4 (.mk (.i .i64) (.w 0 Zb Z4)) (.w 4 (.mk (.i .u32) (.u 5 2 (.w 0 (.w 3 Zjm (.w 0 Zb Z4)) (.w 3 Zj Zb)))) .z))),Zf,Zj]) (.done [] (.u 2 0 (.w 4 (.mk (.i .u32) (.w 3 Zd Za)) (.w 4 (.mk (.i .u32) (.w 3 Zd Zg)) (.w 4 (.mk (.i .u32) (.w 3 Zd ZT)) (.w 4 (.mk (.i .u32) (.w 3 Zd Zai)) (.w 4 (.mk (.i .u32) (.w 3 Zd Z4)) (.w 4 (.mk (.i .u32) (.w 3 Zd (.i 5))) (.w 4 (.mk (.i .u32) (.w 3 Zd (.i 6))) (.w 4 (.mk (.i .u32) (.w 3 Zd (.i 7))) .z))))))))))
def qN8:qN PP qm2 J1=[qtj,qAW,qAX]:=by kernel_rfl
def qAY (k:Nat):TQ->T
 | .next _ _ l=>l.getD k .z|_=>.z
def qN9 (U:Nat->D):toL ((qAY 3 qtj).den (wOf PP J1) U)=(List.range 64).map fun i=>(K.i .u32).den (cel (wOf PP J1 279 [.list (toL (U 1))]) i):=by kernel_rfl
def qOa {ds:List D} {d:D} (hp:qG qhe ds) (h:Ev0 PP qm2 J1 ds d):qti ds d:=by
 refine Yc qN8 (I:=fun k U=>match k with
  | 0=>qN2 (toL (qa ds 1)) (wds (qa ds 0)) U|_=>qN3 (toL (qa ds 1)) (wds (qa ds 0)) U) (Q:=qti ds) ?_ ?_ h
 ·intro k st q U d hst hq hg hi ht;have h0:=hg.arg 0 (by decide);have h1:=hg.arg 1 (by decide);rcases k with _|_|k
  ·have hq:qAW=q:=by simpa using hq
   subst hq;obtain⟨i1,i2,i3,i4,i5⟩:=hi;rcases ht with⟨hlt,hc,hn⟩|⟨hge,_,hn⟩
   ·have hlt:decide (toI (U 2)<64)=true:=hlt;have hlt:=of_decide_eq_true hlt;obtain⟨c1,c2,_⟩:=hc;have f1:qjw _ _:=(c1 qnQ rfl).2.2;have f2:qjw _ _:=(c2 qnQ rfl).2.2;have g1:toI (wOf PP J1 280 (List.map (T.den (wOf PP J1) U) [(.mk (.i .u32) (.w 3 (.v 5) (.i 0))),(.mk (.i .i64) (.i 6)),(.mk (.i .i64) (.i 11)),(.mk (.i .i64) (.i 25))]))=sg (gw (toL (U 5)) 0) 6 11 25:=congrArg toI f1;have g2:toI (wOf PP J1 280 (List.map (T.den (wOf PP J1) U) [(.mk (.i .u32) (.w 3 (.v 4) (.i 0))),(.mk (.i .i64) (.i 2)),(.mk (.i .i64) (.i 13)),(.mk (.i .i64) (.i 22))]))=sg (gw (toL (U 4)) 0) 2 13 22:=congrArg toI f2;have e4:(toI (U 2)+1).toNat=toN (U 2)+1:=by unfold toN; omega
    have hv:=qmM (fW (wS (toL (qa ds 1))) 64) (qAq (qa ds 0)) (toN (U 2));refine hn ⟨?_,?_,i3,?_,?_⟩
    ·show 0<=toI (U 2)+1;omega
    ·show toI (U 2)+1<=64;omega
    ·show[wd (qB (qB (qB (qB (qB (gw (toL (U 5)) 3) (toI (wOf PP J1 280 (List.map (T.den (wOf PP J1) U) [(.mk (.i .u32) (.w 3 (.v 5) (.i 0))),(.mk (.i .i64) (.i 6)),(.mk (.i .i64) (.i 11)),(.mk (.i .i64) (.i 25))])))) (M44.qF (YU (gw (toL (U 5)) 0) (gw (toL (U 5)) 1)) (YU (M44.qF 4294967295 (gw (toL (U 5)) 0)) (gw (toL (U 5)) 2)))) (gw kL (toN (U 2)))) (gw (toL (U 3)) (toN (U 2)))) (qB (toI (wOf PP J1 280 (List.map (T.den (wOf PP J1) U) [(.mk (.i .u32) (.w 3 (.v 4) (.i 0))),(.mk (.i .i64) (.i 2)),(.mk (.i .i64) (.i 13)),(.mk (.i .i64) (.i 22))]))) (M44.qF (M44.qF (YU (gw (toL (U 4)) 0) (gw (toL (U 4)) 1)) (YU (gw (toL (U 4)) 0) (gw (toL (U 4)) 2))) (YU (gw (toL (U 4)) 1) (gw (toL (U 4)) 2))))),wd (gw (toL (U 4)) 0),wd (gw (toL (U 4)) 1),wd (gw (toL (U 4)) 2)]=(qaG (fW (wS (toL (qa ds 1))) 64) (wds (qa ds 0)) (toI (U 2)+1).toNat).take 4;rw[g1,g2,e4,i3,i4,i5];exact qN4 hv
    ·show[wd (qB (gw (toL (U 4)) 3) (qB (qB (qB (qB (gw (toL (U 5)) 3) (toI (wOf PP J1 280 (List.map (T.den (wOf PP J1) U) [(.mk (.i .u32) (.w 3 (.v 5) (.i 0))),(.mk (.i .i64) (.i 6)),(.mk (.i .i64) (.i 11)),(.mk (.i .i64) (.i 25))])))) (M44.qF (YU (gw (toL (U 5)) 0) (gw (toL (U 5)) 1)) (YU (M44.qF 4294967295 (gw (toL (U 5)) 0)) (gw (toL (U 5)) 2)))) (gw kL (toN (U 2)))) (gw (toL (U 3)) (toN (U 2))))),wd (gw (toL (U 5)) 0),wd (gw (toL (U 5)) 1),wd (gw (toL (U 5)) 2)]=(qaG (fW (wS (toL (qa ds 1))) 64) (wds (qa ds 0)) (toI (U 2)+1).toNat).drop 4;rw[g1,e4,i3,i4,i5];exact qN5 hv
   ·have hge:decide (toI (U 2)<64)=false:=hge;have hge:=of_decide_eq_false hge;have e:toN (U 2)=64:=by unfold toN; omega
    rw[e]at i4 i5;refine hn ⟨?_,?_,?_,i4,i5⟩
    ·show(0:Int)<=0;decide
    ·show(0:Int)<=4;decide
    ·show wds (U 0)=wds (qa ds 0);rw[h0]
  ·have hq:qAX=q:=by simpa using hq
   subst hq;obtain⟨i1,i2,i3,i4,i5⟩:=hi;rcases ht with⟨hlt,_,hn⟩|⟨hge,_,rfl⟩
   ·have hlt:decide (toI (U 2)<4)=true:=hlt;have hlt:=of_decide_eq_true hlt;have e1:(toI (U 2)+1).toNat=toN (U 2)+1:=by unfold toN; omega
    have e4:(toI (U 2)+4).toNat=toN (U 2)+4:=by unfold toN; omega
    refine hn ⟨?_,?_,?_,i4,i5⟩
    ·show 0<=toI (U 2)+1;omega
    ·show toI (U 2)+1<=4;omega
    ·show((toL (U 3)).set (toN (U 2)) (wd (qB (gw (toL (U 3)) (toN (U 2))) (gw (toL (U 4)) (toN (U 2)))))).set (toI (U 2)+4).toNat (wd (qB (gw ((toL (U 3)).set (toN (U 2)) (wd (qB (gw (toL (U 3)) (toN (U 2))) (gw (toL (U 4)) (toN (U 2)))))) (toI (U 2)+4).toNat) (gw (toL (U 5)) (toN (U 2)))))=qfH _ _ _ (toI (U 2)+1).toNat;rw[e1,e4,i3,i4,i5];rfl
   ·have hge:decide (toI (U 2)<4)=false:=hge;have hge:=of_decide_eq_false hge;have e:toN (U 2)=4:=by unfold toN; omega
    have hs:=qAq (qa ds 0);rw[e,qMa (qmM _ hs 64) hs]at i3;show D.agg [wd (gw (toL (U 3)) 0),wd (gw (toL (U 3)) 1),wd (gw (toL (U 3)) 2),wd (gw (toL (U 3)) 3),wd (gw (toL (U 3)) 4),wd (gw (toL (U 3)) 5),wd (gw (toL (U 3)) 6),wd (gw (toL (U 3)) 7)]=_;rw[i3,qMd (qAp (qmM _ hs 64) hs)];rfl
  ·simp at hq
 ·intro d ht;obtain⟨⟨c1,_⟩,hn⟩:=ht;have f1:qoo _ _:=(c1 quk rfl).2.2;have f1:wOf PP J1 279 [.list (toL (qa ds 1))]=.agg (fW (wS (toL (qa ds 1))) 64):=f1;refine hn ⟨?_,?_,?_,rfl,rfl⟩
  ·show(0:Int)<=0;decide
  ·show(0:Int)<=64;decide
  ·show toL ((qAY 3 qtj).den (wOf PP J1) (qa ds))=fW (wS (toL (qa ds 1))) 64;rw[qN9,f1];exact qN6 (qg7 (wS (toL (qa ds 1))) 64) (qje (wS (toL (qa ds 1))) 64)
def qOb:qm PP 189 qjl:=qN7.more fun ds d hp _ h=>⟨fun f hf=>(by cases hf),qOa hp h⟩
def cpN (H:List D):Nat->List D
 | 0=>List.replicate 16 zD|i+1=>(cpN H i).set i (.int .u8 (gw H i))
def qjG (s:List D):∀i,(cpN s i).length=16
 | 0=>by simp[cpN]
 | i+1=>by unfold cpN; rw[qUI,qjG s i]
def qjH (s:List D):∀t,∀x∈cpN s t,∃n:Int,x=.int .u8 n
 | 0,x,h=>⟨0,qVK h⟩|t+1,x,h=>by
  unfold cpN at h;rcases qVb h with h|h
  ·exact qjH s t x h
  ·exact⟨_,h⟩
def qBW {ws:List D} (hl:ws.length=16) (hi:∀x∈ws,∃n:Int,x=.int .u8 n):((List.range 16).map fun i=>(K.i .u8).den (ws.getD i .nilp))=ws:=by
 refine qU6 (by simp[hl]) fun j h1 h2=>?_
 rw[qVI,qVJ,zzG,qTE h2];obtain⟨n,hn⟩:=hi _ (qTL h2);rw[qTT,hn];rfl
def qW8 {ws:List D} (hl:ws.length=32) (hi:∀x∈ws,∃n:Int,x=.int .u8 n):((List.range 32).map fun i=>(K.i .u8).den (cel (.agg ws) i))=ws:=quu hl hi
def qaL (x:List D):List D:=Y0 (qao (JI x) ivL) 32
def qul (ds:List D) (d:D):Prop:=qbs (toL (qa ds 0))->d=.agg (cpN (qaL (toL (qa ds 0))) 16)
structure qW9 (H:List D) (U:Nat->D):Prop where
 lo:0<=toI (U 1)
 hi:toI (U 1)<=16
 h:toL (U 2)=H
 o:toL (U 3)=cpN H (toN (U 1))
def qjI:Con:={pts:=[Zb2],pre:=[],rts:=[Zdm],post:=[]}
def qou:RFn:=mF 108 qjI [⟨4,[Z2,ZbK,(4,ZcV),(5,ZcU)],[Zd7,.arr 32 (.i .u8) Zb false,.arr 16 (.i .u8) Zd false],[Zb2,.i .i64,.l 32 .y8,.l 16 .y8],[.nle ZcR Zx,.nle ZaE Zam,Zaa],(Za,.w 1 ZaE Zc,Zk,Za,Za,Za)⟩]
def qeH:Tab:=[(190,quw)]
def qXa:qH PP 108 qjI (Ev0 PP qou qeH):=fe qou qeH (qj qYl (qo)) (by kernel_rfl) (by refine⟨?_,?_,trivial⟩<;>intro<;>kernel_rfl)
def qum:Con:={qjI with post:=qjI.post++[],fact:=qul}
def qun:TQ:=.next [(190,[Zdg])] 0 [Ze,Za,.w 4 (.mk (.i .u8) (.u 1 0 ZB)) (.w 4 (.mk (.i .u8) (.u 1 1 ZB)) (.w 4 (.mk (.i .u8) (.u 1 2 ZB)) (.w 4 (.mk (.i .u8) (.u 1 3 ZB)) (.w 4 (.mk (.i .u8) (.u 1 4 ZB)) (.w 4 (.mk (.i .u8) (.u 1 5 ZB)) (.w 4 (.mk (.i .u8) (.u 1 6 ZB)) (.w 4 (.mk (.i .u8) (.u 1 7 ZB)) (.w 4 (.mk (.i .u8) (.u 1 8 ZB)) (.w 4 (.mk (.i .u8) (.u 1 9 ZB)) (.w 4 (.mk (.i .u8) (.u 1 10 ZB)) (.w 4 (.mk (.i .u8) (.u 1 11 ZB)) (.w 4 (.mk (.i .u8) (.u 1 12 ZB)) (.w 4 (.mk (.i .u8) (.u 1 13 ZB)) (.w 4 (.mk (.i .u8) (.u 1 14 ZB)) (.w 4 (.mk (.i .u8) (.u 1 15 ZB)) (.w 4 (.mk (.i .u8) (.u 1 16 ZB)) (.w 4 (.mk (.i .u8) (.u 1 17 ZB)) (.w 4 (.mk (.i .u8) (.u 1 18 ZB)) (.w 4 (.mk (.i .u8) (.u 1 19 ZB)) (.w 4 (.mk (.i .u8) (.u 1 20 ZB)) (.w 4 (.mk (.i .u8) (.u 1 21 ZB)) (.w 4 (.mk (.i .u8) (.u 1 22 ZB)) (.w 4 (.mk (.i .u8) (.u 1 23 ZB)) (.w 4 (.mk (.i .u8) (.u 1 24 ZB)) (.w 4 (.mk (.i .u8) (.u 1 25 ZB)) (.w 4 (.mk (.i .u8) (.u 1 26 ZB)) (.w 4 (.mk (.i .u8) (.u 1 27 ZB)) (.w 4 (.mk (.i .u8) (.u 1 28 ZB)) (.w 4 (.mk (.i .u8) (.u 1 29 ZB)) (.w 4 (.mk (.i .u8) (.u 1 30 ZB)) (.w 4 (.mk (.i .u8) (.u 1 31 ZB)) .z))))))))))))))))))))))))))))))),Zia]
def qBX:TQ:=.fork ZgA (.next [] 0 [Ze,Zbv,Zb,.w 21 Zd (.u 2 0 (.w 4 Zag (.w 4 (.mk (.i .u8) (.w 3 Zb Zc)) .z)))]) (.done [] (.u 2 0 (.w 4 Zk8 (.w 4 Zk9 (.w 4 Zla (.w 4 Zlb (.w 4 Zlc (.w 4 Zld (.w 4 Zle (.w 4 Zlf (.w 4 Zlg (.w 4 Zlh (.w 4 Zli (.w 4 Zlj (.w 4 Zlk (.w 4 Zll (.w 4 Zlm (.w 4 Zln .z))))))))))))))))))
def qXb:qN PP qou qeH=[qun,qBX]:=by kernel_rfl
def qBY (k:Nat):TQ->T
 | .next _ _ l=>l.getD k .z|_=>.z
def qXc (U:Nat->D):toL ((qBY 2 qun).den (wOf PP qeH) U)=(List.range 32).map fun i=>(K.i .u8).den (cel (wOf PP qeH 190 [.list (toL (U 0))]) i):=by kernel_rfl
def qXd {ds:List D} {d:D} (hp:qG qjI ds) (h:Ev0 PP qou qeH ds d):qul ds d:=by
 intro hl;refine Yc qXb (I:=fun k U=>qW9 (qaL (toL (qa ds 0))) U) (Q:=fun d=>d=.agg (cpN (qaL (toL (qa ds 0))) 16)) ?_ ?_ h
 ·intro k st q U d hst hq hg hi ht;rcases k with _|k
  ·have hq:qBX=q:=by simpa using hq
   subst hq;obtain⟨i1,i2,i3,i4⟩:=hi;rcases ht with⟨hlt,_,hn⟩|⟨hge,_,rfl⟩
   ·have hlt:decide (toI (U 1)<16)=true:=hlt;have hlt:=of_decide_eq_true hlt;have e1:(toI (U 1)+1).toNat=toN (U 1)+1:=by unfold toN; omega
    refine hn ⟨?_,?_,i3,?_⟩
    ·show 0<=toI (U 1)+1;omega
    ·show toI (U 1)+1<=16;omega
    ·show(toL (U 3)).set (toN (U 1)) (.int .u8 (gw (toL (U 2)) (toN (U 1))))=cpN _ (toI (U 1)+1).toNat;rw[e1,i3,i4];rfl
   ·have hge:decide (toI (U 1)<16)=false:=hge;have hge:=of_decide_eq_false hge;have e:toN (U 1)=16:=by unfold toN; omega
    rw[e]at i4;show D.agg ((List.range 16).map fun i=>(K.i .u8).den ((toL (U 3)).getD i .nilp))=_;rw[i4,qBW (qjG _ 16) (qjH _ 16)]
  ·simp at hq
 ·intro d ht;obtain⟨⟨c1,_⟩,hn⟩:=ht;have f1:quv _ _:=(c1 quw rfl).2.2;have f1:wOf PP qeH 190 [.list (toL (qa ds 0))]=.agg (qaL (toL (qa ds 0))):=f1 hl;refine hn ⟨?_,?_,?_,?_⟩
  ·show(0:Int)<=0;decide
  ·show(0:Int)<=16;decide
  ·show toL ((qBY 2 qun).den (wOf PP qeH) (qa ds))=_;rw[qXc,f1];exact qW8 (qjK (qao (JI (toL (qa ds 0))) ivL) 32) (qoG (qao (JI (toL (qa ds 0))) ivL) 32)
  ·rfl
def qXe:qm PP 108 qum:=qXa.more fun ds d hp _ h=>⟨fun f hf=>(by cases hf),qXd hp h⟩
def qna (ds:List D) (d:D):Prop:=d=.list (YI (qa ds 0))
def qnb:Con:={pts:=[ZhG],pre:=[.le Zd0 (.i 100000)],rts:=Ze8,post:=[.le Zi Zd0]}
def qOy:RFn:={g:=94,con:=qnb,wr:=false,pn:=14,rec':={ms:=[(94,Zfe)],cur:=Zfe},sts:=[{id:=3,env:=[Zal,(3,.o (.sl 1 9 Za Za Za true)),(4,ZcU)],rows:=[Zd6,.dat 9 .z false],tys:=[ZhG,.i .i64],inv:=[Zaa],ms:=(Za,.w 1 Zch Zc,Zk,Za,Za,Za)},{id:=3,env:=[Zal,(3,.o (.sl 1 9 Za Zc Zb false)),ZbR],rows:=[Zd6,.dat 9 Zf false],tys:=[ZhG,.i .i64,.i .i64,.i .i64,.l 100000 ZcC],inv:=[Zah,.le ZQ (.w 0 Zcr (.u 12 1000 (.w 6 Zd Za9))),ZcN,Zci],ms:=(Za,.w 1 Zch Zd,Zk,Za,Za,Za)}]}
def qex:Tab:=[]
def qOz:qaA PP qex:=qo
def qbn:Con:={qnb with post:=qnb.post++[],fact:=qna}
def qOA:TQ:=.fork (.w 11 Zcr Za) (.next [] 0 [Ze,Za]) (.next [] 1 [Ze,.w 8 Za Zcr,.w 8 Za Zcr,Za,ZcG])
def qA2:TQ:=.fork (.w 10 Zc Zch) (.fork (.w 11 ZjK Za) (.next [(94,[ZjJ])] 0 [Ze,Zbv]) (.next [(94,[ZjJ])] 1 [Ze,.w 8 Za ZjK,.w 8 Za ZjK,Zbv,.u 3 94 (.w 4 ZjJ .z)])) (.done [] .z)
def qA3:TQ:=.fork (.w 10 Zd Zch) (.fork (.w 11 ZjM Za) (.next [(94,[ZjL])] 1 [Ze,Zc,Zb,ZaI,Zf]) (.next [(94,[ZjL])] 1 [Ze,.w 8 Zc ZjM,.w 8 Zc ZjM,ZaI,.w 5 Zc2 (.u 3 94 (.w 4 ZjL .z))])) (.done [] Zc2)
def qhh:RFn:={qOy with con:=qbn}
def qOB:qN PP qhh ((94,qbn)::qex)=[qOA,qA2,qA3]:=by kernel_rfl
def qOC:J8 PP qhh ((94,qbn)::qex)=true:=by kernel_rfl
def qOD:J9 PP qhh ((94,qbn)::qex) (qJ PP qhh):=by refine⟨?_,?_,?_,trivial⟩<;>intro<;>kernel_rfl
def qnc:Y:=qnb.pts.getD 0 .b
abbrev W94:Nat->List D->D:=wOf PP ((94,qbn)::qex)
structure qcl (x:D) (acc:List D) (k:Int) (U0:D):Prop where
 a0:U0=x
 i0:0<=k
 eq:acc=toL (cel x 11)++((toL (cel x 10)).take k.toNat).flatMap YI
def qcl.step {x:D} {acc w:List D} {k:Int} {U0:D} (h:qcl x acc k U0) (hk:k<(((toL (cel x 10)).length:Nat):Int)) (hw:w=YI ((toL (cel x 10)).getD k.toNat .nilp)):qcl x (acc++w) (k+1) U0:=by
 refine⟨h.a0,by have:=h.i0; omega,?_⟩;have h0:=h.i0;rw[h.eq,hw,qTW,qKM (by omega),show(k+1).toNat=k.toNat+1 by omega]
def qcl.step0 {x:D} {acc w:List D} {k:Int} {U0:D} (h:qcl x acc k U0) (hk:k<(((toL (cel x 10)).length:Nat):Int)) (hw:w=YI ((toL (cel x 10)).getD k.toNat .nilp)) (h2:((w.length:Nat):Int)<=0):qcl x acc (k+1) U0:=by
 have:=h.step hk hw;rw[qVS.1 (Nat.le_zero.1 (Int.ofNat_le.1 h2)),qT7]at this;exact this
def qcl.done {x:D} {acc:List D} {k:Int} {U0:D} (h:qcl x acc k U0) (hk:¬k<(((toL (cel x 10)).length:Nat):Int)):acc=YI x:=by
 have h0:=h.i0;rw[h.eq,qfx,qTX (by omega)]
def qcm (n:Nat) (row:List D) (acc:List D):Prop:=n<=row.length/\row.take n=acc
def qcm.app {n:Nat} {row acc w:List D} (h:qcm n row acc):qcm (n+w.length) ((row.drop 0).take n++w) (acc++w):=by
 obtain⟨h1,h2⟩:=h;have hl:acc.length=n:=by rw[<-h2,qTU]; omega
 rw[qTY,h2];exact⟨by rw[qTN]; omega,by rw[qTX (by rw[qTN]; omega)]⟩
def qnd {U:Nat->D} {x:D} {k:Int} {A:T} (hA:A.den W94 U=qnc.form ((toL (cel x 10)).getD k.toNat .nilp)) (hx:qd qnc x) (h0:0<=k) (hk:k<(((toL (cel x 10)).length:Nat):Int)) (hc:YA PP ((94,qbn)::qex) U 94 [A]) :
  toL (W94 94 [A.den W94 U])=YI ((toL (cel x 10)).getD k.toNat .nilp):=by
 have hf:qna [A.den W94 U] (W94 94 [A.den W94 U]):=(hc qbn rfl).2.2;have hf:W94 94 [A.den W94 U]=.list (YI (A.den W94 U)):=hf;have hm:qd (.nm 300) ((toL (cel x 10)).getD k.toNat .nilp):=by
  obtain⟨cs,rfl,hcs⟩:=hx;obtain⟨y,hy,⟨es,rfl,_,he⟩⟩:=Y.nth_ok (k:=10) (y:=.l 300 (.nm 300)) (by rfl) hcs;have ec:cel (.agg cs) 10=.list es:=by
   show cs.getD 10 .nilp=_;rw[zzG,hy]; rfl
  rw[ec]at hk ⊢;refine he _ ?_;have hk:k<((es.length:Nat):Int):=hk;show es.getD k.toNat .nilp∈es;rw[zzG,qTE (by omega)];exact qTL _
 have hm':qd (qdj 300 300) ((toL (cel x 10)).getD k.toNat .nilp):=hm.un;have e1:qnc.form ((toL (cel x 10)).getD k.toNat .nilp)=(toL (cel x 10)).getD k.toNat .nilp:=YM (y:=qdj 300 300) (by kernel_rfl) hm';rw[hf,hA,e1]; rfl
def qOE (ds:List D) (d:D) (hp:qG qbn ds) (_:qg0 qbn ds d) (h:Ev0 PP qhh ((94,qbn)::qex) ds d):qna ds d:=by
 have hx:qd qnc (qa ds 0):=hp.1.2 0 _ rfl
 refine Yc qOB (I:=fun k U=>match k with
  | 0=>qcl (qa ds 0) [] (toI (U 1)) (U 0)|_=>∃acc,qcl (qa ds 0) acc (toI (U 3)) (U 0)/\qcm (toN (U 1)) (toL (U 4)) acc) (Q:=fun d=>d=.list (YI (qa ds 0))) ?_ ?_ h
 ·intro k st q U d hst hq hg hi ht;rcases k with _|_|k
  ·have hq:qA2=q:=by simpa using hq
   subst hq;have hi:qcl (qa ds 0) [] (toI (U 1)) (U 0):=hi;have e0:=hi.a0;rcases ht with⟨h1,ht⟩|⟨h1,_,rfl⟩
   ·have h1:decide (toI (U 1)<(((toL (cel (U 0) 10)).length:Nat):Int))=true:=h1;have h1:=of_decide_eq_true h1;rw[e0]at h1;rcases ht with⟨h2,⟨hc,_⟩,hn⟩|⟨h2,⟨hc,_⟩,hn⟩
    ·have hw:=qnd (k:=toI (U 1)) (by rw[<-e0]; rfl) hx hi.i0 h1 hc;have h2:decide ((((toL (W94 94 _)).length:Nat):Int)<=0)=true:=h2;have h2:=of_decide_eq_true h2;exact hn (hi.step0 h1 hw h2)
    ·have hw:=qnd (k:=toI (U 1)) (by rw[<-e0]; rfl) hx hi.i0 h1 hc;have hs:=hi.step h1 hw;rw[qUG]at hs;refine hn ⟨_,hs,?_⟩;show qcm (0+(toL (W94 94 _)).length) (toL (W94 94 _)) _;rw[qT6];exact⟨qTF _,qTX (qTF _)⟩
   ·have h1:decide (toI (U 1)<(((toL (cel (U 0) 10)).length:Nat):Int))=false:=h1;have h1:=of_decide_eq_false h1;rw[e0]at h1;show D.list []=_;rw[hi.done h1]
  ·have hq:qA3=q:=by simpa using hq
   subst hq;obtain⟨acc,hi,hL⟩:=hi;have e0:=hi.a0;rcases ht with⟨h1,ht⟩|⟨h1,_,rfl⟩
   ·have h1:decide (toI (U 3)<(((toL (cel (U 0) 10)).length:Nat):Int))=true:=h1;have h1:=of_decide_eq_true h1;rw[e0]at h1;rcases ht with⟨h2,⟨hc,_⟩,hn⟩|⟨h2,⟨hc,_⟩,hn⟩
    ·have hw:=qnd (k:=toI (U 3)) (by rw[<-e0]; rfl) hx hi.i0 h1 hc;have h2:decide ((((toL (W94 94 _)).length:Nat):Int)<=0)=true:=h2;have h2:=of_decide_eq_true h2;exact hn ⟨_,hi.step0 h1 hw h2,hL⟩
    ·have hw:=qnd (k:=toI (U 3)) (by rw[<-e0]; rfl) hx hi.i0 h1 hc;exact hn ⟨_,hi.step h1 hw,hL.app⟩
   ·have h1:decide (toI (U 3)<(((toL (cel (U 0) 10)).length:Nat):Int))=false:=h1;have h1:=of_decide_eq_false h1;rw[e0]at h1;show D.list (((toL (U 4)).drop 0).take (toN (U 1)))=_;rw[qTY,hL.2,hi.done h1]
  ·simp at hq
 ·intro d ht;rcases ht with⟨h1,_,hn⟩|⟨h1,_,hn⟩
  ·have h1:decide ((((toL (cel (qa ds 0) 11)).length:Nat):Int)<=0)=true:=h1;have h1:=of_decide_eq_true h1;refine hn ⟨rfl,by show(0:Int)<=0; decide,?_⟩;rw[qVS.1 (Nat.le_zero.1 (Int.ofNat_le.1 h1))];rfl
  ·refine hn ⟨toL (cel (qa ds 0) 11),⟨rfl,by show(0:Int)<=0; decide,?_⟩,?_⟩
   ·show _=_++List.flatMap YI (List.take (Int.toNat 0) _);rw[show Int.toNat 0=0 from rfl,List.take_zero,qV6,qT7]
   ·show qcm (0+(toL (cel (qa ds 0) 11)).length) (toL (cel (qa ds 0) 11)) _;rw[qT6];exact⟨qTF _,qTX (qTF _)⟩
def qOF:qm PP 94 qbn:=(qgH (fn:=qhh) (tab:=qex) Yz mixed qOz rfl qOC qOD qOE).ok
def qne (ds:List D) (d:D):Prop:=d=.list (qx (qa ds 0))
def qjm:Con:={pts:=[.g (.ec (.i .i64) (.ec (.i .i64) (.ec (.l 300 Za8) (.ec (.i .i64) (.ec Za8 (.ec Za8 (.ec (.l 300 Zjn) (.ec (.i .i64) (.ec (.i .i64) (.ec (.i .i64) (.ec (.i .i64) (.ec (.i .i64) (.ec ZhE (.ec ZhF (.ec ZdG (.ec (.l 300 (qdi 300 300)) (.ec Za8 .e0)))))))))))))))))],pre:=[.le Ze9 (.i 100000)],rts:=Ze8,post:=[.le Zi Ze9]}
def qnf:RFn:=mF 39 qjm []
def qng:Tab:=[(94,qbn)]
def qOG:qH PP 39 qjm (Ev0 PP qnf qng):=fe qnf qng (qj qOF (qo)) (by kernel_rfl) ⟨fun U=>by kernel_rfl,trivial⟩
def qdu:Con:={qjm with post:=qjm.post++ZjN,fact:=qne}
def qOH:TQ:=.done [(94,[ZgM])] (.mk .l (.u 3 94 (.w 4 ZgM .z)))
def qOI:qN PP qnf qng=[qOH]:=by kernel_rfl
def qOJ {ds:List D} {d:D} (h:Ev0 PP qnf qng ds d):qne ds d:=by
 refine Yc qOI (I:=fun _ _=>False) (Q:=fun d=>d=.list (qx (qa ds 0))) (fun k st q U d hst hq hg hi ht=>hi.elim) (fun d ht=>?_) h;obtain⟨⟨hc,_⟩,rfl⟩:=ht;obtain⟨_,_,hf⟩:=hc qbn rfl;have hf:_=D.list (YI _):=hf;rw[qfx]at hf;exact congrArg (fun d=>D.list (toL d)) hf
end Go.Aev.R29
end
