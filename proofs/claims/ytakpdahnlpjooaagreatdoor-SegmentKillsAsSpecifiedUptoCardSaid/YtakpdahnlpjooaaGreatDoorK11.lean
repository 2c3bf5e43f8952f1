/- Lemmas: a machine that the model follows, and contracts. Conditions: none. -/
import Derived.Test.YtakpdahnlpjooaaGreatDoorK10
set_option linter.all false
set_option maxRecDepth 1000000
set_option maxHeartbeats 0
noncomputable section
namespace Go.Aev.R
open Go Go.Aev
variable [RT]
structure Gam where
 hs:List (T×Y)
 fs:List F
 B:Bs
def lkT (t:T):List (T×Y)->Option Y
 | []=>none|p::r=>match p.1.eq t with
  | true=>some p.2|false=>lkT t r
def Y.nth:Y->Nat->Option Y
 | .ec c _,0=>some c|.ec _ r,n+1=>r.nth n|_,_=>none
def qrj (p q:Bool×T×T):Bool:=bEq p.1 q.1&&(p.2.1.eq q.2.1&&p.2.2.eq q.2.2)
def qeb (ps qs:List (Bool×T×T)):Bool:=ps.all fun p=>qs.any (qrj p)
def Y.subA (n m:Nat):Y->Y->Bool
 | .i k,.i k'=>IntKind.eq k k'|.b,.b=>true|.s n,.s m=>Nat.ble n m|.l p x,.l q y=>Nat.ble p q&&x.subA n m y|.g x,.g y=>x.subA n m y|.e0,.e0=>true|.ec p x,.ec q y=>p.subA n m q&&x.subA n m y|.nm a,.nm c=>Nat.beq a c||Nat.beq a n&&Nat.beq c m|.rg p q,.rg u w=>leI u p&&leI q w|.rg _ _,.i k=>IntKind.eq .i64 k|.y8,.y8=>true|.y8,.i k=>IntKind.eq .u8 k|.gq x _,.g y=>x.subA n m y|.gq x p,.gq y q=>x.subA n m y&&qeb q p|_,_=>false
def Y.sub:Y->Y->Bool
 | .i k,.i k'=>IntKind.eq k k'|.b,.b=>true|.s n,.s m=>Nat.ble n m|.l n x,.l m y=>Nat.ble n m&&x.sub y|.g x,.g y=>x.sub y|.e0,.e0=>true|.ec p x,.ec q y=>p.sub q&&x.sub y|.nm n,.nm m=>Nat.beq n m||Y.subA n m (RT.body n) (RT.body m)|.rg p q,.rg u w=>leI u p&&leI q w|.rg _ _,.i k=>IntKind.eq .i64 k|.y8,.y8=>true|.y8,.i k=>IntKind.eq .u8 k|.gq x _,.g y=>x.sub y|.gq x p,.gq y q=>x.sub y&&qeb q p|_,_=>false
def Y.chainy:Y->Bool
 | .ec _ _=>true|.e0=>true|_=>false
def Y.simple:Y->Bool
 | .i _=>true|.b=>true|.s _=>true|.l _ _=>true|.rg _ _=>true|.y8=>true|_=>false
def qec:T->Bool->List Lin
 | .w 10 a b,true=>[((lnI b).sub (lnI a)).plus (-1)]|.w 10 a b,false=>[(lnI a).sub (lnI b)]|.w 11 a b,true=>[(lnI b).sub (lnI a)]|.w 11 a b,false=>[((lnI a).sub (lnI b)).plus (-1)]|.w 12 a b,true=>[((lnI a).sub (lnI b)).plus (-1)]|.w 12 a b,false=>[(lnI b).sub (lnI a)]|.w 13 a b,true=>[(lnI a).sub (lnI b)]|.w 13 a b,false=>[((lnI b).sub (lnI a)).plus (-1)]|.w 14 a b,true=>[(lnI a).sub (lnI b),(lnI b).sub (lnI a)]|.w 15 a b,false=>[(lnI a).sub (lnI b),(lnI b).sub (lnI a)]|.u 6 _ x,v=>qec x (!v)|_,_=>[]
def qaT:F->List Lin
 | .le a b=>[(lnI b).sub (lnI a)]|.lt a b=>[((lnI b).sub (lnI a)).plus (-1)]|.nle a b=>[(lnN b).sub (lnN a)]|.nlt a b=>[((lnN b).sub (lnN a)).plus (-1)]|.nnle a b=>[((lnN a).sub (lnN b)).plus (-1)]|.bool t v=>qec t v|.and f g=>qaT f++qaT g|_=>[]
def qed (f:T->Y->Bool):T->Y->Bool
 | .w 4 a b,.ec c r=>r.chainy&&(f a c&&qed f b r)|.z,.e0=>true|_,_=>false
def qbX (f:T->Y->Bool) (t:T):Y->Y->Nat->Bool
 | .ec _ a,.ec c b,k=>f (.u 1 k t) c&&qbX f t a b (k+1)|.e0,.e0,_=>true|_,_,_=>false
def qcK (ck:T->Y->Bool) (base:T->Y->Bool) (e:Y):T->Bool
 | .z=>true|.w 4 a b=>ck a e&&qcK ck base e b|.w 5 a b=>qcK ck base e a&&qcK ck base e b|.w 6 _ l=>qcK ck base e l|.w 7 _ l=>qcK ck base e l|.w 21 l (.u 2 _ (.w 4 _ (.w 4 d .z)))=>qcK ck base e l&&ck d e|.w 32 _ a=>ck a e|.mk .l x=>qcK ck base e x|t=>base t e
def qrk (sy:T->Option Y) (ln:Lin->Bool) (fs:List F) (t:T) (e:Y):Bool:=match sy t with
 | some (.l _ e')=>((e'.sub e||(unN e').sub e)||match e with | .nm m=>e'.sub (RT.body m) | _=>false)||fs.any fun f=>match f with
  | .pre l i y=>l.eq t&&(y.sub e&&ln ((lnN i).sub (lnL t)))|_=>false
 | _=>false
def qfh (t q:T):Nat->List Lin
 | 0=>[(lnN q).sub (.aw t),(Lin.aw t).sub (lnN q)]|1=>[(lnN q).sub (.aw t)]|2=>[.aw t,((lnN q).sub (.aw t)).plus (-1)]|k+3=>match Nat.blt k 900 with
  | true=>[(lnN q).sub (.aw t)]|false=>[]
def qlF (t q:T):Nat->Nat->List Lin
 | 1,0=>[(lnN q).sub (.aw t)]|0,1=>[(lnN q).sub (.aw t)]|_,_=>[]
def qiz (ln:Lin->Bool) (e:Nat) (l i t:T):F->List Lin
 | .rows e' l' i' q=>match l'.eq l&&(ln (((lnN i').sub (lnN i)).plus (-1))&&ln (((lnL l).sub (lnN i)).plus (-1)))with
  | true=>match Nat.beq e e' with
   | true=>qfh t q e|false=>qlF t q e e'
  | false=>[]
 | _=>[]
def qgB (x q:T) (p:Bool×T×T):List Lin:=match p.2.1.pure0 2&&p.2.2.pure0 2 with
 | true=>match p.1 with
  | true=>[(lnN (p.2.2.sub [x,.u 4 0 q])).sub (lnN (p.2.1.sub [x,.u 4 0 q]))]|false=>[(lnI (p.2.2.sub [x,.u 4 0 q])).sub (lnI (p.2.1.sub [x,.u 4 0 q]))]
 | false=>[]
def tmV (x q:T) (p:Bool×T×T):Lin:=match p.1 with
 | true=>(lnN (p.2.2.sub [x,q])).sub (lnN (p.2.1.sub [x,q]))|false=>(lnI (p.2.2.sub [x,q])).sub (lnI (p.2.1.sub [x,q]))
def qiA (x q:T) (p:Bool×T×T):List Lin:=match p.2.1.pure 2&&p.2.2.pure 2 with
 | true=>[tmV x q p]|false=>[]
def qIY:F->Bool
 | .rows e _ _ _=>Nat.ble 903 e|_=>false
def qrl (ln:Lin->Bool) (l i:T):F->List Lin
 | .rows e l' i' q=>match (Nat.ble 903 e&&Nat.blt e 940)&&(l'.eq l&&(ln (((lnN i').sub (lnN i)).plus (-1))&&ln (((lnL l).sub (lnN i)).plus (-1))))with
  | true=>(RT.tm (e - 903)).flatMap (match Nat.blt e 920 with
   | true=>qgB (.w 3 l i) q|false=>qiA (.w 3 l i) q)
  | false=>[]
 | _=>[]
def qb6:T->T
 | .w 6 _ l=>qb6 l|.w 7 _ l=>qb6 l|.mk .l l=>qb6 l|t=>t
def qrm (ln:Lin->Bool) (l i:T):F->List Lin
 | .rows e l' i' q=>match (Nat.ble 903 e&&Nat.blt e 940)&&((!(l'.eq l)&&l'.eq (qb6 l))&&(ln ((lnN i').sub (lnL l'))&&ln (((lnL l).sub (lnN i)).plus (-1))))with
  | true=>(RT.tm (e - 903)).flatMap (match Nat.blt e 920 with
   | true=>qgB (.w 3 l i) q|false=>qiA (.w 3 l i) q)
  | false=>[]
 | _=>[]
def qrn (ln:Lin->Bool) (e:Nat) (l i t:T):F->List Lin
 | .rows e' l' i' q=>match (!(l'.eq l)&&l'.eq (qb6 l))&&(ln ((lnN i').sub (lnL l'))&&ln (((lnL l).sub (lnN i)).plus (-1)))with
  | true=>match Nat.beq e e' with
   | true=>qfh t q e|false=>qlF t q e e'
  | false=>[]
 | _=>[]
def qgC:T->List (T×T)
 | .w 3 l i=>(l,i)::qgC l|.w _ x y=>qgC x++qgC y|.u _ _ x=>qgC x|.mk _ x=>qgC x|_=>[]
def qiB (ln:Lin->Bool) (l i:T):List F->Option Y
 | []=>none|.pre l' i' y::r=>match l'.eq l&&(ln (((lnN i').sub (lnN i)).plus (-1))&&ln (((lnL l).sub (lnN i)).plus (-1)))with
  | true=>some y|false=>qiB ln l i r
 | _::r=>qiB ln l i r
def qlG:T->List T
 | .u 1 _ x=>x::qlG x|.u _ _ x=>qlG x|.mk _ x=>qlG x|_=>[]
def qro (ln:Lin->Bool):T->List Lin
 | .w 2 a b=>match a.eq b with
  | true=>.aw (.w 2 a b)::((match ln ((lnI a).smul (-1))&&ln (lnI a)with
   | true=>[(Lin.cst 0).sub (.aw (.w 2 a b))]|false=>[])++match ln ((Lin.cst 2000).sub (lnI a))&&ln ((lnI a).plus 2000)with
   | true=>[(Lin.cst 4000000).sub (.aw (.w 2 a b))]|false=>[])
  | false=>[]
 | _=>[]
def nlT:T->T
 | .mk .l x=>nlT x|t=>t
def mm1:T->Option (Bool×T×T)
 | .w 26 a b=>some (true,a,b)|.w 27 a b=>some (false,a,b)|.u 4 _ (.w 26 a b)=>some (true,.u 4 0 a,.u 4 0 b)|.u 4 _ (.w 27 a b)=>some (false,.u 4 0 a,.u 4 0 b)|.u 4 _ x=>some (true,x,.i 0)|_=>none
def qgD:List (Int×T)->Option (Int×T×T×List (Int×T))
 | []=>none|p::r=>match mm1 p.2 with
  | some (s,a,b)=>match bEq s (qal p.1)with
   | true=>some (p.1,a,b,r)|false=>match qgD r with
    | some (k,a,b,q)=>some (k,a,b,p::q)|none=>none
  | none=>match qgD r with
   | some (k,a,b,q)=>some (k,a,b,p::q)|none=>none
def qbG (ck base:T->Bool):T->Bool
 | .z=>true|.w 4 a b=>ck a&&qbG ck base b|.w 5 a b=>qbG ck base a&&qbG ck base b|.w 6 _ l=>qbG ck base l|.w 7 _ l=>qbG ck base l|.mk .l x=>qbG ck base x|t=>base t
def qfi (ln:Lin->Bool) (x q:T):Nat->Bool
 | 0=>ln ((lnN q).sub (lnL x))&&ln ((lnL x).sub (lnN q))|1=>ln ((lnN q).sub (lnL x))|2=>ln (lnI x)&&ln (((lnN q).sub (lnI x)).plus (-1))|k+3=>match Nat.blt k 900 with
  | true=>ln ((lnN q).sub (lnL (JY k x)))|false=>match Nat.blt k 917 with
   | true=>(RT.tm (k - 900)).all fun p=>(p.2.1.pure0 2&&p.2.2.pure0 2)&&ln (match p.1 with
    | true=>(lnN (p.2.2.sub [x,.u 4 0 q])).sub (lnN (p.2.1.sub [x,.u 4 0 q]))|false=>(lnI (p.2.2.sub [x,.u 4 0 q])).sub (lnI (p.2.1.sub [x,.u 4 0 q])))
   | false=>Nat.blt k 937&&(RT.tm (k - 900)).all fun p=>(p.2.1.pure 2&&p.2.2.pure 2)&&ln (tmV x q p)
def qlH (ln:Lin->Bool) (e' e:Nat) (q' q:T):Bool:=(Nat.ble 920 e||ln ((lnN q).sub (lnN q')))&&match e,e' with
 | 0,0=>ln ((lnN q').sub (lnN q))|1,0=>true|e,e'=>Nat.beq e e'&&(Nat.blt e 903||match Nat.blt e 920 with
  | true=>ln ((lnN q').sub (lnN q))|false=>q'.eq q)
def qrp (ln:Lin->Bool) (fs:List F) (e:Nat) (q:T) (t:T):Bool:=fs.any fun f=>match f with
 | .rows e' l i q'=>l.eq t&&(ln ((lnN i).sub (lnL t))&&qlH ln e' e q' q)|_=>false
def qlI:List (Bool×T×T):=[(true,.u 13 0 (.v 0),.v 1)]
def qlJ (e:Nat):Bool:=Nat.beq e 910&&(qeb qlI (RT.tm 7)&&qeb (RT.tm 7) qlI)
def qiC (ln:Lin->Bool) (fs:List F) (e:Nat) (q t:T):Bool:=qrp ln fs e q t||match e with
 | k+3=>match Nat.blt k 900 with
  | true=>ln ((lnN q).sub (.aw (.u 11 k t)))|false=>qlJ (k+3)&&ln ((lnN q).sub (.aw (.u 14 0 t)))
 | _=>false
def qlK (ln:Lin->Bool) (fs:List F) (b:T):T->Bool
 | .u 11 k l=>(Nat.blt k 900&&ln (lnI b))&&qbG (fun x=>qfi ln x b (k+3)) (qiC ln fs (k+3) b) l
 | .u 14 _ l=>(qlJ 910&&ln (lnI b))&&qbG (fun x=>qfi ln x b 910) (qiC ln fs 910 b) l
 | _=>false
def qiD (x:T):Lin:=((lnL (JY 11 x)).add (.aw (.u 12 1000 (Jc (JY 10 x))))).plus 1
def Y5 (t:T) (e:Lin):List Lin:=[(Lin.aw t).sub e,e.sub (.aw t)]
def qgE (k:Nat) (x:T):Lin:=match k with
 | 0=>lnL x|k+1=>match Nat.beq k 999 with
  | true=>.aw (.u 15 0 x)|false=>lnN (JY k x)
def qrq (ln:Lin->Bool) (k:Nat) (x t:T):List Lin:=match x with
 | .z=>Y5 t (.cst 0)|.u 1 10 y=>match Nat.beq k 1000 with
  | true=>Y5 (.u 15 0 y) (qiD y)|false=>[]
 | .w 4 a r=>Y5 t ((qgE k a).add (.aw (.u 12 k r)))|.w 5 a b=>Y5 t ((Lin.aw (.u 12 k a)).add (.aw (.u 12 k b)))|.mk .l y=>Y5 t (.aw (.u 12 k y))|.w 7 (.i (.ofNat 0)) y=>Y5 t (.aw (.u 12 k y))|.w 6 i l=>(Lin.aw (.u 12 k l)).sub (.aw t)::((match ln (((lnL l).sub (lnN i)).plus (-1))with
  | true=>[((Lin.aw (.u 12 k l)).sub (.aw t)).sub (qgE k (.w 3 l i))]|false=>[])++((match ln ((lnN i).sub (lnL l))with
  | true=>Y5 t (.aw (.u 12 k l))|false=>[])++((match ln ((lnN i).smul (-1))with
  | true=>Y5 t (.cst 0)|false=>[])++match i with
   | .w 0 j (.i (.ofNat 1))=>match ln (lnI j)&&ln (((lnL l).sub (lnI j)).plus (-1))with
    | true=>Y5 t ((Lin.aw (.u 12 k (.w 6 j l))).add (qgE k (.w 3 l j)))|false=>[]
   | .i (.ofNat (m+1))=>match ln (((lnL l).plus (-(m:Int))).plus (-1))with
    | true=>Y5 t ((Lin.aw (.u 12 k (.w 6 (.i (.ofNat m)) l))).add (qgE k (.w 3 l (.i (.ofNat m)))))|false=>[]
   | _=>[])))
 | _=>[]
def qrr (k:Nat) (x:T):List Lin:=match x with
 | .z=>Y5 (.u 14 k .z) (.cst 0)|.w 4 a r=>Y5 (.u 14 k x) (.aw (.w 26 (.u 13 0 a) (.u 14 0 r)))|.w 5 a b=>Y5 (.u 14 k x) (.aw (.w 26 (.u 14 0 a) (.u 14 0 b)))|.w 6 _ l=>[(Lin.aw (.u 14 0 l)).sub (.aw (.u 14 k x))]|.w 7 _ l=>[(Lin.aw (.u 14 0 l)).sub (.aw (.u 14 k x))]|.mk .l y=>Y5 (.u 14 k x) (.aw (.u 14 0 y))|.u 1 10 y=>Y5 (.u 13 0 y) ((Lin.aw (.u 14 0 (Jc (JY 10 y)))).plus 1)|_=>[]
def atM:Nat->List T->List T
 | _,[]=>[]|m,t::r=>match Nat.beq (Nat.mod m 2) 1 with
  | true=>t::atM (Nat.div m 2) r|false=>atM (Nat.div m 2) r
def qiE:Nat->(T->List Lin)->Rw->Nat->Nat->Bs->Bool
 | 0,_,_,_,_,_=>false|k+1,f,g,m0,dn,B =>
  let m:=qbJ 8 B.rw m0
  let nw:=Nat.xor m (Nat.land m dn)
  match Nat.beq nw 0 with
  | true=>false|false =>
   let B':=qcb ((atM nw B.as).flatMap f) B
   qiS (qbJ 8 B'.rw m0) B'.rw g||qiE k f g m0 (Nat.lor dn m) B'
def qlL:Y->Option (Y×Nat)
 | .ec c .e0=>some (c,1)|.ec c r=>match qlL r with
  | some (c',m)=>match c,c' with
   | .i k,.i k'=>match IntKind.eq k k' with
    | true=>some (c,m+1)|false=>none
   | .y8,.y8=>some (c,m+1)|_,_=>none
  | none=>none
 | _=>none
def qlM (ln:Lin->Bool) (t a b:T) (q:Bool):List Lin:=match b with
 | .i (.ofNat (m+1))=>match ln (lnI a)&&ln ((Lin.cst 9223372036854775807).sub (lnI a))with
  | true=>match q with
   | true=>[.aw t,(lnI a).sub ((Lin.aw t).smul (m+1)),(((Lin.aw t).smul (m+1)).plus m).sub (lnI a)]|false=>[.aw t,(Lin.cst m).sub (.aw t),(lnI a).sub (.aw t)]++Y5 t ((lnI a).sub ((Lin.aw (.w 100 a b)).smul (m+1)))
  | false=>[]
 | _=>[]
def qrs (sy:Option Y):T->Bool
 | .u 5 1 _=>true|.w 24 _ _=>true|.w 161 _ _=>true|.i (.ofNat n)=>Nat.blt n 256|_=>match sy with
  | some .y8=>true|_=>false
mutual
def YY:Nat->Nat->Gam->T->Option Y
 | 0,_,G,t=>lkT t G.hs|n+1,d,G,t=>match lkT t G.hs with
  | some y=>some y|none=>match t with
   | .i _=>some (.i .i64)|.t _=>some .b|.s l=>some (.s l.length)|.u 1 k x=>match (YY n d G x).map unY with
    | some (.g r)=>r.nth k|_=>none
   | .w 3 l i=>match qiB (qW n d G) l i G.fs with
    | some y=>some y|none=>match YY n d G l with
    | some (.l _ e)=>match qW n d G (((lnL l).sub (lnN i)).plus (-1))with
     | true=>some e|false=>none
    | _=>none
   | .mk (.i k) x=>match k with
    | .u8=>match qrs (YY n d G x) x with
     | true=>some .y8|false=>some (.i .u8)
    | k=>some (.i k)
   | .mk .b _=>some .b|.mk .s x=>match YY n d G x with
    | some (.s m)=>some (.s m)|_=>none
   | .mk .l x=>match YY n d G x with
    | some (.l m e)=>some (.l m e)|_=>none
   | .w 6 _ l=>match YY n d G l with
    | some (.l m e)=>some (.l m e)|_=>none
   | .w 7 _ l=>match YY n d G l with
    | some (.l m e)=>some (.l m e)|_=>none
   | .w 10 _ _=>some .b|.w 11 _ _=>some .b|.w 12 _ _=>some .b|.w 13 _ _=>some .b|.w 14 _ _=>some .b|.w 15 _ _=>some .b|.w 16 _ _=>some .b|.w 17 _ _=>some .b|.w 18 _ _=>some .b|.w 19 _ _=>some .b|.w 20 _ _=>some .b|.u 6 _ _=>some .b|.w 0 _ _=>some (.i .i64)|.w 1 _ _=>some (.i .i64)|.w 2 _ _=>some (.i .i64)|.w 8 _ _=>some (.i .i64)|.w 22 _ _=>some (.i .i64)|.w 23 _ _=>some (.i .i64)|.w 24 _ _=>some (.i .u8)|.u 0 _ _=>some (.i .i64)|.u 4 _ _=>some (.i .i64)|.u 5 _ _=>some (.i .i64)|.u 7 _ _=>some (.i .i64)|.u 8 _ _=>some (.i .i64)|.u 10 _ _=>some (.i .i64)|.w 9 _ _=>some (.i .i64)|.w 100 _ _=>some (.i .i64)|.w 110 _ _=>some (.i .i64)|.w 26 _ _=>some (.i .i64)|.w 27 _ _=>some (.i .i64)|.w 28 _ _=>some .b|.w 33 _ _=>some .b|.w 29 _ _=>some .b|.w 30 _ _=>some .b|.u 9 _ _=>some (.i .i64)|.u 16 _ x=>match YY n d G x with
    | some (.l m .y8)=>some (.s m)|_=>none
   | _=>none
def qW:Nat->Nat->Gam->Lin->Bool
 | 0,_,G,goal=>qsh 3 G.B goal|n+1,d,G,goal=>match qbI goal G.B with
  | (g,B) =>
   let m0:=qsg g.1 B.rw
   let m1:=qbJ 1 B.rw m0
   let m3:=qbJ 8 B.rw m1
   match qmm B.rw g.2||qiS m1 B.rw g.2 with
   | true=>true|false=>match !(Nat.beq m1 m3)&&qiS m3 B.rw g.2 with
    | true=>true|false=>match d with
     | 0=>false|d+1=>!(qfq g.2.2)&&qiE 8 (qfj n d G) g.2 m0 0 B||match qgD goal.ts with
      | some (k,a,b,r)=>qW n d G ⟨goal.c+k*(lnI a).c,((lnI a).smul k).ts++r⟩&&qW n d G ⟨goal.c+k*(lnI b).c,((lnI b).smul k).ts++r⟩|none=>false
def qfj:Nat->Nat->Gam->T->List Lin
 | 0,_,_,_=>[]|n+1,d,G,t=>(match YY n d G t with
  | some (.rg a b)=>[(Lin.aw t).plus (-a),(Lin.cst b).sub (.aw t)]|_=>[])++(((qlG t).flatMap fun x=>match YY n d G x with
   | some y=>match unN y with
    | .gq _ ps=>ps.flatMap (qgB x (.i 0))|_=>[]
   | none=>[])++((match G.fs.any qIY with
  | true=>(qgC t).flatMap fun p=>G.fs.flatMap (qrl (qW n d G) p.1 p.2)++G.fs.flatMap (qrm (qW n d G) p.1 p.2)
  | false=>[])++(qro (qW n d G) t++match t with
  | .u 0 _ x=>(match YY n d G x with
   | some (.l m _)=>[(Lin.cst m).sub (.aw t)]|_=>[])++(match x with
   | .w 3 l i=>G.fs.flatMap (qiz (qW n d G) 0 l i t)++G.fs.flatMap (qrn (qW n d G) 0 l i t)|.u 1 k (.w 3 l i)=>G.fs.flatMap (qiz (qW n d G) (k+3) l i t)++match qW n d G (((lnL l).sub (lnN i)).plus (-1))with
    | true=>[(Lin.aw (.u 11 k (nlT l))).sub (.aw t)]|false=>[]
   | .w 6 a (.w 7 o l)=>match qW n d G (((lnL l).sub (lnN a)).sub (lnN o))with
    | true=>[(lnN a).sub (.aw t),(Lin.aw t).sub (lnN a)]|false=>[]
   | .w 7 o l=>match qW n d G ((lnL l).sub (lnN o))with
    | true=>Y5 t ((lnL l).sub (lnN o))|false=>[]
   | _=>[])
  | .u 7 _ x=>(match YY n d G x with
   | some (.s m)=>[(Lin.cst m).sub (.aw t)]|_=>[])++match x with
   | .u 16 _ l=>Y5 t (lnL l)|_=>[]
  | .u 4 _ x=>(Lin.aw t).sub (lnI x)::match qW n d G (lnI x)with
   | true=>[(lnI x).sub (.aw t)]|false=>[]
  | .u 5 0 x=>match qW n d G ((lnI x).plus 9223372036854775808)&&qW n d G ((Lin.cst 9223372036854775807).sub (lnI x))with
   | true=>[(lnI x).sub (.aw t),(Lin.aw t).sub (lnI x)]|false=>[]
  | .w 3 l i=>G.fs.flatMap (qiz (qW n d G) 2 l i t)|.u 12 k x=>qrq (qW n d G) k x t|.u 13 k x=>Y5 t ((Lin.aw (.u 14 0 (Jc (JY 10 x)))).plus 1)++match x with
   | .w 3 l i=>match qW n d G (((lnL l).sub (lnN i)).plus (-1))with
    | true=>[(Lin.aw (.u 14 0 (nlT l))).sub (.aw (.u 13 k x))]|false=>[]
   | .u 2 _ (.w 4 (.mk _ (.u 1 _ e)) _)=>Y5 (.u 13 0 e) ((Lin.aw (.u 14 0 (Jc (JY 10 e)))).plus 1)|_=>[]
  | .u 14 k x=>qrr k x|.u 15 k x=>Y5 t (qiD x)++match x with
   | .w 3 l i=>match qW n d G (((lnL l).sub (lnN i)).plus (-1))with
    | true=>[(Lin.aw (.u 12 1000 (nlT l))).sub (.aw (.u 15 k x))]|false=>[]
   | .u 2 _ (.w 4 (.mk _ (.u 1 _ e)) _)=>Y5 (.u 15 0 e) (qiD e)|_=>[]
  | .w 9 a b=>match qW n d G ((lnN a).sub (lnN b))with
   | true=>[((lnN a).sub (lnN b)).sub (.aw t),(Lin.aw t).sub ((lnN a).sub (lnN b))]|false=>[]
  | .w 26 a b=>[(Lin.aw t).sub (lnI a),(Lin.aw t).sub (lnI b)]++match qW n d G ((lnI a).sub (lnI b))with
   | true=>[(lnI a).sub (.aw t)]|false=>match qW n d G ((lnI b).sub (lnI a))with
    | true=>[(lnI b).sub (.aw t)]|false=>match qW n d G (lnI a)&&qW n d G (lnI b)with
     | true=>[((lnI a).add (lnI b)).sub (.aw t)]|false=>[]
  | .w 27 a b=>[(lnI a).sub (.aw t),(lnI b).sub (.aw t)]++match qW n d G ((lnI a).sub (lnI b))with
   | true=>[(Lin.aw t).sub (lnI b)]|false=>match qW n d G ((lnI b).sub (lnI a))with
    | true=>[(Lin.aw t).sub (lnI a)]|false=>match qW n d G (lnI a)&&qW n d G (lnI b)with
     | true=>[.aw t]|false=>[]
  | .w 100 a b=>qlM (qW n d G) t a b true|.w 110 a b=>qlM (qW n d G) t a b false|_=>[])))
def qaU:Nat->Nat->Gam->T->Y->Bool
 | 0,_,_,_,_=>false|n+1,d,G,t,y=>(match YY n d G t with
   | some y'=>(y'.sub y||(unN y').sub y)||(y'.simple&&match lkT (.mk y'.kind t) G.hs with
    | some y''=>y''.sub y|none=>false)
   | none=>false)||match y with
  | .l m e=>qcK (qaU n d G) (qrk (YY n d G) (qW n d G) G.fs) e t&&qW n d G ((Lin.cst m).sub (lnL t))|.s m=>match YY n d G t with
   | some (.s _)=>qW n d G ((Lin.cst m).sub (.aw (.u 7 0 t)))|_=>match t with
    | .u 16 _ x=>qaU n d G x (.l m .y8)|.mk .s (.u 16 _ x)=>qaU n d G x (.l m .y8)|_=>false
  | .g r=>match t with
   | .u 2 _ x=>qed (qaU n d G) x r||match YY n d G x,qlL r with
    | some (.l _ e),some (c,m)=>e.sub c&&(qW n d G ((lnL x).plus (-(m:Int)))&&qW n d G ((Lin.cst m).sub (lnL x)))|_,_=>false
   | _=>match (YY n d G t).map unY with
    | some (.g r')=>qbX (qaU n d G) t r' r 0|_=>false
  | .ec c r=>qed (qaU n d G) t (.ec c r)|.e0=>qed (qaU n d G) t .e0|.nm m=>qaU n d G t (RT.body m)|.gq r ps=>qaU n d G t (.g r)&&ps.all fun p=>(p.2.1.pure0 2&&p.2.2.pure0 2)&&(qW n d G (match p.1 with
   | true=>(lnN (p.2.2.sub [t,.u 4 0 (.i 0)])).sub (lnN (p.2.1.sub [t,.u 4 0 (.i 0)]))|false=>(lnI (p.2.2.sub [t,.u 4 0 (.i 0)])).sub (lnI (p.2.1.sub [t,.u 4 0 (.i 0)])))||!p.1&&qlK (qW n d G) G.fs (p.2.2.sub [t,.u 4 0 (.i 0)]) (p.2.1.sub [t,.u 4 0 (.i 0)]))
  | .rg a b=>(match YY n d G t with
   | some (.i k)=>IntKind.eq k .i64|some (.rg _ _)=>true|_=>false)&&(qW n d G ((lnI t).plus (-a))&&qW n d G ((Lin.cst b).sub (lnI t)))
  | _=>false
end
def DEP:Nat:=3
def qrt (n:Nat) (G:Gam):Bool:=qiE 8 (qfj n 1 G) (-1,[]) (qsg 0 G.B.rw) 0 G.B
abbrev qdk (n:Nat) (G:Gam) (t:T):Option Y:=YY n DEP G t
abbrev lin (n:Nat) (G:Gam) (g:Lin):Bool:=qW n DEP G g
abbrev aux (n:Nat) (G:Gam) (t:T):List Lin:=qfj n DEP G t
abbrev chk (n:Nat) (G:Gam) (t:T) (y:Y):Bool:=qaU n DEP G t y
section
variable {wf:Nat->List D->D} {rcP:Nat->List D->Prop} {U:Nat->D}
variable [PW]
structure Gam.OK (wf:Nat->List D->D) (rcP:Nat->List D->Prop) (U:Nat->D) (G:Gam):Prop where
 wv:∀g,Jw<=g->wf g=PW.wV g
 hs:∀p∈G.hs,qd p.2 (p.1.den wf U)
 fs:∀f∈G.fs,f.den wf rcP U
 ls:G.B.OK wf U
def qlN {t:T} {y:Y}:∀{hs:List (T×Y)},lkT t hs=some y->(∀p∈hs,qd p.2 (p.1.den wf U))->qd y (t.den wf U)
 | [],h,_=>by cases h
 | p::r,h,hp=>by
  simp only[lkT]at h;split at h
  ·rename_i he;cases h;rw[<-T.eq_eq he]; exact hp p (by simp)
  ·exact qlN h fun q hq=>hp q (qTG _ hq)
def qb7 {y:Y} {d:D} (h:y.simple=true) (hd:qd y d):y.kind.den d=d:=by
 cases y<;>simp only[Y.simple]at h<;>first|cases h|skip
 ·obtain⟨n,rfl⟩:=hd; rfl
 ·obtain⟨n,rfl⟩:=hd; rfl
 ·obtain⟨n,rfl,_⟩:=hd; rfl
 ·obtain⟨n,rfl,_⟩:=hd; rfl
 ·obtain⟨n,rfl,_⟩:=hd; rfl
 ·obtain⟨n,rfl⟩:=hd; rfl
def qlO {a b:Int} (h:leI a b=true):a<=b:=by
 unfold leI at h;split at h
 ·cases h
 ·rename_i hn
  cases hz:b - a with
  | ofNat n=>have:b - a=(n:Int):=hz; omega
  | negSucc n=>rw[hz]at hn; simp[qal]at hn
def qxV {ps qs:List (Bool×T×T)} {d:D} (h:qeb ps qs=true) (hq:∀q∈qs,qaE d 0 q):∀p∈ps,qaE d 0 p:=by
 intro p hp;obtain⟨q,hq',e⟩:=qUb.1 (qTI.1 h p hp);unfold qrj at e;rw[qTC,qTC]at e;have:p=q:=by
  obtain⟨a,b,c⟩:=p;obtain⟨a',b',c'⟩:=q;have e1:=qgO e.1; have e2:=T.eq_eq e.2.1; have e3:=T.eq_eq e.2.2;simp only at e1 e2 e3;rw[e1,e2,e3]
 rw[this]; exact hq q hq'
def Y.subA_ok {n m:Nat}:∀{x y:Y} {d:D},x.subA n m y=true->qcf JR x d->qcf (fun k e=>JR k e\/k=m/\JR n e) y d:=by
 intro x
 induction x with
 | i k=>intro y d h hd; cases y<;>simp only[Y.subA]at h<;>first | (rw[<-IntKind.eq_eq h]; exact hd) | cases h
 | b=>intro y d h hd; cases y<;>simp only[Y.subA]at h<;>first|exact hd|cases h
 | s p =>
  intro y d h hd; cases y<;>simp only[Y.subA]at h<;>first|cases h|skip
  obtain⟨l,h1,h2⟩:=hd;exact⟨l,h1,qT2 h2 (qT5 h)⟩
 | l p e ih =>
  intro y d h hd; cases y<;>simp only[Y.subA,qTC]at h<;>first|cases h|skip
  rename_i q e';obtain⟨es,h1,h2,h3⟩:=hd;exact⟨es,h1,qT2 h2 (qT5 (by simp_all)),fun x hx=>ih (by simp_all) (h3 x hx)⟩
 | g r ih =>
  intro y d h hd; cases y<;>simp only[Y.subA]at h<;>first|cases h|skip
  obtain⟨cs,h1,h2⟩:=hd;exact⟨cs,h1,ih h h2⟩
 | e0=>intro y d h hd; cases y<;>simp only[Y.subA]at h<;>first|exact hd|cases h
 | ec c r ih1 ih2 =>
  intro y d h hd; cases y<;>simp only[Y.subA,qTC]at h<;>first|cases h|skip
  obtain⟨x,xs,h1,h2,h3⟩:=hd;exact⟨x,xs,h1,ih1 (by simp_all) h2,ih2 (by simp_all) h3⟩
 | y8 =>
  intro y d h hd;obtain⟨c,hc⟩:=hd
  cases y with
  | i k =>
   have h':IntKind.eq .u8 k=true:=h;rw[<-IntKind.eq_eq h']; exact⟨_,hc⟩
  | y8=>exact⟨c,hc⟩|_=>simp[Y.subA]at h
 | rg p q =>
  intro y d h hd;obtain⟨z,h1,h2,h3⟩:=hd
  cases y with
  | i k =>
   have h':IntKind.eq .i64 k=true:=h;rw[<-IntKind.eq_eq h']; exact⟨z,h1⟩
  | rg u w =>
   have h':(leI u p&&leI q w)=true:=h;rw[qTC]at h';have:=qlO h'.1; have:=qlO h'.2;exact⟨z,h1,by omega,by omega⟩
  | _=>simp[Y.subA]at h
 | gq x p ih =>
  intro y d h hd;obtain⟨⟨cs,h1,h2⟩,h3⟩:=hd
  cases y with
  | g z =>
   have h':x.subA n m z=true:=h;exact⟨cs,h1,ih h' h2⟩
  | gq z q =>
   have h':(x.subA n m z&&qeb q p)=true:=h;rw[qTC]at h';exact⟨⟨cs,h1,ih h'.1 h2⟩,qxV h'.2 h3⟩
  | _=>simp[Y.subA]at h
 | nm a =>
  intro y d h hd; cases y<;>simp only[Y.subA]at h<;>first|cases h|skip
  rename_i c;rw[qTM,qTC]at h;rcases h with h|⟨h1,h2⟩
  ·rw[<-qTO h]; exact .inl hd
  ·exact .inr ⟨qTO h2,by rw[<-qTO h1]; exact hd⟩
def JR.le {n m:Nat} {d:D} (h:Y.subA n m (RT.body n) (RT.body m)=true) (hd:JR n d):JR m d:=by
 refine⟨fun k e=>JR k e\/k=m/\JR n e,fun k e hk=>?_,.inr ⟨rfl,hd⟩⟩;rcases hk with hk|⟨rfl,hk⟩
 ·exact qsq (fun _ _ q=>.inl q) hk.un
 ·exact Y.subA_ok h hk.un
def Y.sub_ok:∀{a b:Y} {d:D},a.sub b=true->qd a d->qd b d:=by
 intro a
 induction a with
 | i k=>intro b d h hd; cases b<;>simp only[Y.sub]at h<;>first | (rw[<-IntKind.eq_eq h]; exact hd) | cases h
 | b=>intro b d h hd; cases b<;>simp only[Y.sub]at h<;>first|exact hd|cases h
 | s n =>
  intro b d h hd; cases b<;>simp only[Y.sub]at h<;>first|cases h|skip
  obtain⟨l,h1,h2⟩:=hd;exact⟨l,h1,qT2 h2 (qT5 h)⟩
 | l n e ih =>
  intro b d h hd; cases b<;>simp only[Y.sub,qTC]at h<;>first|cases h|skip
  rename_i m e';obtain⟨es,h1,h2,h3⟩:=hd;exact⟨es,h1,qT2 h2 (qT5 (by simp_all)),fun x hx=>ih (by simp_all) (h3 x hx)⟩
 | g r ih =>
  intro b d h hd; cases b<;>simp only[Y.sub]at h<;>first|cases h|skip
  obtain⟨cs,h1,h2⟩:=hd;exact⟨cs,h1,ih h h2⟩
 | e0=>intro b d h hd; cases b<;>simp only[Y.sub]at h<;>first|exact hd|cases h
 | ec c r ih1 ih2 =>
  intro b d h hd; cases b<;>simp only[Y.sub,qTC]at h<;>first|cases h|skip
  obtain⟨x,xs,h1,h2,h3⟩:=hd;exact⟨x,xs,h1,ih1 (by simp_all) h2,ih2 (by simp_all) h3⟩
 | y8 =>
  intro y d h hd;obtain⟨c,hc⟩:=hd
  cases y with
  | i k =>
   have h':IntKind.eq .u8 k=true:=h;rw[<-IntKind.eq_eq h']; exact⟨_,hc⟩
  | y8=>exact⟨c,hc⟩|_=>simp[Y.sub]at h
 | rg p q =>
  intro y d h hd;obtain⟨z,h1,h2,h3⟩:=hd
  cases y with
  | i k =>
   have h':IntKind.eq .i64 k=true:=h;rw[<-IntKind.eq_eq h']; exact⟨z,h1⟩
  | rg u w =>
   have h':(leI u p&&leI q w)=true:=h;rw[qTC]at h';have:=qlO h'.1; have:=qlO h'.2;exact⟨z,h1,by omega,by omega⟩
  | _=>simp[Y.sub]at h
 | gq x p ih =>
  intro y d h hd;obtain⟨⟨cs,h1,h2⟩,h3⟩:=hd
  cases y with
  | g z =>
   have h':x.sub z=true:=h;exact⟨cs,h1,ih h' h2⟩
  | gq z q =>
   have h':(x.sub z&&qeb q p)=true:=h;rw[qTC]at h';exact⟨⟨cs,h1,ih h'.1 h2⟩,qxV h'.2 h3⟩
  | _=>simp[Y.sub]at h
 | nm n =>
  intro b d h hd; cases b<;>simp only[Y.sub]at h<;>first|cases h|skip
  rw[qTM]at h;rcases h with h|h
  ·rw[<-qTO h]; exact hd
  ·exact JR.le h hd
def Y.chainy_list {r:Y} {d:D} (h:r.chainy=true) (hd:qd r d):∃cs,d=.list cs:=by
 cases r<;>simp only[Y.chainy]at h<;>first|cases h|skip
 ·exact⟨[],hd⟩
 ·obtain⟨x,xs,h1,_⟩:=hd; exact⟨_,h1⟩
def Y.nth_ok:∀{r:Y} {k:Nat} {y:Y} {cs:List D},r.nth k=some y->qd r (.list cs)->∃x,cs[k]?=some x/\qd y x:=by
 intro r
 induction r with
 | ec c r _ ih =>
  intro k y cs h hd;obtain⟨x,xs,h1,h2,h3⟩:=hd;cases h1
  cases k with
  | zero=>simp only[Y.nth]at h; cases h; exact⟨x,rfl,h2⟩
  | succ k=>simp only[Y.nth]at h; obtain⟨x',q1,q2⟩:=ih h h3; exact⟨x',by simpa using q1,q2⟩
 | _=>intro k y cs h hd; simp only[Y.nth]at h; cases h
def qIZ:∀{t:T} {v:Bool},toB (t.den wf U)=v->∀l∈qec t v,0<=l.val wf U:=by
  intro t v
  induction t generalizing v with
  | u o k x ih =>
    intro h l hl
    by_cases e:o=6
    · subst e
      simp only[qec]at hl;refine ih ?_ l hl;have:(!toB (x.den wf U))=v:=h;rw[<-this]; simp
    · have:qec (.u o k x) v=[]:=by unfold qec; split<;>simp_all
      rw[this]at hl; cases hl
  | w o a b _ _ =>
    intro h l hl;have A:=(qf (wf:=wf) (U:=U) a).1;have B:=(qf (wf:=wf) (U:=U) b).1;unfold qec at hl;split at hl<;>first
      | (rename_i heq; cases heq; done)
      | (rename_i heq
         cases heq;simp only[qTD,qTJ,or_false]at hl;have hh:toB (T.bi _ (a.den wf U) (b.den wf U))=_:=h;simp only[T.bi,toB,decide_eq_true_eq,decide_eq_false_iff_not,beq_iff_eq,bne_eq_false_iff_eq]at hh
         first
          | (subst hl; simp only[Lin.val_plus,Lin.val_sub,A,B]; omega)
          | (rcases hl with rfl|rfl<;>(simp only[Lin.val_plus,Lin.val_sub,A,B]; omega)))
      | (cases hl; done)
  | _=>intro h l hl; simp only[qec]at hl; cases hl
def qxW:∀{f:F},f.den wf rcP U->∀l∈qaT f,0<=l.val wf U:=by
 intro f
 induction f with
 | le a b=>intro h l hl; simp only[qaT,qTD,qTJ,or_false]at hl; subst hl; simp only[Lin.val_sub,(qf a).1,(qf b).1]; have:toI (a.den wf U)<=toI (b.den wf U):=h; omega
 | lt a b=>intro h l hl; simp only[qaT,qTD,qTJ,or_false]at hl; subst hl; simp only[Lin.val_plus,Lin.val_sub,(qf a).1,(qf b).1]; have:toI (a.den wf U)<toI (b.den wf U):=h; omega
 | nle a b=>intro h l hl; simp only[qaT,qTD,qTJ,or_false]at hl; subst hl; simp only[Lin.val_sub,(qf a).2.1,(qf b).2.1]; have:toN (a.den wf U)<=toN (b.den wf U):=h; omega
 | nlt a b=>intro h l hl; simp only[qaT,qTD,qTJ,or_false]at hl; subst hl; simp only[Lin.val_plus,Lin.val_sub,(qf a).2.1,(qf b).2.1]; have:toN (a.den wf U)<toN (b.den wf U):=h; omega
 | nnle a b=>intro h l hl; simp only[qaT,qTD,qTJ,or_false]at hl; subst hl; simp only[Lin.val_plus,Lin.val_sub,(qf a).2.1,(qf b).2.1]; have:¬toN (a.den wf U)<=toN (b.den wf U):=h; omega
 | bool t v=>intro h l hl; exact qIZ h l hl
 | and f g ih1 ih2 =>
  intro h l hl;simp only[qaT,qTH]at hl;rcases hl with hl|hl
  ·exact ih1 h.1 l hl
  ·exact ih2 h.2 l hl
 | _=>intro h l hl; simp only[qaT]at hl; cases hl
def SOK (wf:Nat->List D->D) (U:Nat->D) (G:Gam) (n d:Nat):Prop :=
 (∀t y,YY n d G t=some y->qd y (t.den wf U))/\(∀g,qW n d G g=true->0<=g.val wf U)/\(∀t,∀l∈qfj n d G t,0<=l.val wf U) /\
 (∀t y,qaU n d G t y=true->qd y (t.den wf U))
def Jb {d:D} {es:List D} (h:d=.list es):toL d=es:=by subst h; rfl
def qru {ln:Lin->Bool} (hl:∀g,ln g=true->0<=g.val wf U) {l i:T} {y:Y}:∀{fs:List F},(∀f∈fs,f.den wf rcP U)->qiB ln l i fs=some y->qd y ((T.w 3 l i).den wf U)
 | [],_,h=>by cases h
 | f::r,hf,h=>by
  have hr:=fun g hg=>hf g (qTG _ hg)
  unfold qiB at h;split at h
  ·cases h
  ·rename_i l' i' y' r' heq;injection heq with e1 e2
   subst e1; subst e2;split at h
   ·rename_i hc;cases h;rw[qTC,qTC]at hc;have el:=T.eq_eq hc.1;subst el;have h1:=hl _ hc.2.1;rw[Lin.val_plus,Lin.val_sub,(qf i').2.1,(qf i).2.1]at h1;have h9:∀j:Nat,j<toN (i'.den wf U)->qd y ((toL (l'.den wf U)).getD j .nilp):=hf (.pre l' i' y) (by simp);exact h9 _ (by omega)
   ·exact qru hl hr h
  ·rename_i f' r' _ heq;injection heq with e1 e2
   subst e1; subst e2;exact qru hl hr h
def qlP (z:Int):0<=IntKind.wrap .u8 z/\IntKind.wrap .u8 z<256:=by
 simp only[IntKind.wrap,IntKind.bits,IntKind.signed];constructor
 ·simp; omega
 ·simp; omega
def qI0 {sy:Option Y} {x:T} (h:qrs sy x=true) (hs:∀y,sy=some y->qd y (x.den wf U)):qd .y8 ((T.mk (.i .u8) x).den wf U):=by
 have key:∀z:Int,0<=z->z<256->toI (x.den wf U)=z->qd .y8 ((T.mk (.i .u8) x).den wf U):=by
  intro z h0 h1 e;refine⟨UInt8.ofNat z.toNat,?_⟩;show D.int .u8 (toI (x.den wf U))=.int .u8 ((UInt8.ofNat z.toNat).toNat:Int);rw[e]
  congr 1
  simp;omega
 unfold qrs at h;split at h
 ·rename_i y;exact key _ (qlP (toI (y.den wf U))).1 (qlP (toI (y.den wf U))).2 rfl
 ·rename_i a b;have h1:=((toS (a.den wf U)).getD (toN (b.den wf U)) 0).toNat_lt;exact key (((toS (a.den wf U)).getD (toN (b.den wf U)) 0).toNat:Int) (by omega) (by omega) rfl
 ·exact key _ (qlP _).1 (qlP _).2 rfl
 ·rename_i n;rw[qT0]at h;exact key (n:Int) (by omega) (by omega) rfl
 ·split at h
  ·have:=hs _ rfl;obtain⟨c,hc⟩:=this;refine⟨c,?_⟩;show D.int .u8 (toI (x.den wf U))=_;rw[hc]; rfl
  ·cases h
def qI1 {G:Gam} {n d:Nat} (hG:G.OK wf rcP U) (ih:SOK wf U G n d):∀t y,YY (n+1) d G t=some y->qd y (t.den wf U):=by
 obtain⟨i1,i2,i3,i4⟩:=ih;intro t y h;unfold YY at h;split at h
 ·rename_i hl; cases h; exact qlN hl hG.hs
 ·have sl:∀{l:T} {m:Nat} {e:Y},YY n d G l=some (.l m e)->∃es,l.den wf U=.list es/\es.length<=m/\∀x∈es,qd e x:=fun hs=>i1 _ _ hs
  split at h<;>first
   | (cases h; done)
   | (cases h; exact⟨_,rfl⟩)
   | (cases h; exact⟨_,rfl,qTF _⟩)
   | skip
  ·rename_i k x _;split at h
   ·rename_i r hs;obtain⟨q,hq,hs⟩:=qTP.1 hs;obtain⟨cs,h1,h2⟩:=hs ▸ qeo (i1 _ _ hq);obtain⟨x',hx,hy⟩:=Y.nth_ok h h2;have:(T.u 1 k x).den wf U=x':=by
     show cel (x.den wf U) k=x';rw[h1]; simp[cel,D.cells,hx]
    rw[this]; exact hy
   ·cases h
  ·rename_i l i _;split at h
   ·rename_i y' hp;cases h;exact qru i2 hG.fs hp
   split at h
   ·rename_i m e hs;split at h
    ·rename_i hlin;cases h;obtain⟨es,h1,h2,h3⟩:=sl hs;have hl:=i2 _ hlin;rw[Lin.val_plus,Lin.val_sub,(qf l).2.2,(qf i).2.1,Jb h1]at hl;show qd y ((toL (l.den wf U)).getD (toN (i.den wf U)) .nilp);rw[Jb h1];have hlt:toN (i.den wf U)<es.length:=by omega
     rw[zzG,qTE hlt];exact h3 _ (qTL hlt)
    ·cases h
   ·cases h
  ·rename_i k x _;split at h
   ·split at h
    ·rename_i hb;cases h;exact qI0 hb fun y hy=>i1 _ _ hy
    ·cases h; exact⟨_,rfl⟩
   ·cases h; exact⟨_,rfl⟩
  ·rename_i x _;split at h
   ·rename_i m hs;cases h;obtain⟨l,h1,h2⟩:=i1 _ _ hs;exact⟨l,by show D.str ⟨⟨toS (x.den wf U)⟩⟩=_; rw[h1]; rfl,h2⟩
   ·cases h
  ·rename_i x _;split at h
   ·rename_i m e hs;cases h;obtain⟨es,h1,h2,h3⟩:=sl hs;exact⟨es,by show D.list (toL (x.den wf U))=_; rw[h1]; rfl,h2,h3⟩
   ·cases h
  ·rename_i a l _;split at h
   ·rename_i m e hs;cases h;obtain⟨es,h1,h2,h3⟩:=sl hs;refine⟨es.take (toN (a.den wf U)),by show D.list ((toL (l.den wf U)).take _)=_; rw[h1]; rfl,?_,fun x hx=>h3 x (qUg hx)⟩;rw[qTU]; omega
   ·cases h
  ·rename_i a l _;split at h
   ·rename_i m e hs;cases h;obtain⟨es,h1,h2,h3⟩:=sl hs;refine⟨es.drop (toN (a.den wf U)),by show D.list ((toL (l.den wf U)).drop _)=_; rw[h1]; rfl,?_,fun x hx=>h3 x (qUE hx)⟩;rw[qT8]; omega
   ·cases h
  ·rename_i x _;split at h
   ·rename_i m hs;cases h;obtain⟨es,h1,h2,h3⟩:=sl hs;refine⟨(toL (x.den wf U)).map unB,rfl,?_⟩;rw[qTS,Jb h1]; exact h2
   ·cases h
def qrv {f:T->List Lin} {l:Lin} {g:Rw} {m0:Nat}:∀{k dn:Nat} {B:Bs},B.OK wf U->(∀t,∀l∈f t,0<=l.val wf U)->(∀e,g.1+spv (qcc wf U (B.as++e)) g.2=l.val wf U)->qiE k f g m0 dn B=true->0<=l.val wf U
 | 0,dn,B,hB,_,_,h=>by cases h
 | k+1,dn,B,hB,hf,hg,h=>by
  unfold qiE at h;simp only at h;split at h
  ·cases h
  ·have hB':(qcb ((atM (Nat.xor (qbJ 8 B.rw m0) (Nat.land (qbJ 8 B.rw m0) dn)) B.as).flatMap f) B).OK wf U:=by
    refine qgS hB fun q hq=>?_
    obtain⟨a,_,ha⟩:=qUd.1 hq; exact hf a q ha
   have he:=qy1 ((atM (Nat.xor (qbJ 8 B.rw m0) (Nat.land (qbJ 8 B.rw m0) dn)) B.as).flatMap f) B;have hg':∀e,g.1+spv (qcc wf U ((qcb ((atM (Nat.xor (qbJ 8 B.rw m0) (Nat.land (qbJ 8 B.rw m0) dn)) B.as).flatMap f) B).as++e)) g.2=l.val wf U:=by
    intro e;obtain⟨x,hx⟩:=he;rw[hx,qTW]; exact hg _
   rw[qTM]at h;rcases h with h|h
   ·rw[<-hg' []]; exact qmn h (hB' [])
   ·exact qrv hB' hf hg' h
def qI2 {t a b:T} {s:Bool} (h:mm1 t=some (s,a,b)):toI (t.den wf U)=toI (a.den wf U)\/toI (t.den wf U)=toI (b.den wf U):=by
 have n1:∀(j:Nat) (x:T),toI ((T.u 4 j x).den wf U)=(toN (x.den wf U):Int):=fun j x=>Yw _
 unfold mm1 at h;split at h
 ·cases h;show(if toI (b.den wf U)>toI (a.den wf U)then toI (b.den wf U)else toI (a.den wf U))=_\/(if toI (b.den wf U)>toI (a.den wf U)then toI (b.den wf U)else toI (a.den wf U))=_;split
  ·exact .inr rfl
  ·exact .inl rfl
 ·cases h;show(if toI (b.den wf U)<toI (a.den wf U)then toI (b.den wf U)else toI (a.den wf U))=_\/(if toI (b.den wf U)<toI (a.den wf U)then toI (b.den wf U)else toI (a.den wf U))=_;split
  ·exact .inr rfl
  ·exact .inl rfl
 ·rename_i j x y;cases h;rw[n1,n1,n1];show(toN (I64 (if toI (y.den wf U)>toI (x.den wf U)then toI (y.den wf U)else toI (x.den wf U))):Int)=_\/(toN (I64 (if toI (y.den wf U)>toI (x.den wf U)then toI (y.den wf U)else toI (x.den wf U))):Int)=_;split
  ·exact .inr rfl
  ·exact .inl rfl
 ·rename_i j x y;cases h;rw[n1,n1,n1];show(toN (I64 (if toI (y.den wf U)<toI (x.den wf U)then toI (y.den wf U)else toI (x.den wf U))):Int)=_\/(toN (I64 (if toI (y.den wf U)<toI (x.den wf U)then toI (y.den wf U)else toI (x.den wf U))):Int)=_;split
  ·exact .inr rfl
  ·exact .inl rfl
 ·cases h;rw[n1];have z:toI ((T.i 0).den wf U)=0:=rfl;rw[z];unfold toN;rcases Int.le_total 0 (toI (a.den wf U))with q|q
  ·left; omega
  ·right; omega
 ·cases h
def qxX {k:Int} {a b:T}:∀{l r:List (Int×T)},qgD l=some (k,a,b,r)->YB wf U l=k*toI (a.den wf U)+YB wf U r\/YB wf U l=k*toI (b.den wf U)+YB wf U r
 | [],r,h=>by cases h
 | p::l,r,h=>by
  have next:∀{h':(match qgD l with|some (k,a,b,q)=>some (k,a,b,p::q) | none=>none)=some (k,a,b,r)},YB wf U (p::l)=k*toI (a.den wf U)+YB wf U r\/YB wf U (p::l)=k*toI (b.den wf U)+YB wf U r:=by
   intro h;split at h
   ·rename_i k' a' b' q' hm;cases h;rcases qxX hm with e|e
    ·left; simp only[YB,e]; omega
    ·right; simp only[YB,e]; omega
   ·cases h
  unfold qgD at h;split at h
  ·rename_i s a' b' hm;split at h
   ·cases h;rcases qI2 (wf:=wf) (U:=U) hm with e|e
    ·left; simp only[YB,e]
    ·right; simp only[YB,e]
   ·exact next (h':=h)
  ·exact next (h':=h)
def qI3 {G:Gam} {n:Nat} (hG:G.OK wf rcP U) (ih:∀d,SOK wf U G n d):∀d g,qW (n+1) d G g=true->0<=g.val wf U:=by
 intro d goal h;unfold qW at h;generalize hq:qbI goal G.B=q at h;obtain⟨g,B⟩:=q;obtain⟨a1,a2,a3⟩:=qsf hG.ls hq;simp only at h;split at h
 ·rename_i h0;rw[qTM]at h0;rw[<-a3 []];rcases h0 with h0|h0
  ·exact qy4 h0 (a1 [])
  ·exact qmn h0 (a1 [])
 ·split at h
  ·rename_i h0;rw[qTC]at h0;rw[<-a3 []]; exact qmn h0.2 (a1 [])
  ·split at h
   ·cases h
   ·rename_i d';obtain⟨i1,i2,i3,i4⟩:=ih d';rw[qTM]at h;rcases h with h|h
    ·rw[qTC]at h;exact qrv a1 i3 a3 h.2
    ·split at h
     ·rename_i k a b r hm;rw[qTC]at h;have h1:=i2 _ h.1;have h2:=i2 _ h.2;have e:=qxX (wf:=wf) (U:=U) hm;simp only[Lin.val,Lin.smul,qyI,qyJ]at h1 h2;have A:=(qf (wf:=wf) (U:=U) a).1;have B:=(qf (wf:=wf) (U:=U) b).1;simp only[Lin.val]at A B ⊢;rcases e with e|e
      ·rw[e,<-A,qUU]; omega
      ·rw[e,<-B,qUU]; omega
     ·cases h
def qrw {n:Int} (h:-9223372036854775808<=n/\n<=9223372036854775807):IntKind.wrap .i64 n=n:=by
 simp[IntKind.wrap,IntKind.bits,IntKind.signed];omega
def qlQ (e:Nat) (x:D):Int:=match e with
 | 2=>toI x|k+3=>((toL (cel x k)).length:Int)|_=>((toL x).length:Int)
def qxY {t q:T} {y:D}:∀{e:Nat},toI (t.den wf U)=qlQ e y->Yk e (q.den wf U) y->∀x∈qfh t q e,0<=x.val wf U:=by
 have Q:=(qf (wf:=wf) (U:=U) q).2.1;intro e ht h3 x hx
 match e,ht,h3,hx with
 | 0,ht,h3,hx =>
  have h3':(toL y).length=toN (q.den wf U):=h3;have ht':toI (t.den wf U)=((toL y).length:Int):=ht;simp only[qfh,qTD,qTJ,or_false]at hx;rcases hx with rfl|rfl<;>(simp only[Lin.val_sub,Lin.val_at,Q]; omega)
 | 1,ht,h3,hx =>
  have h3':(toL y).length<=toN (q.den wf U):=h3;have ht':toI (t.den wf U)=((toL y).length:Int):=ht;simp only[qfh,qTD,qTJ,or_false]at hx;subst hx; simp only[Lin.val_sub,Lin.val_at,Q]; omega
 | 2,ht,h3,hx =>
  have h3':0<=toI y/\toI y<(toN (q.den wf U):Int):=h3;have ht':toI (t.den wf U)=toI y:=ht;simp only[qfh,qTD,qTJ,or_false]at hx;rcases hx with rfl|rfl<;>(simp only[Lin.val_sub,Lin.val_plus,Lin.val_at,Q]; omega)
 | k+3,ht,h3,hx =>
  unfold qfh at hx;unfold Yk at h3;simp only at hx h3;split at hx
  ·rename_i hk;rw[hk]at h3;have h3':(toL (cel y k)).length<=toN (q.den wf U):=h3;have ht':toI (t.den wf U)=((toL (cel y k)).length:Int):=ht;simp only[qTD,qTJ,or_false]at hx;subst hx; simp only[Lin.val_sub,Lin.val_at,Q]; omega
  ·cases hx
def qxZ {t q:T} {y:D}:∀{e e':Nat},toI (t.den wf U)=qlQ e y->Yk e' (q.den wf U) y->∀x∈qlF t q e e',0<=x.val wf U:=by
 have Q:=(qf (wf:=wf) (U:=U) q).2.1;intro e e' ht h3 x hx;unfold qlF at hx;split at hx
 ·have h3':(toL y).length=toN (q.den wf U):=h3;have ht':toI (t.den wf U)=((toL y).length:Int):=ht;simp only[qTD,qTJ,or_false]at hx;subst hx; simp only[Lin.val_sub,Lin.val_at,Q]; omega
 ·have h3':(toL y).length<=toN (q.den wf U):=h3;have ht':toI (t.den wf U)=((toL y).length:Int):=ht;simp only[qTD,qTJ,or_false]at hx;subst hx; simp only[Lin.val_sub,Lin.val_at,Q]; omega
 ·cases hx
def qrx {ln:Lin->Bool} (hl:∀g,ln g=true->0<=g.val wf U) {e:Nat} {l i t:T} (ht:toI (t.den wf U)=qlQ e ((toL (l.den wf U)).getD (toN (i.den wf U)) .nilp)) {f:F} (hf:f.den wf rcP U):∀x∈qiz ln e l i t f,0<=x.val wf U:=by
 intro x hx;unfold qiz at hx;split at hx
 ·rename_i e' l' i' q;split at hx
  ·rename_i hc;rw[qTC,qTC]at hc;have el:=T.eq_eq hc.1;subst el;have h1:=hl _ hc.2.1;have h2:=hl _ hc.2.2;rw[Lin.val_plus,Lin.val_sub,(qf i').2.1,(qf i).2.1]at h1;rw[Lin.val_plus,Lin.val_sub,(qf l').2.2,(qf i).2.1]at h2;have h3:Yk e' (q.den wf U) ((toL (l'.den wf U)).getD (toN (i.den wf U)) .nilp):=hf (toN (i.den wf U)) (by omega) (by omega);split at hx
   ·rename_i he;have:=qTO he;subst this;exact qxY ht h3 x hx
   ·exact qxZ ht h3 x hx
  ·cases hx
 ·cases hx
def qx0 {x q:T}:∀k,k<2->qiY (x.den wf U) (toN (q.den wf U)) k=Ym wf U [x,.u 4 0 q] k
 | 0,_=>rfl|1,_=>rfl
def qx1 {x q:T}:∀k,k<2->qiZ (x.den wf U) (q.den wf U) k=Ym wf U [x,q] k
 | 0,_=>rfl|1,_=>rfl
def qx2 (hv:∀g,Jw<=g->wf g=PW.wV g) {x q:T} {p:Bool×T×T} (h:(p.2.1.pure 2&&p.2.2.pure 2)=true):0<=(tmV x q p).val wf U↔qfu (x.den wf U) (q.den wf U) p:=by
 rw[qTC]at h;have hv':∀g,Jw<=g->PW.wV g=wf g:=fun g hg=>(hv g hg).symm
 have e1:=T.den_pure (wf:=PW.wV) (wf':=wf) (n:=2) hv' (qx1 (wf:=wf) (U:=U) (x:=x) (q:=q)) p.2.1 h.1;have e2:=T.den_pure (wf:=PW.wV) (wf':=wf) (n:=2) hv' (qx1 (wf:=wf) (U:=U) (x:=x) (q:=q)) p.2.2 h.2;unfold qfu tmV;rw[e1,e2];obtain⟨c,s,t⟩:=p
 cases c with
 | true =>
  show 0<=Lin.val wf U ((lnN (t.sub [x,q])).sub (lnN (s.sub [x,q])))↔toN _<=toN _;rw[Lin.val_sub,(qf _).2.1,(qf _).2.1,T.den_sub,T.den_sub]; simp only; omega
 | false =>
  show 0<=Lin.val wf U ((lnI (t.sub [x,q])).sub (lnI (s.sub [x,q])))↔toI _<=toI _;rw[Lin.val_sub,(qf _).1,(qf _).1,T.den_sub,T.den_sub]; simp only; omega
def qx3 (hv:∀g,Jw<=g->wf g=PW.wV g) {x q:T} {p:Bool×T×T} (h:qfu (x.den wf U) (q.den wf U) p):∀l∈qiA x q p,0<=l.val wf U:=by
 intro l hl;unfold qiA at hl;split at hl
 ·rename_i hp;simp only[qTD,qTJ,or_false]at hl;subst hl;exact(qx2 hv hp).2 h
 ·cases hl
def qlR {x q:T} {p:Bool×T×T} (h:(p.2.1.pure0 2&&p.2.2.pure0 2)=true):((match p.1 with
  | true=>(lnN (p.2.2.sub [x,.u 4 0 q])).sub (lnN (p.2.1.sub [x,.u 4 0 q]))|false=>(lnI (p.2.2.sub [x,.u 4 0 q])).sub (lnI (p.2.1.sub [x,.u 4 0 q])):Lin).val wf U>=0)↔qaE (x.den wf U) (toN (q.den wf U)) p:=by
 rw[qTC]at h;have e1:=T.den_pure0 (wf:=w0) (wf':=wf) (n:=2) (qx0 (wf:=wf) (U:=U) (x:=x) (q:=q)) p.2.1 h.1;have e2:=T.den_pure0 (wf:=w0) (wf':=wf) (n:=2) (qx0 (wf:=wf) (U:=U) (x:=x) (q:=q)) p.2.2 h.2;unfold qaE;rw[e1,e2];obtain⟨c,s,t⟩:=p
 cases c with
 | true =>
  show 0<=Lin.val wf U ((lnN (t.sub [x,.u 4 0 q])).sub (lnN (s.sub [x,.u 4 0 q])))↔toN _<=toN _;rw[Lin.val_sub,(qf _).2.1,(qf _).2.1,T.den_sub,T.den_sub]; simp only; omega
 | false =>
  show 0<=Lin.val wf U ((lnI (t.sub [x,.u 4 0 q])).sub (lnI (s.sub [x,.u 4 0 q])))↔toI _<=toI _;rw[Lin.val_sub,(qf _).1,(qf _).1,T.den_sub,T.den_sub]; simp only; omega
def qry {x q:T} {p:Bool×T×T} (h:qaE (x.den wf U) (toN (q.den wf U)) p):∀l∈qgB x q p,0<=l.val wf U:=by
 intro l hl;unfold qgB at hl;split at hl
 ·rename_i hp;have:=(qlR hp).2 h
  revert this
  revert hl
  split
  ·intro hl this; simp only[qTD,qTJ,or_false]at hl; subst hl; exact this
  ·intro hl this; simp only[qTD,qTJ,or_false]at hl; subst hl; exact this
 ·cases hl
def qI4 (hv:∀g,Jw<=g->wf g=PW.wV g) {ln:Lin->Bool} (hl:∀g,ln g=true->0<=g.val wf U) {l i:T} {f:F} (hf:f.den wf rcP U):∀x∈qrl ln l i f,0<=x.val wf U:=by
 intro x hx;unfold qrl at hx;split at hx
 ·rename_i e l' i' q;split at hx
  ·rename_i hc;rw[qTC,qTC,qTC,qTC]at hc;obtain⟨⟨c0,c4⟩,c1,c2,c3⟩:=hc;have el:=T.eq_eq c1;subst el;have h1:=hl _ c2;have h2:=hl _ c3;rw[Lin.val_plus,Lin.val_sub,(qf i').2.1,(qf i).2.1]at h1;rw[Lin.val_plus,Lin.val_sub,(qf l').2.2,(qf i).2.1]at h2;have h3:Yk e (q.den wf U) ((toL (l'.den wf U)).getD (toN (i.den wf U)) .nilp):=hf (toN (i.den wf U)) (by omega) (by omega);obtain⟨p,hp,hxp⟩:=qUd.1 hx;have h9:=qT5 c0;obtain⟨k,rfl⟩:∃k,e=k+3:=⟨e - 3,by omega⟩
   unfold Yk at h3;simp only at h3;have hk:Nat.blt k 900=false:=by
    cases hb:Nat.blt k 900 with
    | false=>rfl|true=>simp only[qT0]at hb; omega
   rw[hk]at h3;simp only at h3;have hp':p∈RT.tm (k - 900):=by rwa[show k+3 - 903=k - 900 by omega]at hp
   cases hb:Nat.blt (k+3) 920 with
   | true =>
    rw[hb]at hxp;have hb':Nat.blt k 917=true:=by rw[qT0]at hb ⊢; omega
    rw[hb']at h3;exact qry (x:=.w 3 l' i) (h3 p hp') x hxp
   | false =>
    rw[hb]at hxp;have hb':Nat.blt k 917=false:=by
     cases hq:Nat.blt k 917 with
     | false=>rfl|true=>rw[qT0]at hq; have:Nat.blt (k+3) 920=true:=by {rw[qT0]; omega}; rw[this]at hb; cases hb
    have hb2:Nat.blt k 937=true:=by rw[qT0]at c4 ⊢; omega
    rw[hb']at h3;simp only[hb2]at h3;exact qx3 hv (x:=.w 3 l' i) (h3 p hp') x hxp
  ·cases hx
 ·cases hx
def qx4:∀{l:T} {x:D},x∈toL (l.den wf U)->x∈toL ((qb6 l).den wf U):=by
 intro l
 induction l with
 | mk k y ih =>
  intro x hx
  cases k with
  | l=>exact ih (show x∈toL (y.den wf U) from hx)
  | _=>exact hx
 | w o a c _ ih =>
  intro x hx;unfold qb6;split
  ·rename_i heq; cases heq; exact ih (qUg (show x∈(toL (c.den wf U)).take _ from hx))
  ·rename_i heq; cases heq; exact ih (qUE (show x∈(toL (c.den wf U)).drop _ from hx))
  ·rename_i heq; cases heq
  ·exact hx
 | _=>intro x hx; exact hx
def qI5 (hv:∀g,Jw<=g->wf g=PW.wV g) {e:Nat} {x q:T} (c0:Nat.ble 903 e=true) (c4:Nat.blt e 940=true) (h3:Yk e (q.den wf U) (x.den wf U)) {p:Bool×T×T} (hp:p∈RT.tm (e - 903)):∀l∈(match Nat.blt e 920 with|true=>qgB x q|false=>qiA x q) p,0<=l.val wf U:=by
 intro lx hxp;have h9:=qT5 c0;obtain⟨k,rfl⟩:∃k,e=k+3:=⟨e - 3,by omega⟩
 unfold Yk at h3;simp only at h3;have hk:Nat.blt k 900=false:=by
  cases hb:Nat.blt k 900 with
  | false=>rfl|true=>simp only[qT0]at hb; omega
 rw[hk]at h3;simp only at h3;have hp':p∈RT.tm (k - 900):=by rwa[show k+3 - 903=k - 900 by omega]at hp
 cases hb:Nat.blt (k+3) 920 with
 | true =>
  rw[hb]at hxp;have hb':Nat.blt k 917=true:=by rw[qT0]at hb ⊢; omega
  rw[hb']at h3;exact qry (h3 p hp') lx hxp
 | false =>
  rw[hb]at hxp;have hb':Nat.blt k 917=false:=by
   cases hq:Nat.blt k 917 with
   | false=>rfl|true=>rw[qT0]at hq; have:Nat.blt (k+3) 920=true:=by {rw[qT0]; omega}; rw[this]at hb; cases hb
  have hb2:Nat.blt k 937=true:=by rw[qT0]at c4 ⊢; omega
  rw[hb']at h3;simp only[hb2]at h3;exact qx3 hv (h3 p hp') lx hxp
def qI6 (hv:∀g,Jw<=g->wf g=PW.wV g) {ln:Lin->Bool} (hl:∀g,ln g=true->0<=g.val wf U) {l i:T} {f:F} (hf:f.den wf rcP U):∀x∈qrm ln l i f,0<=x.val wf U:=by
 intro x hx;unfold qrm at hx;split at hx
 ·rename_i e l' i' q;split at hx
  ·rename_i hc;rw[qTC,qTC,qTC,qTC,qTC]at hc;obtain⟨⟨c0,c4⟩,⟨_,c1⟩,c2,c3⟩:=hc;have el:=T.eq_eq c1;subst el;have h1:=hl _ c2;have h2:=hl _ c3;rw[Lin.val_sub,(qf i').2.1,(qf (qb6 l)).2.2]at h1;rw[Lin.val_plus,Lin.val_sub,(qf l).2.2,(qf i).2.1]at h2;have hlt:toN (i.den wf U)<(toL (l.den wf U)).length:=by omega
   have hm:=qx4 (qTL hlt);obtain⟨j,hj,ej⟩:=qUu hm;have h3:Yk e (q.den wf U) ((toL ((qb6 l).den wf U)).getD j .nilp):=hf j (by omega) hj;rw[zzG,qTE hj,qTT,ej]at h3;have e3:(T.w 3 l i).den wf U=(toL (l.den wf U))[toN (i.den wf U)]:=by
    show(toL (l.den wf U)).getD _ _=_;rw[zzG,qTE hlt]; rfl
   rw[<-e3]at h3;obtain⟨p,hp,hxp⟩:=qUd.1 hx;exact qI5 hv c0 c4 h3 hp x hxp
  ·cases hx
 ·cases hx
def qI7 {ln:Lin->Bool} (hl:∀g,ln g=true->0<=g.val wf U) {e:Nat} {l i t:T} (ht:toI (t.den wf U)=qlQ e ((toL (l.den wf U)).getD (toN (i.den wf U)) .nilp)) {f:F} (hf:f.den wf rcP U):∀x∈qrn ln e l i t f,0<=x.val wf U:=by
 intro x hx;unfold qrn at hx;split at hx
 ·rename_i e' l' i' q;split at hx
  ·rename_i hc;rw[qTC,qTC,qTC]at hc;obtain⟨⟨_,c1⟩,c2,c3⟩:=hc;have el:=T.eq_eq c1;subst el;have h1:=hl _ c2;have h2:=hl _ c3;rw[Lin.val_sub,(qf i').2.1,(qf (qb6 l)).2.2]at h1;rw[Lin.val_plus,Lin.val_sub,(qf l).2.2,(qf i).2.1]at h2;have hlt:toN (i.den wf U)<(toL (l.den wf U)).length:=by omega
   have hm:=qx4 (qTL hlt);obtain⟨j,hj,ej⟩:=qUu hm;have h3:Yk e' (q.den wf U) ((toL ((qb6 l).den wf U)).getD j .nilp):=hf j (by omega) hj;rw[zzG,qTE hj,qTT,ej]at h3;have e3:(toL (l.den wf U)).getD (toN (i.den wf U)) .nilp=(toL (l.den wf U))[toN (i.den wf U)]:=by
    rw[zzG,qTE hlt]; rfl
   rw[<-e3]at h3;split at hx
   ·rename_i he;have:=qTO he;subst this;exact qxY ht h3 x hx
   ·exact qxZ ht h3 x hx
  ·cases hx
 ·cases hx
def qI8 {ln:Lin->Bool} (hl:∀g,ln g=true->0<=g.val wf U) {t:T}:∀l∈qro ln t,0<=l.val wf U:=by
 intro l h;unfold qro at h;split at h
 ·rename_i a b;split at h
  ·rename_i he;have e:=T.eq_eq he;subst e;have hv:toI ((T.w 2 a a).den wf U)=toI (a.den wf U)*toI (a.den wf U):=rfl;rcases qTD.1 h with rfl|h
   ·rw[Lin.val_at,hv];rcases Int.le_total 0 (toI (a.den wf U))with q|q
    ·exact qVG q q
    ·exact Int.mul_nonneg_of_nonpos_of_nonpos q q
   ·rcases qTH.1 h with h|h
    ·split at h
     ·rename_i hc;rw[qTC]at hc;have h1:=hl _ hc.1;have h2:=hl _ hc.2;rw[Lin.val_smul,(qf a).1]at h1;rw[(qf a).1]at h2;have h3:toI (a.den wf U)=0:=by omega
      simp only[qTD,qTJ,or_false]at h;subst h;rw[Lin.val_sub,Lin.val_cst,Lin.val_at,hv,h3];decide
     ·cases h
    split at h
    ·rename_i hc;rw[qTC]at hc;have h1:=hl _ hc.1;have h2:=hl _ hc.2;rw[Lin.val_sub,Lin.val_cst,(qf a).1]at h1;rw[Lin.val_plus,(qf a).1]at h2;simp only[qTD,qTJ,or_false]at h;subst h;rw[Lin.val_sub,Lin.val_cst,Lin.val_at,hv];have h3:=qVG h1 h2;have e:(2000 - toI (a.den wf U))*(toI (a.den wf U)+2000)=4000000 - toI (a.den wf U)*toI (a.den wf U):=by
      rw[Int.sub_mul,qUU,qUU]; omega
     omega
    ·cases h
  ·cases h
 ·cases h
def qrz (k:Nat):∀(l:List D) (x:D),x∈l->(toL (cel x k)).length<=qaD k l
 | [],x,h=>by cases h
 | y::r,x,h=>by
  rcases qTD.1 h with rfl|h
  ·exact Nat.le_max_left _ _
  ·exact qT2 (qrz k r x h) (Nat.le_max_right _ _)
def qx5 {k n:Nat}:∀{l:List D},(∀x∈l,(toL (cel x k)).length<=n)->qaD k l<=n
 | [],_=>qVB _|y::r,h=>Nat.max_le.2 ⟨h y (by simp),qx5 fun x hx=>h x (qTG _ hx)⟩
def JP:∀t:T,toL ((nlT t).den wf U)=toL (t.den wf U):=by
 intro t
 induction t with
 | mk k x ih =>
  cases k with
  | l=>exact ih|_=>rfl
 | _=>rfl
def Jn {t:T} {e:Lin} (h:toI (t.den wf U)=e.val wf U):∀l∈Y5 t e,0<=l.val wf U:=by
 intro l hl;simp only[Y5,qTD,qTJ,or_false]at hl;rcases hl with rfl|rfl<;>(rw[Lin.val_sub,Lin.val_at,h]; omega)
def qrA {k:Nat} (x:T):toI ((T.u 13 k x).den wf U)=((Lin.aw (.u 14 0 (Jc (JY 10 x)))).plus 1).val wf U:=by
 have ed:toI ((T.u 13 k x).den wf U)=(qaa (x.den wf U):Int):=Yw _;rw[Lin.val_plus,Lin.val_at,ed,qKD];show _=toI (N64 (Jd (toL ((Jc (JY 10 x)).den wf U))))+1;rw[Yw,qgX,qgY]; omega
def qlS:∀(a b:List D),Jd (a++b)=max (Jd a) (Jd b)
 | [],b=>by show Jd b=max 0 (Jd b); omega
 | x::a,b=>by
  show max (qaa x) (Jd (a++b))=max (max (qaa x) (Jd a)) (Jd b);rw[qlS a b]; omega
def qI9 {k:Nat} {x:T}:∀l∈qrr k x,0<=l.val wf U:=by
 have M:∀(k:Nat) (y:T),toI ((T.u 14 k y).den wf U)=(Jd (toL (y.den wf U)):Int):=fun k y=>Yw _
 have Dd:∀(k:Nat) (y:T),toI ((T.u 13 k y).den wf U)=(qaa (y.den wf U):Int):=fun k y=>Yw _
 have mx:∀(a b:T),toI ((T.w 26 a b).den wf U)=if toI (b.den wf U)>toI (a.den wf U)then toI (b.den wf U)else toI (a.den wf U):=fun a b=>rfl
 intro l h;unfold qrr at h;split at h
 ·exact Jn (by rw[M,Lin.val_cst]; rfl) l h
 ·rename_i a r;refine Jn ?_ l h;rw[M,Lin.val_at,mx,Dd,M];show((max (qaa (a.den wf U)) (Jd (toL (r.den wf U))):Nat):Int)=_;split<;>omega
 ·rename_i a b;refine Jn ?_ l h;rw[M,Lin.val_at,mx,M,M];show(Jd (toL (a.den wf U)++toL (b.den wf U)):Int)=_;rw[qlS];split<;>omega
 ·rename_i i y;simp only[qTD,qTJ,or_false]at h;subst h;rw[Lin.val_sub,Lin.val_at,Lin.val_at,M,M];show(0:Int)<=_ - (Jd ((toL (y.den wf U)).take (toN (i.den wf U))):Int);have:=qlS ((toL (y.den wf U)).take (toN (i.den wf U))) ((toL (y.den wf U)).drop (toN (i.den wf U)));rw[qUw]at this;omega
 ·rename_i i y;simp only[qTD,qTJ,or_false]at h;subst h;rw[Lin.val_sub,Lin.val_at,Lin.val_at,M,M];show(0:Int)<=_ - (Jd ((toL (y.den wf U)).drop (toN (i.den wf U))):Int);have:=qlS ((toL (y.den wf U)).take (toN (i.den wf U))) ((toL (y.den wf U)).drop (toN (i.den wf U)));rw[qUw]at this;omega
 ·exact Jn (by rw[M,Lin.val_at,M]; rfl) l h
 ·exact Jn (qrA _) l h
 ·cases h
def qrB {k:Nat} (x:T):toI ((T.u 15 k x).den wf U)=(qiD x).val wf U:=by
 have ed:toI ((T.u 15 k x).den wf U)=(nsz (x.den wf U):Int):=Yw _;unfold qiD;rw[Lin.val_plus,Lin.val_add,Lin.val_at,ed,qzs,(qf _).2.2,qgY];show _=_+toI (N64 (Yo 1000 (toL ((Jc (JY 10 x)).den wf U))))+1;rw[Yw,qgX,qgY]; omega
def qlT (k:Nat) (x:T):(qgE k x).val wf U=(qce k (x.den wf U):Int):=by
 cases k with
 | zero=>exact(qf x).2.2|succ k =>
  unfold qgE qce;simp only
  cases hk:Nat.beq k 999 with
  | true=>rw[Lin.val_at]; exact Yw _|false=>rw[(qf _).2.1,qgY]
def qJa {ln:Lin->Bool} (hl:∀g,ln g=true->0<=g.val wf U) {k:Nat} {x:T}:∀l∈qrq ln k x (.u 12 k x),0<=l.val wf U:=by
 have T0:∀y:T,toI ((T.u 12 k y).den wf U)=(Yo k (toL (y.den wf U)):Int):=fun y=>Yw _
 have A:∀y:T,(Lin.aw (.u 12 k y)).val wf U=(Yo k (toL (y.den wf U)):Int):=fun y=>by rw[Lin.val_at,T0]
 intro l h;unfold qrq at h;split at h
 ·refine Jn ?_ l h;rw[T0,Lin.val_cst]; rfl
 ·split at h
  ·exact Jn (qrB _) l h
  ·cases h
 ·rename_i a r;refine Jn ?_ l h;rw[T0,Lin.val_add,A,qlT];show((qce k (a.den wf U)+Yo k (toL (r.den wf U)):Nat):Int)=_;omega
 ·rename_i a b;refine Jn ?_ l h;rw[T0,Lin.val_add,A,A];show(Yo k (toL (a.den wf U)++toL (b.den wf U)):Int)=_;rw[qsm]; omega
 ·refine Jn ?_ l h;rw[T0,A]; rfl
 ·refine Jn ?_ l h;rw[T0,A];rename_i y;show(Yo k ((toL (y.den wf U)).drop (toN (I64 0))):Int)=_;rfl
 ·rename_i i y;have tk:toI ((T.u 12 k (.w 6 i y)).den wf U)=(Yo k ((toL (y.den wf U)).take (toN (i.den wf U))):Int):=T0 _;rcases qTD.1 h with rfl|h
  ·rw[Lin.val_sub,A,Lin.val_at,tk];have:=qzt k (toN (i.den wf U)) (toL (y.den wf U));omega
  ·rcases qTH.1 h with h|h
   ·split at h
    ·rename_i hc;have h2:=hl _ hc;rw[Lin.val_plus,Lin.val_sub,(qf y).2.2,(qf i).2.1]at h2;simp only[qTD,qTJ,or_false]at h;subst h;rw[Lin.val_sub,Lin.val_sub,A,Lin.val_at,tk,qlT];have h3:=qsn (k:=k) (n:=toN (i.den wf U)) (l:=toL (y.den wf U)) (by omega);have h4:=qzt k (toN (i.den wf U)+1) (toL (y.den wf U));have:(T.w 3 y i).den wf U=(toL (y.den wf U)).getD (toN (i.den wf U)) .nilp:=rfl;rw[this]; omega
    ·cases h
   rcases qTH.1 h with h|h
   ·split at h
    ·rename_i hc;have:=hl _ hc;rw[Lin.val_sub,(qf i).2.1,(qf y).2.2]at this;refine Jn ?_ l h;rw[tk,A,qTX (by omega)]
    ·cases h
   ·rcases qTH.1 h with h|h
    ·split at h
     ·rename_i hc;have:=hl _ hc;rw[Lin.val_smul,(qf i).2.1]at this;refine Jn ?_ l h;rw[tk,Lin.val_cst,show toN (i.den wf U)=0 by omega]; rfl
     ·cases h
    ·split at h
     ·rename_i j _ _ _ _;split at h
      ·rename_i hc;rw[qTC]at hc;have h1:=hl _ hc.1;have h2:=hl _ hc.2;rw[(qf j).1]at h1;rw[Lin.val_plus,Lin.val_sub,(qf y).2.2,(qf j).1]at h2;refine Jn ?_ l h;have e1:toN ((T.w 0 j (.i (.ofNat 1))).den wf U)=toN (j.den wf U)+1:=by
        show toN (I64 (toI (j.den wf U)+1))=_;unfold toN;show(toI (j.den wf U)+1).toNat=_;omega
       have hj:toN (j.den wf U)<(toL (y.den wf U)).length:=by unfold toN; omega
       rw[tk,e1,qsn hj,Lin.val_add,A,qlT];show _=(Yo k ((toL (y.den wf U)).take (toN (j.den wf U))):Int)+_;have:(T.w 3 y j).den wf U=(toL (y.den wf U)).getD (toN (j.den wf U)) .nilp:=rfl;rw[this]; omega
      ·cases h
     ·rename_i m _ _ _ _;split at h
      ·rename_i hc;have h2:=hl _ hc;rw[Lin.val_plus,Lin.val_plus,(qf y).2.2]at h2;refine Jn ?_ l h;have hj:m<(toL (y.den wf U)).length:=by omega
       have e1:toN ((T.i (.ofNat (m+1))).den wf U)=m+1:=rfl;have e2:toN ((T.i (.ofNat m)).den wf U)=m:=rfl;rw[tk,e1,qsn hj,Lin.val_add,A,qlT];show _=(Yo k ((toL (y.den wf U)).take (toN ((T.i (.ofNat m)).den wf U))):Int)+_;have:(T.w 3 y (.i (.ofNat m))).den wf U=(toL (y.den wf U)).getD m .nilp:=rfl;rw[this,e2]; omega
      ·cases h
     ·cases h
 ·cases h
def qx6 {ln:Lin->Bool} (i2:∀g,ln g=true->0<=g.val wf U) {a b:T} {q:Bool}:∀l∈qlM ln (.w (match q with|true=>100|false=>110) a b) a b q,0<=l.val wf U:=by
 intro l hl;unfold qlM at hl;split at hl
 ·rename_i m;split at hl
  ·rename_i hc;rw[qTC]at hc;have A:=(qf (wf:=wf) (U:=U) a).1;have h0:=i2 _ hc.1;have h1:=i2 _ hc.2;rw[A]at h0;rw[Lin.val_sub,Lin.val_cst,A]at h1;have hd:(toI (a.den wf U)).tdiv ((m+1:Nat):Int)=toI (a.den wf U) / ((m+1:Nat):Int):=qWr h0;have hm:(toI (a.den wf U)).tmod ((m+1:Nat):Int)=toI (a.den wf U) % ((m+1:Nat):Int):=qWq h0;have k1:0<=toI (a.den wf U) % ((m+1:Nat):Int):=Int.emod_nonneg _ (by omega);have k2:toI (a.den wf U) % ((m+1:Nat):Int)<((m+1:Nat):Int):=Int.emod_lt_of_pos _ (by omega);have k3:=Int.mul_ediv_add_emod (toI (a.den wf U)) ((m+1:Nat):Int);have k4:0<=toI (a.den wf U) / ((m+1:Nat):Int):=Int.ediv_nonneg h0 (by omega);have k5:toI (a.den wf U) / ((m+1:Nat):Int)<=toI (a.den wf U):=Int.ediv_le_self _ h0
   cases q with
   | true =>
    have e:toI ((T.w 100 a (.i (.ofNat (m+1)))).den wf U)=toI (a.den wf U) / ((m+1:Nat):Int):=by
     show IntKind.wrap .i64 ((toI (a.den wf U)).tdiv ((m+1:Nat):Int))=_;rw[hd]; exact qrw ⟨by omega,by omega⟩
    generalize toI (a.den wf U) / ((m+1:Nat):Int)=Q at e k3 k4 k5;generalize toI (a.den wf U) % ((m+1:Nat):Int)=R at k1 k2 k3;have e2:((m+1:Nat):Int)*Q=((m:Int)+1)*Q:=by rw[Int.natCast_add]; rfl
    simp only[qTD,qTJ,or_false]at hl;rcases hl with rfl|rfl|rfl
    ·rw[Lin.val_at]; show 0<=toI ((T.w 100 a (.i (.ofNat (m+1)))).den wf U); omega
    ·rw[Lin.val_sub,Lin.val_smul,Lin.val_at,A]; show 0<=_ - ((m:Int)+1)*toI ((T.w 100 a (.i (.ofNat (m+1)))).den wf U); rw[e]; omega
    ·rw[Lin.val_sub,Lin.val_plus,Lin.val_smul,Lin.val_at,A]; show 0<=((m:Int)+1)*toI ((T.w 100 a (.i (.ofNat (m+1)))).den wf U)+_ - _; rw[e]; omega
   | false =>
    have e:toI ((T.w 110 a (.i (.ofNat (m+1)))).den wf U)=toI (a.den wf U) % ((m+1:Nat):Int):=by
     show(toI (a.den wf U)).tmod ((m+1:Nat):Int)=_;rw[hm]
    have k6:toI (a.den wf U) % ((m+1:Nat):Int)<=toI (a.den wf U):=by
     have:0<=((m+1:Nat):Int)*(toI (a.den wf U) / ((m+1:Nat):Int)):=qVG (by omega) k4;omega
    rcases(qTH.1 hl).symm with hl|hl
    ·refine Jn ?_ l hl;have e3:toI ((T.w 100 a (.i (.ofNat (m+1)))).den wf U)=toI (a.den wf U) / ((m+1:Nat):Int):=by
      show IntKind.wrap .i64 ((toI (a.den wf U)).tdiv ((m+1:Nat):Int))=_;rw[hd]; exact qrw ⟨by omega,by omega⟩
     rw[Lin.val_sub,Lin.val_smul,Lin.val_at,A,e3];show toI ((T.w 110 a (.i (.ofNat (m+1)))).den wf U)=_;rw[e];have e2:((m+1:Nat):Int)*(toI (a.den wf U) / ((m+1:Nat):Int))=((m:Int)+1)*(toI (a.den wf U) / ((m+1:Nat):Int)):=by rw[Int.natCast_add]; rfl
     omega
    simp only[qTD,qTJ,or_false]at hl;rcases hl with rfl|rfl|rfl
    ·rw[Lin.val_at]; show 0<=toI ((T.w 110 a (.i (.ofNat (m+1)))).den wf U); omega
    ·rw[Lin.val_sub,Lin.val_cst,Lin.val_at]; show 0<=(m:Int) - toI ((T.w 110 a (.i (.ofNat (m+1)))).den wf U); omega
    ·rw[Lin.val_sub,Lin.val_at,A]; show 0<=_ - toI ((T.w 110 a (.i (.ofNat (m+1)))).den wf U); omega
  ·cases hl
 ·cases hl
def qJb {G:Gam} {n d:Nat} (hG:G.OK wf rcP U) (ih:SOK wf U G n d):∀t,∀l∈qfj (n+1) d G t,0<=l.val wf U:=by
 obtain⟨i1,i2,i3,i4⟩:=ih;intro t l hl;unfold qfj at hl;have hl3:=qTH.1 hl;clear hl;rcases hl3 with hl|hl3
 ·split at hl
  ·rename_i a b hs;obtain⟨z,hz,h1,h2⟩:=i1 _ _ hs;have:toI (t.den wf U)=z:=by rw[hz]; rfl
   simp only[qTD,qTJ,or_false]at hl;rcases hl with rfl|rfl
   ·rw[Lin.val_plus,Lin.val_at]; omega
   ·rw[Lin.val_sub,Lin.val_cst,Lin.val_at]; omega
  ·cases hl
 have hl6:=qTH.1 hl3;clear hl3;rcases hl6 with hl|hl7
 ·obtain⟨x,_,hx⟩:=qUd.1 hl;split at hx
  ·rename_i y hs;have h9:=qmA (i1 _ _ hs)
   revert h9 hx
   generalize unN y=z;intro hx h9;split at hx
   ·rename_i r ps;obtain⟨p,hp,hxp⟩:=qUd.1 hx;exact qry (q:=.i 0) (h9.2 p hp) l hxp
   ·cases hx
  ·cases hx
 have hl2:=qTH.1 hl7;clear hl7;rcases hl2 with hl|hl4
 ·split at hl
  ·obtain⟨p,_,hp⟩:=qUd.1 hl;rcases qTH.1 hp with hp|hp
   ·obtain⟨f,hf,hx⟩:=qUd.1 hp;exact qI4 hG.wv i2 (hG.fs f hf) l hx
   ·obtain⟨f,hf,hx⟩:=qUd.1 hp;exact qI6 hG.wv i2 (hG.fs f hf) l hx
  ·cases hl
 have hl5:=qTH.1 hl4;clear hl4;rcases hl5 with hl|hl
 ·exact qI8 i2 l hl
 split at hl
 ·rename_i k x;rcases qTH.1 hl with hl|hl
  ·split at hl
   ·rename_i m e hs;simp only[qTD,qTJ,or_false]at hl;subst hl;obtain⟨es,h1,h2,h3⟩:=i1 _ _ hs;rw[Lin.val_sub,Lin.val_cst,Lin.val_at];show(0:Int)<=_ - toI (N64 (toL (x.den wf U)).length);rw[Yw,Jb h1]; omega
   ·cases hl
  ·split at hl
   ·rename_i l' i _;rcases qTH.1 hl with hl|hl
    ·obtain⟨f,hf,hx⟩:=qUd.1 hl;exact qrx i2 (by rfl) (hG.fs f hf) l hx
    ·obtain⟨f,hf,hx⟩:=qUd.1 hl;exact qI7 i2 (by rfl) (hG.fs f hf) l hx
   ·rename_i k' l' i _;rcases qTH.1 hl with hl|hl
    ·obtain⟨f,hf,hx⟩:=qUd.1 hl;exact qrx i2 (by rfl) (hG.fs f hf) l hx
    ·split at hl
     ·rename_i hlin;have h0:=i2 _ hlin;rw[Lin.val_plus,Lin.val_sub,(qf l').2.2,(qf i).2.1]at h0;simp only[qTD,qTJ,or_false]at hl;subst hl;rw[Lin.val_sub,Lin.val_at,Lin.val_at];have hj:toN (i.den wf U)<(toL (l'.den wf U)).length:=by omega
      have hm:=qrz k' (toL (l'.den wf U)) _ (qTL hj);show(0:Int)<=toI (N64 (qaD k' (toL ((nlT l').den wf U)))) - toI (N64 (toL (cel ((toL (l'.den wf U)).getD (toN (i.den wf U)) .nilp) k')).length);rw[Yw,Yw,JP,zzG,qTE hj,qTT];omega
     ·cases hl
   ·rename_i a o l' _;split at hl
    ·rename_i hlin;have h0:=i2 _ hlin;rw[Lin.val_sub,Lin.val_sub,(qf l').2.2,(qf a).2.1,(qf o).2.1]at h0;have e:toI ((T.u 0 k (.w 6 a (.w 7 o l'))).den wf U)=(toN (a.den wf U):Int):=by
      show toI (N64 ((toL (l'.den wf U)).drop (toN (o.den wf U)) |>.take (toN (a.den wf U))).length)=_;rw[Yw,qTU,qT8]; omega
     simp only[qTD,qTJ,or_false]at hl;rcases hl with rfl|rfl
     ·rw[Lin.val_sub,Lin.val_at,(qf a).2.1,e]; omega
     ·rw[Lin.val_sub,Lin.val_at,(qf a).2.1,e]; omega
    ·cases hl
   ·rename_i o l' _;split at hl
    ·rename_i hlin;have h0:=i2 _ hlin;rw[Lin.val_sub,(qf l').2.2,(qf o).2.1]at h0;refine Jn ?_ l hl;rw[Lin.val_sub,(qf l').2.2,(qf o).2.1];show toI (N64 ((toL (l'.den wf U)).drop (toN (o.den wf U))).length)=_;rw[Yw,qT8]; omega
    ·cases hl
   ·cases hl
 ·rename_i k x;rcases qTH.1 hl with hl|hl
  rotate_left
  ·split at hl
   ·rename_i j y _;refine Jn ?_ l hl;rw[(qf y).2.2];show toI (N64 ((toL (y.den wf U)).map unB).length)=_;rw[Yw,qTS]
   ·cases hl
  split at hl
  ·rename_i m hs;simp only[qTD,qTJ,or_false]at hl;subst hl;obtain⟨s,h1,h2⟩:=i1 _ _ hs;rw[Lin.val_sub,Lin.val_cst,Lin.val_at];show(0:Int)<=_ - toI (N64 (toS (x.den wf U)).length);rw[Yw,h1]; show(0:Int)<=_ - ((s.length:Nat):Int); omega
  ·cases hl
 ·rename_i k x;have e4:toI ((T.u 4 k x).den wf U)=(toN (x.den wf U):Int):=Yw _;rcases qTD.1 hl with rfl|hl
  ·rw[Lin.val_sub,Lin.val_at,(qf x).1,e4]; unfold toN; omega
  split at hl
  ·rename_i hlin;have h0:=i2 _ hlin;rw[(qf x).1]at h0;simp only[qTD,qTJ,or_false]at hl;subst hl;rw[Lin.val_sub,Lin.val_at,(qf x).1,e4]; unfold toN; omega
  ·cases hl
 ·rename_i x;split at hl
  ·rename_i hlin;rw[qTC]at hlin;have h0:=i2 _ hlin.1;have h1:=i2 _ hlin.2;rw[Lin.val_plus,(qf x).1]at h0;rw[Lin.val_sub,Lin.val_cst,(qf x).1]at h1;have e:toI ((T.u 5 0 x).den wf U)=toI (x.den wf U):=by
    show IntKind.wrap .i64 (toI (x.den wf U))=_;exact qrw (by omega)
   simp only[qTD,qTJ,or_false]at hl;rcases hl with rfl|rfl
   ·rw[Lin.val_sub,Lin.val_at,(qf x).1,e]; omega
   ·rw[Lin.val_sub,Lin.val_at,(qf x).1,e]; omega
  ·cases hl
 ·rename_i l' i;obtain⟨f,hf,hx⟩:=qUd.1 hl;exact qrx i2 (by rfl) (hG.fs f hf) l hx
 ·exact qJa i2 l hl
 ·rename_i k x;have ed:toI ((T.u 13 k x).den wf U)=(qaa (x.den wf U):Int):=Yw _;rcases qTH.1 hl with hl|hl
  ·exact Jn (qrA _) l hl
  ·split at hl
   ·rename_i l' i _;split at hl
    ·rename_i hlin;have h0:=i2 _ hlin;rw[Lin.val_plus,Lin.val_sub,(qf l').2.2,(qf i).2.1]at h0;have hj:toN (i.den wf U)<(toL (l'.den wf U)).length:=by omega
     simp only[qTD,qTJ,or_false]at hl;subst hl;have hm:=qsl (qTL hj);rw[Lin.val_sub,Lin.val_at,Lin.val_at,ed];show(0:Int)<=toI (N64 (Jd (toL ((nlT l').den wf U)))) - (qaa ((toL (l'.den wf U)).getD (toN (i.den wf U)) .nilp):Int);rw[Yw,JP,zzG,qTE hj,qTT];omega
    ·cases hl
   ·exact Jn (qrA _) l hl
   ·cases hl
 ·exact qI9 l hl
 ·rename_i k x;rcases qTH.1 hl with hl|hl
  ·exact Jn (qrB _) l hl
  ·split at hl
   ·rename_i l' i _;split at hl
    ·rename_i hlin;have h0:=i2 _ hlin;rw[Lin.val_plus,Lin.val_sub,(qf l').2.2,(qf i).2.1]at h0;have hj:toN (i.den wf U)<(toL (l'.den wf U)).length:=by omega
     simp only[qTD,qTJ,or_false]at hl;subst hl;have hm:=qso 1000 (qTL hj);rw[Lin.val_sub,Lin.val_at,Lin.val_at];show(0:Int)<=toI (N64 (Yo 1000 (toL ((nlT l').den wf U)))) - toI (N64 (nsz ((toL (l'.den wf U)).getD (toN (i.den wf U)) .nilp)));rw[Yw,Yw,JP,zzG,qTE hj,qTT];have e:qce 1000 (toL (l'.den wf U))[toN (i.den wf U)]=nsz (toL (l'.den wf U))[toN (i.den wf U)]:=rfl;omega
    ·cases hl
   ·exact Jn (qrB _) l hl
   ·cases hl
 ·rename_i a b;have e:∀(h:toN (b.den wf U)<=toN (a.den wf U)),toI ((T.w 9 a b).den wf U)=(toN (a.den wf U):Int) - toN (b.den wf U):=by
   intro h;show toI (N64 (toN (a.den wf U) - toN (b.den wf U)))=_;rw[Yw]; omega
  split at hl
  ·rename_i hlin;have h0:=i2 _ hlin;rw[Lin.val_sub,(qf a).2.1,(qf b).2.1]at h0;have e:=e (by omega);simp only[qTD,qTJ,or_false]at hl;rcases hl with rfl|rfl
   ·simp only[Lin.val_sub,Lin.val_at,(qf a).2.1,(qf b).2.1]; rw[e]; omega
   ·simp only[Lin.val_sub,Lin.val_at,(qf a).2.1,(qf b).2.1]; rw[e]; omega
  ·cases hl
 ·rename_i a b;have A:=(qf (wf:=wf) (U:=U) a).1;have B:=(qf (wf:=wf) (U:=U) b).1;have e:toI ((T.w 26 a b).den wf U)=if toI (b.den wf U)>toI (a.den wf U)then toI (b.den wf U)else toI (a.den wf U):=rfl
  rcases qTH.1 hl with hl|hl
  ·simp only[qTD,qTJ,or_false]at hl;rcases hl with rfl|rfl
   ·simp only[Lin.val_sub,Lin.val_at,A]; rw[e]; split<;>omega
   ·simp only[Lin.val_sub,Lin.val_at,B]; rw[e]; split<;>omega
  ·split at hl
   ·rename_i h1;have:=i2 _ h1;rw[Lin.val_sub,A,B]at this;simp only[qTD,qTJ,or_false]at hl;subst hl;simp only[Lin.val_sub,Lin.val_at,A]; rw[e]; split<;>omega
   ·split at hl
    ·rename_i h1;have:=i2 _ h1;rw[Lin.val_sub,A,B]at this;simp only[qTD,qTJ,or_false]at hl;subst hl;simp only[Lin.val_sub,Lin.val_at,B]; rw[e]; split<;>omega
    ·split at hl
     ·rename_i h1;rw[qTC]at h1;have q1:=i2 _ h1.1;have q2:=i2 _ h1.2;rw[A]at q1; rw[B]at q2;simp only[qTD,qTJ,or_false]at hl;subst hl;simp only[Lin.val_sub,Lin.val_add,Lin.val_at,A,B]; rw[e]; split<;>omega
     ·cases hl
 ·rename_i a b;have A:=(qf (wf:=wf) (U:=U) a).1;have B:=(qf (wf:=wf) (U:=U) b).1;have e:toI ((T.w 27 a b).den wf U)=if toI (b.den wf U)<toI (a.den wf U)then toI (b.den wf U)else toI (a.den wf U):=rfl
  rcases qTH.1 hl with hl|hl
  ·simp only[qTD,qTJ,or_false]at hl;rcases hl with rfl|rfl
   ·simp only[Lin.val_sub,Lin.val_at,A]; rw[e]; split<;>omega
   ·simp only[Lin.val_sub,Lin.val_at,B]; rw[e]; split<;>omega
  ·split at hl
   ·rename_i h1;have:=i2 _ h1;rw[Lin.val_sub,A,B]at this;simp only[qTD,qTJ,or_false]at hl;subst hl;simp only[Lin.val_sub,Lin.val_at,B]; rw[e]; split<;>omega
   ·split at hl
    ·rename_i h1;have:=i2 _ h1;rw[Lin.val_sub,A,B]at this;simp only[qTD,qTJ,or_false]at hl;subst hl;simp only[Lin.val_sub,Lin.val_at,A]; rw[e]; split<;>omega
    ·split at hl
     ·rename_i h1;rw[qTC]at h1;have q1:=i2 _ h1.1;have q2:=i2 _ h1.2;rw[A]at q1; rw[B]at q2;simp only[qTD,qTJ,or_false]at hl;subst hl;simp only[Lin.val_at]; rw[e]; split<;>omega
     ·cases hl
 ·exact qx6 (q:=true) i2 l hl
 ·exact qx6 (q:=false) i2 l hl
 ·cases hl
def qrC {f:T->Y->Bool} (hf:∀a c,f a c=true->qd c (a.den wf U)):∀{x:T} {r:Y},qed f x r=true->qd r (x.den wf U)/\r.chainy=true:=by
 intro x
 induction x with
 | w o a b _ ih =>
  intro r h;unfold qed at h;split at h
  ·rename_i a' b' c r' heq;injection heq with e1 e2 e3
   subst e1; subst e2; subst e3;rw[qTC,qTC]at h;obtain⟨h2,h3⟩:=ih h.2.2;obtain⟨cs,hc⟩:=Y.chainy_list h.1 h2;exact⟨⟨a.den wf U,cs,by show D.list (_::toL (b.den wf U))=_; rw[hc]; rfl,hf _ _ h.2.1,hc ▸ h2⟩,rfl⟩
  ·rename_i heq; cases heq
  ·cases h
 | z=>intro r h; cases r<;>first|exact⟨rfl,rfl⟩ | (simp[qed]at h; done)
 | _=>intro r h; cases r<;>(simp[qed]at h; done)
def qJc {f:T->Y->Bool} (hf:∀a c,f a c=true->qd c (a.den wf U)) {t:T} {cs:List D} (hcs:t.den wf U=.agg cs):∀{r' r:Y} {k:Nat},qbX f t r' r k=true->qd r' (.list (cs.drop k))->qd r (.list (cs.drop k)):=by
 intro r'
 induction r' with
 | ec p a _ ih =>
  intro r k h hd
  cases r with
  | ec c b =>
   simp only[qbX,qTC]at h;obtain⟨y,ys,h1,h2,h3⟩:=hd;injection h1 with h1
   have hk:cs[k]?=some y:=by
    have:=congrArg (fun l=>l[0]?) h1;simpa using this
   have hd1:cs.drop (k+1)=ys:=by
    have:=congrArg List.tail h1;simpa using this
   have hy:=hf _ _ h.1;have e:(T.u 1 k t).den wf U=y:=by
    show cel (t.den wf U) k=y;rw[hcs]; simp[cel,D.cells,hk]
   rw[e]at hy;have:=ih h.2 (hd1 ▸ h3);exact⟨y,ys,by rw[h1],hy,hd1 ▸ this⟩
  | _=>simp[qbX]at h
 | e0=>intro r k h hd; cases r<;>first|exact hd | (simp[qbX]at h; done)
 | _=>intro r k h hd; cases r<;>(simp[qbX]at h; done)
def qJd {ck base:T->Y->Bool} (hc:∀a c,ck a c=true->qd c (a.den wf U)) (hb:∀t e,base t e=true->∃es,t.den wf U=.list es/\∀x∈es,qd e x) {e:Y} :
  ∀{t:T},qcK ck base e t=true->∃es,t.den wf U=.list es/\∀x∈es,qd e x:=by
 intro t
 induction t with
 | z=>intro _; exact⟨[],rfl,fun x hx=>by cases hx⟩
 | mk k x ih =>
  intro h
  cases k with
  | l =>
   obtain⟨es,h1,h2⟩:=ih h;exact⟨es,by show D.list (toL (x.den wf U))=_; rw[h1]; rfl,h2⟩
  | _=>exact hb _ _ h
 | w o a c ih1 ih2 =>
  intro h;unfold qcK at h;split at h
  ·rename_i heq; cases heq
  ·rename_i a' c' heq;injection heq with e1 e2 e3
   subst e1; subst e2; subst e3;rw[qTC]at h;obtain⟨es,h1,h2⟩:=ih2 h.2;refine⟨a.den wf U::es,by show D.list (_::toL (c.den wf U))=_; rw[h1]; rfl,fun x hx=>?_⟩;rcases qTD.1 hx with rfl|hx
   ·exact hc _ _ h.1
   ·exact h2 x hx
  ·rename_i a' c' heq;injection heq with e1 e2 e3
   subst e1; subst e2; subst e3;rw[qTC]at h;obtain⟨es,h1,h2⟩:=ih1 h.1;obtain⟨es',h3,h4⟩:=ih2 h.2;refine⟨es++es',by show D.list (toL (a.den wf U)++toL (c.den wf U))=_; rw[h1,h3]; rfl,fun x hx=>?_⟩;rcases qTH.1 hx with hx|hx
   ·exact h2 x hx
   ·exact h4 x hx
  ·rename_i a' c' heq;injection heq with e1 e2 e3
   subst e1; subst e2; subst e3;obtain⟨es,h1,h2⟩:=ih2 h;exact⟨es.take (toN (a.den wf U)),by show D.list ((toL (c.den wf U)).take _)=_; rw[h1]; rfl,fun x hx=>h2 x (qUg hx)⟩
  ·rename_i a' c' heq;injection heq with e1 e2 e3
   subst e1; subst e2; subst e3;obtain⟨es,h1,h2⟩:=ih2 h;exact⟨es.drop (toN (a.den wf U)),by show D.list ((toL (c.den wf U)).drop _)=_; rw[h1]; rfl,fun x hx=>h2 x (qUE hx)⟩
  ·rename_i l k p d heq;injection heq with e1 e2 e3
   subst e1; subst e2; subst e3;rw[qTC]at h;obtain⟨es,h1,h2⟩:=ih1 h.1;have h3:=hc _ _ h.2;refine⟨es.set (toN (cel ((T.u 2 k (.w 4 p (.w 4 d .z))).den wf U) 0)) (d.den wf U),?_,fun x hx=>?_⟩
   ·show D.list ((toL (a.den wf U)).set _ _)=_;rw[h1]; rfl
   ·rcases qVb hx with hx|rfl
    ·exact h2 x hx
    ·exact h3
  ·rename_i a' c' heq;injection heq with e1 e2 e3
   subst e1; subst e2; subst e3;have h3:=hc _ _ h;refine⟨List.replicate (toN (a.den wf U)) (c.den wf U),rfl,fun x hx=>?_⟩;rw[(qUz.1 hx).2]; exact h3
  ·rename_i heq; cases heq
  ·exact hb _ _ h
 | _=>intro h; exact hb _ _ h
def qJe {G:Gam} {n d:Nat} (hG:G.OK wf rcP U) (ih:SOK wf U G n d):∀t e,qrk (YY n d G) (qW n d G) G.fs t e=true->∃es,t.den wf U=.list es/\∀x∈es,qd e x:=by
 obtain⟨i1,i2,i3,i4⟩:=ih;intro t e h;unfold qrk at h;split at h
 ·rename_i m e' hs;obtain⟨es,h1,h2,h3⟩:=i1 _ _ hs;rw[qTM,qTM,qTM]at h;rcases h with((h|h) | h) | h
  ·exact⟨es,h1,fun x hx=>Y.sub_ok h (h3 x hx)⟩
  ·exact⟨es,h1,fun x hx=>Y.sub_ok h (qmA (h3 x hx))⟩
  ·split at h
   ·exact⟨es,h1,fun x hx=>JR.fold (Y.sub_ok h (h3 x hx))⟩
   ·cases h
  ·obtain⟨f,hf,hb⟩:=qUb.1 h;split at hb
   ·rename_i l i y;rw[qTC,qTC]at hb;have hp:=hG.fs _ hf;have hl:=i2 _ hb.2.2;have el:=T.eq_eq hb.1;subst el;rw[Lin.val_sub,(qf i).2.1,(qf l).2.2,Jb h1]at hl;refine⟨es,h1,fun x hx=>?_⟩;obtain⟨j,hj,rfl⟩:=qUu hx;have:=hp j (by omega);rw[Jb h1,zzG,qTE hj]at this;exact Y.sub_ok hb.2.1 this
   ·cases hb
 ·cases h
def qrD (hv:∀g,Jw<=g->wf g=PW.wV g) {ln:Lin->Bool} (hl:∀g,ln g=true->0<=g.val wf U) {x q:T} {e:Nat} (h:qfi ln x q e=true):Yk e (q.den wf U) (x.den wf U):=by
 have Q:=(qf (wf:=wf) (U:=U) q).2.1;have X:=qf (wf:=wf) (U:=U) x
 match e,h with
 | 0,h =>
  simp only[qfi,qTC]at h;have h1:=hl _ h.1; have h2:=hl _ h.2;rw[Lin.val_sub,Q,X.2.2]at h1; rw[Lin.val_sub,Q,X.2.2]at h2;show(toL _).length=_; omega
 | 1,h =>
  have h1:=hl _ h;rw[Lin.val_sub,Q,X.2.2]at h1;show(toL _).length<=_; omega
 | 2,h =>
  simp only[qfi,qTC]at h;have h1:=hl _ h.1; have h2:=hl _ h.2;rw[X.1]at h1; rw[Lin.val_plus,Lin.val_sub,Q,X.1]at h2;show 0<=toI _/\toI _<_; omega
 | k+3,h =>
  unfold qfi at h;unfold Yk;simp only at h ⊢;split
  ·rename_i hk;rw[hk]at h;have h1:=hl _ h;rw[Lin.val_sub,Q,(qf (JY k x)).2.2,qgY]at h1;show(toL _).length<=_; omega
  ·rename_i hk;rw[hk]at h;simp only at h;split at h
   ·rename_i hb;rw[hb];intro p hp;have h1:=qTI.1 h p hp;rw[qTC]at h1;exact(qlR h1.1).1 (hl _ h1.2)
   ·rename_i hb;rw[qTC]at h;rw[hb];simp only[h.1];intro p hp;have h1:=qTI.1 h.2 p hp;rw[qTC]at h1;exact(qx2 hv h1.1).1 (hl _ h1.2)
def qrE {ln:Lin->Bool} (hl:∀g,ln g=true->0<=g.val wf U) {q' q:T} {e' e:Nat} {x:D} (h:qlH ln e' e q' q=true) (hp:Yk e' (q'.den wf U) x):Yk e (q.den wf U) x:=by
 unfold qlH at h;rw[qTC,qTM]at h;have h1:e<920->toN (q'.den wf U)<=toN (q.den wf U):=by
  intro he;rcases h.1 with h1|h1
  ·have:=qT5 h1; omega
  ·have:=hl _ h1;rw[Lin.val_sub,(qf q).2.1,(qf q').2.1]at this;omega
 have h2:=h.2;split at h2
 ·have h3:=hl _ h2;rw[Lin.val_sub,(qf q).2.1,(qf q').2.1]at h3;have hp':(toL x).length=toN (q'.den wf U):=hp;have:=h1 (by omega);show(toL x).length=_; omega
 ·have hp':(toL x).length=toN (q'.den wf U):=hp;have:=h1 (by omega);show(toL x).length<=_; omega
 ·rw[qTC,qTM]at h2;have:=qTO h2.1;subst this;rename_i e0 _ hn0 hn1;have hq:=h2.2
  match e,hp,hq,h1 with
  | 0,hp,_,_=>exact(hn0 rfl rfl).elim|1,hp,_,h1=>have hp':(toL x).length<=toN (q'.den wf U):=hp; have:=h1 (by omega); show(toL x).length<=_; omega
  | 2,hp,_,h1=>have hp':0<=toI x/\toI x<(toN (q'.den wf U):Int):=hp; have:=h1 (by omega); show 0<=toI x/\toI x<_; omega
  | k+3,hp,hq,h1 =>
   unfold Yk at hp ⊢;simp only at hp ⊢
   cases hk:Nat.blt k 900 with
   | true =>
    rw[hk]at hp;have hk':k<900:=by rwa[qT0]at hk
    have hp':(toL (cel x k)).length<=toN (q'.den wf U):=hp;have:=h1 (by omega);show(toL (cel x k)).length<=_; omega
   | false =>
    rw[hk]at hp;have hlt:¬k<900:=by
     intro hc;rw[<-qT0]at hc; rw[hc]at hk; cases hk
    rcases hq with hq|hq
    ·rw[qT0]at hq; omega
    ·cases hb:Nat.blt k 917 with
     | true =>
      have hk2:k<917:=by rwa[qT0]at hb
      have hb':Nat.blt (k+3) 920=true:=by rw[qT0]; omega
      rw[hb']at hq;rw[hb]at hp;have h3:=hl _ hq;rw[Lin.val_sub,(qf q).2.1,(qf q').2.1]at h3;have h4:=h1 (by omega);have:toN (q'.den wf U)=toN (q.den wf U):=by omega
      show ∀p∈RT.tm (k - 900),qaE x (toN (q.den wf U)) p;rw[<-this]; exact hp
     | false =>
      have hk2:¬k<917:=by
       intro hc;rw[<-qT0]at hc; rw[hc]at hb; cases hb
      have hb':Nat.blt (k+3) 920=false:=by
       cases hz:Nat.blt (k+3) 920 with
       | false=>rfl|true=>rw[qT0]at hz; omega
      rw[hb']at hq;rw[hb]at hp;rw[<-T.eq_eq hq]; exact hp
def qlU {ck base:T->Bool} {e:Nat} {v:D} (hc:∀a,ck a=true->Yk e v (a.den wf U)) (hb:∀t,base t=true->∀x∈toL (t.den wf U),Yk e v x) :
  ∀{t:T},qbG ck base t=true->∀x∈toL (t.den wf U),Yk e v x:=by
 intro t
 induction t with
 | z=>intro _ x hx; cases hx
 | mk k x ih =>
  intro h
  cases k with
  | l=>exact ih h|_=>exact hb _ h
 | w o a c ih1 ih2 =>
  intro h;unfold qbG at h;split at h
  ·rename_i heq; cases heq
  ·rename_i a' c' heq;injection heq with e1 e2 e3
   subst e1; subst e2; subst e3;rw[qTC]at h;intro x hx;rcases qTD.1 (show x∈a.den wf U::toL (c.den wf U) from hx)with rfl|hx
   ·exact hc _ h.1
   ·exact ih2 h.2 x hx
  ·rename_i a' c' heq;injection heq with e1 e2 e3
   subst e1; subst e2; subst e3;rw[qTC]at h;intro x hx;rcases qTH.1 (show x∈toL (a.den wf U)++toL (c.den wf U) from hx)with hx|hx
   ·exact ih1 h.1 x hx
   ·exact ih2 h.2 x hx
  ·rename_i a' c' heq;injection heq with e1 e2 e3
   subst e1; subst e2; subst e3;exact fun x hx=>ih2 h x (qUg (show x∈(toL (c.den wf U)).take _ from hx))
  ·rename_i a' c' heq;injection heq with e1 e2 e3
   subst e1; subst e2; subst e3;exact fun x hx=>ih2 h x (qUE (show x∈(toL (c.den wf U)).drop _ from hx))
  ·rename_i heq; cases heq
  ·exact hb _ h
 | _=>intro h; exact hb _ h
def qfk {e:Nat} {l i t:T}:(F.rows e l i t).den wf rcP U↔∀j:Nat,j<toN (i.den wf U)->j<(toL (l.den wf U)).length->Yk e (t.den wf U) ((toL (l.den wf U)).getD j .nilp):=qU5
def qx7 {e:Nat} {v x:D} (h:qlJ e=true):e=910/\(Yk e v x↔qaa x<=toN v):=by
 unfold qlJ at h;rw[qTC,qTC]at h;have he:=qTO h.1;subst he;refine⟨rfl,?_⟩;have key:qaE x (toN v) (true,.u 13 0 (.v 0),.v 1)↔qaa x<=toN v:=by
  show toN (N64 (qaa x))<=toN (N64 (toN v))↔_;rw[qdn,qdn]
 have hr:Yk 910 v x↔∀p∈RT.tm 7,qaE x (toN v) p:=qU5;rw[hr];have sub:∀{ps qs:List (Bool×T×T)},qeb ps qs=true->(∀q∈qs,qaE x (toN v) q)->∀p∈ps,qaE x (toN v) p:=by
  intro ps qs h hq p hp;obtain⟨q,hq',e⟩:=qUb.1 (qTI.1 h p hp);unfold qrj at e;rw[qTC,qTC]at e;have:p=q:=by
   obtain⟨a,b,c⟩:=p;obtain⟨a',b',c'⟩:=q;have e1:=qgO e.1; have e2:=T.eq_eq e.2.1; have e3:=T.eq_eq e.2.2;simp only at e1 e2 e3;rw[e1,e2,e3]
  rw[this]; exact hq q hq'
 constructor
 ·intro hh; exact key.1 (sub h.2.1 hh _ (by simp[qlI]))
 ·intro hh;refine sub h.2.2 fun q hq=>?_
  simp only[qlI,qTD,qTJ,or_false]at hq;subst hq; exact key.2 hh
def qrF {ln:Lin->Bool} {fs:List F} (i2:∀g,ln g=true->0<=g.val wf U) (hfs:∀f∈fs,f.den wf rcP U) {e:Nat} {t q:T} (h:qiC ln fs e t q=true):∀x∈toL (q.den wf U),Yk e (t.den wf U) x:=by
 intro x hx;unfold qiC at h;rw[qTM]at h;rcases h with hq|hq
 ·obtain⟨f,hf,hb⟩:=qUb.1 hq;split at hb
  ·rename_i e' l' i' q';rw[qTC,qTC]at hb;obtain⟨b1,b3,b4⟩:=hb;have el:=T.eq_eq b1;subst el;have hp:=qfk.1 (hfs _ hf);have h1:=i2 _ b3;rw[Lin.val_sub,(qf i').2.1,(qf l').2.2]at h1;obtain⟨j,hj,rfl⟩:=qUu hx;have:=hp j (by omega) hj;rw[zzG,qTE hj]at this;exact qrE i2 b4 this
  ·cases hb
 ·split at hq
  ·rename_i k;split at hq
   ·rename_i hk;have h1:=i2 _ hq;rw[Lin.val_sub,Lin.val_at,(qf t).2.1]at h1;have h2:toI ((T.u 11 k q).den wf U)=(qaD k (toL (q.den wf U)):Int):=Yw _;have:=qrz k (toL (q.den wf U)) x hx;unfold Yk;simp only[hk];omega
   ·rw[qTC]at hq;have h1:=i2 _ hq.2;rw[Lin.val_sub,Lin.val_at,(qf t).2.1]at h1;have h2:toI ((T.u 14 0 q).den wf U)=(Jd (toL (q.den wf U)):Int):=Yw _;have:=qsl hx;exact(qx7 hq.1).2.2 (by omega)
  ·cases hq
def qx8 (hv:∀g,Jw<=g->wf g=PW.wV g) {ln:Lin->Bool} {fs:List F} (i2:∀g,ln g=true->0<=g.val wf U) (hfs:∀f∈fs,f.den wf rcP U) {a b:T} (h:qlK ln fs b a=true):toI (a.den wf U)<=toI (b.den wf U):=by
 unfold qlK at h;split at h
 ·rename_i k l;rw[qTC,qTC]at h;have h1:=i2 _ h.1.2;rw[(qf b).1]at h1;have key:=qlU (wf:=wf) (U:=U) (e:=k+3) (v:=b.den wf U) (fun a ha=>qrD hv i2 ha) (fun q hq=>qrF i2 hfs hq) h.2;have:=qx5 (k:=k) (n:=toN (b.den wf U)) (l:=toL (l.den wf U)) fun x hx=>by
   have:=key x hx;unfold Yk at this;simp only[h.1.1]at this;exact this
  show toI (N64 (qaD k (toL (l.den wf U))))<=toI (b.den wf U);rw[Yw];have:toI (b.den wf U)=(toN (b.den wf U):Int):=by unfold toN; omega
  omega
 ·rename_i k l;rw[qTC,qTC]at h;have h1:=i2 _ h.1.2;rw[(qf b).1]at h1;have key:=qlU (wf:=wf) (U:=U) (e:=910) (v:=b.den wf U) (fun a ha=>qrD hv i2 ha) (fun q hq=>qrF i2 hfs hq) h.2;have:=qzq (n:=toN (b.den wf U)) (l:=toL (l.den wf U)) fun x hx=>(qx7 h.1.1).2.1 (key x hx)
  show toI (N64 (Jd (toL (l.den wf U))))<=toI (b.den wf U);rw[Yw];have:toI (b.den wf U)=(toN (b.den wf U):Int):=by unfold toN; omega
  omega
 ·cases h
def qJf:∀{r c:Y} {m:Nat} {es:List D},qlL r=some (c,m)->es.length=m->(∀x∈es,qd c x)->qd r (.list es):=by
 intro r
 induction r with
 | ec a r _ ih =>
  intro c m es h hl hc;unfold qlL at h;split at h
  ·rename_i c' heq;injection heq with e1 e2
   subst e1; subst e2;cases h
   match es,hl with
   | [x],_=>exact⟨x,[],rfl,hc x (by simp),rfl⟩
  ·rename_i c' r' _ heq;injection heq with e1 e2
   subst e1; subst e2;split at h
   ·rename_i c2 m2 hu;split at h
    ·rename_i k k';split at h
     ·rename_i hk;cases h
      match es,hl with
      | x::xs,hl=>
       refine⟨x,xs,rfl,hc x (by simp),ih hu (by simpa using hl) fun q hq=>?_⟩;rw[<-IntKind.eq_eq hk];exact hc q (qTG _ hq)
     ·cases h
    ·cases h
     match es,hl with
     | x::xs,hl=>exact⟨x,xs,rfl,hc x (by simp),ih hu (by simpa using hl) fun q hq=>hc q (qTG _ hq)⟩
    ·cases h
   ·cases h
  ·cases h
 | _=>intro c m es h; cases h
def qJg {G:Gam} {n d:Nat} (hG:G.OK wf rcP U) (ih:SOK wf U G n d):∀t y,qaU (n+1) d G t y=true->qd y (t.den wf U):=by
 have hB:=qJe hG ih;obtain⟨i1,i2,i3,i4⟩:=ih;intro t y h;unfold qaU at h;rw[qTM]at h;rcases h with h|h
 ·split at h
  ·rename_i y' hs;rw[qTM,qTM,qTC]at h;rcases h with(h|h) | ⟨hs',h⟩
   ·exact Y.sub_ok h (i1 _ _ hs)
   ·exact Y.sub_ok h (qmA (i1 _ _ hs))
   ·split at h
    ·rename_i y'' hl;have:=qlN hl hG.hs;have e:(T.mk y'.kind t).den wf U=t.den wf U:=qb7 hs' (i1 _ _ hs);rw[e]at this;exact Y.sub_ok h this
    ·cases h
  ·cases h
 ·split at h
  ·rename_i m e;rw[qTC]at h;obtain⟨es,h1,h2⟩:=qJd i4 hB h.1;have h3:=i2 _ h.2;rw[Lin.val_sub,Lin.val_cst,(qf t).2.2,Jb h1]at h3;exact⟨es,h1,by omega,h2⟩
  ·rename_i m;split at h
   ·rename_i m' hs;obtain⟨s,h1,h2⟩:=i1 _ _ hs;have h3:=i2 _ h;rw[Lin.val_sub,Lin.val_cst,Lin.val_at]at h3;have e:toI ((T.u 7 0 t).den wf U)=(s.length:Int):=by
     show toI (N64 (toS (t.den wf U)).length)=_;rw[Yw,h1]; rfl
    rw[e]at h3;exact⟨s,h1,by omega⟩
   ·split at h
    ·rename_i j x _;obtain⟨es,h1,h2,_⟩:=i4 _ _ h;refine⟨(toL (x.den wf U)).map unB,rfl,?_⟩;rw[qTS,Jb h1]; exact h2
    ·rename_i j x _;obtain⟨es,h1,h2,_⟩:=i4 _ _ h;refine⟨(toL (x.den wf U)).map unB,rfl,?_⟩;rw[qTS,Jb h1]; exact h2
    ·cases h
  ·rename_i r;split at h
   ·rename_i k x;rw[qTM]at h;rcases h with h|h
    ·obtain⟨h2,h3⟩:=qrC i4 h;obtain⟨cs,hc⟩:=Y.chainy_list h3 h2;exact⟨cs,by show D.agg (toL (x.den wf U))=_; rw[hc]; rfl,hc ▸ h2⟩
    ·split at h
     ·rename_i m' e c m hs hu;rw[qTC,qTC]at h;obtain⟨es,h1,_,h3⟩:=i1 _ _ hs;have b1:=i2 _ h.2.1;have b2:=i2 _ h.2.2;rw[Lin.val_plus,(qf x).2.2,Jb h1]at b1;rw[Lin.val_sub,Lin.val_cst,(qf x).2.2,Jb h1]at b2;exact⟨es,by show D.agg (toL (x.den wf U))=_; rw[h1]; rfl,qJf hu (by omega) fun q hq=>Y.sub_ok h.1 (h3 q hq)⟩
     ·cases h
   ·split at h
    ·rename_i r' hs;obtain⟨q,hq,hs⟩:=qTP.1 hs;obtain⟨cs,h1,h2⟩:=hs ▸ qeo (i1 _ _ hq);exact⟨cs,h1,by have:=qJc i4 h1 h (by simpa using h2); simpa using this⟩
    ·cases h
  ·exact(qrC i4 h).1
  ·exact(qrC i4 h).1
  ·exact JR.fold (i4 _ _ h)
  ·rename_i r ps;rw[qTC]at h;refine⟨i4 _ _ h.1,fun p hp=>?_⟩;have h1:=qTI.1 h.2 p hp;rw[qTC,qTM]at h1;rcases h1.2 with h2|h2
   ·exact(qlR (q:=.i 0) h1.1).1 (i2 _ h2)
   ·rw[qTC,qUy]at h2;refine(qlR (q:=.i 0) h1.1).1 ?_;have h3:=qx8 (rcP:=rcP) hG.wv i2 hG.fs h2.2;rw[h2.1];show 0<=Lin.val wf U ((lnI (p.2.2.sub [t,.u 4 0 (.i 0)])).sub (lnI (p.2.1.sub [t,.u 4 0 (.i 0)])));rw[Lin.val_sub,(qf _).1,(qf _).1]; omega
  ·rename_i a b;rw[qTC,qTC]at h;obtain⟨h1,h2,h3⟩:=h;have k2:=i2 _ h2;have k3:=i2 _ h3;rw[Lin.val_plus,(qf t).1]at k2;rw[Lin.val_sub,Lin.val_cst,(qf t).1]at k3;split at h1
   ·rename_i k hs;obtain⟨z,hz⟩:=i1 _ _ hs;rw[hz]at k2 k3;refine⟨z,by rw[hz,IntKind.eq_eq h1],?_,?_⟩
    ·have:toI (D.int k z)=z:=rfl;omega
    ·have:toI (D.int k z)=z:=rfl;omega
   ·rename_i p q hs;obtain⟨z,hz,_⟩:=i1 _ _ hs;rw[hz]at k2 k3;have:toI (D.int .i64 z)=z:=rfl;exact⟨z,hz,by omega,by omega⟩
   ·cases h1
  ·cases h
def qgF {G:Gam} (hG:G.OK wf rcP U):∀n d,SOK wf U G n d
 | 0,d=>by
  refine⟨fun t y h=>?_,fun g h=>?_,fun t l hl=>?_,fun t y h=>?_⟩
  ·unfold YY at h; exact qlN h hG.hs
  ·unfold qW at h; exact qKa h hG.ls
  ·unfold qfj at hl; cases hl
  ·unfold qaU at h; cases h
 | n+1,d=>⟨qI1 hG (qgF hG n d),qI3 hG (fun d=>qgF hG n d) d,qJb hG (qgF hG n d),qJg hG (qgF hG n d)⟩
def qx9 {G:Gam} {n:Nat} (hG:G.OK wf rcP U) (h:qrt n G=true):False:=by
 have:=qrv (l:=.cst (-1)) hG.ls (qgF hG n 1).2.2.1 (fun e=>by rw[Lin.val_cst]; rfl) h;rw[Lin.val_cst]at this;omega
def sok {G:Gam} (hG:G.OK wf rcP U) (n:Nat):SOK wf U G n DEP:=qgF hG n DEP
end
end Go.Aev.R
namespace Go.Aev.R
open Go Go.Aev
variable [RT]
section
def F.sub (J:List T):F->F
 | .num a b=>.num a b|.le a b=>.le (a.sub J) (b.sub J)|.lt a b=>.lt (a.sub J) (b.sub J)|.nle a b=>.nle (a.sub J) (b.sub J)|.nnle a b=>.nnle (a.sub J) (b.sub J)|.nlt a b=>.nlt (a.sub J) (b.sub J)|.nne a b=>.nne (a.sub J) (b.sub J)|.aw l i ks ag=>.aw (Jc (l.sub J)) (i.sub J) ks ag|.bool t v=>.bool (t.sub J) v|.inI t=>.inI (t.sub J)|.rc g x=>.rc g (x.map (T.sub J))|.all l k=>.all (Jc (l.sub J)) k|.and f g=>.and (f.sub J) (g.sub J)|.has t y=>.has (t.sub J) y|.pre l i y=>.pre (Jc (l.sub J)) (i.sub J) y|.imp t f=>.imp (t.sub J) (f.sub J)|.tt b=>.tt b|.keq a b=>.keq a b|.ine t=>.ine (t.sub J)|.rows e l i t=>.rows e (Jc (l.sub J)) (i.sub J) (t.sub J)|.ifF f g=>.ifF (f.sub J) (g.sub J)|.eqD a b=>.eqD (a.sub J) (b.sub J)|.byt l=>.byt (Jc (l.sub J))|.ar l=>.ar (Jc (l.sub J))|.sca l=>.sca (Jc (l.sub J))|.sp l k n=>.sp (Jc (l.sub J)) k n|.iz t z=>.iz (t.sub J) z
def F.pure (n:Nat):F->Bool
 | .num _ _=>true|.le a b=>a.pure n&&b.pure n|.lt a b=>a.pure n&&b.pure n|.nle a b=>a.pure n&&b.pure n|.nnle a b=>a.pure n&&b.pure n|.nlt a b=>a.pure n&&b.pure n|.nne a b=>a.pure n&&b.pure n|.aw l i _ _=>l.pure n&&i.pure n|.bool t _=>t.pure n|.inI t=>t.pure n|.rc _ _=>false|.all l _=>l.pure n|.and f g=>f.pure n&&g.pure n|.has t _=>t.pure n|.pre l i _=>l.pure n&&i.pure n|.imp t f=>t.pure n&&f.pure n|.tt _=>true|.keq _ _=>true|.ine t=>t.pure n|.rows _ l i t=>l.pure n&&(i.pure n&&t.pure n)|.ifF f g=>f.pure n&&g.pure n|.eqD a b=>a.pure n&&b.pure n|.byt l=>l.pure n|.ar l=>l.pure n|.sca l=>l.pure n|.sp l _ _=>l.pure n|.iz t _=>t.pure n
section
variable [PW] {wf:Nat->List D->D} {rcP:Nat->List D->Prop} {U:Nat->D}
def F.den_sub (J:List T):∀f:F,(f.sub J).den wf rcP U↔f.den wf rcP (Ym wf U J):=by
 intro f
 induction f with
 | rc g x =>
  show rcP g _↔rcP g _;rw[qUs];have:(T.den wf U∘T.sub J)=T.den wf (Ym wf U J):=by funext t; exact T.den_sub J t
  rw[this]
 | and f g ih1 ih2=>simp only[F.sub,F.den,ih1,ih2]|imp t f ih=>simp only[F.sub,F.den,ih,T.den_sub]|ifF f g ih1 ih2=>simp only[F.sub,F.den,ih1,ih2]|_=>simp only[F.sub,F.den,T.den_sub,qgX]
def F.den_pure {n:Nat} {wf':Nat->List D->D} {rcP':Nat->List D->Prop} {U':Nat->D} (hw:∀g,Jw<=g->wf g=wf' g) (h:∀k,k<n->U k=U' k):∀f:F,f.pure n=true->(f.den wf rcP U↔f.den wf' rcP' U'):=by
 intro f;have tp:=fun t=>T.den_pure (wf:=wf) (wf':=wf') (n:=n) hw h t
 induction f with
 | rc g x=>intro hp; cases hp
 | and f g ih1 ih2=>intro hp; simp only[F.pure,qTC]at hp; simp only[F.den,ih1 hp.1,ih2 hp.2]
 | imp t f ih=>intro hp; simp only[F.pure,qTC]at hp; simp only[F.den,ih hp.2,tp t hp.1]
 | ifF f g ih1 ih2=>intro hp; simp only[F.pure,qTC]at hp; simp only[F.den,ih1 hp.1,ih2 hp.2]
 | eqD a b=>intro hp; simp only[F.pure,qTC]at hp; simp only[F.den,tp a hp.1,tp b hp.2]
 | byt l=>intro hp; simp only[F.den,tp l hp]
 | ar l=>intro hp; simp only[F.den,tp l hp]
 | sca l=>intro hp; simp only[F.den,tp l hp]
 | sp l k n=>intro hp; simp only[F.den,tp l hp]
 | iz t z=>intro hp; simp only[F.den,tp t hp]
 | num a b=>intro _; rfl
 | tt b=>intro _; rfl
 | keq a b=>intro _; rfl
 | ine t=>intro hp; simp only[F.den,tp t hp]
 | rows e l i t=>intro hp; simp only[F.pure,qTC]at hp; simp only[F.den,tp l hp.1,tp i hp.2.1,tp t hp.2.2]
 | bool t v=>intro hp; simp only[F.den,tp t hp]
 | inI t=>intro hp; simp only[F.den,tp t hp]
 | all l k=>intro hp; simp only[F.den,tp l hp]
 | has t y=>intro hp; simp only[F.den,tp t hp]
 | le a b=>intro hp; simp only[F.pure,qTC]at hp; simp only[F.den,tp a hp.1,tp b hp.2]
 | lt a b=>intro hp; simp only[F.pure,qTC]at hp; simp only[F.den,tp a hp.1,tp b hp.2]
 | nle a b=>intro hp; simp only[F.pure,qTC]at hp; simp only[F.den,tp a hp.1,tp b hp.2]
 | nnle a b=>intro hp; simp only[F.pure,qTC]at hp; simp only[F.den,tp a hp.1,tp b hp.2]
 | nlt a b=>intro hp; simp only[F.pure,qTC]at hp; simp only[F.den,tp a hp.1,tp b hp.2]
 | nne a b=>intro hp; simp only[F.pure,qTC]at hp; simp only[F.den,tp a hp.1,tp b hp.2]
 | aw l i ks ag=>intro hp; simp only[F.pure,qTC]at hp; simp only[F.den,tp l hp.1,tp i hp.2]
 | pre l i y=>intro hp; simp only[F.pure,qTC]at hp; simp only[F.den,tp l hp.1,tp i hp.2]
end
def Y.flatC:Y->Bool
 | .ec c r=>c.simple&&r.flatC|.e0=>true|_=>false
def Y.good:Y->Bool
 | .g r=>r.flatC|.gq r _=>r.flatC|y=>y.simple
def qiJ:List K->List K->Bool
 | [],[]=>true|a::r,b::s=>K.eq a b&&qiJ r s|_,_=>false
def qgJ (e:T):T->Nat->List K->Bool
 | .z,_,[]=>true|.w 4 (.mk kd (.u 1 j x)) r,n,k::ks=>K.eq kd k&&(Nat.beq j n&&(x.eq e&&qgJ e r (n+1) ks))|_,_,_=>false
def hdE:T->Option T
 | .w 4 (.mk _ (.u 1 _ x)) _=>some x|_=>none
def qei (G:Gam) (t:T):T:=match t with
 | .u 2 _ l=>match hdE l with
  | some e=>match (qdk 6 G e).map unY with
   | some (.g r)=>match r.flatC&&qgJ e l 0 r.kinds with
    | true=>e|false=>t
   | _=>t
  | none=>t
 | .mk k x=>match qdk 6 G x with
  | some y=>match y.simple&&K.eq y.kind k with
   | true=>x|false=>t
  | none=>t
 | t=>t
def qiK (t:T) (v:Bool):F->Bool
 | .bool t' v'=>t'.eq t&&bEq v' v|_=>false
def qrR (G:Gam) (a b:T):List Lin :=
 (match lin 8 G ((lnI b).sub (lnI a))with
  | true=>[((lnI b).sub (lnI a)).plus (-1)]|false=>[])++match lin 8 G ((lnI a).sub (lnI b))with
  | true=>[((lnI a).sub (lnI b)).plus (-1)]|false=>[]
def ql2 (G:Gam):F->List Lin
 | .bool (.w 14 a b) false=>qrR G a b|.bool (.w 15 a b) true=>qrR G a b|_=>[]
def stI:T->T
 | .mk (.i _) x=>stI x|t=>t
def nb:T->Bool->T×Bool
 | .mk .b x,v=>nb x v|.u 6 _ x,v=>nb x (!v)|.w o a b,v=>match Nat.ble 10 o&&Nat.ble o 15 with
  | true=>(.w o (stI a) (stI b),v)|false=>(.w o a b,v)
 | x,v=>(x,v)
def ql3:T->Bool->Bool
 | .t b,v=>bEq b v|_,_=>false
def qgK:T->Y->List (T×Y)
 | .w 4 a b,.ec c r=>(a,c)::qgK b r|_,_=>[]
def qrS:T->Y->List (T×Y)
 | .u 2 _ l,.g r=>qgK l r|.u 2 _ l,.gq r _=>qgK l r|_,_=>[]
def qfo (G:Gam) (t:T) (v:Bool):Bool:=G.fs.any (qiK t v)||match t,v with
 | .w 10 a b,true=>lin 8 G (((lnI b).sub (lnI a)).plus (-1))|.w 11 a b,true=>lin 8 G ((lnI b).sub (lnI a))|.w 12 a b,true=>lin 8 G (((lnI a).sub (lnI b)).plus (-1))|.w 13 a b,true=>lin 8 G ((lnI a).sub (lnI b))|.w 14 a b,true=>lin 8 G ((lnI b).sub (lnI a))&&lin 8 G ((lnI a).sub (lnI b))|.w 14 a b,false=>G.fs.any (qiK (.w 15 a b) true)||(lin 8 G (((lnI b).sub (lnI a)).plus (-1))||lin 8 G (((lnI a).sub (lnI b)).plus (-1)))|_,_=>false
def qJw:T->Bool
 | .u 0 _ (.w 6 _ _)=>true|.w 9 _ _=>true|.w 110 _ _=>true|_=>false
def qyq (ls:List Lin):List T:=ls.flatMap fun l=>(l.ts.map (·.2)).filter qJw
def qrT (G:Gam) (ls:List Lin):Gam:=match qyq ls with
 | []=>G|ts =>
  let A:=ts.flatMap (aux 8 G)
  {G with B:=qcb ((qyq A).flatMap (aux 8 G)) (qcb A G.B)}
def qJx:F->List Lin
 | .bool (.w 15 a b) true=>[lnI a,lnI b]|_=>[]
def JQ (G:Gam):F->Gam
 | .has t y=>{G with hs:=(qei G t,y)::(qrS (qei G t) y++G.hs)}
 | .and f g=>JQ (JQ G f) g|.imp t f=>match qfo G (nb t true).1 (nb t true).2 with
  | true=>JQ G f|false=>{G with fs:=.imp t f::G.fs}
 | .bool t v=>qrT {G with fs:=.bool (nb t v).1 (nb t v).2::G.fs,B:=qcb (qaT (.bool (nb t v).1 (nb t v).2)++ql2 G (.bool (nb t v).1 (nb t v).2)) G.B} (qJx (.bool (nb t v).1 (nb t v).2)++qaT (.bool (nb t v).1 (nb t v).2))
 | f=>{G with fs:=f::G.fs,B:=qcb (qaT f) G.B}
def qfp (G:Gam):List F->Gam
 | []=>G|f::r=>qfp (JQ G f) r
def qrU (e:Y) (ks:List K) (ag:Bool):Bool:=match ag,e with
 | true,.g r=>r.flatC&&qiJ r.kinds ks|false,e=>e.simple&&qiJ [e.kind] ks|_,_=>false
def Y.cnt:Y->Nat
 | .ec _ r=>r.cnt+1|_=>0
def Y.size:Y->Nat
 | .g r=>r.cnt|.gq r _=>r.cnt|_=>1
def ql4 (n:Nat) (G:Gam) (q x:T):Bool:=match qei G x with
 | .w 3 l i=>lin n G (((lnL l).sub (lnN i)).plus (-1))&&((nlT l).eq (nlT q)||G.fs.any fun f=>match f with
  | .rows e l' i' b=>Nat.beq e 940&&((nlT l').eq (nlT l)&&((nlT b).eq (nlT q)&&lin n G (((lnN i').sub (lnN i)).plus (-1))))|_=>false)
 | _=>false
def ql5 (ln:Lin->Bool) (fs:List F) (e:Nat) (q b:T):Bool:=qrp ln fs e q (nlT b)||Nat.beq e 940&&(nlT b).eq (nlT q)
def ql6 (ln:Lin->Bool) (fs:List F) (e:Nat) (q t:T):Bool:=qiC ln fs e q t||((Nat.beq e 940&&(nlT t).eq (nlT q))||fs.any fun f=>match f with
 | .rows e' l i b=>match Nat.beq e' 940 with
  | true=>(nlT l).eq (nlT t)&&(ln ((lnN i).sub (lnL t))&&ql5 ln fs e q b)|false=>match Nat.beq e' 950,nlT t with
   | true,.w 3 p k=>(nlT l).eq (nlT p)&&((ln (((lnN i).sub (lnN k)).plus (-1))&&ln (((lnL p).sub (lnN k)).plus (-1)))&&ql5 ln fs e q b)|_,_=>false
 | _=>false)
def qrV (n:Nat) (G:Gam) (e:Nat) (q t:T):Bool:=match e with
 | k+3=>Nat.blt k 900&&match qdk n G t with
  | some (.l _ y)=>match unY y with
   | .g r=>match r.nth k with
    | some (.l m _)=>lin n G ((lnN q).plus (-(m:Int)))|_=>false
   | _=>false
  | _=>false
 | _=>false
def Y6 (n:Nat) (G:Gam) (e:Nat) (q x:T):Bool:=qfi (lin n G) x q e||(Nat.beq e 940&&ql4 n G q x||Nat.beq e 950&&qbG (ql4 n G q) (ql6 (lin n G) G.fs 940 q) x)
def qrW (n:Nat) (G:Gam) (e:Nat) (l q:T):Bool:=qbG (Y6 n G e q) (fun t=>ql6 (lin n G) G.fs e q t||qrV n G e q t) l
def qiL (G:Gam):F->Bool
 | .le a b=>lin 8 G ((lnI b).sub (lnI a))|.lt a b=>lin 8 G (((lnI b).sub (lnI a)).plus (-1))|.nle a b=>lin 8 G ((lnN b).sub (lnN a))|.nlt a b=>lin 8 G (((lnN b).sub (lnN a)).plus (-1))|.bool t v=>qfo G (nb t v).1 (nb t v).2|.rows e l _ q=>qrW 8 G e l q|.has t y=>chk 8 G t y|.and f g=>qiL G f&&qiL G g|.eqD a b=>G.fs.any fun f=>match f with
  | .eqD c d=>c.eq a&&d.eq b|_=>false
 | _=>false
def ql7 (G:Gam):F->Bool
 | .imp t _=>qfo G (nb t true).1 (nb t true).2|.ifF f _=>qiL G f|_=>false
def qJy:F->F
 | .imp _ f=>f|.ifF _ f=>f|f=>f
def qrX (G:Gam):F->Bool
 | .bool (.w 15 a b) true=>lin 8 G ((lnI b).sub (lnI a))&&lin 8 G ((lnI a).sub (lnI b))|.bool (.w 14 a b) false=>lin 8 G ((lnI b).sub (lnI a))&&lin 8 G ((lnI a).sub (lnI b))|.bool t v=>G.fs.any (qiK t (!v))|_=>false
def qrY (G:Gam):Bool:=G.fs.any (qrX G)
def JE (G:Gam):Gam:=match G.fs.any (ql7 G)with
 | true=>qfp {G with fs:=G.fs.filter fun f=>!(ql7 G f)} ((G.fs.filter (ql7 G)).map qJy)
 | false=>G
def qJz (ln:Lin->Bool) (ck:T->Bool) (fs:List F) (e:Nat) (l i q:T):Bool:=fs.any fun f=>match f with
 | .rows e' l' i' q'=>l'.eq l&&(ln (((lnN i').plus 1).sub (lnN i))&&(qlH ln e' e q' q&&(ln ((lnN i').sub (lnN i))||ck (.w 3 l' i'))))|_=>false
def qJA (G:Gam):List T:=G.fs.filterMap fun f=>match f with
 | .imp t _=>match (nb t true).1 with
  | .w o a b=>match Nat.ble 10 o&&Nat.ble o 13 with
   | true=>some (.w o a b)|false=>none
  | _=>none
 | _=>none
def leQ (n:Nat) (G:Gam) (a b:T):Bool:=lin n G ((lnI b).sub (lnI a))||qlK (lin n G) G.fs b a
def qyr (n:Nat) (G:Gam) (a b:T):Bool:=(qJA G).any fun t=>leQ n (JE (JE (JQ G (.bool t true)))) a b&&leQ n (JE (JE (JQ G (.bool t false)))) a b
def qgL:T->Bool
 | .z=>true|.w 4 (.mk k _) r=>(match k with | .o=>false|_=>true)&&qgL r
 | .w 6 _ l=>qgL l|.w 7 _ l=>qgL l|_=>false
def qJB (G:Gam):List (T×T):=G.fs.filterMap fun f=>match f with
 | .bool (.w 15 (.w 110 a c) b) true=>some (.w 110 a c,b)|_=>none
def qrZ (n:Nat) (G:Gam) (g:Lin):Bool:=(qJB G).any fun p=>lin n (JQ G (.bool (.w 10 p.1 p.2) true)) g&&lin n (JQ G (.bool (.w 12 p.1 p.2) true)) g
def Yv (n:Nat) (G:Gam) (f:F):Bool:=match f with
 | .num a b=>Nat.beq a b|.le a b=>leQ n G a b||(qyr n G a b||qrZ n G ((lnI b).sub (lnI a)))|.lt a b=>lin n G (((lnI b).sub (lnI a)).plus (-1))|.nle a b=>lin n G ((lnN b).sub (lnN a))|.nlt a b=>lin n G (((lnN b).sub (lnN a)).plus (-1))||qrZ n G (((lnN b).sub (lnN a)).plus (-1))|.nnle a b=>lin n G (((lnN a).sub (lnN b)).plus (-1))|.nne a b=>lin n G (((lnN b).sub (lnN a)).plus (-1))||lin n G (((lnN a).sub (lnN b)).plus (-1))|.aw l i ks ag=>match qdk n G l with
   | some (.l _ e)=>qrU (unY e) ks ag&&lin n G (((lnL l).sub (lnN i)).plus (-1))|_=>match ks,ag with
    | [.i k],false=>chk n G l (.l 1073741824 (.i k))&&lin n G (((lnL l).sub (lnN i)).plus (-1))|_,_=>false
 | .bool t v=>qfo G (nb t v).1 (nb t v).2||ql3 (nb t v).1 (nb t v).2|.inI t=>lin n G ((lnI t).plus 9223372036854775808)&&lin n G ((Lin.cst 9223372036854775807).sub (lnI t))|.all l k=>match qdk n G l with
   | some (.l _ e)=>(unY e).good&&Nat.beq (unY e).size k|_=>false
 | .and f g=>Yv n G f&&Yv n G g|.has t y=>chk n G t y|.pre l i y=>lin 0 G ((lnN i).smul (-1))||G.fs.any (fun f=>match f with
    | .pre l' i' y'=>l'.eq l&&(y'.sub y&&(lin n G ((lnN i').sub (lnN i))||lin n G (((lnN i').plus 1).sub (lnN i))&&chk n G (.w 3 l' i') y))|_=>false)||match qdk n G l with
   | some (.l _ e)=>e.sub y&&lin n G ((lnL l).sub (lnN i))|_=>false
 | .imp t f=>(ql3 (nb t true).1 (!(nb t true).2)||qfo G (nb t true).1 (!(nb t true).2))||Yv n (JE (JE (JQ G (.bool t true)))) f|.rc _ _=>false|.tt b=>b|.keq a b=>IntKind.eq a b|.ine t=>lin n G ((lnI t).plus (-1))||lin n G (((lnI t).smul (-1)).plus (-1))|.rows e l i t=>lin 0 G ((lnN i).smul (-1))||(qJz (lin n G) (Y6 n G e t) G.fs e l i t||qrW n G e l t)|.ifF f g=>Yv n (JE (JE (JQ G f))) g||(qrY (JE (JE (JQ G f)))||qrt n (JE (JE (JQ G f))))|.byt l=>match qdk n G l with
  | some (.l _ .y8)=>true|_=>chk n G l (.l 1152921504606846976 .y8)
 | .ar _=>true|.iz t z=>lin n G ((lnI t).plus (-z))&&lin n G ((Lin.cst z).sub (lnI t))|.sca l=>qgL l||match qdk n G l with
  | some (.l _ e)=>(unY e).simple|_=>false
 | .sp l k m=>match qdk n G l with
  | some (.l _ e)=>(unY e).simple&&K.eq (unY e).kind k&&(lin n G ((lnL l).plus (-(m:Int)))&&lin n G ((Lin.cst m).sub (lnL l)))|_=>false
 | .eqD a b=>(qei G a).eq (qei G b)||G.fs.any fun f=>match f with
  | .eqD c d=>c.eq a&&d.eq b|_=>false
def qiM (n:Nat) (G:Gam):List T->List Y->Bool
 | [],[]=>true|t::r,y::s=>chk n G t y&&qiM n G r s|_,_=>false
def qJC (c:Con) (g:Nat) (x:List T):List F:=.has (.u 3 g (qX x)) c.rt::c.post.map (F.sub (x++[.u 3 g (qX x)]))
def qr0 (n:Nat) (G:Gam) (c:Con) (x:List T):Bool :=
 qiM n G x c.pts&&(c.pre.all (fun f=>f.pure c.pts.length&&Yv n G (f.sub x))&&c.post.all fun f=>f.pure (c.pts.length+1))
structure Grp where
 ms:List (Nat×T):=[]
 cur:T:=.i 0
 deriving Inhabited
def Grp.get (r:Grp) (g:Nat):Option T:=(r.ms.find? fun p=>Nat.beq p.1 g).map (·.2)
def qr1 (n:Nat) (G:Gam) (r:Grp) (g na:Nat) (x:List T):Bool:=match r.get g with
 | some m=>m.pure0 na&&Yv n G (.nlt (m.sub x) r.cur)|none=>true
def ql8 (G:Gam):F->Gam
 | .aw l i _ _=>{G with B:=qgR (((lnL l).sub (lnN i)).plus (-1)) G.B}
 | .and f g=>ql8 (ql8 G f) g|_=>G
def dis (n:Nat) (tab:Tab) (r:Grp) (G:Gam) (f:F):Option Gam:=match f with
 | .rc g x=>match tab.get g with
  | some c=>match qr0 n G c x&&(Nat.blt g Jw&&qr1 n G r g c.pts.length x)with
   | true=>some (JE (JE (qfp G (qJC c g x))))|false=>none
  | none=>none
 | f=>match Yv n G f with
  | true=>some (ql8 G f)|false=>none
def qys (G:Gam):Gam:=qfp G (G.fs.filter fun f=>match ql2 G f with
 | []=>false|_=>true)
def qej (n:Nat) (tab:Tab) (r:Grp) (G:Gam):List F->Option Gam
 | []=>some (qys G)|f::l=>match dis n tab r G f with
  | some G'=>qej n tab r G' l|none=>none
def ql9 (n:Nat) (tab:Tab) (r:Grp) (G:Gam):List F->Gam
 | []=>G|f::l=>match dis n tab r G f with
  | some G'=>ql9 n tab r G' l|none=>G
section
variable [PW] {wf:Nat->List D->D} {rcP:Nat->List D->Prop} {U:Nat->D}
def qr2 {t:T} {v:Bool} {fs:List F} (h:fs.any (qiK t v)=true) (hf:∀f∈fs,f.den wf rcP U):toB (t.den wf U)=v:=by
 obtain⟨f,hm,hb⟩:=qUb.1 h;have:=hf f hm;unfold qiK at hb;split at hb
 ·rename_i t' v';rw[qTC]at hb;rw[<-T.eq_eq hb.1,<-qgO hb.2]; exact this
 ·cases hb
def qr3:∀{a b:List K},qiJ a b=true->a=b
 | [],[],_=>rfl|[],_::_,h=>by cases h
 | _::_,[],h=>by cases h
 | a::r,c::s,h=>by
  simp only[qiJ,qTC]at h;rw[K.eq_eq h.1,qr3 h.2]
def qr4:∀{r:Y} {n:Nat} {cs:List D},r.flatC=true->qd r (.list (cs.drop n))->qab.formC r.kinds n (.agg cs)=cs.drop n:=by
 intro r
 induction r with
 | ec c r _ ih =>
  intro n cs h hd;simp only[Y.flatC,qTC]at h;obtain⟨x,xs,h1,h2,h3⟩:=hd;injection h1 with h1
  have hk:cs[n]?=some x:=by
   have:=congrArg (fun l=>l[0]?) h1;simpa using this
  have hd1:cs.drop (n+1)=xs:=by
   have:=congrArg List.tail h1;simpa using this
  simp only[Y.kinds,qab.formC];rw[ih h.2 (hd1 ▸ h3),h1,hd1];have:cel (.agg cs) n=x:=by simp[cel,D.cells,hk]
  rw[this,qb7 h.1 h2]
 | e0 =>
  intro n cs h hd;have:D.list (cs.drop n)=.list []:=hd;injection this with this
  rw[this]; rfl
 | _=>intro n cs h hd; cases h
def qJD {e:T}:∀{l:T} {n:Nat} {ks:List K},qgJ e l n ks=true->l.den wf U=.list (qab.formC ks n (e.den wf U)):=by
 intro l
 induction l with
 | z=>intro n ks h; cases ks<;>first|rfl | (simp[qgJ]at h; done)
 | w o a c _ ih =>
  intro n ks h;unfold qgJ at h;split at h
  ·rename_i heq; cases heq
  ·rename_i kd j x r n' k ks' heq;injection heq with e1 e2 e3
   subst e1; subst e2; subst e3;rw[qTC,qTC,qTC]at h;obtain⟨h1,h2,h3,h4⟩:=h;rw[K.eq_eq h1,qTO h2,T.eq_eq h3];have:=ih h4;show D.list (K.den _ (cel (e.den wf U) _)::toL (c.den wf U))=_;rw[this]; rfl
  ·cases h
 | _=>intro n ks h; cases ks<;>(simp[qgJ]at h; done)
def qma {G:Gam} (hG:G.OK wf rcP U) (t:T):(qei G t).den wf U=t.den wf U:=by
 unfold qei;split
 ·rename_i k l;split
  ·rename_i e _;split
   ·rename_i r hs;split
    ·rename_i hc;rw[qTC]at hc;obtain⟨q,hq,hs⟩:=qTP.1 hs;obtain⟨cs,h1,h2⟩:=hs ▸ qeo ((sok hG 6).1 _ _ hq);have h3:=qJD (wf:=wf) (U:=U) hc.2;have h4:=qr4 (r:=r) (n:=0) (cs:=cs) hc.1 (by simpa using h2);show _=D.agg (toL (l.den wf U));rw[h3,h1,h4]; simp[toL]
    ·rfl
   ·rfl
  ·rfl
 ·rename_i k x;split
  ·rename_i y hs;split
   ·rename_i hc;rw[qTC]at hc;have h1:=qb7 (y:=y) hc.1 ((sok hG 6).1 _ _ hs);rw[K.eq_eq hc.2]at h1;exact h1.symm
   ·rfl
  ·rfl
 ·rfl
def qyt:∀{l:T} {r:Y},qd r (.list (toL (l.den wf U)))->∀p∈qgK l r,qd p.2 (p.1.den wf U):=by
 intro l
 induction l with
 | w o a c _ ih =>
  intro r h p hp;unfold qgK at hp;split at hp
  ·rename_i a' b' c' r' heq;injection heq with e1 e2 e3
   subst e1; subst e2; subst e3;obtain⟨x,xs,h1,h2,h3⟩:=h;have h1':D.list (a.den wf U::toL (c.den wf U))=.list (x::xs):=h1;injection h1' with h1'
   injection h1' with e1 e2
   rcases qTD.1 hp with rfl|hp
   ·show qd _ (a.den wf U); rw[e1]; exact h2
   ·exact ih (by rw[e2]; exact h3) p hp
  ·cases hp
 | _=>intro r h p hp; cases r<;>(simp[qgK]at hp; done)
def qJE {t:T} {y:Y} (h:qd y (t.den wf U)):∀p∈qrS t y,qd p.2 (p.1.den wf U):=by
 unfold qrS;split
 ·rename_i k l r;obtain⟨cs,h1,h2⟩:=h;have h1':D.agg (toL (l.den wf U))=.agg cs:=h1;injection h1' with h1'
  exact qyt (by rw[h1']; exact h2)
 ·rename_i k l r ps;obtain⟨⟨cs,h1,h2⟩,_⟩:=h;have h1':D.agg (toL (l.den wf U))=.agg cs:=h1;injection h1' with h1'
  exact qyt (by rw[h1']; exact h2)
 ·intro p hp; cases hp
def qiN {G:Gam} {t:T} {v:Bool} (hG:G.OK wf rcP U) (h:qfo G t v=true):toB (t.den wf U)=v:=by
 unfold qfo at h;rw[qTM]at h;rcases h with h|h
 ·exact qr2 h hG.fs
 ·split at h
  ·rename_i a b;have:=(sok hG 8).2.1 _ h;rw[Lin.val_plus,Lin.val_sub,(qf a).1,(qf b).1]at this;show decide (toI (a.den wf U)<toI (b.den wf U))=true;exact decide_eq_true (by omega)
  ·rename_i a b;have:=(sok hG 8).2.1 _ h;rw[Lin.val_sub,(qf a).1,(qf b).1]at this;show decide (toI (a.den wf U)<=toI (b.den wf U))=true;exact decide_eq_true (by omega)
  ·rename_i a b;have:=(sok hG 8).2.1 _ h;rw[Lin.val_plus,Lin.val_sub,(qf a).1,(qf b).1]at this;show decide (toI (a.den wf U)>toI (b.den wf U))=true;exact decide_eq_true (by omega)
  ·rename_i a b;have:=(sok hG 8).2.1 _ h;rw[Lin.val_sub,(qf a).1,(qf b).1]at this;show decide (toI (a.den wf U)>=toI (b.den wf U))=true;exact decide_eq_true (by omega)
  ·rename_i a b;rw[qTC]at h;have h1:=(sok hG 8).2.1 _ h.1;have h2:=(sok hG 8).2.1 _ h.2;rw[Lin.val_sub,(qf a).1,(qf b).1]at h1 h2;show(toI (a.den wf U)==toI (b.den wf U))=true;exact beq_iff_eq.2 (by omega)
  ·rename_i a b;show(toI (a.den wf U)==toI (b.den wf U))=false;rw[beq_eq_false_iff_ne];rw[qTM,qTM]at h;rcases h with h|h|h
   ·have h1:(toI (a.den wf U) != toI (b.den wf U))=true:=qr2 h hG.fs;exact bne_iff_ne.1 h1
   ·have h1:=(sok hG 8).2.1 _ h;rw[Lin.val_plus,Lin.val_sub,(qf a).1,(qf b).1]at h1;omega
   ·have h1:=(sok hG 8).2.1 _ h;rw[Lin.val_plus,Lin.val_sub,(qf a).1,(qf b).1]at h1;omega
  ·cases h
def qJF:∀t:T,toI ((stI t).den wf U)=toI (t.den wf U):=by
 intro t
 induction t with
 | mk k x ih =>
  cases k with
  | i k=>exact ih|_=>rfl
 | _=>rfl
def qgM:∀(t:T) (v:Bool),toB ((nb t v).1.den wf U)=(nb t v).2↔toB (t.den wf U)=v:=by
 intro t
 induction t with
 | mk k x ih =>
  intro v
  cases k with
  | b=>exact ih v|_=>exact qU5
 | u o k x ih =>
  intro v
  by_cases e:o=6
  ·subst e;show toB ((nb x (!v)).1.den wf U)=(nb x (!v)).2↔(!toB (x.den wf U))=v;rw[ih];cases toB (x.den wf U)<;>cases v<;>simp
  ·have:nb (.u o k x) v=(.u o k x,v):=by unfold nb; split<;>simp_all
   rw[this]
 | w o x y _ _ =>
  intro v;have h:=fun t:T=>qJF (wf:=wf) (U:=U) t
  show toB ((match Nat.ble 10 o&&Nat.ble o 15 with
   | true=>(T.w o (stI x) (stI y),v)|false=>(T.w o x y,v):T×Bool).1.den wf U)=(match Nat.ble 10 o&&Nat.ble o 15 with
   | true=>(T.w o (stI x) (stI y),v)|false=>(T.w o x y,v):T×Bool).2↔_
  split
  ·rename_i hc;rw[qTC]at hc;have h1:=qT5 hc.1;have h2:=qT5 hc.2;have e:(T.w o (stI x) (stI y)).den wf U=(T.w o x y).den wf U:=by
    show T.bi o ((stI x).den wf U) ((stI y).den wf U)=T.bi o (x.den wf U) (y.den wf U);have:o=10\/o=11\/o=12\/o=13\/o=14\/o=15:=by omega
    rcases this with rfl|rfl|rfl|rfl|rfl|rfl<;>simp only[T.bi,h]
   show toB ((T.w o (stI x) (stI y)).den wf U)=v↔_;rw[e]
  ·exact qU5
 | _=>intro v; exact qU5
def qyu {t:T} {v:Bool} (h:ql3 t v=true):toB (t.den wf U)=v:=by
 unfold ql3 at h;split at h
 ·exact qgO h
 ·cases h
def qyv {G:Gam} {a b:T} (hG:G.OK wf rcP U) (h:toI (a.den wf U)≠toI (b.den wf U)):∀l∈qrR G a b,0<=l.val wf U:=by
 intro l hl;have A:=(qf (wf:=wf) (U:=U) a).1;have B:=(qf (wf:=wf) (U:=U) b).1;rcases qTH.1 hl with hl|hl
 ·split at hl
  ·rename_i hx;have:=(sok hG 8).2.1 _ hx;rw[Lin.val_sub,A,B]at this;simp only[qTD,qTJ,or_false]at hl;subst hl;rw[Lin.val_plus,Lin.val_sub,A,B]; omega
  ·cases hl
 ·split at hl
  ·rename_i hx;have:=(sok hG 8).2.1 _ hx;rw[Lin.val_sub,A,B]at this;simp only[qTD,qTJ,or_false]at hl;subst hl;rw[Lin.val_plus,Lin.val_sub,A,B]; omega
  ·cases hl
def qJG {G:Gam} {f:F} (hG:G.OK wf rcP U) (h:f.den wf rcP U):∀l∈ql2 G f,0<=l.val wf U:=by
 unfold ql2;split
 ·rename_i a b;have h1:(toI (a.den wf U)==toI (b.den wf U))=false:=h;exact qyv hG (by simpa using h1)
 ·rename_i a b;have h1:(toI (a.den wf U) != toI (b.den wf U))=true:=h;exact qyv hG (by simpa using h1)
 ·intro l hl; cases hl
def qJH {G:Gam} {ls:List Lin} (hG:G.OK wf rcP U):(qrT G ls).OK wf rcP U:=by
 have h3:=(sok hG 8).2.2.1;unfold qrT;split
 ·exact hG
 ·refine⟨hG.wv,hG.hs,hG.fs,qgS (qgS hG.ls fun l hl=>?_) fun l hl=>?_⟩
  ·obtain⟨t,_,ht⟩:=qUd.1 hl; exact h3 t l ht
  ·obtain⟨t,_,ht⟩:=qUd.1 hl; exact h3 t l ht
def qdm:∀{f:F} {G:Gam},G.OK wf rcP U->f.den wf rcP U->(JQ G f).OK wf rcP U:=by
 have gen:∀{f:F} {G:Gam},G.OK wf rcP U->f.den wf rcP U->Gam.OK wf rcP U {G with fs:=f::G.fs,B:=qcb (qaT f) G.B}:=by
  intro f G hG h;refine⟨hG.wv,hG.hs,fun q hq=>?_,qgS hG.ls fun l hl=>qxW h l hl⟩;rcases qTD.1 hq with rfl|hq
  ·exact h
  ·exact hG.fs q hq
 intro f
 induction f with
 | has t y =>
  intro G hG h;refine⟨hG.wv,fun p hp=>?_,hG.fs,hG.ls⟩;have h':qd y ((qei G t).den wf U):=by rw[qma hG]; exact h
  rcases qTD.1 hp with rfl|hp
  ·exact h'
  ·rcases qTH.1 hp with hp|hp
   ·exact qJE h' p hp
   ·exact hG.hs p hp
 | and f g ih1 ih2=>intro G hG h; exact ih2 (ih1 hG h.1) h.2
 | bool t v =>
  intro G hG h;have h':(F.bool (nb t v).1 (nb t v).2).den wf rcP U:=(qgM t v).2 h;refine qJH ⟨hG.wv,hG.hs,fun q hq=>?_,qgS hG.ls fun l hl=>?_⟩
  ·rcases qTD.1 hq with rfl|hq
   ·exact h'
   ·exact hG.fs q hq
  ·rcases qTH.1 hl with hl|hl
   ·exact qxW h' l hl
   ·exact qJG hG h' l hl
 | imp t f ih =>
  intro G hG h;simp only[JQ];split
  ·rename_i ha; exact ih hG (h ((qgM t true).1 (qiN hG ha)))
  ·refine⟨hG.wv,hG.hs,fun q hq=>?_,hG.ls⟩;rcases qTD.1 hq with rfl|hq
   ·exact h
   ·exact hG.fs q hq
 | _=>intro G hG h; exact gen hG h
def qiO:∀{fs:List F} {G:Gam},G.OK wf rcP U->(∀f∈fs,f.den wf rcP U)->(qfp G fs).OK wf rcP U
 | [],_,hG,_=>hG|f::r,G,hG,h=>by
  show(qfp (JQ G f) r).OK wf rcP U;exact qiO (qdm hG (h f (by simp))) fun q hq=>h q (qTG _ hq)
def YM {y:Y} {d:D} (h:y.good=true) (hd:qd y d):y.form d=d:=by
 cases y with
 | g r =>
  obtain⟨cs,rfl,h2⟩:=hd;have:=qr4 (r:=r) (n:=0) (cs:=cs) h (by simpa using h2);show D.agg (qab.formC r.kinds 0 (.agg cs))=_;rw[this]; simp
 | gq r ps =>
  obtain⟨⟨cs,rfl,h2⟩,_⟩:=hd;have:=qr4 (r:=r) (n:=0) (cs:=cs) h (by simpa using h2);show D.agg (qab.formC r.kinds 0 (.agg cs))=_;rw[this]; simp
 | i k=>exact qb7 rfl hd|b=>exact qb7 rfl hd|s n=>exact qb7 rfl hd|l n e=>exact qb7 rfl hd|rg a b=>exact qb7 rfl hd|y8=>exact qb7 rfl hd|e0=>cases h
 | ec a c=>cases h
 | nm m=>cases h
def qJI {e:Y} {ks:List K} {ag:Bool} {d:D} (h:qrU e ks ag=true) (hd:qd e d):qab ks ag d=d:=by
 unfold qrU at h;split at h
 ·rename_i r;rw[qTC]at h;rw[<-qr3 h.2];exact YM (y:=.g r) h.1 hd
 ·rw[qTC]at h;rw[<-qr3 h.2];exact qb7 h.1 hd
 ·cases h
def qyw:∀{r:Y} {cs:List D},r.flatC=true->qd r (.list cs)->cs.length=r.cnt:=by
 intro r
 induction r with
 | ec c r _ ih =>
  intro cs h hd;simp only[Y.flatC,qTC]at h;obtain⟨x,xs,h1,h2,h3⟩:=hd;injection h1 with h1
  rw[h1,qT9,ih h.2 h3]; rfl
 | e0=>intro cs h hd; have:D.list cs=.list []:=hd; injection this with this; rw[this]; rfl
 | _=>intro cs h hd; cases h
def qJJ {y:Y} {d:D} (h:y.good=true) (hd:qd y d):d.cells.length=y.size:=by
 cases y with
 | g r=>obtain⟨cs,rfl,h2⟩:=hd; exact qyw h h2
 | gq r ps=>obtain⟨⟨cs,rfl,h2⟩,_⟩:=hd; exact qyw h h2
 | i k=>obtain⟨n,rfl⟩:=hd; rfl
 | b=>obtain⟨n,rfl⟩:=hd; rfl
 | s n=>obtain⟨n,rfl,_⟩:=hd; rfl
 | l n e=>obtain⟨n,rfl,_⟩:=hd; rfl
 | rg a b=>obtain⟨n,rfl,_⟩:=hd; rfl
 | y8=>obtain⟨n,rfl⟩:=hd; rfl
 | e0=>cases h
 | ec a c=>cases h
 | nm m=>cases h
def qJK (c:UInt8):unB (Yq c)=c:=by simp[unB,Yq]
def qyx {n:Nat} {G:Gam} (hG:G.OK wf rcP U) {q x:T} (h:ql4 n G q x=true):x.den wf U∈toL (q.den wf U):=by
 unfold ql4 at h;rw[<-qma hG x];split at h
 ·rename_i l i heq;rw[qTC]at h;have h1:=(sok hG n).2.1 _ h.1;rw[Lin.val_plus,Lin.val_sub,(qf l).2.2,(qf i).2.1]at h1;have hlt:toN (i.den wf U)<(toL (l.den wf U)).length:=by omega
  rw[heq];have hx:(T.w 3 l i).den wf U=(toL (l.den wf U))[toN (i.den wf U)]:=by
   show(toL (l.den wf U)).getD (toN (i.den wf U)) .nilp=_;rw[zzG,qTE hlt]; rfl
  have h2:=h.2;rw[qTM]at h2;rcases h2 with h2|h2
  ·rw[hx,<-JP q,<-T.eq_eq h2,JP];exact qTL hlt
  ·obtain⟨f,hf,hb⟩:=qUb.1 h2;split at hb
   ·rename_i e l' i' b;rw[qTC,qTC,qTC]at hb;obtain⟨b1,b2,b3,b4⟩:=hb;have e1:=qTO b1;subst e1;have hp:=qfk.1 (hG.fs _ hf);have h4:=(sok hG n).2.1 _ b4;rw[Lin.val_plus,Lin.val_sub,(qf i').2.1,(qf i).2.1]at h4;have el:toL (l'.den wf U)=toL (l.den wf U):=by rw[<-JP l',T.eq_eq b2,JP]
    have:=hp (toN (i.den wf U)) (by omega) (by rw[el]; exact hlt);have h5:(toL (l'.den wf U)).getD (toN (i.den wf U)) .nilp∈toL (b.den wf U):=this;rw[el,zzG,qTE hlt,qTT]at h5;rw[hx,<-JP q,<-T.eq_eq b3,JP]; exact h5
   ·cases hb
 ·cases h
def qJL {ln:Lin->Bool} {fs:List F} (i2:∀g,ln g=true->0<=g.val wf U) (hfs:∀f∈fs,f.den wf rcP U) {e:Nat} {t q:T} (h:qrp ln fs e q t=true):∀x∈toL (t.den wf U),Yk e (q.den wf U) x:=by
 intro x hx;obtain⟨f,hf,hb⟩:=qUb.1 h;split at hb
 ·rename_i e' l' i' q';rw[qTC,qTC]at hb;obtain⟨b1,b3,b4⟩:=hb;have el:=T.eq_eq b1;subst el;have hp:=qfk.1 (hfs _ hf);have h1:=i2 _ b3;rw[Lin.val_sub,(qf i').2.1,(qf l').2.2]at h1;obtain⟨j,hj,rfl⟩:=qUu hx;have:=hp j (by omega) hj;rw[zzG,qTE hj]at this;exact qrE i2 b4 this
 ·cases hb
def qyy {ln:Lin->Bool} {fs:List F} (i2:∀g,ln g=true->0<=g.val wf U) (hfs:∀f∈fs,f.den wf rcP U) {e:Nat} {b q:T} (h:ql5 ln fs e q b=true):∀x∈toL (b.den wf U),Yk e (q.den wf U) x:=by
 unfold ql5 at h;rw[qTM,qTC]at h;rcases h with h|⟨h1,h2⟩
 ·rw[<-JP b]; exact qJL i2 hfs h
 ·have e1:=qTO h1;subst e1;intro x hx;show x∈toL (q.den wf U);rw[<-JP q,<-T.eq_eq h2,JP]; exact hx
def qyz {ln:Lin->Bool} {fs:List F} (i2:∀g,ln g=true->0<=g.val wf U) (hfs:∀f∈fs,f.den wf rcP U) {e:Nat} {t q:T} (h:ql6 ln fs e q t=true):∀x∈toL (t.den wf U),Yk e (q.den wf U) x:=by
 unfold ql6 at h;rw[qTM,qTM,qTC]at h;rcases h with h|⟨h1,h2⟩|h
 ·exact qrF i2 hfs h
 ·have e1:=qTO h1;subst e1;intro x hx;show x∈toL (q.den wf U);rw[<-JP q,<-T.eq_eq h2,JP]; exact hx
 ·obtain⟨f,hf,hb⟩:=qUb.1 h;split at hb
  ·rename_i e' l i b;have hp:=qfk.1 (hfs _ hf);split at hb
   ·rename_i h940;have e1:=qTO h940;subst e1;rw[qTC,qTC]at hb;obtain⟨b1,b2,b3⟩:=hb;have h1:=i2 _ b2;rw[Lin.val_sub,(qf i).2.1,(qf t).2.2]at h1;have el:toL (l.den wf U)=toL (t.den wf U):=by rw[<-JP l,T.eq_eq b1,JP]
    intro x hx;obtain⟨j,hj,rfl⟩:=qUu hx;have h2:=hp j (by omega) (by rw[el]; exact hj);have h3:(toL (l.den wf U)).getD j .nilp∈toL (b.den wf U):=h2;rw[el,zzG,qTE hj,qTT]at h3;exact qyy i2 hfs b3 _ h3
   ·split at hb
    ·rename_i p k h950 ht;have e1:=qTO h950;subst e1;rw[qTC,qTC,qTC]at hb;obtain⟨b1,⟨b2,b4⟩,b3⟩:=hb;have h1:=i2 _ b2;have h2:=i2 _ b4;rw[Lin.val_plus,Lin.val_sub,(qf i).2.1,(qf k).2.1]at h1;rw[Lin.val_plus,Lin.val_sub,(qf p).2.2,(qf k).2.1]at h2;have el:toL (l.den wf U)=toL (p.den wf U):=by rw[<-JP l,T.eq_eq b1,JP]
     have h3:=hp (toN (k.den wf U)) (by omega) (by rw[el]; omega);have h4:∀y∈toL ((toL (l.den wf U)).getD (toN (k.den wf U)) .nilp),y∈toL (b.den wf U):=h3;intro x hx;rw[<-JP t,ht]at hx;rw[el]at h4;exact qyy i2 hfs b3 _ (h4 x hx)
    ·cases hb
  ·cases hb
def qyA {n:Nat} {G:Gam} (hG:G.OK wf rcP U) {e:Nat} {q x:T} (h:Y6 n G e q x=true):Yk e (q.den wf U) (x.den wf U):=by
 unfold Y6 at h;rw[qTM,qTM,qTC,qTC]at h;rcases h with h|⟨h1,h2⟩|⟨h1,h2⟩
 ·exact qrD hG.wv (sok hG n).2.1 h
 ·have e1:=qTO h1;subst e1;exact qyx hG h2
 ·have e1:=qTO h1;subst e1;show ∀y∈toL (x.den wf U),y∈toL (q.den wf U);exact qlU (wf:=wf) (U:=U) (e:=940) (v:=q.den wf U) (fun a ha=>qyx hG ha) (fun t ht=>qyz (sok hG n).2.1 hG.fs ht) h2
def qJM {n:Nat} {G:Gam} (hG:G.OK wf rcP U) {e:Nat} {q t:T} (h:qrV n G e q t=true):∀x∈toL (t.den wf U),Yk e (q.den wf U) x:=by
 unfold qrV at h;split at h
 ·rename_i k;rw[qTC]at h;obtain⟨hk,h⟩:=h;split at h
  ·rename_i m y hs;obtain⟨es,e1,_,e3⟩:=(sok hG n).1 _ _ hs
   revert h
   cases hy:unY y with
   | g r =>
    intro h;simp only at h;split at h
    ·rename_i m' y' hr;have h1:=(sok hG n).2.1 _ h;rw[Lin.val_plus,(qf q).2.1]at h1;intro x hx;rw[e1]at hx;have hx':=hy ▸ qeo (e3 x hx);obtain⟨cs,rfl,hcs⟩:=hx';obtain⟨c,hc,hyc⟩:=Y.nth_ok hr hcs;obtain⟨es',rfl,hl,_⟩:=hyc;have hcel:cel (.agg cs) k=.list es':=by simp[cel,D.cells,hc]
     unfold Yk;simp only[hk,hcel];show es'.length<=_;omega
    ·cases h
   | _=>intro h; cases h
  ·cases h
 ·cases h
def qyB {n:Nat} {G:Gam} (hG:G.OK wf rcP U) {e:Nat} {l q:T} (h:qrW n G e l q=true):∀x∈toL (l.den wf U),Yk e (q.den wf U) x :=
 qlU (wf:=wf) (U:=U) (e:=e) (v:=q.den wf U) (fun _ ha=>qyA hG ha) (fun _ ht=>by
  rw[qTM]at ht;rcases ht with ht|ht
  ·exact qyz (sok hG n).2.1 hG.fs ht
  ·exact qJM hG ht) h
def qJN {G:Gam} (hG:G.OK wf rcP U):∀{f:F},qiL G f=true->f.den wf rcP U:=by
 have A:=fun t=>(qf (wf:=wf) (U:=U) t).1
 have N:=fun t=>(qf (wf:=wf) (U:=U) t).2.1
 have i2:=(sok hG 8).2.1;intro f
 induction f with
 | le a b=>intro h; have:=i2 _ h; rw[Lin.val_sub,A,A]at this; show toI _<=toI _; omega
 | lt a b=>intro h; have:=i2 _ h; rw[Lin.val_plus,Lin.val_sub,A,A]at this; show toI _<toI _; omega
 | nle a b=>intro h; have:=i2 _ h; rw[Lin.val_sub,N,N]at this; show toN _<=toN _; omega
 | nlt a b=>intro h; have:=i2 _ h; rw[Lin.val_plus,Lin.val_sub,N,N]at this; show toN _<toN _; omega
 | bool t v=>intro h; exact(qgM t v).1 (qiN hG h)
 | rows e l i q =>
  intro h;rw[qfk];intro j hj hjl;rw[zzG,qTE hjl];exact qyB hG h _ (qTL hjl)
 | has t y=>intro h; exact(sok hG 8).2.2.2 _ _ h
 | and f g ih1 ih2=>intro h; simp only[qiL,qTC]at h; exact⟨ih1 h.1,ih2 h.2⟩
 | eqD a b =>
  intro h;obtain⟨f,hf,hb⟩:=qUb.1 h;split at hb
  ·rename_i c d;rw[qTC]at hb;have:=hG.fs _ hf;rw[<-T.eq_eq hb.1,<-T.eq_eq hb.2];exact this
  ·cases hb
 | _=>intro h; cases h
def qJO {G:Gam} (hG:G.OK wf rcP U) {f:F} (hf:f.den wf rcP U) (h:qrX G f=true):False:=by
 unfold qrX at h;split at h
 ·rename_i a b;rw[qTC]at h;have h1:=(sok hG 8).2.1 _ h.1;have h2:=(sok hG 8).2.1 _ h.2;rw[Lin.val_sub,(qf a).1,(qf b).1]at h1 h2;have h3:(toI (a.den wf U) != toI (b.den wf U))=true:=hf;rw[bne_iff_ne]at h3;omega
 ·rename_i a b;rw[qTC]at h;have h1:=(sok hG 8).2.1 _ h.1;have h2:=(sok hG 8).2.1 _ h.2;rw[Lin.val_sub,(qf a).1,(qf b).1]at h1 h2;have h3:(toI (a.den wf U)==toI (b.den wf U))=false:=hf;rw[beq_eq_false_iff_ne]at h3;omega
 ·rename_i t v _ _;have h1:toB (t.den wf U)=v:=hf;have h2:=qr2 h hG.fs;rw[h1]at h2;cases v<;>cases h2
 ·cases h
def qyC {G:Gam} (hG:G.OK wf rcP U) (h:qrY G=true):False:=by
 obtain⟨f,hf,hb⟩:=qUb.1 h;exact qJO hG (hG.fs f hf) hb
def qbH {G:Gam} (hG:G.OK wf rcP U):(JE G).OK wf rcP U:=by
 unfold JE;split
 ·refine qiO ⟨hG.wv,hG.hs,fun f hf=>hG.fs f (qUT.1 hf).1,hG.ls⟩ fun f hf=>?_
  obtain⟨q,hq,rfl⟩:=qTV.1 hf;obtain⟨h1,h2⟩:=qUT.1 hq;have hd:=hG.fs q h1;unfold ql7 at h2;split at h2
  ·rename_i t g;have hi:toB (t.den wf U)=true->g.den wf rcP U:=hd;exact hi ((qgM t true).1 (qiN hG h2))
  ·rename_i g' g;have hi:g'.den wf rcP U->g.den wf rcP U:=hd;exact hi (qJN hG h2)
  ·cases h2
 ·exact hG
def qr5 {n:Nat} {G:Gam} {a b:T} (hG:G.OK wf rcP U) (h:leQ n G a b=true):toI (a.den wf U)<=toI (b.den wf U):=by
 have i2:=(sok hG n).2.1;unfold leQ at h;rw[qTM]at h;rcases h with h|h
 ·have:=i2 _ h; rw[Lin.val_sub,(qf a).1,(qf b).1]at this; omega
 ·exact qx8 hG.wv i2 hG.fs h
def qJP {n:Nat} {G:Gam} {a b:T} (hG:G.OK wf rcP U) (h:qyr n G a b=true):toI (a.den wf U)<=toI (b.den wf U):=by
 obtain⟨t,_,hb⟩:=qUb.1 h;rw[qTC]at hb
 cases hv:toB (t.den wf U)with
 | true=>exact qr5 (qbH (qbH (qdm (f:=.bool t true) hG hv))) hb.1|false=>exact qr5 (qbH (qbH (qdm (f:=.bool t false) hG hv))) hb.2
def qyD {n:Nat} {G:Gam} {g:Lin} (hG:G.OK wf rcP U) (h:qrZ n G g=true):0<=g.val wf U:=by
 obtain⟨p,hp,hb⟩:=qUb.1 h;obtain⟨f,hf,he⟩:=List.mem_filterMap.1 hp;rw[qTC]at hb;split at he
 ·rename_i a c b;cases he;have h1:(toI ((T.w 110 a c).den wf U) != toI (b.den wf U))=true:=hG.fs _ hf;rw[bne_iff_ne]at h1;rcases Int.lt_or_gt_of_ne h1 with h2|h2
  ·exact(sok (qdm (f:=.bool (.w 10 (.w 110 a c) b) true) hG (by show decide (toI _<toI _)=true; exact decide_eq_true h2)) n).2.1 _ hb.1
  ·exact(sok (qdm (f:=.bool (.w 12 (.w 110 a c) b) true) hG (by show decide (toI _>toI _)=true; exact decide_eq_true h2)) n).2.1 _ hb.2
 ·cases he
def qJQ:∀{l:T},qgL l=true->(toL (l.den wf U)).all (fun d=>!d.isAgg)=true:=by
 intro l
 induction l with
 | z=>intro _; rfl
 | w o a b _ ih =>
  intro h;unfold qgL at h;split at h
  ·rename_i heq; cases heq
  ·rename_i k x r heq;injection heq with e1 e2 e3
   subst e1; subst e2; subst e3;rw[qTC]at h;have h2:=ih h.2;show(K.den k (x.den wf U)::toL (b.den wf U)).all (fun d=>!d.isAgg)=true;rw[qUZ,h2];cases k<;>first|rfl | (have:=h.1; cases this)
  ·rename_i x l heq;injection heq with e1 e2 e3
   subst e1; subst e2; subst e3;have h2:=ih h;rw[qTI]at h2 ⊢;exact fun d hd=>h2 d (qUg hd)
  ·rename_i x l heq;injection heq with e1 e2 e3
   subst e1; subst e2; subst e3;have h2:=ih h;rw[qTI]at h2 ⊢;exact fun d hd=>h2 d (qUE hd)
  ·cases h
 | _=>intro h; cases h
def qJR {y:Y} {d:D} (h:y.simple=true) (hd:qd y d):d.isAgg=false:=by
 cases y<;>simp only[Y.simple]at h<;>first|cases h|skip
 ·obtain⟨n,rfl⟩:=hd; rfl
 ·obtain⟨n,rfl⟩:=hd; rfl
 ·obtain⟨n,rfl,_⟩:=hd; rfl
 ·obtain⟨n,rfl,_⟩:=hd; rfl
 ·obtain⟨n,rfl,_⟩:=hd; rfl
 ·obtain⟨n,rfl⟩:=hd; rfl
def qek {n:Nat}:∀{f:F} {G:Gam},G.OK wf rcP U->Yv n G f=true->f.den wf rcP U:=by
 intro f;have A:=fun t=>(qf (wf:=wf) (U:=U) t).1
 have N:=fun t=>(qf (wf:=wf) (U:=U) t).2.1
 have L:=fun t=>(qf (wf:=wf) (U:=U) t).2.2
 induction f with
 | num a b =>
  intro G hG h;obtain⟨i1,i2,i3,i4⟩:=sok hG n;exact qTO h
 | le a b =>
  intro G hG h;obtain⟨i1,i2,i3,i4⟩:=sok hG n;simp only[Yv,qTM]at h;rcases h with h|h|h
  ·exact qr5 hG h
  ·exact qJP hG h
  ·have:=qyD hG h;rw[Lin.val_sub,A,A]at this; show toI _<=toI _; omega
 | lt a b =>
  intro G hG h;obtain⟨i1,i2,i3,i4⟩:=sok hG n;have:=i2 _ h; rw[Lin.val_plus,Lin.val_sub,A,A]at this; show toI _<toI _; omega
 | nle a b =>
  intro G hG h;obtain⟨i1,i2,i3,i4⟩:=sok hG n;have:=i2 _ h; rw[Lin.val_sub,N,N]at this; show toN _<=toN _; omega
 | nlt a b =>
  intro G hG h;obtain⟨i1,i2,i3,i4⟩:=sok hG n;simp only[Yv,qTM]at h;have:0<=Lin.val wf U (((lnN b).sub (lnN a)).plus (-1)):=by
   rcases h with h|h
   ·exact i2 _ h
   ·exact qyD hG h
  rw[Lin.val_plus,Lin.val_sub,N,N]at this; show toN _<toN _; omega
 | nnle a b =>
  intro G hG h;obtain⟨i1,i2,i3,i4⟩:=sok hG n;have:=i2 _ h; rw[Lin.val_plus,Lin.val_sub,N,N]at this; show ¬toN _<=toN _; omega
 | nne a b =>
  intro G hG h;obtain⟨i1,i2,i3,i4⟩:=sok hG n;simp only[Yv,qTM]at h;show toN _≠toN _;rcases h with h|h
  ·have:=i2 _ h; rw[Lin.val_plus,Lin.val_sub,N,N]at this; omega
  ·have:=i2 _ h; rw[Lin.val_plus,Lin.val_sub,N,N]at this; omega
 | aw l i ks ag =>
  intro G hG h;obtain⟨i1,i2,i3,i4⟩:=sok hG n;simp only[Yv]at h;split at h
  ·rename_i m e hs;rw[qTC]at h;obtain⟨es,h1,h2,h3⟩:=i1 _ _ hs;have:=i2 _ h.2;rw[Lin.val_plus,Lin.val_sub,L,N,Jb h1]at this;have hlt:toN (i.den wf U)<es.length:=by omega
   show(toL (l.den wf U))[toN (i.den wf U)]?=some (qab ks ag ((toL (l.den wf U)).getD (toN (i.den wf U)) .nilp));rw[Jb h1,zzG,qTE hlt,qTT,qJI h.1 (qeo (h3 _ (qTL hlt)))]
  ·split at h
   ·rename_i k;rw[qTC]at h;obtain⟨es,h1,h2,h3⟩:=i4 _ _ h.1;have:=i2 _ h.2;rw[Lin.val_plus,Lin.val_sub,L,N,Jb h1]at this;have hlt:toN (i.den wf U)<es.length:=by omega
    show(toL (l.den wf U))[toN (i.den wf U)]?=some (qab [.i k] false ((toL (l.den wf U)).getD (toN (i.den wf U)) .nilp));obtain⟨z,hz⟩:=h3 _ (qTL hlt);rw[Jb h1,zzG,qTE hlt,qTT,hz];rfl
   ·cases h
 | bool t v =>
  intro G hG h;obtain⟨i1,i2,i3,i4⟩:=sok hG n;simp only[Yv,qTM]at h;show toB (t.den wf U)=v;rw[<-qgM];rcases h with h|h
  ·exact qiN hG h
  ·exact qyu h
 | inI t =>
  intro G hG h;obtain⟨i1,i2,i3,i4⟩:=sok hG n;simp only[Yv,qTC]at h;have h1:=i2 _ h.1; have h2:=i2 _ h.2;rw[Lin.val_plus,A]at h1;rw[Lin.val_sub,Lin.val_cst,A]at h2;show qi _;unfold qi; omega
 | rc g x =>
  intro G hG h;obtain⟨i1,i2,i3,i4⟩:=sok hG n;cases h
 | all l k =>
  intro G hG h;obtain⟨i1,i2,i3,i4⟩:=sok hG n;simp only[Yv]at h;split at h
  ·rename_i m e hs;rw[qTC]at h;obtain⟨es,h1,h2,h3⟩:=i1 _ _ hs;show(toL (l.den wf U)).all _=true;rw[Jb h1,qTI];intro x hx;rw[qJJ h.1 (qeo (h3 x hx)),qTO h.2]; exact beq_self_eq_true k
  ·cases h
 | and f g ih1 ih2 =>
  intro G hG h;obtain⟨i1,i2,i3,i4⟩:=sok hG n;simp only[Yv,qTC]at h; exact⟨ih1 hG h.1,ih2 hG h.2⟩
 | has t y =>
  intro G hG h;obtain⟨i1,i2,i3,i4⟩:=sok hG n;exact i4 _ _ h
 | pre l i y =>
  intro G hG h;obtain⟨i1,i2,i3,i4⟩:=sok hG n;simp only[Yv,qTM]at h;show ∀j:Nat,j<toN (i.den wf U)->qd y ((toL (l.den wf U)).getD j .nilp);rcases h with(h|h) | h
  ·have:=(sok hG 0).2.1 _ h; rw[Lin.val_smul,N]at this; intro j hj; omega
  ·obtain⟨f,hf,hb⟩:=qUb.1 h;split at hb
   ·rename_i l' i' y';rw[qTC,qTC,qTM,qTC]at hb;have el:=T.eq_eq hb.1;subst el;have hp:∀j:Nat,j<toN (i'.den wf U)->qd y' ((toL (l'.den wf U)).getD j .nilp):=hG.fs _ hf;intro j hj;rcases hb.2.2 with hb2|hb2
    ·have h1:=i2 _ hb2;rw[Lin.val_sub,N,N]at h1;exact Y.sub_ok hb.2.1 (hp j (by omega))
    ·have h1:=i2 _ hb2.1;rw[Lin.val_sub,Lin.val_plus,N,N]at h1;have h2:qd y ((toL (l'.den wf U)).getD (toN (i'.den wf U)) .nilp):=i4 _ _ hb2.2;rcases qTQ j (toN (i'.den wf U))with hlt|hge
     ·exact Y.sub_ok hb.2.1 (hp j hlt)
     ·have:j=toN (i'.den wf U):=by omega
      rw[this]; exact h2
   ·cases hb
  ·split at h
   ·rename_i m e hs;rw[qTC]at h;obtain⟨es,h1,h2,h3⟩:=i1 _ _ hs;have:=i2 _ h.2;rw[Lin.val_sub,L,N,Jb h1]at this;intro j hj;have hlt:j<es.length:=by omega
    rw[Jb h1,zzG,qTE hlt];exact Y.sub_ok h.1 (h3 _ (qTL hlt))
   ·cases h
 | imp t f ih =>
  intro G hG h;obtain⟨i1,i2,i3,i4⟩:=sok hG n;simp only[Yv]at h;intro ht;rw[qTM,qTM]at h;rcases h with h|h
  ·have h1:toB ((nb t true).1.den wf U)=!(nb t true).2:=by
    rcases h with h|h
    ·exact qyu (wf:=wf) (U:=U) h
    ·exact qiN hG h
   have h2:=(qgM (wf:=wf) (U:=U) t true).2 ht;rw[h1]at h2
   revert h2
   generalize (nb t true).2=b;intro h2;cases b<;>simp at h2
  ·exact ih (qbH (qbH (qdm (f:=.bool t true) hG ht))) h
 | keq a b =>
  intro G hG h;exact IntKind.eq_eq h
 | ine t =>
  intro G hG h;obtain⟨i1,i2,i3,i4⟩:=sok hG n;simp only[Yv,qTM]at h;show toI _≠0;rcases h with h|h
  ·have:=i2 _ h; rw[Lin.val_plus,A]at this; omega
  ·have:=i2 _ h; rw[Lin.val_plus,Lin.val_smul,A]at this; omega
 | rows e l i t =>
  intro G hG h;obtain⟨i1,i2,i3,i4⟩:=sok hG n;simp only[Yv,qTM]at h;rw[qfk];rcases h with h|h|h
  ·have:=(sok hG 0).2.1 _ h; rw[Lin.val_smul,N]at this; intro j hj; omega
  ·obtain⟨f,hf,hb⟩:=qUb.1 h;split at hb
   ·rename_i e' l' i' q';rw[qTC,qTC,qTC,qTM]at hb;obtain⟨b1,b3,b4,b5⟩:=hb;have el:=T.eq_eq b1;subst el;have hp:=qfk.1 (hG.fs _ hf);have h1:=i2 _ b3;rw[Lin.val_sub,Lin.val_plus,N,N]at h1;intro j hj hjl;rcases qTQ j (toN (i'.den wf U))with hlt|hge
    ·exact qrE i2 b4 (hp j hlt hjl)
    ·have:j=toN (i'.den wf U):=by omega
     subst this;rcases b5 with b5|b5
     ·have h2:=i2 _ b5;rw[Lin.val_sub,N,N]at h2; omega
     ·exact qyA hG b5
   ·cases hb
  ·have key:=qyB hG h;intro j hj hjl;rw[zzG,qTE hjl];exact key _ (qTL hjl)
 | tt b =>
  intro G hG h;obtain⟨i1,i2,i3,i4⟩:=sok hG n;exact h
 | ifF f g ih1 ih2 =>
  intro G hG h hf;simp only[Yv,qTM]at h;have hG':=qbH (qbH (qdm (f:=f) hG hf));rcases h with h|h|h
  ·exact ih2 hG' h
  ·exact(qyC hG' h).elim
  ·exact(qx9 hG' h).elim
 | byt l =>
  intro G hG h;have key:∀m,qd (.l m .y8) (l.den wf U)->(F.byt l).den wf rcP U:=by
   intro m ⟨es,h1,_,h3⟩;show toL (l.den wf U)=qe ((toL (l.den wf U)).map unB);rw[Jb h1];unfold qe;rw[qUs];refine(List.map_id' es).symm.trans (qUv fun x hx=>?_);obtain⟨c,rfl⟩:=h3 x hx;show Yq c=Yq (unB (Yq c));rw[qJK]
  simp only[Yv]at h;split at h
  ·rename_i m hs; exact key m ((sok hG n).1 _ _ hs)
  ·exact key _ ((sok hG n).2.2.2 _ _ h)
 | ar l=>intro G hG h; rfl
 | iz t z =>
  intro G hG h;simp only[Yv,qTC]at h;have h1:=(sok hG n).2.1 _ h.1;have h2:=(sok hG n).2.1 _ h.2;rw[Lin.val_plus,A]at h1;rw[Lin.val_sub,Lin.val_cst,A]at h2;show toI _=z;omega
 | sca l =>
  intro G hG h;simp only[Yv,qTM]at h;rcases h with h|h
  ·exact qJQ h
  split at h
  ·rename_i m e hs;obtain⟨es,h1,_,h3⟩:=(sok hG n).1 _ _ hs;show(toL (l.den wf U)).all (fun d=>!d.isAgg)=true;rw[Jb h1,qTI];intro x hx;rw[qJR h (qeo (h3 x hx))]; rfl
  ·cases h
 | sp l k m =>
  intro G hG h;simp only[Yv]at h;split at h
  ·rename_i m' e hs;rw[qTC,qTC,qTC]at h;obtain⟨⟨a1,a2⟩,a3,a4⟩:=h;obtain⟨es,h1,_,h3⟩:=(sok hG n).1 _ _ hs;have b3:=(sok hG n).2.1 _ a3;have b4:=(sok hG n).2.1 _ a4;rw[Lin.val_plus,L,Jb h1]at b3;rw[Lin.val_sub,Lin.val_cst,L,Jb h1]at b4;have hl:es.length=m:=by omega
   show toL (l.den wf U)=(List.range m).map fun j=>qab [k] false ((toL (l.den wf U)).getD j .nilp)
   rw[Jb h1];apply qU6
   ·simp[hl]
   ·intro i hi hi2;rw[qVI,qVJ,zzG,qTE hi,qTT];have h5:=qb7 a1 (qeo (h3 _ (qTL hi)));rw[K.eq_eq a2]at h5;exact h5.symm
  ·cases h
 | eqD a b =>
  intro G hG h;simp only[Yv,qTM]at h;show a.den wf U=b.den wf U;rcases h with h|h
  ·rw[<-qma hG a,T.eq_eq h,qma hG b]
  ·obtain⟨f,hf,hb⟩:=qUb.1 h;split at hb
   ·rename_i c d;rw[qTC]at hb;rw[<-T.eq_eq hb.1,<-T.eq_eq hb.2]; exact hG.fs _ hf
   ·cases hb
def qmb:∀x:List T,(qX x).den wf U=.list (x.map (T.den wf U))
 | []=>rfl|t::r=>by
  show D.list (t.den wf U::toL ((qX r).den wf U))=_;rw[qmb r]; rfl
def qr6 {n:Nat} {G:Gam} (hG:G.OK wf rcP U):∀{x:List T} {ys:List Y},qiM n G x ys=true->x.length=ys.length/\∀(i:Nat) (y:Y),ys[i]?=some y->qd y ((x.map (T.den wf U)).getD i .nilp)
 | [],[],_=>⟨rfl,fun i y h=>by simp at h⟩
 | [],_::_,h=>by cases h
 | _::_,[],h=>by cases h
 | t::r,y::s,h=>by
  simp only[qiM,qTC]at h;obtain⟨h1,h2⟩:=qr6 hG h.2;refine⟨by simp[h1],fun i z hz=>?_⟩
  cases i with
  | zero=>simp at hz; subst hz; exact(sok hG n).2.2.2 _ _ h.1|succ i=>simp only[qUx]at hz; simpa using h2 i z hz
end
def qiP {wf:Nat->List D->D} {U:Nat->D} {x:List T} {k:Nat} (h:k<x.length):Ym wf U x k=qa (x.map (T.den wf U)) k:=by
 unfold Ym qa;rw[zzG,zzG,qT3,qTE h];rfl
variable [Glob] [PW]
section
variable {P:Program} {tab:Tab} {U:Nat->D}
def qaA (P:Program) (tab:Tab):Prop:=∀g c,tab.get g=some c->qm P g c
def qb9 (P:Program) (tab:Tab) (r:Grp) (B:Nat):Prop:=∀g c,tab.get g=some c->∀ds,qG c ds->(∀m,r.get g=some m->toN (m.den w0 (qa ds))<B)->∃d,JZ c ds d/\JS P g c ds d
def qJS {r:Grp} {B:Nat} (ht:qb9 P tab r B) {g:Nat} {c:Con} (hv:g<Jw) (hg:tab.get g=some c) {ds:List D} (hp:qG c ds) (hm:∀m,r.get g=some m->toN (m.den w0 (qa ds))<B) :
  JZ c ds (wOf P tab g ds)/\JS P g c ds (wOf P tab g ds):=by
 have:=qw0 (ht g c hg ds hp hm);have hb:Nat.ble Jw g=false:=by
  cases h:Nat.ble Jw g with
  | false=>rfl|true=>have:=qT5 h; omega
 unfold wOf;rw[hb,hg]; exact this
def qgN {g:Nat} (h:Jw<=g):wOf P tab g=PW.wV g:=by
 have hb:Nat.ble Jw g=true:=Nat.ble_eq_true_of_le h
 funext ds
 unfold wOf;rw[hb]
def qJT {wf:Nat->List D->D} {rcP:Nat->List D->Prop}:∀{f:F} {G:Gam},G.OK wf rcP U->f.den wf rcP U->(ql8 G f).OK wf rcP U:=by
 intro f
 induction f with
 | aw l i ks ag =>
  intro G hG h;refine⟨hG.wv,hG.hs,hG.fs,qyZ hG.ls ?_⟩;have h':(toL (l.den wf U))[toN (i.den wf U)]?=some (qab ks ag ((toL (l.den wf U)).getD (toN (i.den wf U)) .nilp)):=h;have hlt:toN (i.den wf U)<(toL (l.den wf U)).length:=by
   rcases qTQ (toN (i.den wf U)) (toL (l.den wf U)).length with q|q
   ·exact q
   ·rw[qUc q]at h'; cases h'
  rw[Lin.val_plus,Lin.val_sub,(qf l).2.2,(qf i).2.1]; omega
 | and f g ih1 ih2=>intro G hG h; exact ih2 (ih1 hG h.1) h.2
 | _=>intro G hG h; exact hG
def qyE {r:Grp} {B:Nat} (ht:qb9 P tab r B) (hB:toN (r.cur.den (wOf P tab) U)<=B) {n:Nat} {G:Gam} {g:Nat} {x:List T} {c:Con} (hG:G.OK (wOf P tab) (JT P tab) U) (hg:tab.get g=some c) (hr:(qr0 n G c x&&(Nat.blt g Jw&&qr1 n G r g c.pts.length x))=true) :
  qG c (x.map (T.den (wOf P tab) U))/\JZ c (x.map (T.den (wOf P tab) U)) (wOf P tab g (x.map (T.den (wOf P tab) U)))/\JS P g c (x.map (T.den (wOf P tab) U)) (wOf P tab g (x.map (T.den (wOf P tab) U)))/\x.length=c.pts.length/\∀p∈c.post,p.pure (c.pts.length+1)=true:=by
 rw[qTC,qTC,qT0]at hr;obtain⟨hr,hgv,hgr⟩:=hr;unfold qr0 at hr;rw[qTC,qTC]at hr;obtain⟨h1,h2,h3⟩:=hr;obtain⟨l1,l2⟩:=qr6 hG h1;have hpre:qG c (x.map (T.den (wOf P tab) U)):=by
  refine⟨⟨by simp[l1],l2⟩,fun f hf=>?_⟩;have:=qTI.1 h2 f hf;rw[qTC]at this;have hd:=(F.den_sub x f).1 (qek hG this.2);refine(F.den_pure (n:=c.pts.length) (fun _ h=>qgN h) (fun k hk=>?_) f this.1).1 hd;exact qiP (by omega)
 have hms:∀m,r.get g=some m->toN (m.den w0 (qa (x.map (T.den (wOf P tab) U))))<B:=by
  intro m hm;unfold qr1 at hgr;rw[hm]at hgr;simp only[qTC]at hgr;have hd:toN ((m.sub x).den (wOf P tab) U)<toN (r.cur.den (wOf P tab) U):=qek hG hgr.2;rw[T.den_sub]at hd;have:=T.den_pure0 (wf:=wOf P tab) (wf':=w0) (U:=Ym (wOf P tab) U x) (U':=qa (x.map (T.den (wOf P tab) U))) (n:=c.pts.length) (fun k hk=>qiP (by omega)) m hgr.1;rw[this]at hd;omega
 obtain⟨w,w3⟩:=qJS ht hgv hg hpre hms;exact⟨hpre,w,w3,by omega,fun p hp=>qTI.1 h3 p hp⟩
def qr7 {r:Grp} {B:Nat} (ht:qb9 P tab r B) (hB:toN (r.cur.den (wOf P tab) U)<=B) {n:Nat} {G G':Gam} {f:F} (hG:G.OK (wOf P tab) (JT P tab) U) (h:dis n tab r G f=some G'):f.den (wOf P tab) (JT P tab) U/\G'.OK (wOf P tab) (JT P tab) U:=by
 unfold dis at h;split at h
 ·rename_i g x;split at h
  ·rename_i c hg;split at h
   ·rename_i hr;cases h;obtain⟨_,⟨⟨w1,w2⟩,_⟩,w3,l1,h3⟩:=qyE ht hB hG hg hr;have hden:(T.u 3 g (qX x)).den (wOf P tab) U=wOf P tab g (x.map (T.den (wOf P tab) U)):=by
     show wOf P tab g (toL ((qX x).den (wOf P tab) U))=_;rw[qmb]; rfl
    refine⟨?_,qbH (qbH (qiO hG fun q hq=>?_))⟩
    ·show JT P tab g _;unfold JT;rw[hg]; exact w3
    ·rcases qTD.1 hq with rfl|hq
     ·show qd c.rt ((T.u 3 g (qX x)).den (wOf P tab) U);rw[hden]; exact w1
     ·obtain⟨p,hp,rfl⟩:=qTV.1 hq;refine(F.den_sub _ p).2 ?_;have hpure:=h3 p hp;refine(F.den_pure (n:=c.pts.length+1) (fun _ h=>qgN h) (fun k hk=>?_) p hpure).2 (w2 p hp);rw[qiP (by simp; omega),qUC];simp only[qUa,qVg,hden]
   ·cases h
  ·cases h
 ·split at h
  ·rename_i hp;cases h;exact⟨qek hG hp,qJT hG (qek hG hp)⟩
  ·cases h
def qJU {wf:Nat->List D->D} {rcP:Nat->List D->Prop} {U:Nat->D} {G:Gam} (h:G.OK wf rcP U):(qys G).OK wf rcP U:=qiO h fun f hf=>h.fs f (qUT.1 hf).1
def qmc {r:Grp} {B:Nat} (ht:qb9 P tab r B) (hB:toN (r.cur.den (wOf P tab) U)<=B) {n:Nat}:∀{fs:List F} {G G':Gam},G.OK (wOf P tab) (JT P tab) U->qej n tab r G fs=some G'->qh (fs.map (F.den (wOf P tab) (JT P tab) U))/\G'.OK (wOf P tab) (JT P tab) U
 | [],G,G',hG,h=>by cases h; exact⟨trivial,qJU hG⟩
 | f::l,G,G',hG,h=>by
  simp only[qej]at h;split at h
  ·rename_i G1 h1;obtain⟨a,b⟩:=qr7 ht hB hG h1;obtain⟨c,d⟩:=qmc ht hB b h;exact⟨⟨a,c⟩,d⟩
  ·cases h
def qmd {r:Grp} {B:Nat} (ht:qb9 P tab r B) (hB:toN (r.cur.den (wOf P tab) U)<=B) {n:Nat}:∀{fs:List F} {G G':Gam},G.OK (wOf P tab) (JT P tab) U->qej n tab r G fs=some G'->∀g x,F.rc g x∈fs->∀c,tab.get g=some c ->
  qG c (x.map (T.den (wOf P tab) U))/\JZ c (x.map (T.den (wOf P tab) U)) (wOf P tab g (x.map (T.den (wOf P tab) U)))
 | [],G,G',hG,h,g,x,hm,c,hg=>by cases hm
 | f::l,G,G',hG,h,g,x,hm,c,hg=>by
  simp only[qej]at h;split at h
  ·rename_i G1 h1;rcases qTD.1 hm with rfl|hm
   ·unfold dis at h1;simp only[hg]at h1;split at h1
    ·rename_i hr;obtain⟨q1,q2,_⟩:=qyE ht hB hG hg hr;exact⟨q1,q2⟩
    ·cases h1
   ·exact qmd ht hB (qr7 ht hB hG h1).2 h g x hm c hg
  ·cases h
def qyF {r:Grp} {B:Nat} (ht:qb9 P tab r B) (hB:toN (r.cur.den (wOf P tab) U)<=B) {n:Nat}:∀{fs:List F} {G:Gam},G.OK (wOf P tab) (JT P tab) U->(ql9 n tab r G fs).OK (wOf P tab) (JT P tab) U
 | [],G,hG=>hG|f::l,G,hG=>by
  unfold ql9;split
  ·rename_i G1 h1;exact qyF ht hB (qr7 ht hB hG h1).2
  ·exact hG
end
end
section
abbrev M6:=T×T×T×T×T×T
structure St where
 id:Nat
 env:List (Nat×RV)
 rows:List qu
 tys:List Y
 inv:List F
 ms:M6
 deriving Inhabited
structure RFn where
 g:Nat
 con:Con
 sts:List St
 wr:Bool:=false
 n:Nat:=400
 pn:Nat:=14
 rec':Grp:={}
 deriving Inhabited
def RFn.na (fn:RFn):Nat:=fn.con.pts.length
def qdl:Code->Option Nat
 | .region id _ _=>some id|.seq a b=>match qdl a with
  | some r=>some r|none=>qdl b
 | .cond _ a b=>match qdl a with
  | some r=>some r|none=>qdl b
 | .block _ c=>qdl c|.scope c=>qdl c|.loop c=>qdl c|_=>none
def qee:Code->List qL->List (Nat×List qL)
 | .seq a b,k=>qee a (.it (.code b)::k)++qee b k|.cond _ a b,k=>qee a k++qee b k|.block id c,k=>qee c (.it (.inBlock id)::k)|.scope c,k=>qee c (.it (.inScope c)::k)|.loop c,k=>((qdl c).getD 0,.it (.code c)::.it (.inLoop c)::k)::qee c (.it (.inLoop c)::k)|_,_=>[]
def qiF (P:Program) (g:Nat):Option Code:=match P.funcs[g]? with
 | some gf=>gf.body|none=>none
def qrG (P:Program) (g:Nat):Nat:=match P.funcs[g]? with
 | some gf=>gf.ntmps|none=>0
def qya (P:Program) (g:Nat):List ResultVar:=match P.funcs[g]? with
 | some gf=>gf.results.toList|none=>[]
def qJh (n:Nat) (l:List (Nat×RV)):List RV:=(List.range n).map fun i=>match l.find? (fun p=>Nat.beq p.1 i)with
 | some p=>p.2|none=>.o .any
def qgG:List Y->Nat->List RV
 | [],_=>[]|y::r,n=>.o (qiT y (.v n))::qgG r (n+1)
section
variable (P:Program) (fn:RFn)
def qQ:RS:={env:=qgG fn.con.pts 0++List.replicate (qrG P fn.g - fn.na) (.o .und),rows:=[],todo:=match qiF P fn.g with
 | some b=>[.it (.code b)]|none=>[]}
def qaV (st:St):RS:={env:=qJh (qrG P fn.g) st.env,rows:=st.rows,todo:=match qiF P fn.g with
 | some b=>match (qee b []).find? (fun p=>Nat.beq p.1 st.id)with
  | some p=>p.2|none=>[]
 | none=>[]}
end
def RS.den (wf:Nat->List D->D) (U:Nat->D) (g:Nat) (s:RS):AS:=⟨⟨g,s.env.map (RV.den wf U),s.todo,none,[],[]⟩,[],s.rows.map (qu.den wf U)⟩
structure Mt where
 J:List (Nat×T)
 rm:List (Nat×Nat)
def qaW (na:Nat):T->T->Mt->Option Mt
 | .v n,t,m=>match Nat.blt n na with
  | true=>match t.eq (.v n)with
   | true=>some m|false=>none
  | false=>match m.J.find? (fun q=>Nat.beq q.1 n)with
   | some q=>match q.2.eq t with
    | true=>some m|false=>none
   | none=>some {m with J:=(n,t)::m.J}
 | .mk k x,.mk k' y,m=>match K.eq k k' with
  | true=>qaW na x y m|false=>none
 | .u o k x,.u o' k' y,m=>match Nat.beq o o'&&Nat.beq k k' with
  | true=>qaW na x y m|false=>none
 | .w o x y,.w o' x' y',m=>match Nat.beq o o' with
  | true=>(qaW na x x' m).bind (qaW na y y')|false=>none
 | p,t,m=>match p.eq t with
  | true=>some m|false=>none
def qrH (r r':Nat) (m:Mt):Option Mt:=match m.rm.find? (fun q=>Nat.beq q.1 r)with
 | some q=>match Nat.beq q.2 r' with
  | true=>some m|false=>none
 | none=>some {m with rm:=(r,r')::m.rm}
def mtC (na:Nat):List (K×T)->List (K×T)->Mt->Option Mt
 | [],[],m=>some m|p::r,q::s,m=>match K.eq p.1 q.1 with
  | true=>(qaW na p.2 q.2 m).bind (mtC na r s)|false=>none
 | _,_,_=>none
def qJi (na:Nat) (k:K) (p t:T):T:=match k,p with
 | .i .i64,_=>t|.i _,.v n=>match Nat.blt n na with
  | true=>t|false=>.mk (.i .i64) t
 | _,_=>t
def mt1 (na:Nat) (p q:R1) (m:Mt):Option Mt:=match p,q with
 | .any,_=>some m|.c k t,.c k' t'=>match K.eq k k' with
  | true=>qaW na t (qJi na k t t') m|false=>none
 | .ag l,.ag l'=>mtC na l l' m|.nil,.nil=>some m|.und,.und=>some m|.sl r k a b c ex,.sl r' k' a' b' c' ex'=>match Nat.beq k k'&&bEq ex ex' with
  | true=>(qrH r r' m).bind fun m=>(qaW na a a' m).bind fun m=>(qaW na b b' m).bind (qaW na c c')
  | false=>none
 | .pt r k i f,.pt r' k' i' f'=>match Nat.beq k k'&&Nat.beq f f' with
  | true=>(qrH r r' m).bind (qaW na i i')|false=>none
 | .dp l a,.dp l' a'=>match bEq a a' with
  | true=>mtC na l l' m|false=>none
 | .fn g,.fn g'=>match Nat.beq g g' with
  | true=>some m|false=>none
 | .pa r k f,.pa r' k' f'=>match Nat.beq k k' with
  | true=>(qrH r r' m).bind (qaW na f f')|false=>none
 | .av n k t,.av n' k' t'=>match Nat.beq n n'&&K.eq k k' with
  | true=>qaW na t t' m|false=>none
 | _,_=>none
def mtL (na:Nat):List R1->List R1->Mt->Option Mt
 | [],[],m=>some m|p::r,q::s,m=>(mt1 na p q m).bind (mtL na r s)|_,_,_=>none
def mtV (na:Nat) (p q:RV) (m:Mt):Option Mt:=match p,q with
 | .o x,.o y=>mt1 na x y m|.vag l,.vag l'=>mtL na l l' m|.tup l,.tup l'=>mtL na l l' m|_,_=>none
def qyb (na:Nat) (env:List RV):List (Nat×RV)->Mt->Option Mt
 | [],m=>some m|p::r,m=>match env[p.1]? with
  | some v=>(mtV na p.2 v m).bind (qyb na env r)|none=>none
def qlV (na:Nat) (rows:List qu):List qu->Nat->Mt->Option Mt
 | [],_,m=>some m|p::r,i,m=>match m.rm.find? (fun q=>Nat.beq q.1 i)with
  | some q=>match p,rows[q.2]? with
   | .dat k t ro,some (.dat k' t' ro')=>match Nat.beq k k'&&bEq ro ro' with
    | true=>(qaW na t t' m).bind (qlV na rows r (i+1))|false=>none
   | .box l ro,some (.box l' ro')=>match bEq ro ro' with
    | true=>(mtL na l l' m).bind (qlV na rows r (i+1))|false=>none
   | .arr n k t ro,some (.arr n' k' t' ro')=>match Nat.beq n n'&&(K.eq k k'&&bEq ro ro')with
    | true=>(qaW na t t' m).bind (qlV na rows r (i+1))|false=>none
   | _,_=>none
  | none=>none
def qJj (na n:Nat) (m:Mt):List T:=(List.range n).map fun i=>match Nat.blt i na with
 | true=>.v i|false=>match m.J.find? (fun q=>Nat.beq q.1 i)with
  | some q=>q.2|none=>.p
def qJk (n:Nat) (m:Mt):List Nat:=(List.range n).map fun i=>match m.rm.find? (fun q=>Nat.beq q.1 i)with
 | some q=>q.2|none=>0
def qJl (na:Nat) (s:RS) (st:St):Option (List T×List Nat) :=
 match (qyb na s.env st.env {J:=[],rm:=[]}).bind (qlV na s.rows st.rows 0)with
 | some m=>some (qJj na st.tys.length m,qJk st.rows.length m)|none=>none
def qyc (s:RS):Nat:=match s.todo with
 | .it (.code c)::_=>(qdl c).getD 0|_=>0
def target (na:Nat) (s:RS):List St->Nat->Option (Nat×List T×List Nat)
 | [],_=>none|st::r,k=>match Nat.beq st.id (qyc s)with
  | true=>match qJl na s st with
   | some p=>some (k,p)|none=>target na s r (k+1)
  | false=>target na s r (k+1)
inductive qfl where
 | next (gd:List (Nat×Bool)) (h:H) (fs:List F) (k:Nat) (J:List T) (rs:List Nat)
 | done (gd:List (Nat×Bool)) (h:H) (fs qs:List F) (r:T)
 | bad (why at_:Nat)
inductive qaX where
 | leaf (l:qfl)
 | fork (t:T) (a b:qaX)
def qlW (rows:List qu):List Nat->List (Nat×T)
 | []=>[]|r::rs=>match rows[r]? with
  | some (.arr _ _ t _)=>(r,t)::qlW rows rs|_=>qlW rows rs
def qJm (fn:RFn) (gd:List (Nat×Bool)):qgW->qfl
 | .next fs h s=>match target fn.na s fn.sts 0 with
  | some (k,J,rs)=>.next gd {h with mv:=qlW s.rows rs} (fs++(qlW s.rows rs).map fun p=>.ar p.2) k J rs
  | none=>.bad 70 (qyc s)
 | .done fs h vs rows=>match vs with
  | [v]=>match (match JL rows v with|some x=>some x|none=>rvD rows v)with
   | some (qs,r)=>.done gd h fs qs r|none=>.bad 71 0
  | vs=>match qmu rows vs with
   | some (qs,ts)=>.done gd h fs qs (.u 2 0 (qX ts))|none=>.bad 72 0
 | .fork _ _=>.bad 73 0|.fail w a=>.bad w a
def qrI (fn:RFn) (run:List (Nat×Bool)->qgW):Nat->List (Nat×Bool)->qaX
 | 0,_=>.leaf (.bad 74 0)|n+1,gd=>match run gd with
  | .fork t tm=>.fork t (qrI fn run n ((tm,true)::gd)) (qrI fn run n ((tm,false)::gd))|o=>.leaf (qJm fn gd o)
def qaX.leaves:qaX->List qfl
 | .leaf l=>[l]|.fork _ a b=>a.leaves++b.leaves
section
variable (P:Program) (fn:RFn) (tab:Tab)
def qrJ:List ResultVar->List (Nat×Bool)
 | []=>[]|.tmp _::r=>qrJ r|.cell a _::r=>(2000000+a,true)::qrJ r
def qbg (s:RS):qaX:=qrI fn (fun gd=>qzo (q8 P) tab fn.wr (qya P fn.g) gd fn.n s [] {}) 40 (qrJ (qya P fn.g))
def qJ:List RS:=qQ P fn::fn.sts.map (qaV P fn)
def qyd (k:Nat):List Nat:=match fn.sts[k]? with
 | some st=>st.env.map (·.1)|none=>[]
def qiG (tys:List Y) (fs:List F):Gam:=qfp {hs:=(List.range tys.length).zip tys |>.map fun p=>(.v p.1,p.2),fs:=[],B:=⟨[],[]⟩} fs
def qye (n:Nat) (G:Gam) (fs:List F):Bool:=fs.all (Yv n G)
def qrK (n:Nat) (G:Gam) (J:List T) (a b:M6):Bool :=
 let lt:=fun(x y:T)=>Yv n G (.nlt (x.sub J) y)
 let le:=fun(x y:T)=>Yv n G (.nle (x.sub J) y)
 lt a.1 b.1||le a.1 b.1&&(lt a.2.1 b.2.1||le a.2.1 b.2.1&&(lt a.2.2.1 b.2.2.1||le a.2.2.1 b.2.2.1&&(lt a.2.2.2.1 b.2.2.2.1||le a.2.2.2.1 b.2.2.2.1 &&
  (lt a.2.2.2.2.1 b.2.2.2.2.1||le a.2.2.2.2.1 b.2.2.2.2.1&&lt a.2.2.2.2.2 b.2.2.2.2.2))))
def qJn (na:Nat) (J:List T):Bool:=(List.range na).all fun i=>(J.getD i .p).eq (.v i)
def qyf (G:Gam) (ms:Option M6) (fs:List F) (k:Nat) (J:List T):Bool:=match qej fn.pn tab fn.rec' G fs,fn.sts[k]? with
 | some G',some st=>qJn fn.na J&&(qiM fn.pn G' J st.tys&&(qye fn.pn G' (st.inv.map (F.sub J))&&match ms with
  | some m=>qrK fn.pn G' J st.ms m|none=>true))
 | _,_=>false
def qyg (G:Gam) (fs qs:List F) (r:T):Bool:=match qej fn.pn tab fn.rec' G fs with
 | some G1=>match qej fn.pn tab fn.rec' G1 qs with
  | some G'=>chk fn.pn G' r fn.con.rt&&qye fn.pn G' (fn.con.post.map (F.sub ((List.range fn.na).map T.v++[r])))|none=>false
 | none=>false
def qlX (G:Gam) (ms:Option M6) (l:qfl):Bool:=(match l with
  | .next _ _ fs k J _=>qyf fn tab G ms fs k J|.done _ _ fs qs r=>qyg fn tab G fs qs r|.bad _ _=>false)||(qrt fn.pn G||qrY (ql9 fn.pn tab fn.rec' G (match l with
  | .next _ _ fs _ _ _=>fs|.done _ _ fs _ _=>fs|.bad _ _=>[])))
def qcL (ms:Option M6):Gam->qaX->Bool
 | G,.leaf l=>qlX fn tab G ms l|G,.fork t a b=>qcL ms (JE (JQ G (.bool t true))) a&&qcL ms (JE (JQ G (.bool t false))) b
def qef (st:St):Bool:=qcL fn tab (some st.ms) (qiG st.tys (fn.con.pre++st.inv)) (qbg P fn tab (qaV P fn st))
def qrL:Bool:=(qiF P fn.g).isSome&&(!fn.con.nw&&(fn.rec'.cur.pure0 fn.na&&(fn.con.pre.all (F.pure fn.na)&&(fn.con.post.all (F.pure (fn.na+1))&&fn.con.pts.all Y.good))))
def J8:Bool:=qrL P fn&&(qcL fn tab none (qiG fn.con.pts fn.con.pre) (qbg P fn tab (qQ P fn))&&fn.sts.all (qef P fn tab))
end
def qfm (fn:RFn) (tab:Tab) (ms:Option M6):Gam->qaX->List Bool
 | G,.leaf l=>[qlX fn tab G ms l]|G,.fork t a b=>qfm fn tab ms (JE (JQ G (.bool t true))) a++qfm fn tab ms (JE (JQ G (.bool t false))) b
def qrM {fn:RFn} {tab:Tab} {ms:Option M6}:∀{t:qaX} {G:Gam},(∀b∈qfm fn tab ms G t,b=true)->qcL fn tab ms G t=true
 | .leaf l,G,h=>by
  unfold qcL;exact h _ (by simp[qfm])
 | .fork t a b,G,h=>by
  simp only[qcL,qTC];exact⟨qrM fun x hx=>h x (by simp[qfm,hx]),qrM fun x hx=>h x (by simp[qfm,hx])⟩
def qrN (l:List Bool):Nat->Prop
 | 0=>True|n+1=>l.getD n false=true/\qrN l n
def qyh {l:List Bool}:∀{n i:Nat},qrN l n->i<n->l.getD i false=true
 | n+1,i,h,hi=>by
  rcases Nat.lt_succ_iff_lt_or_eq.1 hi with h1|h1
  ·exact qyh h.2 h1
  ·rw[h1]; exact h.1
def lvS (P:Program) (fn:RFn) (tab:Tab) (st:St):List Bool:=qfm fn tab (some st.ms) (qiG st.tys (fn.con.pre++st.inv)) (qbg P fn tab (qaV P fn st))
def qiH {P:Program} {fn:RFn} {tab:Tab} {st:St} {n:Nat} (h:Nat.ble (lvS P fn tab st).length n=true) (hs:qrN (lvS P fn tab st) n):qef P fn tab st=true:=by
 refine qrM fun b hb=>?_
 obtain⟨i,hi,e⟩:=qUu hb;have:=qyh hs (qUn hi (qT5 h));rw[zzG,qTE (show i<(lvS P fn tab st).length from hi)]at this;rw[<-e]; exact this
def qrO (P:Program) (fn:RFn) (tab:Tab):List St->Prop
 | []=>True|st::r=>qef P fn tab st=true/\qrO P fn tab r
def qyi {P:Program} {fn:RFn} {tab:Tab}:∀{l:List St},qrO P fn tab l->l.all (qef P fn tab)=true
 | [],_=>rfl|st::r,h=>by rw[qUZ,h.1,qyi h.2]; rfl
def qbh (P:Program) (fn:RFn) (tab:Tab):Bool:=qrL P fn&&qcL fn tab none (qiG fn.con.pts fn.con.pre) (qbg P fn tab (qQ P fn))
def qb8 {P:Program} {fn:RFn} {tab:Tab} (h:qbh P fn tab=true) (hs:qrO P fn tab fn.sts):J8 P fn tab=true:=by
 unfold qbh at h;rw[qTC]at h;unfold J8;rw[h.1,h.2,qyi hs]; rfl
variable [Glob] [PW]
section
variable (P:Program) (fn:RFn) (tab:Tab)
def fH (wf:Nat->List D->D) (U:Nat->D) (e:List K×Bool×T):Nat->D:=fun i=>qab e.1 e.2.1 ((toL (e.2.2.den wf U)).getD i .nilp)
def qyj (wf:Nat->List D->D) (U:Nat->D) (gd:List (Nat×Bool)) (h:H):qw :=
 {gd:=fun i=>match gd.find? (fun p=>Nat.beq p.1 i)with
   | some p=>some p.2|none=>none
  lst:=fun t=>match h.lst.find? (fun p=>Nat.beq p.1 t)with
   | some p=>some (fH wf U p.2)|none=>none
  row:=fun t=>match h.row.find? (fun p=>Nat.beq p.1 t)with
   | some p=>some (fH wf U p.2)|none=>none
  arr:=fun t=>match h.arr.find? (fun p=>Nat.beq p.1 t)with
   | some p=>some (p.2.1,toL (p.2.2.2.den wf U),fH wf U ([p.2.2.1],false,p.2.2.2))|none=>none
  arrT:=fun t=>match h.arr.find? (fun p=>Nat.beq p.1 (1000000+t))with
   | some p=>some (p.2.1,toL (p.2.2.2.den wf U),fH wf U ([p.2.2.1],false,p.2.2.2))|none=>none
  glb:=fun t=>match h.glb.find? (fun p=>Nat.beq p.1 t)with
   | some p=>some (fH wf U p.2)|none=>none
  spl:=fun t=>match h.spl.find? (fun p=>Nat.beq p.1 t)with
   | some p=>some (p.2.1,fH wf U ([p.2.2.1],false,p.2.2.2))|none=>none
  mv:=fun t=>match h.mv.find? (fun p=>Nat.beq p.1 t)with
   | some p=>some (toL (p.2.den wf U))|none=>none
  lit:=fun t=>match h.lit.find? (fun p=>Nat.beq p.1 t)with
   | some p=>some p.2|none=>none
  md:=4,sh:=true,wr:=fn.wr,sx:=true,nz:=fun t=>h.nz.any (Nat.beq t),mz:=fun t=>h.mz.any (Nat.beq t)}
inductive Obs where
 | n (x:List Prop×Option AS)
 | d (x:Option (List Prop×List Prop×V))
def lhs (s:RS) (U:Nat->D):qfl->Obs
 | .next gd h _ k _ rs=>.n (qqN (cfR P tab) (qyj fn (wOf P tab) U gd h) qr fn.n 0 rs (qyd fn k) (s.den (wOf P tab) U fn.g))|.done gd h _ _ _=>.d (qo1 (cfR P tab) (qyj fn (wOf P tab) U gd h) qr fn.n (s.den (wOf P tab) U fn.g))|.bad _ _=>.d none
def rhs (U:Nat->D):qfl->Obs
 | .next _ _ fs k J _=>.n (fs.map (F.den (wOf P tab) (JT P tab) U),match fn.sts[k]? with
  | some st=>some ((qaV P fn st).den (wOf P tab) (Ym (wOf P tab) U J) fn.g)|none=>none)
 | .done _ _ fs qs r=>.d (some (fs.map (F.den (wOf P tab) (JT P tab) U),qs.map (F.den (wOf P tab) (JT P tab) U),qan fn.con.rts (r.den (wOf P tab) U)))|.bad _ _=>.d none
def Agr (s:RS):Prop:=∀U:Nat->D,(qbg P fn tab s).leaves.map (lhs P fn tab s U)=(qbg P fn tab s).leaves.map (rhs P fn tab U)
def J9:List RS->Prop
 | []=>True|s::r=>Agr P fn tab s/\J9 r
end
section
variable {P:Program} {fn:RFn} {tab:Tab}
def qyk {wf:Nat->List D->D} {rcP:Nat->List D->Prop} {U:Nat->D} {tys:List Y} {fs:List F} (h:∀(i:Nat) (y:Y),tys[i]?=some y->qd y (U i)) (hf:∀f∈fs,f.den wf rcP U) (hv:∀g,Jw<=g->wf g=PW.wV g):(qiG tys fs).OK wf rcP U:=by
 refine qiO ⟨hv,fun p hp=>?_,(fun f hf=>by cases hf),(fun _ r hr=>by cases hr)⟩ hf;obtain⟨q,hq,rfl⟩:=qTV.1 hp;obtain⟨i,hi,e⟩:=qUu hq;have h2:i<tys.length:=by simp at hi; omega
 have:q=(i,tys[i]):=by rw[<-e]; simp
 subst this;exact h i _ (qTE h2)
structure qeg (P:Program) (fn:RFn) (tab:Tab) (ds:List D) (tys:List Y) (inv:List F) (U:Nat->D):Prop where
 arg:∀i,i<fn.na->U i=qa ds i
 ty:∀(i:Nat) (y:Y),tys[i]?=some y->qd y (U i)
 inv:∀f∈inv,f.den (wOf P tab) (JT P tab) U
def qlY (P:Program) (tab:Tab) (U:Nat->D) (fs:List F):Prop:=∀g x,F.rc g x∈fs->∀c,tab.get g=some c ->
 qG c (x.map (T.den (wOf P tab) U))/\JZ c (x.map (T.den (wOf P tab) U)) (wOf P tab g (x.map (T.den (wOf P tab) U)))
def TEv (P:Program) (tab:Tab) (nx:Nat->(Nat->D)->D->Prop) (U:Nat->D) (d:D):qaX->Prop
 | .leaf (.next _ _ fs k J _)=>qlY P tab U fs/\nx k (Ym (wOf P tab) U J) d|.leaf (.done _ _ fs qs r)=>(qlY P tab U fs/\qlY P tab U qs)/\d=r.den (wOf P tab) U|.leaf (.bad _ _)=>False|.fork t a b=>(toB (t.den (wOf P tab) U)=true/\TEv P tab nx U d a)\/(toB (t.den (wOf P tab) U)=false/\TEv P tab nx U d b)
def EvN (P:Program) (fn:RFn) (tab:Tab) (ds:List D):Nat->Nat->(Nat->D)->D->Prop
 | 0,_,_,_=>False|n+1,k,U,d=>∃st,fn.sts[k]?=some st/\qeg P fn tab ds st.tys st.inv U/\TEv P tab (EvN P fn tab ds n) U d (qbg P fn tab (qaV P fn st))
def Ev0 (P:Program) (fn:RFn) (tab:Tab) (ds:List D) (d:D):Prop:=∃n,TEv P tab (EvN P fn tab ds n) (qa ds) d (qbg P fn tab (qQ P fn))
def Ans (P:Program) (fn:RFn) (tab:Tab) (ds:List D) (ev:D->Prop) (s:AS):Prop:=∃d,qg0 fn.con ds d/\ev d/\qb (cfR P tab) 0 s (Fin (qan fn.con.rts d))
abbrev N6:=Nat×Nat×Nat×Nat×Nat×Nat
def qiI (a b:N6):Prop:=Prod.Lex (·<·) (Prod.Lex (·<·) (Prod.Lex (·<·) (Prod.Lex (·<·) (Prod.Lex (·<·) (·<·))))) a b
def qeh (wf:Nat->List D->D) (U:Nat->D) (m:M6):N6:=(toN (m.1.den wf U),toN (m.2.1.den wf U),toN (m.2.2.1.den wf U),toN (m.2.2.2.1.den wf U),toN (m.2.2.2.2.1.den wf U),toN (m.2.2.2.2.2.den wf U))
def qJo {wf:Nat->List D->D} {rcP:Nat->List D->Prop} {U:Nat->D} {n:Nat} {G:Gam} {J:List T} {a b:M6} (hG:G.OK wf rcP U) (h:qrK n G J a b=true):qiI (qeh wf (Ym wf U J) a) (qeh wf U b):=by
  have lt:∀{x y:T},Yv n G (.nlt (x.sub J) y)=true->toN (x.den wf (Ym wf U J))<toN (y.den wf U):=by
    intro x y h;have:toN ((x.sub J).den wf U)<toN (y.den wf U):=qek hG h;rwa[T.den_sub]at this
  have le:∀{x y:T},Yv n G (.nle (x.sub J) y)=true->toN (x.den wf (Ym wf U J))<=toN (y.den wf U):=by
    intro x y h;have:toN ((x.sub J).den wf U)<=toN (y.den wf U):=qek hG h;rwa[T.den_sub]at this
  unfold qrK at h;simp only[qTM,qTC]at h;unfold qiI qeh;have step:∀{β:Type} {x y:Nat} {r:β->β->Prop} {u v:β},(x<y\/x<=y/\r u v)->Prod.Lex (·<·) r (x,u) (y,v):=by
    intro β x y r u v h;rcases h with h|⟨h1,h2⟩
    · exact .left _ _ h
    · rcases Nat.lt_or_eq_of_le h1 with e|e
      · exact .left _ _ e
      · rw[e]; exact .right _ h2
  refine step (h.imp lt fun h=>⟨le h.1,step (h.2.imp lt fun h=>⟨le h.1,step (h.2.imp lt fun h=>⟨le h.1,step (h.2.imp lt fun h=>⟨le h.1,step (h.2.imp lt fun h=>⟨le h.1,lt h.2⟩)⟩)⟩)⟩)⟩)
def qJp (hc:COK (cfR P tab).cfg) {B:Nat} (ht:qb9 P tab fn.rec' B) {ds:List D} (hcur:fn.rec'.cur.pure0 fn.na=true) (hB:toN (fn.rec'.cur.den w0 (qa ds))<=B) (hpost:fn.con.post.all (F.pure (fn.na+1))=true) (hds:ds.length=fn.na) {s:RS} {U:Nat->D} {G:Gam} {ms:Option M6} {l:qfl}
  (hG:G.OK (wOf P tab) (JT P tab) U) (harg:∀i,i<fn.na->U i=qa ds i) (hl:qlX fn tab G ms l=true) (ha:lhs P fn tab s U l=rhs P fn tab U l)
  (IH:∀k st,fn.sts[k]?=some st->∀U',qeg P fn tab ds st.tys st.inv U'->(∀m,ms=some m->qiI (qeh (wOf P tab) U' st.ms) (qeh (wOf P tab) U m))->Ans P fn tab ds (fun d=>∃n,EvN P fn tab ds n k U' d) ((qaV P fn st).den (wOf P tab) U' fn.g)) :
  Ans P fn tab ds (fun d=>∃n,TEv P tab (EvN P fn tab ds n) U d (.leaf l)) (s.den (wOf P tab) U fn.g):=by
 have hB':toN (fn.rec'.cur.den (wOf P tab) U)<=B:=by
  rw[T.den_pure0 (wf:=wOf P tab) (wf':=w0) (U:=U) (U':=qa ds) (n:=fn.na) harg _ hcur]; exact hB
 unfold qlX at hl;rw[qTM]at hl;rcases hl with hl|hl
 ·cases l with
  | next gd h fs k J rs =>
   simp only[qyf]at hl;split at hl
   ·rename_i G' st h1 h2;simp only[qTC]at hl;obtain⟨a1,a2,a3,a4⟩:=hl;obtain⟨p1,p2⟩:=qmc ht hB' hG h1;have hgood:qeg P fn tab ds st.tys st.inv (Ym (wOf P tab) U J):=by
     obtain⟨c1,c2⟩:=qr6 p2 a2;refine⟨fun i hi=>?_,fun i y hy=>?_,fun f hf=>?_⟩
     ·have:=qTI.1 a1 i (qU2.2 hi);show(J.getD i .p).den _ _=_;rw[T.eq_eq this]; exact harg i hi
     ·have hi:i<J.length:=by
       rw[c1];rcases qTQ i st.tys.length with q|q
       ·exact q
       ·rw[qUc q]at hy; cases hy
      rw[qiP hi]; exact c2 i y hy
     ·exact(F.den_sub J f).1 (qek p2 (qTI.1 a3 _ (qVi hf)))
    obtain⟨d,r1,⟨n,hev⟩,r2⟩:=IH k st h2 _ hgood (fun m hm=>by subst hm; exact qJo p2 a4);simp only[lhs,rhs,h2]at ha;injection ha with ha
    exact⟨d,r1,⟨n,qmd ht hB' hG h1,hev⟩,qb.turnA hc _ qr fn.n rs (qyd fn k) ha p1 r2⟩
   ·cases hl
  | done gd h fs qs r =>
   simp only[qyg]at hl;split at hl
   ·rename_i G1 h1;split at hl
    ·rename_i G' h2;simp only[qTC]at hl;obtain⟨p1,p2⟩:=qmc ht hB' hG h1;obtain⟨q1,q2⟩:=qmc ht hB' p2 h2;simp only[lhs,rhs]at ha;injection ha with ha
     refine⟨r.den (wOf P tab) U,⟨(sok q2 _).2.2.2 _ _ hl.1,fun f hf=>?_⟩,⟨0,⟨qmd ht hB' hG h1,qmd ht hB' p2 h2⟩,rfl⟩,qb.fin' hc _ qr fn.n ha p1 q1⟩;have:=(F.den_sub _ f).1 (qek q2 (qTI.1 hl.2 _ (qVi hf)));refine(F.den_pure (n:=fn.na+1) (fun _ h=>qgN h) (fun k hk=>?_) f (qTI.1 hpost f hf)).1 this;rw[qiP (by simp; omega),qUC,qUs];unfold qa;rcases qTQ k fn.na with hlt|hge
     ·rw[zzG,zzG,qTZ (by simpa using hlt),qTZ (by omega)];simp only[qT3,qVj hlt,qUj,qTT,Function.comp];have:=harg k hlt;unfold qa at this;rw[zzG]at this;exact this
     ·have:k=fn.na:=by omega
      subst this;rw[zzG,zzG,qT1 (by simp),qT1 (by omega)];simp[hds]
    ·cases hl
   ·cases hl
  | bad w a=>cases hl
 ·rw[qTM]at hl;rcases hl with hl|hl
  ·exact(qx9 hG hl).elim
  ·exact(qyC (qyF ht hB' hG) hl).elim
def qyl (hc:COK (cfR P tab).cfg) {B:Nat} (ht:qb9 P tab fn.rec' B) {ds:List D} (hcur:fn.rec'.cur.pure0 fn.na=true) (hB:toN (fn.rec'.cur.den w0 (qa ds))<=B) (hpost:fn.con.post.all (F.pure (fn.na+1))=true) (hds:ds.length=fn.na) {s:RS} {U:Nat->D} {ms:Option M6}
  (harg:∀i,i<fn.na->U i=qa ds i)
  (IH:∀k st,fn.sts[k]?=some st->∀U',qeg P fn tab ds st.tys st.inv U'->(∀m,ms=some m->qiI (qeh (wOf P tab) U' st.ms) (qeh (wOf P tab) U m))->Ans P fn tab ds (fun d=>∃n,EvN P fn tab ds n k U' d) ((qaV P fn st).den (wOf P tab) U' fn.g)) :
  ∀{t:qaX} {G:Gam},G.OK (wOf P tab) (JT P tab) U->qcL fn tab ms G t=true->t.leaves.map (lhs P fn tab s U)=t.leaves.map (rhs P fn tab U)->Ans P fn tab ds (fun d=>∃n,TEv P tab (EvN P fn tab ds n) U d t) (s.den (wOf P tab) U fn.g):=by
 intro t
 induction t with
 | leaf l =>
  intro G hG h ha;simp only[qaX.leaves,qUa,qVg]at ha;injection ha with ha _
  exact qJp hc ht hcur hB hpost hds hG harg h ha IH
 | fork t a b ih1 ih2 =>
  intro G hG h ha;simp only[qcL,qTC]at h;simp only[qaX.leaves,qUC]at ha;obtain⟨h1,h2⟩:=qVH ha (by simp)
  cases hb:toB (t.den (wOf P tab) U)with
  | true =>
   obtain⟨d,r1,⟨n,hev⟩,r2⟩:=ih1 (qbH (qdm (f:=.bool t true) hG hb)) h.1 h1;exact⟨d,r1,⟨n,.inl ⟨hb,hev⟩⟩,r2⟩
  | false =>
   obtain⟨d,r1,⟨n,hev⟩,r2⟩:=ih2 (qbH (qdm (f:=.bool t false) hG hb)) h.2 h2;exact⟨d,r1,⟨n,.inr ⟨hb,hev⟩⟩,r2⟩
def qym:∀{l:List RS},J9 P fn tab l->∀s∈l,Agr P fn tab s
 | [],_,s,h=>by cases h
 | x::r,h,s,hs=>by
  rcases qTD.1 hs with rfl|hs
  ·exact h.1
  ·exact qym h.2 s hs
def qJq:WellFounded qiI :=
  (Prod.lex ⟨(·<·),Nat.lt_wfRel.wf⟩ (Prod.lex ⟨(·<·),Nat.lt_wfRel.wf⟩ (Prod.lex ⟨(·<·),Nat.lt_wfRel.wf⟩ (Prod.lex ⟨(·<·),Nat.lt_wfRel.wf⟩ (Prod.lex ⟨(·<·),Nat.lt_wfRel.wf⟩ ⟨(·<·),Nat.lt_wfRel.wf⟩))))).wf
def qyn {ds:List D} {U:Nat->D} (hp:qG fn.con ds) (hpure:fn.con.pre.all (F.pure fn.na)=true) (harg:∀i,i<fn.na->U i=qa ds i):∀f∈fn.con.pre,f.den (wOf P tab) (JT P tab) U:=by
 intro f hf;exact(F.den_pure (n:=fn.na) (fun _ h=>qgN h) (fun k hk=>harg k hk) f (qTI.1 hpure f hf)).2 (hp.2 f hf)
def qJr (hc:COK (cfR P tab).cfg) {B:Nat} (ht:qb9 P tab fn.rec' B) {ds:List D} (hcur:fn.rec'.cur.pure0 fn.na=true) (hB:toN (fn.rec'.cur.den w0 (qa ds))<=B) (hp:qG fn.con ds) (hpure:fn.con.pre.all (F.pure fn.na)=true) (hpost:fn.con.post.all (F.pure (fn.na+1))=true)
  (hsts:fn.sts.all (qef P fn tab)=true) (hag:J9 P fn tab (fn.sts.map (qaV P fn))) :
  ∀(m:N6) (k:Nat) (st:St),fn.sts[k]?=some st->∀U,qeg P fn tab ds st.tys st.inv U->qeh (wOf P tab) U st.ms=m->Ans P fn tab ds (fun d=>∃n,EvN P fn tab ds n k U d) ((qaV P fn st).den (wOf P tab) U fn.g):=by
 intro m
 induction m using qJq.induction with
 | _ m ih =>
  intro k st hk U hg hm;have hst:=qUi hk;have h1:=qTI.1 hsts st hst;have key:Ans P fn tab ds (fun d=>∃n,TEv P tab (EvN P fn tab ds n) U d (qbg P fn tab (qaV P fn st))) ((qaV P fn st).den (wOf P tab) U fn.g)->Ans P fn tab ds (fun d=>∃n,EvN P fn tab ds n k U d) ((qaV P fn st).den (wOf P tab) U fn.g) :=
   fun⟨d,r1,⟨n,hev⟩,r2⟩=>⟨d,r1,⟨n+1,st,hk,hg,hev⟩,r2⟩
  refine key (qyl hc ht hcur hB hpost hp.1.1 hg.arg (ms:=some st.ms) (fun k' st' hk' U' hg' hlt=>?_) (qyk hg.ty (fun f hf=>?_) (fun _ h=>qgN h)) h1 (qym hag _ (qVi hst) U))
  ·have:=hlt _ rfl;rw[hm]at this;exact ih _ this k' st' hk' U' hg' rfl
  ·rcases qTH.1 hf with hf|hf
   ·exact qyn hp hpure hg.arg f hf
   ·exact hg.inv f hf
def qrP {wf:Nat->List D->D} {U:Nat->D} (t:T):∀(ks:List K) (n:Nat),(cellsOf t ks n).map (qgZ wf U)=qab.formC ks n (t.den wf U)
 | [],_=>rfl|k::r,n=>by
  simp only[cellsOf,qUa,qab.formC,qrP t r (n+1)];rfl
def qJs {wf:Nat->List D->D} {U:Nat->D} {y:Y} {t:T} (h:y.good=true) (hd:qd y (t.den wf U)):(qiT y t).den wf U=.d (t.den wf U):=by
 have:=YM h hd
 cases y with
 | g r =>
  show V.d (.agg ((cellsOf t r.kinds 0).map (qgZ wf U)))=_;rw[qrP];exact congrArg V.d this
 | gq r ps =>
  show V.d (.agg ((cellsOf t r.kinds 0).map (qgZ wf U)))=_;rw[qrP];exact congrArg V.d this
 | i k=>exact congrArg V.d this|b=>exact congrArg V.d this|s n=>exact congrArg V.d this|l n e=>exact congrArg V.d this|rg a b=>exact congrArg V.d this|y8=>exact congrArg V.d this|e0=>cases h
 | ec a c=>cases h
 | nm m=>cases h
def qyo {wf:Nat->List D->D} {ds:List D}:∀(ys:List Y) (n:Nat),ds.length=n+ys.length->ys.all Y.good=true->(∀(i:Nat) (y:Y),ys[i]?=some y->qd y (qa ds (n+i)))->(qgG ys n).map (RV.den wf (qa ds))=(ds.drop n).map V.d
 | [],n,hl,_,_=>by simp[qgG,qVf (by simp at hl; omega:ds.length<=n)]
 | y::r,n,hl,hg,h=>by
  simp only[qUZ,qTC]at hg;have hn:n<ds.length:=by simp at hl; omega
  rw[qV7 hn];simp only[qgG,qUa];rw[qyo r (n+1) (by simp at hl ⊢; omega) hg.2 (fun i z hz=>by have:=h (i+1) z (by simpa using hz); rwa[show n+1+i=n+(i+1) by omega])]
  congr 1
  show(qiT y (.v n)).den wf (qa ds)=_;have h0:=h 0 y rfl;rw[qJs (wf:=wf) (U:=qa ds) (t:=.v n) hg.1 (show qd y (qa ds n) from h0)];show V.d (qa ds n)=_;unfold qa;rw[zzG,qTE hn]; rfl
def qlZ (Yz:(P.funcs.toList.all fun f=>!(f.name == "runtime.NumGoroutine"))=true) (mixed:P.follows .mixedOrders=true) {B:Nat} (ht:qb9 P tab fn.rec' B)
  (hchk:J8 P fn tab=true) (hag:J9 P fn tab (qJ P fn)) {ds:List D} (hp:qG fn.con ds) (hB:toN (fn.rec'.cur.den w0 (qa ds))<=B) :
  ∃d,(qg0 fn.con ds d/\JS P fn.g fn.con ds d)/\Ev0 P fn tab ds d:=by
 have hc:COK (cfR P tab).cfg:=qFz Yz mixed (fun g args rows ps v h hp=>by
  have h':qio P (fun g=>match tab.get g with
   | some c=>match c.nw with
    | false=>some fun args=>qan c.rts (wOf P tab g (args.map unD))
    | true=>none
   | none=>none) g args rows=some (ps,v):=h
  exact qwZ h' hp) (fun g args rows ps v rows2 h hp=>by
  have h':qmB P tab g args rows=some (ps,v,rows2):=h;exact qKH h' hp)
 unfold J8 qrL at hchk;simp only[qTC,qUy]at hchk;obtain⟨⟨b1,bn,b0,b2,b3,b4⟩,c1,c2⟩:=hchk;have harg:∀i,i<fn.na->qa ds i=qa ds i:=fun _ _=>rfl
 obtain⟨d,r1,hev,r2⟩:=qyl hc ht b0 hB b3 hp.1.1 harg (s:=qQ P fn) (ms:=none) (fun k st hst U' hg _=>qJr hc ht b0 hB hp b2 b3 c2 hag.2 _ k st hst U' hg rfl)
  (qyk hp.1.2 (qyn hp b2 harg) (fun _ h=>qgN h)) c1 (hag.1 _)
 refine⟨d,⟨r1,?_⟩,hev⟩;unfold JS;rw[bn];show RCs P fn.g (ds.map V.d) [] (qan fn.con.rts d);have hargs:(qgG fn.con.pts 0).map (RV.den (wOf P tab) (qa ds))=ds.map V.d:=by
  have:=qyo (wf:=wOf P tab) (ds:=ds) fn.con.pts 0 (by simpa using hp.1.1) b4 (by simpa using hp.1.2);simpa using this
 unfold qiF at b1;split at b1
 ·rename_i gf hgf;obtain⟨b,hb⟩:=qVx.1 b1;have hen:Y9 (cfR P tab).cfg fn.g (ds.map V.d)=some {fn:=fn.g,env:=ds.map V.d++List.replicate (gf.ntmps - (ds.map V.d).length) V.undef,todo:=[.it (.code b)],round:=none,marks:=[]}:=by
   unfold Y9;have:(cfR P tab).cfg.F fn.g=some gf:=hgf;rw[this]; simp only[hb]
  refine qE hc (by rw[hen]; rfl) ?_;rw[qlj hen];have:(qQ P fn).den (wOf P tab) (qa ds) fn.g=⟨{fn:=fn.g,env:=ds.map V.d++List.replicate (gf.ntmps - (ds.map V.d).length) V.undef,todo:=[.it (.code b)],round:=none,marks:=[]},[],[]⟩:=by
   unfold RS.den qQ qiF qrG;simp only[hgf,hb,qUC,hargs,qVg,qTS,hp.1.1,List.map_replicate];rfl
  rw[<-this]; exact r2
 ·cases b1
def qH (P:Program) (g:Nat) (c:Con) (ev:List D->D->Prop):Prop:=∀ds,qG c ds->∃d,(JZ c ds d/\JS P g c ds d)/\ev ds d
def qH.ok {g:Nat} {c:Con} {ev:List D->D->Prop} (h:qH P g c ev):qm P g c:=fun ds hp=>by
 obtain⟨d,h,_⟩:=h ds hp;exact⟨d,h⟩
def qH.more {g:Nat} {c:Con} {ev:List D->D->Prop} (h:qH P g c ev) {qs:List F} {fact:List D->D->Prop} (hq:∀ds d,qG c ds->JZ c ds d->ev ds d->(∀f∈qs,f.den PW.wV rc0 (qa (ds++[d])))/\fact ds d):qm P g {c with post:=c.post++qs,fact:=fact}:=fun ds hp=>by
 obtain⟨d,⟨h1,h2⟩,h3⟩:=h ds hp;obtain⟨q1,q2⟩:=hq ds d hp h1 h3;refine⟨d,⟨⟨h1.1.1,fun f hf=>?_⟩,q2⟩,h2⟩;rcases qTH.1 hf with hf|hf
 ·exact h1.1.2 f hf
 ·exact q1 f hf
def qJt (Yz:(P.funcs.toList.all fun f=>!(f.name == "runtime.NumGoroutine"))=true) (mixed:P.follows .mixedOrders=true) (ht:qaA P tab)
  (hchk:J8 P fn tab=true) (hag:J9 P fn tab (qJ P fn)) (hfact:∀ds d,qG fn.con ds->qg0 fn.con ds d->Ev0 P fn tab ds d->fn.con.fact ds d:=by exact fun _ _ _ _ _=>trivial):qH P fn.g fn.con (Ev0 P fn tab):=by
 intro ds hp;obtain⟨d,⟨h1,h2⟩,h3⟩:=qlZ Yz mixed (B:=toN (fn.rec'.cur.den w0 (qa ds))) (fun g c hg ds' hp' _=>ht g c hg ds' hp') hchk hag hp (qTF _);exact⟨d,⟨⟨h1,hfact ds d hp h1 h3⟩,h2⟩,h3⟩
def qgH (Yz:(P.funcs.toList.all fun f=>!(f.name == "runtime.NumGoroutine"))=true) (mixed:P.follows .mixedOrders=true) (ht:qaA P tab)
  (hr:fn.rec'.ms=[(fn.g,fn.rec'.cur)]) (hchk:J8 P fn ((fn.g,fn.con)::tab)=true) (hag:J9 P fn ((fn.g,fn.con)::tab) (qJ P fn))
  (hfact:∀ds d,qG fn.con ds->qg0 fn.con ds d->Ev0 P fn ((fn.g,fn.con)::tab) ds d->fn.con.fact ds d:=by exact fun _ _ _ _ _=>trivial):qH P fn.g fn.con (Ev0 P fn ((fn.g,fn.con)::tab)):=by
 have key:∀(B:Nat) (ds:List D),qG fn.con ds->toN (fn.rec'.cur.den w0 (qa ds))=B->∃d,(JZ fn.con ds d/\JS P fn.g fn.con ds d)/\Ev0 P fn ((fn.g,fn.con)::tab) ds d:=by
  intro B
  induction B using Nat.strongRecOn with
  | _ B ih =>
   intro ds hp hB;obtain⟨d,⟨h1,h2⟩,h3⟩:=qlZ Yz mixed (B:=B) (fun g c hg ds' hp' hm=>by
    unfold Tab.get at hg;simp only[qWt]at hg;split at hg
    ·rename_i e;have e':fn.g=g:=qTO e;subst e';simp only[qUj]at hg;cases hg;have:=hm fn.rec'.cur (by unfold Grp.get; rw[hr]; simp);obtain⟨d,h1,_⟩:=ih _ this ds' hp' rfl;exact⟨d,h1⟩
    ·exact ht g c hg ds' hp') hchk hag hp (by omega)
   exact⟨d,⟨⟨h1,hfact ds d hp h1 h3⟩,h2⟩,h3⟩
 intro ds hp;exact key _ ds hp rfl
def qJu {fa fb:RFn} (Yz:(P.funcs.toList.all fun f=>!(f.name == "runtime.NumGoroutine"))=true) (mixed:P.follows .mixedOrders=true) (ht:qaA P tab)
  (haa:fa.rec'.get fa.g=some fa.rec'.cur) (hab:fa.rec'.get fb.g=some fb.rec'.cur) (hba:fb.rec'.get fa.g=some fa.rec'.cur) (hbb:fb.rec'.get fb.g=some fb.rec'.cur)
  (ca:J8 P fa ((fa.g,fa.con)::(fb.g,fb.con)::tab)=true) (aa:J9 P fa ((fa.g,fa.con)::(fb.g,fb.con)::tab) (qJ P fa))
  (cb:J8 P fb ((fa.g,fa.con)::(fb.g,fb.con)::tab)=true) (ab:J9 P fb ((fa.g,fa.con)::(fb.g,fb.con)::tab) (qJ P fb))
  (hfa:∀ds d,fa.con.fact ds d:=by exact fun _ _=>trivial) (hfb:∀ds d,fb.con.fact ds d:=by exact fun _ _=>trivial) :
  qH P fa.g fa.con (Ev0 P fa ((fa.g,fa.con)::(fb.g,fb.con)::tab))/\qH P fb.g fb.con (Ev0 P fb ((fa.g,fa.con)::(fb.g,fb.con)::tab)):=by
 have key:∀(B:Nat),(∀(ds:List D),qG fa.con ds->toN (fa.rec'.cur.den w0 (qa ds))=B->∃d,(JZ fa.con ds d/\JS P fa.g fa.con ds d)/\Ev0 P fa ((fa.g,fa.con)::(fb.g,fb.con)::tab) ds d) /\
   (∀(ds:List D),qG fb.con ds->toN (fb.rec'.cur.den w0 (qa ds))=B->∃d,(JZ fb.con ds d/\JS P fb.g fb.con ds d)/\Ev0 P fb ((fa.g,fa.con)::(fb.g,fb.con)::tab) ds d):=by
  intro B
  induction B using Nat.strongRecOn with
  | _ B ih =>
   have tk:∀(r:Grp),r.get fa.g=some fa.rec'.cur->r.get fb.g=some fb.rec'.cur->qb9 P ((fa.g,fa.con)::(fb.g,fb.con)::tab) r B:=by
    intro r h1 h2 g c hg ds' hp' hm;unfold Tab.get at hg;simp only[qWt]at hg;split at hg
    ·rename_i e;have e':fa.g=g:=qTO e;subst e';simp only[qUj]at hg;cases hg;obtain⟨d,h1,_⟩:=(ih _ (hm _ h1)).1 ds' hp' rfl;exact⟨d,h1⟩
    ·split at hg
     ·rename_i e;have e':fb.g=g:=qTO e;subst e';simp only[qUj]at hg;cases hg;obtain⟨d,h1,_⟩:=(ih _ (hm _ h2)).2 ds' hp' rfl;exact⟨d,h1⟩
     ·exact ht g c hg ds' hp'
   refine⟨fun ds hp hB=>?_,fun ds hp hB=>?_⟩
   ·obtain⟨d,⟨h1,h2⟩,h3⟩:=qlZ Yz mixed (tk _ haa hab) ca aa hp (by omega);exact⟨d,⟨⟨h1,hfa ds d⟩,h2⟩,h3⟩
   ·obtain⟨d,⟨h1,h2⟩,h3⟩:=qlZ Yz mixed (tk _ hba hbb) cb ab hp (by omega);exact⟨d,⟨⟨h1,hfb ds d⟩,h2⟩,h3⟩
 exact⟨fun ds hp=>(key _).1 ds hp rfl,fun ds hp=>(key _).2 ds hp rfl⟩
def qo:qaA P []:=fun g c h=>by cases h
def qj {g:Nat} {c:Con} {l:Tab} (h:qm P g c) (t:qaA P l):qaA P ((g,c)::l):=by
 intro g' c' hg;unfold Tab.get at hg;simp only[qWt]at hg;split at hg
 ·rename_i e;have:g=g':=qTO e;subst this;simp only[qUj]at hg;cases hg;exact h
 ·exact t g' c' hg
end
abbrev lqX (P:Program) (f:RFn) (t:Tab) (j i:Nat):Bool:=(lvS P f t (f.sts.getD j default)).getD i false
abbrev chX (P:Program) (f:RFn) (t:Tab) (j:Nat):Bool:=qef P f t (f.sts.getD j default)
end
end Go.Aev.R
namespace Go.Aev.R
open Go Go.Aev
section
@[simp] theorem qY9 (b:Bool):toB (.bool b)=b:=rfl
@[simp] theorem qcM (l:List D):toL (.list l)=l:=rfl
@[simp] theorem qZa (z:Int):toI (I64 z)=z:=rfl
@[simp] theorem qZb (z:Int):toN (I64 z)=z.toNat:=rfl
@[simp] theorem qZc (n:Nat):toI (N64 n)=n:=rfl
@[simp] theorem qZd (n:Nat):toN (N64 n)=n:=rfl
@[simp] theorem qZe (k:IntKind) (z:Int):toI (.int k z)=z:=rfl
@[simp] theorem qZf (k:IntKind) (d:D):toI ((K.i k).den d)=toI d:=rfl
@[simp] theorem qZg (d:D):toB (K.b.den d)=toB d:=rfl
@[simp] theorem qZh (d:D):toL (K.l.den d)=toL d:=rfl
@[simp] theorem qZi (l:List D) (k:Nat):cel (.agg l) k=l.getD k .nilp:=rfl
variable [RT]
inductive TQ where
 | next (cs:List (Nat×List T)) (k:Nat) (J:List T)
 | done (cs:List (Nat×List T)) (r:T)
 | bad
 | fork (t:T) (a b:TQ)
def qgI:List F->List (Nat×List T)
 | []=>[]|.rc g x::r=>(g,x)::qgI r|_::r=>qgI r
def qfn:qaX->TQ
 | .leaf (.next _ _ fs k J _)=>.next (qgI fs) k J|.leaf (.done _ _ fs qs r)=>.done (qgI fs++qgI qs) r|.leaf (.bad _ _)=>.bad|.fork t a b=>.fork t (qfn a) (qfn b)
def qrQ {g:Nat} {x:List T}:∀{fs:List F},(g,x)∈qgI fs->F.rc g x∈fs:=by
 intro fs
 induction fs with
 | nil=>intro h; cases h
 | cons f r ih =>
  intro h;cases f<;>first|exact qTG _ (ih h) | skip
  rcases qTD.1 h with h|h
  ·cases h; exact qTR
  ·exact qTG _ (ih h)
variable [Glob] [PW]
section
variable (P:Program) (tab:Tab)
def YA (U:Nat->D) (g:Nat) (x:List T):Prop:=∀c,tab.get g=some c->qG c (x.map (T.den (wOf P tab) U))/\JZ c (x.map (T.den (wOf P tab) U)) (wOf P tab g (x.map (T.den (wOf P tab) U)))
def YO (U:Nat->D):List (Nat×List T)->Prop
 | []=>True|p::r=>YA P tab U p.1 p.2/\YO U r
def YP (nx:Nat->(Nat->D)->D->Prop) (U:Nat->D) (d:D):TQ->Prop
 | .next cs k J=>YO P tab U cs/\nx k (Ym (wOf P tab) U J) d|.done cs r=>YO P tab U cs/\d=r.den (wOf P tab) U|.bad=>False|.fork t a b=>(toB (t.den (wOf P tab) U)=true/\YP nx U d a)\/(toB (t.den (wOf P tab) U)=false/\YP nx U d b)
end
section
variable {P:Program} {fn:RFn} {tab:Tab}
def ql0 {U:Nat->D} {fs:List F} (h:qlY P tab U fs):∀{cs:List (Nat×List T)},(∀p∈cs,F.rc p.1 p.2∈fs)->YO P tab U cs
 | [],_=>trivial|p::r,hm=>⟨h p.1 p.2 (hm p qTR),ql0 h fun q hq=>hm q (qTG _ hq)⟩
def qyp {U:Nat->D} {l:List (Nat×List T)}:∀{k:List (Nat×List T)},YO P tab U k->YO P tab U l->YO P tab U (k++l)
 | [],_,h=>h|_::_,h1,h2=>⟨h1.1,qyp h1.2 h2⟩
def ql1 {nx nx':Nat->(Nat->D)->D->Prop} (hn:∀k U d,nx k U d->nx' k U d) {U:Nat->D} {d:D}:∀{t:qaX},TEv P tab nx U d t->YP P tab nx' U d (qfn t)
 | .leaf (.next _ _ _ _ _ _),h=>⟨ql0 h.1 fun p hp=>qrQ (show(p.1,p.2)∈_ from hp),hn _ _ _ h.2⟩
 | .leaf (.done _ _ _ _ _),h=>⟨qyp (ql0 h.1.1 fun p hp=>qrQ (show(p.1,p.2)∈_ from hp)) (ql0 h.1.2 fun p hp=>qrQ (show(p.1,p.2)∈_ from hp)),h.2⟩
 | .leaf (.bad _ _),h=>h|.fork t a b,h=>h.imp (fun h=>⟨h.1,ql1 hn h.2⟩) fun h=>⟨h.1,ql1 hn h.2⟩
def qN (P:Program) (fn:RFn) (tab:Tab):List TQ:=(qJ P fn).map fun s=>qfn (qbg P fn tab s)
def qJv {ds:List D} {q0:TQ} {qs:List TQ} (hq:qN P fn tab=q0::qs) {I:Nat->(Nat->D)->Prop} {Q:D->Prop}
  (step:∀k st q U d,fn.sts[k]?=some st->qs[k]?=some q->qeg P fn tab ds st.tys st.inv U->I k U->YP P tab (fun k' U' d'=>I k' U'->Q d') U d q->Q d) :
  ∀n k U d,EvN P fn tab ds n k U d->I k U->Q d:=by
 intro n
 induction n with
 | zero=>intro k U d h; cases h
 | succ n ih =>
  intro k U d ⟨st,hst,hg,ht⟩ hi;have hk:qs[k]?=some (qfn (qbg P fn tab (qaV P fn st))):=by
   have e:(qN P fn tab)[k+1]?=some (qfn (qbg P fn tab (qaV P fn st))):=by
    unfold qN qJ;simp[hst]
   rw[hq]at e;simpa using e
  exact step k st _ U d hst hk hg hi (ql1 (fun k' U' d' h=>ih k' U' d' h) ht)
def Yc {ds:List D} {d:D} {q0:TQ} {qs:List TQ} (hq:qN P fn tab=q0::qs) {I:Nat->(Nat->D)->Prop} {Q:D->Prop}
  (step:∀k st q U d,fn.sts[k]?=some st->qs[k]?=some q->qeg P fn tab ds st.tys st.inv U->I k U->YP P tab (fun k' U' d'=>I k' U'->Q d') U d q->Q d)
  (start:∀d,YP P tab (fun k' U' d'=>I k' U'->Q d') (qa ds) d q0->Q d) (h:Ev0 P fn tab ds d):Q d:=by
 obtain⟨n,h⟩:=h;have e:(qN P fn tab)[0]?=some (qfn (qbg P fn tab (qQ P fn))):=rfl;rw[hq]at e;simp at e;refine start d ?_;rw[e];exact ql1 (fun k' U' d' h=>qJv hq step n k' U' d' h) h
end
end
end Go.Aev.R
namespace Go.Aev.R29
open Go Go.Aev Go.Aev.R
def Yr:Y:=.l 32 (.rg (-1000) 1000)
def qlA:Y:=.l 32 (.rg (-2000) 2000)
def shR:List (Bool×T×T):=[(false,.i 0,.u 1 0 (.v 0)),(false,.u 1 0 (.v 0),.u 1 1 (.v 0)),(false,.u 1 1 (.v 0),.i 134217728)]
def qrg:List (Bool×T×T):=[(false,.i 0,.u 1 0 (.v 0)),(false,.u 11 3 (.u 1 9 (.v 0)),.u 1 0 (.v 0)),(false,.u 1 0 (.v 0),.i 4096)]
def gQ (N:Nat) (ps:List (Bool×T×T)) (y:Y):Y:=match Nat.beq N 301 with|true=>.gq y ps|false=>.g y
def sb (N:Nat):Nat:=match Nat.beq N 301 with|true=>8|false=>N
def wb (N:Nat):Nat:=match Nat.beq N 301 with|true=>8192|false=>N
def yJ (N:Nat):Y:=match Nat.beq N 301 with|true=>.i .i64|false=>.rg (-9223372036854775808) 9223372036854775807
def qlB (N S:Nat):Y:=.g (.ec (.s S) (.ec (.i .i64) (.ec (.i .i64) (.ec (.i .i64) (.ec (.l N (.s S)) .e0)))))
def Yu (N S:Nat):Y:=.g (.ec (.i .i64) (.ec (.i .i64) (.ec (.l N (qlB N S)) .e0)))
def qbF (N S:Nat):Y:=gQ N shR (.ec (yJ N) (.ec (yJ N) .e0))
def qaS (N S:Nat):Y:=.g (.ec (.i .i64) (.ec (.i .i64) (.ec (.i .i64) (.ec (.l (wb N) (.s S)) .e0))))
def qff (N S:Nat):Y:=.g (.ec (.s S) (.ec (.i .i64) (.ec (.i .i64) (.ec (.s S) .e0))))
def q5 (N S:Nat):Y:=.g (.ec (.i .i64) (.ec (.i .i64) (.ec (.i .i64) (.ec (.i .i64) (.ec (.i .i64) (.ec (.i .i64) (.ec (.i .i64) (.ec (.l N (.i .i64)) (.ec (.l N (qff N S)) .e0)))))))))
def qgz (N S:Nat):Y:=.g (.ec (.i .i64) (.ec (.i .i64) (.ec (.i .i64) (.ec (.i .i64) (.ec (.i .i64) (.ec (.i .i64) (.ec (.i .i64) (.ec Yr (.ec (.l N (qff N S)) .e0)))))))))
def qdi (N S:Nat):Y:=.g (.ec (.i .i64) (.ec (.l N (.i .i64)) .e0))
def qK (N S:Nat):Y:=.g (.ec (.i .i64) (.ec (.i .i64) (.ec (.l N (.l N (.i .i64))) (.ec (yJ N) (.ec (.l N (.i .i64)) (.ec (.l N (.i .i64)) (.ec (.l (sb N) (qbF N S)) (.ec (.i .i64) (.ec (.i .i64) (.ec (.i .i64) (.ec (.i .i64) (.ec (.i .i64) (.ec (.l N (qaS N S)) (.ec (.l N (.nm N)) (.ec (.l N (q5 N S)) (.ec (.l N (qdi N S)) (.ec (.l N (.i .i64)) .e0)))))))))))))))))
def qxR (N S:Nat):Y:=.g (.ec (.i .i64) (.ec (.i .i64) (.ec (.i .i64) (.ec (.i .i64) (.ec (.i .i64) (.ec (.i .i64) (.ec (.i .i64) (.ec (.l N (.i .i64)) (.ec (.l N (qff N S)) (.ec (.i .i64) .e0))))))))))
def Y4 (N S:Nat):Y:=.g (.ec .y8 (.ec .y8 (.ec .y8 (.ec .y8 (.ec .y8 (.ec .y8 (.ec .y8 (.ec .y8 (.ec .y8 (.ec .y8 (.ec .y8 (.ec .y8 (.ec .y8 (.ec .y8 (.ec .y8 (.ec .y8 .e0))))))))))))))))
def qIO (N S:Nat):Y:=.g (.ec (.i .i64) (.ec (.i .i64) (.ec (.i .i64) .e0)))
def qdj (N S:Nat):Y:=gQ N qrg (.ec (yJ N) (.ec (.l N (.i .i64)) (.ec (.l N (.i .i64)) (.ec (.l (sb N) (qbF N S)) (.ec (.i .i64) (.ec (.i .i64) (.ec (.i .i64) (.ec (.i .i64) (.ec (.i .i64) (.ec (.l N (qaS N S)) (.ec (.l N (.nm N)) (.ec (.l N (q5 N S)) .e0))))))))))))
def qxS (N S:Nat):Y:=.g (.ec (.l N (qdi N S)) .e0)
def qlC (N S:Nat):Y:=gQ N qrg (.ec (yJ N) (.ec (.l N (.i .i64)) (.ec (.l N (.i .i64)) (.ec (.l (sb N) (qbF N S)) (.ec (.i .i64) (.ec (.i .i64) (.ec (.i .i64) (.ec (.i .i64) (.ec (.i .i64) (.ec (.l N (qaS N S)) .e0))))))))))
def qrh (N S:Nat):Y:=.g (.ec (.l N (.i .i64)) (.ec (.l N (.i .i64)) .e0))
def qIP (N S:Nat):Y:=.g (.ec (.i .i64) (.ec (.i .i64) .e0))
def qIQ (N S:Nat):Y:=.g (.ec (.i .i64) (.ec (.l N (.i .i64)) (.ec (.l N (.i .i64)) (.ec (.l (sb N) (qbF N S)) (.ec (.i .i64) (.ec (.i .i64) (.ec (.i .i64) (.ec (.i .i64) (.ec (.i .i64) (.ec (.l N (qaS N S)) (.ec (.i .i64) .e0)))))))))))
def qIR (N S:Nat):Y:=.g (.ec (.l N (.i .i64)) (.ec (.i .i64) .e0))
def qIS (N S:Nat):Y:=.g (.ec (.l N (qdi N S)) (.ec (.i .i64) .e0))
def qIT (N S:Nat):Y:=.g (.ec (.s S) (.ec (.i .i64) (.ec (.i .i64) (.ec (.s S) (.ec .b .e0)))))
def qxT (N S:Nat):Y:=.g (.ec (.l N (.i .i64)) (.ec (.l N (.i .i64)) (.ec .b (.ec (.i .i64) .e0))))
def qIU (N S:Nat):Y:=.g (.ec (.l (sb N) (qbF N S)) (.ec (.i .i64) .e0))
def qfg:Y:=.g (.ec (.i .i64) (.ec (.l 301 (.i .i64)) (.ec (.l 301 (.i .i64)) (.ec (.l 301 (.g (.ec (.i .i64) (.ec (.i .i64) .e0)))) (.ec (.i .i64) (.ec (.i .i64) (.ec (.i .i64) (.ec (.i .i64) (.ec (.i .i64) (.ec (.l 301 (qaS 301 301)) (.ec (.l 301 (.nm 999)) (.ec (.l 301 (q5 301 301)) .e0))))))))))))
def qlD:Y:=.gq (.ec (.i .i64) (.ec (.l 301 (.i .i64)) (.ec (.l 301 (.i .i64)) (.ec (.l 8 (qbF 301 301)) (.ec (.i .i64) (.ec (.i .i64) (.ec (.i .i64) (.ec (.i .i64) (.ec (.i .i64) (.ec (.l 301 (qaS 301 301)) (.ec (.l 301 (.nm 999)) (.ec (.l 301 (q5 301 301)) .e0)))))))))))) qrg
def qea:Y:=.g (.ec (.i .i64) (.ec (.l 301 (.i .i64)) (.ec (.l 301 (.i .i64)) (.ec (.l 301 (.g (.ec (.i .i64) (.ec (.i .i64) .e0)))) (.ec (.i .i64) (.ec (.i .i64) (.ec (.i .i64) (.ec (.i .i64) (.ec (.i .i64) (.ec (.l 301 (qaS 301 301)) .e0))))))))))
def qri:Y:=.g (.ec (yJ 0) (.ec (.l 301 (.i .i64)) (.ec (.l 301 (.i .i64)) (.ec (.l 301 (.g (.ec (yJ 0) (.ec (yJ 0) .e0)))) (.ec (.i .i64) (.ec (.i .i64) (.ec (.i .i64) (.ec (.i .i64) (.ec (.i .i64) (.ec (.l 301 (qaS 301 301)) .e0))))))))))
def qlE:Y:=.g (.ec (.i .i64) (.ec (.l 301 (.i .i64)) (.ec (.l 301 (.i .i64)) (.ec (.l 8 (qbF 301 301)) (.ec (.i .i64) (.ec (.i .i64) (.ec (.i .i64) (.ec (.i .i64) (.ec (.i .i64) (.ec (.l 301 (qaS 301 301)) (.ec (.l 301 (.nm 999)) (.ec (.l 301 (q5 301 301)) (.ec (.i .i64) .e0)))))))))))))
def qIV:Y:=.g (.ec (.i .i64) (.ec (.i .i64) (.ec (.l 301 (.l 301 (.i .i64))) (.ec (.i .i64) (.ec (.l 301 (.i .i64)) (.ec (.l 301 (.i .i64)) (.ec (.l 301 (.g (.ec (.i .i64) (.ec (.i .i64) .e0)))) (.ec (.i .i64) (.ec (.i .i64) (.ec (.i .i64) (.ec (.i .i64) (.ec (.i .i64) (.ec (.l 301 (qaS 301 301)) (.ec (.l 301 (.nm 999)) (.ec (.l 301 (q5 301 301)) (.ec (.l 301 (qdi 301 301)) (.ec (.l 301 (.i .i64)) (.ec (.i .i64) .e0))))))))))))))))))
def qxU (ks:List K) (x:T):T:=.u 2 0 (qX ((ks.zip (List.range ks.length)).map fun p=>.mk p.1 (.u 1 p.2 x)))
def qIW:List K:=[.i .i64,.i .i64,.l]
def qIX:List K:=[.i .i64,.i .i64,.i .i64,.i .i64,.i .i64,.i .i64,.i .i64,.l,.l]
def qgA (s e:T):T:=.u 3 1000212 (qX [qxU qIW s,qxU qIX e])
def consts:List Nat:=[1116352408,1899447441,3049323471,3921009573,961987163,1508970993,2453635748,2870763221,3624381080,310598401,607225278,1426881987,1925078388,2162078206,2614888103,3248222580,3835390401,4022224774,264347078,604807628,770255983,1249150122,1555081692,1996064986,2554220882,2821834349,2952996808,3210313671,3336571891,3584528711,113926993,338241895,666307205,773529912,1294757372,1396182291,1695183700,1986661051,2177026350,2456956037,2730485921,2820302411,3259730800,3345764771,3516065817,3600352804,4094571909,275423344,430227734,506948616,659060556,883997877,958139571,1322822218,1537002063,1747873779,1955562222,2024104815,2227730452,2361852424,2428436474,2756734187,3204031479,3329325298]
instance rt:RT where
 body:=fun n=>match Nat.beq n 999 with|true=>qfg|false=>qdj n n
 tm:=fun k=>match k with
  | 0=>[(false,.i 0,.u 1 0 (.v 0)),(false,.u 11 3 (.u 1 9 (.v 0)),.u 1 0 (.v 0)),(false,.u 1 0 (.v 0),.i 4096)]|1=>[(true,.v 1,.u 0 0 (.u 1 9 (.v 0))),(true,.u 0 0 (.u 1 9 (.v 0)),.v 1)]|2=>[(true,.v 1,.u 0 0 (.u 1 7 (.v 0))),(true,.u 0 0 (.u 1 7 (.v 0)),.v 1),(true,.i 1,.u 0 0 (.u 1 7 (.v 0)))]|3=>[(false,.i 0,.u 1 0 (.v 0)),(false,.u 1 0 (.v 0),.u 1 1 (.v 0)),(false,.u 1 1 (.v 0),.i 134217728)]|7=>[(true,.u 13 0 (.v 0),.v 1)]|9=>[(true,.v 1,.u 0 0 (.u 1 3 (.v 0))),(true,.u 0 0 (.u 1 3 (.v 0)),.v 1)]|10=>[(true,.i 1,.u 0 0 (.v 0)),(true,.w 8 (.u 0 0 (.v 0)) (.i 1),.v 1)]|11=>[(true,.u 8 2 (.u 0 0 (.v 0)),.w 8 (.v 1) (.i 1))]|17=>[(false,qgA (.v 1) (.v 0),.i 0),(false,.i 0,qgA (.v 1) (.v 0))]|_=>[]
 mkb:=fun t=>Nat.beq t 411
 gl:=fun g=>match Nat.ble g 1 with
  | true=>consts.map fun(n:Nat)=>(.i .u32,.i (Int.ofNat n))
  | false=>[]
abbrev mF (g:Nat) (con:R.Con) (sts:List R.St):R.RFn:={g:=g,con:=con,wr:=false,pn:=14,sts:=sts}
abbrev ZdZ:Y:=qdj 300 300
abbrev Ze:T:=.v 0
abbrev Zd0:T:=.u 15 0 Ze
abbrev ZbM:T:=.i 60
abbrev ZcC:Y:=q5 300 300
abbrev Ze8:List Y:=[.l 100000 ZcC]
abbrev Zc:T:=.v 1
abbrev Zi:T:=.u 0 0 Zc
abbrev Za8:Y:=.l 300 (.i .i64)
abbrev Zg:T:=.i 1
abbrev Zu:T:=.u 0 0 Ze
abbrev Zdk:F:=.nle Zg Zu
abbrev Zb5:T:=.i 10
abbrev Zdl:Y:=.s 301
abbrev ZcD:Y:=.rg (-9223372036854775808) 9223372036854775807
abbrev Zdm:Y:=Y4 140737488355328 140737488355328
abbrev ZaN:Y:=qK 300 300
abbrev ZbN:T:=.u 1 3 Ze
abbrev ZbO:T:=.mk (.i .i64) ZbN
abbrev Zdn:T:=.u 1 4 Ze
abbrev Zb6:T:=.mk .l Zdn
abbrev Zdo:T:=.u 1 5 Ze
abbrev Zb7:T:=.mk .l Zdo
abbrev ZcE:T:=.u 1 6 Ze
abbrev Zb8:T:=.mk .l ZcE
abbrev Zdp:T:=.u 1 7 Ze
abbrev Zbp:T:=.mk (.i .i64) Zdp
abbrev ZcF:T:=.u 1 8 Ze
abbrev Zbq:T:=.mk (.i .i64) ZcF
abbrev ZaW:T:=.u 1 9 Ze
abbrev Zb9:T:=.mk (.i .i64) ZaW
abbrev Za9:T:=.u 1 10 Ze
abbrev Zca:T:=.mk (.i .i64) Za9
abbrev ZcG:T:=.u 1 11 Ze
abbrev Zcb:T:=.mk (.i .i64) ZcG
abbrev Zcc:T:=.mk .l (.u 1 12 Ze)
abbrev Zcd:T:=.mk .l (.u 1 13 Ze)
abbrev Zce:T:=.mk .l (.u 1 14 Ze)
abbrev ZgM:T:=.u 2 0 (.w 4 ZbO (.w 4 Zb6 (.w 4 Zb7 (.w 4 Zb8 (.w 4 Zbp (.w 4 Zbq (.w 4 Zb9 (.w 4 Zca (.w 4 Zcb (.w 4 Zcc (.w 4 Zcd (.w 4 Zce .z))))))))))))
abbrev Ze9:T:=.u 15 0 ZgM
abbrev Z6:T:=.u 1 0 Ze
abbrev Zba:T:=.mk (.i .i64) Z6
abbrev Zbb:T:=.u 1 1 Ze
abbrev Zad:T:=.mk (.i .i64) Zbb
abbrev ZaR:T:=.u 1 2 Ze
abbrev Zbc:T:=.mk .l ZaR
abbrev Zcf:T:=.mk .l (.u 1 15 Ze)
abbrev Zbd:T:=.u 1 16 Ze
abbrev ZcH:T:=.mk .l Zbd
abbrev ZcI:T:=.u 2 0 (.w 4 Zba (.w 4 Zad (.w 4 Zbc (.w 4 ZbO (.w 4 Zb6 (.w 4 Zb7 (.w 4 Zb8 (.w 4 Zbp (.w 4 Zbq (.w 4 Zb9 (.w 4 Zca (.w 4 Zcb (.w 4 Zcc (.w 4 Zcd (.w 4 Zce (.w 4 Zcf (.w 4 ZcH .z)))))))))))))))))
abbrev Ziz:T:=.u 3 1000039 (.w 4 ZcI .z)
abbrev Zdq:T:=.u 0 0 Ziz
abbrev Z7:T:=.u 0 0 Zbd
abbrev Zdr:Y:=.l 300 (qxR 300 300)
abbrev Za:T:=.i 0
abbrev Zd:T:=.v 3
abbrev ZaS:T:=.u 1 0 Zd
abbrev ZcJ:F:=.le Za ZaS
abbrev Zw:Y:=Yu 301 301
abbrev ZP:Y:=.l 301 (.i .i64)
abbrev ZK:Y:=.l 301 ZP
abbrev Zbe:Y:=.l 140737488355328 (.i .i64)
abbrev Zb:T:=.v 2
abbrev Zds:F:=.nle Zu Zi
abbrev ZgN:F:=.nle Zi Zu
abbrev Zfa:F:=.has Ze Yr
abbrev Zfb:Y:=qrh 140737488355328 140737488355328
abbrev Z1:Y:=.l 301 Yr
abbrev Zx:T:=.u 0 0 Zb
abbrev ZaX:Nat×R.RV:=(0,.o (.c (.i .i64) Ze))
abbrev ZgO:R.RV:=.o (.c .l Zc)
abbrev Zs:Nat×R.RV:=(1,ZgO)
abbrev ZcK:Nat×R.RV:=(2,.o (.c .l Zb))
abbrev ZbP:R.RV:=.o (.c (.i .i64) Zd)
abbrev ZcL:R.RV:=.o .nil
abbrev Zf:T:=.v 4
abbrev ZgP:R1:=.c (.i .i64) Zf
abbrev Zfc:Nat×R.RV:=(10,.o ZgP)
abbrev Zbf:F:=.le Za Zf
abbrev Zk:T:=.i 1000
abbrev Zj:T:=.v 5
abbrev Zt:T:=.v 6
abbrev Zh:T:=.v 7
abbrev Zd1:qu:=.dat 1 Zh false
abbrev Zfd:T:=.w 8 Za Zf
abbrev Zcg:T:=.u 0 0 Zh
abbrev ZgQ:F:=.nle Zfd Zcg
abbrev Zdt:F:=.nle Zj Zf
abbrev Zd2:T:=.u 4 0 Zf
abbrev Zd3:Y:=q5 140737488355328 140737488355328
abbrev Zfe:T:=.u 13 0 Ze
abbrev Zd4:R.RV:=.o (.pt 0 0 Za 0)
abbrev Zal:Nat×R.RV:=(1,Zd4)
abbrev ZcM:R.RV:=.o (.pt 1 0 Za 0)
abbrev Zp:R1:=.c (.i .i64) Za
abbrev ZbQ:R.RV:=.o Zp
abbrev Zd5:R1:=.c (.i .i64) Z6
abbrev Zff:R1:=.c .l ZaR
abbrev ZgR:R1:=.c (.i .i64) Zdn
abbrev ZgS:R1:=.c (.i .i64) Zdo
abbrev ZgT:R1:=.c (.i .i64) ZcE
abbrev ZgU:R1:=.c (.i .i64) Zdp
abbrev ZgV:R1:=.c (.i .i64) ZcF
abbrev Zd6:qu:=.box [Zd5,.c .l Zbb,Zff,.c .l ZbN,ZgR,ZgS,ZgT,ZgU,ZgV,.c .l ZaW,.c .l Za9,.c .l ZcG] false
abbrev Zr:R1:=.c (.i .u8) Za
abbrev Zd7:qu:=.box [Zr,Zr,Zr,Zr,Zr,Zr,Zr,Zr,Zr,Zr,Zr,Zr,Zr,Zr,Zr,Zr] false
abbrev Zch:T:=.u 0 0 Za9
abbrev ZbR:Nat×R.RV:=(4,ZbP)
abbrev Zfg:qu:=.dat 1 Zf false
abbrev ZgW:T:=.w 8 Za Zc
abbrev ZL:T:=.u 0 0 Zf
abbrev ZcN:F:=.nle ZgW ZL
abbrev Zci:F:=.nle Zb Zc
abbrev ZQ:T:=.u 4 0 Zc
abbrev ZcO:F:=.le ZQ Zd
abbrev ZcP:Y:=q5 301 301
abbrev Zv:Y:=.l 301 ZcP
abbrev Zfh:List Y:=[Zw,ZK,Zv,.i .i64]
abbrev Zfi:F:=.nle Zg Zx
abbrev ZR:T:=.i 64
abbrev Zah:F:=.le Za Zd
abbrev ZS:T:=.u 2 0 (.w 4 Zba (.w 4 Zad (.w 4 Zbc .z)))
abbrev Zfj:F:=.rows 920 Zb Zx ZS
abbrev Zfk:T:=.u 3 1000030 (.w 4 ZS .z)
abbrev ZbS:F:=.le Zfk Za
abbrev ZbT:F:=.le Za Zfk
abbrev Zae:T:=.mk .l Zc
abbrev Zd8:T:=.w 4 Zae .z
abbrev ZiA:T:=.u 3 1000076 (.w 4 ZS Zd8)
abbrev Zdu:F:=.bool ZiA true
abbrev ZG:T:=.u 0 0 ZaR
abbrev ZaE:T:=.i 16
abbrev Zfl:T:=.u 13 0 Zf
abbrev ZcQ:T:=.w 13 Zd (.i 12)
abbrev ZcR:T:=.i 32
abbrev ZgX:T:=.w 11 Zx ZcR
abbrev ZT:T:=.i 2
abbrev Zai:T:=.i 3
abbrev ZgY:T:=.w 11 Zd (.i 12)
abbrev Zbg:Nat×R.RV:=(4,Zd4)
abbrev Zfm:R1:=.c .l Zf
abbrev ZgZ:R1:=.c (.i .i64) Zbb
abbrev Zq:qu:=.box [Zd5,ZgZ,Zff] false
abbrev ZiB:qu:=.box [Zp,.nil,.nil,.nil,Zp,Zp,Zp,Zp,Zp,.nil,.nil,.nil] false
abbrev Zbh:F:=.le Za Za
abbrev ZcS:T:=.mk .l Zb
abbrev ZiC:F:=.imp ZcQ (.rows 914 Zf ZL Zx)
abbrev Zfn:T:=.u 14 0 .z
abbrev ZC:F:=.nle Za Za
abbrev ZcT:T:=.u 0 0 .z
abbrev ZD:F:=.nle Za ZcT
abbrev ZH:F:=.nle ZcT Za
abbrev Zg0:R1:=.c (.i .i64) Zh
abbrev Z9:T:=.v 8
abbrev Zd9:Y:=.l 301 qlD
abbrev ZI:F:=.le Za Zh
abbrev Zfo:T:=.u 14 0 Z9
abbrev ZU:T:=.u 4 0 Zj
abbrev ZbU:T:=.u 0 0 Z9
abbrev Zdv:F:=.nle ZU ZbU
abbrev Zdw:T:=.w 14 (.u 1 12 Zd) Za
abbrev Zg1:F:=.le ZG (.u 0 0 (.u 1 9 Zd))
abbrev Zg2:F:=.le (.u 0 0 (.u 1 9 Zd)) ZG
abbrev Zfp:T:=.u 0 0 (.u 1 3 Zd)
abbrev Zg3:F:=.le (.u 11 3 (.u 1 9 Zd)) ZaS
abbrev ZaY:T:=.i 4096
abbrev ZiD:F:=.and Zfj (.and ZbS (.and ZbT Zdu))
abbrev ZiE:F:=.and ZiD (.and Zfi (.nle Zx ZaE))
abbrev Zcj:F:=.le Zg Zd
abbrev ZiF:qu:=.box [Zp,.nil,.nil,.nil,Zp,Zp,Zp,Zp,Zp,.nil,.nil,.nil,Zp] false
abbrev Zfq:List Y:=[.i .i64,ZK,.i .i64]
abbrev Zg4:R1:=.c (.i .i64) Zb
abbrev Zck:R.RV:=.o Zg4
abbrev ZaO:Nat×R.RV:=(2,Zck)
abbrev ZbV:Nat×R.RV:=(6,Zd4)
abbrev Zcl:qu:=.box [.nil,Zp] false
abbrev Zcm:F:=.bool (.w 10 Zb Zg) false
abbrev Zfr:F:=.bool (.w 12 Zb ZaY) false
abbrev ZaZ:T:=.w 3 Zc Za
abbrev Zdx:T:=.u 0 0 ZaZ
abbrev Zbr:F:=.rows 0 Zc Zi Zdx
abbrev Zcn:F:=.has Zae Z1
abbrev Zfs:T:=.w 1 Zi Za
abbrev Zft:T:=.w 10 Za Zi
abbrev Zab:T:=.u 0 0 Zt
abbrev Zg5:F:=.nle Zfd Zab
abbrev Zg6:T:=.w 1 Zi Zd
abbrev Zdy:R.RV:=.o (.c (.i .i64) Zj)
abbrev Zea:F:=.le Za Zj
abbrev Zg7:T:=.w 1 Zi Zj
abbrev Zam:T:=.u 0 0 Zd
abbrev Zeb:F:=.nle Zg Zam
abbrev Zg8:R1:=.c (.i .i64) Zc
abbrev ZcU:R.RV:=.o Zg8
abbrev ZbW:Nat×R.RV:=(1,ZcU)
abbrev Zg9:qu:=.box [Zp,Zp,.nil,Zp,.nil,.nil,.nil,Zp,Zp,Zp,Zp,Zp,.nil,.nil,.nil,.nil,.nil,Zp] false
abbrev ZiG:F:=.bool (.w 10 Zc Zg) false
abbrev ZiH:F:=.bool (.w 12 Zc Zai) false
abbrev ZiI:F:=.bool (.w 10 Zb Za) false
abbrev Zaf:T:=.i 8
abbrev Zha:T:=.w 12 Zb Zaf
abbrev Zdz:F:=.bool Zha false
abbrev ZiJ:F:=.bool (.u 3 1000076 (.w 4 ZS (.w 4 (.mk .l .z) .z))) true
abbrev ZcV:R.RV:=.o (.pt 2 0 Za 0)
abbrev Zec:R1:=.c .l Zj
abbrev ZcW:Nat×R.RV:=(14,ZbQ)
abbrev ZE:T:=.mk (.i .i64) Za
abbrev ZiK:qu:=.dat 1 (.w 32 ZL ZE) false
abbrev Zan:T:=.u 0 0 Zj
abbrev ZcX:F:=.le Zg Zb
abbrev ZiL:R1:=.sl 3 1 Za Zh Z9 false
abbrev Zaj:T:=.v 9
abbrev ZM:qu:=.dat 1 Zaj false
abbrev Za0:T:=.u 0 0 Zaj
abbrev ZiM:F:=.nle (.w 8 Za Zh) Za0
abbrev Zhb:F:=.nle Z9 Zh
abbrev Zfu:T:=.u 4 0 Zh
abbrev ZiN:T:=.w 4 (.mk (.i .i64) Zg) .z
abbrev ZiO:T:=.u 1 10 (.u 3 140 (.w 4 ZS (.w 4 .z (.w 4 (.mk .l Zd) .z))))
abbrev ZiP:T:=.w 3 Zf (.w 1 Zj Zg)
abbrev Zfv:T:=.mk (.i .i64) (.i 6)
abbrev Zed:T:=.w 0 Zj Zg
abbrev ZcY:T:=.mk .l Zf
abbrev Zfw:T:=.w 4 ZcY .z
abbrev Zfx:T:=.mk .l (.u 3 143 Zfw)
abbrev Zbs:T:=.mk (.i .i64) Zb
abbrev Zag:T:=.mk (.i .i64) Zc
abbrev Za1:T:=.u 3 144 (.w 4 ZS (.w 4 .z Zfw))
abbrev Zbi:T:=.w 4 ZE .z
abbrev ZiQ:T:=.w 4 (.w 6 ZL (.w 7 Za (.w 32 ZL ZE))) Zbi
abbrev Zfy:T:=.w 4 .z ZiQ
abbrev Zhc:T:=.mk (.i .i64) ZaE
abbrev Za2:T:=.u 3 145 (.w 4 ZS (.w 4 .z (.w 4 ZcY (.w 4 Zhc .z))))
abbrev ZiR:T:=.mk (.i .i64) (.u 1 0 Za2)
abbrev ZiS:T:=.mk (.i .i64) (.u 1 4 Za2)
abbrev ZiT:T:=.mk (.i .i64) (.u 1 5 Za2)
abbrev ZiU:T:=.mk (.i .i64) (.u 1 6 Za2)
abbrev ZiV:T:=.mk (.i .i64) (.u 1 7 Za2)
abbrev ZiW:T:=.mk (.i .i64) (.u 1 8 Za2)
abbrev ZiX:T:=.w 4 (.mk .l (.u 1 0 (.u 3 146 (.w 4 Zad (.w 4 Zfx (.w 4 (.mk (.i .i64) Zaf) .z)))))) ZiQ
abbrev ZcZ:T:=.w 0 Za Zg
abbrev Zfz:T:=.w 3 Zj Za
abbrev ZiY:T:=.w 4 (.mk .l (.u 1 7 (.w 3 Zf Zfz))) .z
abbrev ZiZ:T:=.w 4 (.mk .l (.u 1 7 (.w 3 Zf (.w 3 Zj Zt)))) .z
abbrev Zco:T:=.w 6 Zh (.w 7 Za Zaj)
abbrev Za3:T:=.u 3 144 (.w 4 ZS (.w 4 Zco Zfw))
abbrev Za4:T:=.u 3 145 (.w 4 ZS (.w 4 Zco (.w 4 ZcY (.w 4 Zhc .z))))
abbrev Zi0:T:=.mk (.i .i64) (.u 1 0 Za4)
abbrev Zi1:T:=.mk (.i .i64) (.u 1 4 Za4)
abbrev Zi2:T:=.mk (.i .i64) (.u 1 5 Za4)
abbrev Zi3:T:=.mk (.i .i64) (.u 1 6 Za4)
abbrev Zi4:T:=.mk (.i .i64) (.u 1 7 Za4)
abbrev Zi5:T:=.mk (.i .i64) (.u 1 8 Za4)
abbrev Zbt:Y:=Yu 140737488355328 140737488355328
abbrev ZfA:T:=.w 14 Zc Za
abbrev Zcp:Y:=.s 140737488355328
abbrev Z3:F:=.le Za Zb
abbrev Zee:F:=.le Zg Ze
abbrev Zef:F:=.le Ze Zai
abbrev Zcq:F:=.nle Zg Zi
abbrev Zhd:F:=.and (.has Zc Z1) (.and Zbr (.and Zcq (.nle Zg Zdx)))
abbrev Zi6:Nat×R.RV:=(7,.o (.sl 1 1 Za Zg Zg true))
abbrev Zi7:Nat×R.RV:=(8,.o (.sl 2 1 Za Zg Zg true))
abbrev ZfB:T:=.mk .l ZaZ
abbrev ZfC:T:=.w 4 ZfB .z
abbrev Zi8:List qu:=[Zcl,.dat 1 Zbi false,.dat 1 ZfC false]
abbrev ZbX:T:=.u 4 0 Zg
abbrev ZaF:Nat×R.RV:=(7,.o (.sl 1 1 Za Zd Zf false))
abbrev Zi9:R1:=.sl 2 1 Za Zj Zt false
abbrev ZdA:qu:=.dat 1 Z9 false
abbrev Zhe:T:=.w 8 Za Zd
abbrev ZfD:F:=.nle Zf Zd
abbrev Zhf:F:=.nle Zg Zd
abbrev Zak:T:=.u 4 0 Zd
abbrev Zhg:T:=.w 8 Za Zj
abbrev Zhh:F:=.nle Zt Zj
abbrev Zhi:R1:=.c (.i .i64) Z9
abbrev Zhj:R1:=.c (.i .i64) Zaj
abbrev Zac:T:=.v 10
abbrev Zbu:T:=.v 11
abbrev ZfE:T:=.u 0 0 Zbu
abbrev ZaG:T:=.mk (.i .i64) Ze
abbrev Zja:T:=.u 1 1 (.u 3 217 (.w 4 ZaG (.w 4 ZfC (.w 4 (.mk .l (.w 3 Zc Zj)) .z))))
abbrev Zeg:T:=.mk (.i .i64) Zd
abbrev Zeh:T:=.w 4 Zeg .z
abbrev Zhk:T:=.mk .l (.w 3 Zc Zd)
abbrev Zjb:T:=.w 8 Zg (.u 0 0 (.w 4 Zhk .z))
abbrev Zjc:T:=.w 6 Zd (.w 7 Za Zh)
abbrev ZfF:T:=.w 6 Zj (.w 7 Za Zbu)
abbrev Zjd:T:=.u 1 1 (.u 3 217 (.w 4 ZaG (.w 4 ZfF (.w 4 (.mk .l (.w 3 Zc Zaj)) .z))))
abbrev Zje:T:=.w 6 Zd (.w 7 Za Zac)
abbrev Zjf:T:=.w 4 (.mk (.i .i64) Zh) .z
abbrev Zjg:T:=.w 4 (.mk .l (.w 3 Zc Zh)) .z
abbrev ZJ:Nat×R.RV:=(0,.o (.c .l Ze))
abbrev ZaP:Nat×R.RV:=(5,Zck)
abbrev Zei:List (Nat×R.RV):=[ZJ,Zs,ZaP]
abbrev ZfG:T:=.w 10 Zb Zu
abbrev ZaQ:T:=.w 3 Ze Zb
abbrev ZaH:T:=.w 3 Zc Zb
abbrev Zej:T:=.w 0 Zb Zg
abbrev Zek:List T:=[Ze,Zc,Zej]
abbrev Zjh:Y:=.ec (.i .u32) (.ec (.i .u32) (.ec (.i .u32) (.ec (.i .u32) (.ec (.i .u32) (.ec (.i .u32) (.ec (.i .u32) (.ec (.i .u32) .e0)))))))
abbrev Z2:Nat×R.RV:=(2,Zd4)
abbrev ZbY:Nat×R.RV:=(4,ZcM)
abbrev Zhl:Nat×R.RV:=(6,.o (.pt 3 0 Za 0))
abbrev ZfH:T:=.w 4 (.mk (.i .u32) Z6) (.w 4 (.mk (.i .u32) Zbb) (.w 4 (.mk (.i .u32) ZaR) (.w 4 (.mk (.i .u32) ZbN) (.w 4 (.mk (.i .u32) Zdn) (.w 4 (.mk (.i .u32) Zdo) (.w 4 (.mk (.i .u32) ZcE) (.w 4 (.mk (.i .u32) Zdp) .z)))))))
abbrev Zl:R1:=.c (.i .u32) Za
abbrev Zji:qu:=.box [Zl,Zl,Zl,Zl,Zl,Zl,Zl,Zl] false
abbrev Zjj:qu:=.arr 64 (.i .u32) Zd false
abbrev ZfI:Y:=.l 64 (.i .u32)
abbrev ZfJ:Y:=.l 4 (.i .u32)
abbrev Z4:T:=.i 4
abbrev ZdB:Nat×R.RV:=(7,.o (.pt 3 0 Za 0))
abbrev Zc0:Y:=.l 8 (.i .u32)
abbrev Zm:T:=.u 3 279 Zd8
abbrev Zhm:T:=.mk (.i .u32) Zfz
abbrev ZfK:T:=.mk (.i .i64) (.i 11)
abbrev Zhn:T:=.mk (.i .i64) (.i 25)
abbrev Zho:T:=.w 3 Zf Za
abbrev Zhp:T:=.mk (.i .u32) Zho
abbrev ZfL:T:=.mk (.i .i64) ZT
abbrev ZfM:T:=.mk (.i .i64) (.i 13)
abbrev Zhq:T:=.mk (.i .i64) (.i 22)
abbrev Zjk:T:=.w 4 (.mk (.i .u32) (.i 1116352408)) (.w 4 (.mk (.i .u32) (.i 1899447441)) (.w 4 (.mk (.i .u32) (.i 3049323471)) (.w 4 (.mk (.i .u32) (.i 3921009573)) (.w 4 (.mk (.i .u32) (.i 961987163)) (.w 4 (.mk (.i .u32) (.i 1508970993)) (.w 4 (.mk (.i .u32) (.i 2453635748)) (.w 4 (.mk (.i .u32) (.i 2870763221)) (.w 4 (.mk (.i .u32) (.i 3624381080)) (.w 4 (.mk (.i .u32) (.i 310598401)) (.w 4 (.mk (.i .u32) (.i 607225278)) (.w 4 (.mk (.i .u32) (.i 1426881987)) (.w 4 (.mk (.i .u32) (.i 1925078388)) (.w 4 (.mk (.i .u32) (.i 2162078206)) (.w 4 (.mk (.i .u32) (.i 2614888103)) (.w 4 (.mk (.i .u32) (.i 3248222580)) (.w 4 (.mk (.i .u32) (.i 3835390401)) (.w 4 (.mk (.i .u32) (.i 4022224774)) (.w 4 (.mk (.i .u32) (.i 264347078)) (.w 4 (.mk (.i .u32) (.i 604807628)) (.w 4 (.mk (.i .u32) (.i 770255983)) (.w 4 (.mk (.i .u32) (.i 1249150122)) (.w 4 (.mk (.i .u32) (.i 1555081692)) (.w 4 (.mk (.i .u32) (.i 1996064986)) (.w 4 (.mk (.i .u32) (.i 2554220882)) (.w 4 (.mk (.i .u32) (.i 2821834349)) (.w 4 (.mk (.i .u32) (.i 2952996808)) (.w 4 (.mk (.i .u32) (.i 3210313671)) (.w 4 (.mk (.i .u32) (.i 3336571891)) (.w 4 (.mk (.i .u32) (.i 3584528711)) (.w 4 (.mk (.i .u32) (.i 113926993)) (.w 4 (.mk (.i .u32) (.i 338241895)) (.w 4 (.mk (.i .u32) (.i 666307205)) (.w 4 (.mk (.i .u32) (.i 773529912)) (.w 4 (.mk (.i .u32) (.i 1294757372)) (.w 4 (.mk (.i .u32) (.i 1396182291)) (.w 4 (.mk (.i .u32) (.i 1695183700)) (.w 4 (.mk (.i .u32) (.i 1986661051)) (.w 4 (.mk (.i .u32) (.i 2177026350)) (.w 4 (.mk (.i .u32) (.i 2456956037)) (.w 4 (.mk (.i .u32) (.i 2730485921)) (.w 4 (.mk (.i .u32) (.i 2820302411)) (.w 4 (.mk (.i .u32) (.i 3259730800)) (.w 4 (.mk (.i .u32) (.i 3345764771)) (.w 4 (.mk (.i .u32) (.i 3516065817)) (.w 4 (.mk (.i .u32) (.i 3600352804)) (.w 4 (.mk (.i .u32) (.i 4094571909)) (.w 4 (.mk (.i .u32) (.i 275423344)) (.w 4 (.mk (.i .u32) (.i 430227734)) (.w 4 (.mk (.i .u32) (.i 506948616)) (.w 4 (.mk (.i .u32) (.i 659060556)) (.w 4 (.mk (.i .u32) (.i 883997877)) (.w 4 (.mk (.i .u32) (.i 958139571)) (.w 4 (.mk (.i .u32) (.i 1322822218)) (.w 4 (.mk (.i .u32) (.i 1537002063)) (.w 4 (.mk (.i .u32) (.i 1747873779)) (.w 4 (.mk (.i .u32) (.i 1955562222)) (.w 4 (.mk (.i .u32) (.i 2024104815)) (.w 4 (.mk (.i .u32) (.i 2227730452)) (.w 4 (.mk (.i .u32) (.i 2361852424)) (.w 4 (.mk (.i .u32) (.i 2428436474)) (.w 4 (.mk (.i .u32) (.i 2756734187)) (.w 4 (.mk (.i .u32) (.i 3204031479)) (.w 4 (.mk (.i .u32) (.i 3329325298)) .z)))))))))))))))))))))))))))))))))))))))))))))))))))))))))))))))
abbrev Zjl:T:=.u 5 2 (.w 0 (.u 5 2 (.w 0 (.u 5 2 (.w 0 (.u 5 2 (.w 0 (.w 3 Zj Zai) (.u 3 280 (.w 4 Zhm (.w 4 Zfv (.w 4 ZfK (.w 4 Zhn .z))))))) (.w 162 (.w 142 Zfz (.w 3 Zj Zg)) (.w 142 (.w 162 (.i 4294967295) Zfz) (.w 3 Zj ZT))))) (.w 3 Zjk Zb))) (.w 3 Zd Zb))
abbrev Zhr:T:=.w 3 Zf Zg
abbrev Zhs:T:=.w 3 Zf ZT
abbrev Zjm:T:=.w 21 Zd (.u 2 0 (.w 4 Zbs (.w 4 (.mk (.i .u32) (.u 5 2 (.w 0 (.w 3 Zd Zb) (.w 3 Zf Zb)))) .z)))
abbrev Zjn:Y:=qIP 140737488355328 140737488355328
abbrev Zel:Y:=.l 140737488355328 Zd3
abbrev Zjo:Y:=.g (.ec (.i .i64) (.ec Zbe (.ec Zbe (.ec (.l 140737488355328 Zjn) (.ec (.i .i64) (.ec (.i .i64) (.ec (.i .i64) (.ec (.i .i64) (.ec (.i .i64) (.ec (.l 140737488355328 (qaS 140737488355328 140737488355328)) (.ec (.l 140737488355328 (.nm 140737488355328)) (.ec Zel .e0))))))))))))
abbrev Zaa:F:=.le Za Zc
abbrev Zjp:F:=.le Zd (.w 0 Zc (.i 140737488355330))
abbrev Zht:T:=.w 11 Zd Zc
abbrev Zcr:T:=.u 0 0 ZcG
abbrev Z5:Nat×R.RV:=(3,Zd4)
abbrev Zjq:Y:=qlB 140737488355328 140737488355328
abbrev ZdC:Nat×R.RV:=(3,.o (.sl 1 1 Za Zc Zb false))
abbrev Zhu:qu:=.box [Zd5,ZgZ,.c (.i .i64) ZaR,.c (.i .i64) ZbN,ZgR,ZgS,ZgT,.c .l Zdp,.c .l ZcF] false
abbrev ZfN:Y:=.l 100000 (.i .i64)
abbrev Zem:T:=.u 0 0 ZcF
abbrev ZdD:F:=.nle Zb ZQ
abbrev Zjr:R.RV:=.o (.sl 2 1 Za Zd Zf false)
abbrev Zen:qu:=.dat 1 Zt false
abbrev ZdE:F:=.nle Zak Zcg
abbrev Zbj:T:=.u 0 0 ZaW
abbrev Zeo:T:=.i 8192
abbrev Zhv:qu:=.box [Zd5,.c .l Zbb,Zff,.c .l ZbN,ZgR,ZgS,ZgT,ZgU,ZgV,.c .l ZaW] false
abbrev Zjs:List Y:=[qea,.i .i64,.i .i64,.i .i64,ZfN]
abbrev Zc1:T:=.u 0 0 ZbN
abbrev Zhw:F:=.nle ZL ZQ
abbrev ZdF:F:=.le Zd ZQ
abbrev Zep:T:=.u 0 0 Zbb
abbrev Zhx:T:=.w 4 (.mk (.i .i64) ZG) .z
abbrev Zhy:T:=.w 8 (.i 7) (.u 0 0 Zhx)
abbrev Zeq:T:=.w 4 (.mk (.i .i64) Zc1) .z
abbrev ZfO:T:=.u 0 0 Zeq
abbrev Zhz:T:=.mk (.i .i64) Zdn
abbrev ZhA:T:=.mk (.i .i64) Zdo
abbrev ZhB:T:=.mk (.i .i64) ZcE
abbrev Zjt:T:=.w 4 Zba (.w 4 Zhz (.w 4 ZhA (.w 4 ZhB (.w 4 Zbp (.w 4 Zbq (.w 4 (.mk (.i .i64) Zep) .z))))))
abbrev Zju:T:=.w 6 Zhy (.w 7 Za (.w 5 Zjt Zhx))
abbrev Zjv:T:=.w 8 (.w 8 Zhy ZG) ZfO
abbrev ZhC:T:=.w 8 (.w 8 (.i 7) Zep) (.u 0 0 Zhx)
abbrev Zjw:T:=.w 6 ZhC (.w 7 Za (.w 5 (.w 6 (.w 8 (.i 7) Zep) (.w 7 Za (.w 5 Zjt Zbb))) Zhx))
abbrev Zjx:T:=.w 8 (.w 8 ZhC ZG) ZfO
abbrev Zjy:T:=.w 4 (.mk (.i .i64) (.u 1 0 (.w 3 ZbN Zd))) (.w 4 (.mk (.i .i64) (.u 1 1 (.w 3 ZbN Zd))) .z)
abbrev ZaI:T:=.w 0 Zd Zg
abbrev Zc2:T:=.w 6 Zc (.w 7 Za Zf)
abbrev Zjz:T:=.w 4 (.mk (.i .i64) Zbj) .z
abbrev ZfP:T:=.w 3 ZaW Zd
abbrev ZfQ:T:=.u 0 0 (.u 1 3 ZfP)
abbrev ZjA:T:=.w 4 (.mk (.i .i64) (.u 1 0 ZfP)) (.w 4 (.mk (.i .i64) (.u 1 1 ZfP)) (.w 4 (.mk (.i .i64) (.u 1 2 ZfP)) (.w 4 (.mk (.i .i64) ZfQ) .z)))
abbrev ZfR:T:=.w 8 Zc (.u 0 0 ZjA)
abbrev ZjB:T:=.w 6 (.u 0 0 (.u 3 188 (.w 4 .z .z))) (.w 7 Za (.u 3 188 (.w 4 .z .z)))
abbrev ZjC:T:=.w 6 (.u 0 0 (.u 3 51 Zfw)) (.w 7 Za (.u 3 51 Zfw))
abbrev ZfS:T:=.w 3 ZaW Zj
abbrev ZhD:T:=.u 0 0 (.u 1 3 ZfS)
abbrev ZjD:T:=.w 4 (.mk (.i .i64) (.u 1 0 ZfS)) (.w 4 (.mk (.i .i64) (.u 1 1 ZfS)) (.w 4 (.mk (.i .i64) (.u 1 2 ZfS)) (.w 4 (.mk (.i .i64) ZhD) .z)))
abbrev ZfT:T:=.w 8 Zc (.u 0 0 ZjD)
abbrev ZjE:T:=.w 5 (.w 6 Zc (.w 7 Za Zt)) ZjD
abbrev ZjF:T:=.u 3 188 (.w 4 (.mk .l Zh) .z)
abbrev ZjG:T:=.w 6 (.u 0 0 ZjF) (.w 7 Za ZjF)
abbrev ZjH:T:=.u 3 51 (.w 4 (.mk .l Zt) .z)
abbrev ZjI:T:=.w 6 (.u 0 0 ZjH) (.w 7 Za ZjH)
abbrev ZhE:Y:=.l 300 (qaS 300 300)
abbrev ZhF:Y:=.l 300 (.nm 300)
abbrev ZdG:Y:=.l 300 ZcC
abbrev ZhG:Y:=.g (.ec (.i .i64) (.ec Za8 (.ec Za8 (.ec (.l 300 Zjn) (.ec (.i .i64) (.ec (.i .i64) (.ec (.i .i64) (.ec (.i .i64) (.ec (.i .i64) (.ec ZhE (.ec ZhF (.ec ZdG .e0))))))))))))
abbrev Za5:T:=.w 3 Za9 Zc
abbrev ZjJ:T:=.u 2 0 (.w 4 (.mk (.i .i64) (.u 1 0 Za5)) (.w 4 (.mk .l (.u 1 1 Za5)) (.w 4 (.mk .l (.u 1 2 Za5)) (.w 4 (.mk .l (.u 1 3 Za5)) (.w 4 (.mk (.i .i64) (.u 1 4 Za5)) (.w 4 (.mk (.i .i64) (.u 1 5 Za5)) (.w 4 (.mk (.i .i64) (.u 1 6 Za5)) (.w 4 (.mk (.i .i64) (.u 1 7 Za5)) (.w 4 (.mk (.i .i64) (.u 1 8 Za5)) (.w 4 (.mk .l (.u 1 9 Za5)) (.w 4 (.mk .l (.u 1 10 Za5)) (.w 4 (.mk .l (.u 1 11 Za5)) .z))))))))))))
abbrev ZjK:T:=.u 0 0 (.u 3 94 (.w 4 ZjJ .z))
abbrev Zbv:T:=.w 0 Zc Zg
abbrev Za6:T:=.w 3 Za9 Zd
abbrev ZjL:T:=.u 2 0 (.w 4 (.mk (.i .i64) (.u 1 0 Za6)) (.w 4 (.mk .l (.u 1 1 Za6)) (.w 4 (.mk .l (.u 1 2 Za6)) (.w 4 (.mk .l (.u 1 3 Za6)) (.w 4 (.mk (.i .i64) (.u 1 4 Za6)) (.w 4 (.mk (.i .i64) (.u 1 5 Za6)) (.w 4 (.mk (.i .i64) (.u 1 6 Za6)) (.w 4 (.mk (.i .i64) (.u 1 7 Za6)) (.w 4 (.mk (.i .i64) (.u 1 8 Za6)) (.w 4 (.mk .l (.u 1 9 Za6)) (.w 4 (.mk .l (.u 1 10 Za6)) (.w 4 (.mk .l (.u 1 11 Za6)) .z))))))))))))
abbrev ZjM:T:=.u 0 0 (.u 3 94 (.w 4 ZjL .z))
abbrev ZjN:List F:=[.eqD Zc Ziz,.le Zi Zdq,.le Zdq Zi]
abbrev Zer:T:=.w 14 Zb Za
abbrev Zc3:T:=.u 1 7 Zc
abbrev ZdH:T:=.u 1 6 Zc
abbrev Zbk:T:=.u 1 0 Zc
abbrev Zes:T:=.mk (.i .i64) Zbk
abbrev Zet:T:=.u 1 1 Zc
abbrev ZfU:T:=.mk (.i .i64) Zet
abbrev ZfV:T:=.u 1 2 Zc
abbrev ZdI:T:=.u 1 3 Zc
abbrev ZhH:T:=.mk (.i .i64) ZdI
abbrev Zeu:T:=.u 1 4 Zc
abbrev Zev:T:=.u 1 5 Zc
abbrev Zew:T:=.u 1 8 Zc
abbrev ZjO:T:=.u 2 0 (.w 4 Zes (.w 4 ZfU (.w 4 (.mk (.i .i64) ZfV) (.w 4 ZhH (.w 4 (.mk (.i .i64) Zeu) (.w 4 (.mk (.i .i64) Zev) (.w 4 (.mk (.i .i64) ZdH) (.w 4 (.mk .l Zc3) (.w 4 (.mk .l Zew) .z)))))))))
abbrev ZhI:T:=.u 3 1000212 (.w 4 ZS (.w 4 ZjO .z))
abbrev ZhJ:Y:=qlC 140737488355328 140737488355328
abbrev ZjP:F:=.pre ZaW Zc (qaS 300 300)
abbrev ZjQ:F:=.bool (.w 12 Zep (.i 40)) false
abbrev ZjR:F:=.bool (.w 12 ZG (.i 40)) false
abbrev ZjS:F:=.bool (.w 12 Zc1 (.i 20)) false
abbrev ZjT:F:=.bool (.w 12 Zbj (.i 20)) false
abbrev ZjU:T:=.u 0 0 (.u 1 3 (.w 3 ZaW Zc))
abbrev ZjV:Y:=qdj 140737488355328 140737488355328
abbrev ZhK:T:=.u 2 0 (.w 4 Zba (.w 4 (.mk .l Zbb) (.w 4 Zbc (.w 4 (.mk .l ZbN) (.w 4 Zhz (.w 4 ZhA (.w 4 ZhB (.w 4 Zbp (.w 4 Zbq (.w 4 (.mk .l ZaW) .z))))))))))
abbrev ZdJ:Y:=qxS 140737488355328 140737488355328
abbrev Zc4:T:=.u 0 0 Z6
abbrev ZhL:Y:=qK 140737488355328 140737488355328
abbrev ZhM:qu:=.box [Zd5,ZgZ,Zff,.c (.i .i64) ZbN,.c .l Zdn,.c .l Zdo,.c .l ZcE,ZgU,ZgV,.c (.i .i64) ZaW,.c (.i .i64) Za9,.c (.i .i64) ZcG,.c .l (.u 1 12 Ze),.c .l (.u 1 13 Ze),.c .l (.u 1 14 Ze),.c .l (.u 1 15 Ze),.c .l Zbd] false
abbrev ZjW:F:=.pre ZaR Zb (qlB 300 300)
abbrev Zex:T:=.w 3 ZaR Zb
abbrev ZhN:Nat×R.RV:=(1,.o (.c .s Zc))
abbrev Za7:T:=.w 3 Ze Za
abbrev Zc5:T:=.u 0 0 Za7
abbrev ZdK:F:=.rows 0 Ze Zu Zc5
abbrev ZfW:F:=.bool Zc true
abbrev Zey:List (Nat×R.RV):=[ZJ,(3,ZcU)]
abbrev ZjX:Y:=qff 140737488355328 140737488355328
abbrev ZhO:T:=.w 13 Zb (.i 12)
abbrev ZjY:T:=.w 4 (.mk .l (.u 1 7 ZaZ)) .z
abbrev ZhP:T:=.mk (.i .i64) Z4
abbrev ZhQ:T:=.w 100 (.w 0 Zi Zg) ZT
abbrev ZjZ:T:=.w 4 (.mk .l (.w 6 (.w 9 ZhQ Za) (.w 7 Za Zc))) (.w 4 (.mk .l (.w 6 (.w 9 Zi ZhQ) (.w 7 ZhQ Zc))) .z)
abbrev ZfX:T:=.w 4 ZhP .z
abbrev Zj0:T:=.w 4 (.mk .l (.u 1 7 (.w 3 Zc Zj))) .z
abbrev ZhR:T:=.w 6 Zd (.w 7 Za Zt)
abbrev Zj1:T:=.u 3 142 (.w 4 Zad (.w 4 ZhR ZfX))
abbrev ZfY:T:=.w 3 Zt Za
abbrev Zj2:T:=.w 4 (.mk .l (.w 3 Zj (.w 8 Za ZfY))) .z
abbrev Zj3:T:=.w 4 (.mk .l (.w 3 Z9 (.w 8 Za (.w 3 Zaj Zh)))) .z
abbrev Zez:List T:=[Ze,Zc,Zb,Zd,Zf,Zj,Zt,Z9,Zbu]
abbrev Zcs:Y:=qgz 301 301
abbrev Zc6:F:=.le Za Zi
abbrev ZfZ:R1:=.c .l Zt
abbrev Zy:F:=.lt Zb (.i 12)
abbrev Zz:F:=.nle Zi Zak
abbrev ZN:qu:=.dat 1 Z9 true
abbrev ZhS:R1:=.c (.i .i64) Zac
abbrev ZO:F:=.nle Zak ZbU
abbrev Z8:T:=.u 4 0 Za
abbrev ZbZ:Nat×R.RV:=(11,.o Zi9)
abbrev Zj4:Nat×R.RV:=(13,.o (.sl 3 1 Za Zg Zg true))
abbrev ZeA:qu:=.dat 1 Zh true
abbrev ZeB:List Y:=[Zw,Zv,.i .i64,.i .i64,.i .i64,.i .i64,.i .i64,Z1,Z1]
abbrev ZF:F:=.nle ZT ZU
abbrev ZV:F:=.rows 940 .z ZcT Zae
abbrev Zf0:F:=.le Z8 Za
abbrev Zf1:F:=.le Za Z8
abbrev Zj5:Nat×R.RV:=(13,.o (.sl 3 1 Za ZT ZT true))
abbrev Zf2:F:=.nle ZU (.u 4 0 ZT)
abbrev Zf3:F:=.nle (.u 4 0 ZT) ZU
abbrev ZeC:T:=.w 0 Z8 Z8
abbrev Zf4:Nat×R.RV:=(14,.o Zg0)
abbrev ZW:R1:=.sl 4 9 Za Zac Zbu false
abbrev Zao:T:=.v 12
abbrev Zbw:qu:=.dat 9 Zao false
abbrev Zbx:List Y:=[Zw,Zv,.i .i64,.i .i64,.i .i64,.i .i64,.i .i64,.i .i64,Z1,Z1,.i .i64,.i .i64,Zv]
abbrev ZX:F:=.le Zh Zi
abbrev ZY:F:=.nle ZU Za0
abbrev ZeD:T:=.u 0 0 Zao
abbrev Zby:F:=.rows 940 Zao ZeD Zae
abbrev Zbz:F:=.nle Zac ZeD
abbrev ZbA:F:=.nle ZeD Zac
abbrev ZZ:F:=.nle Zbu Zac
abbrev Z0:F:=.nle Zg Zac
abbrev Zc7:T:=.u 4 0 Zac
abbrev ZaJ:F:=.le Zc7 Zh
abbrev Zf5:F:=.le Zh Zc7
abbrev Zj6:Nat×R.RV:=(13,.o (.sl 3 1 Za Zai Zai true))
abbrev Zct:F:=.nle ZU (.u 4 0 Zai)
abbrev Zcu:F:=.nle (.u 4 0 Zai) ZU
abbrev ZeE:T:=.w 0 ZeC Z8
abbrev Zj7:Nat×R.RV:=(13,.o (.sl 3 1 Za Z4 Z4 true))
abbrev Zap:F:=.nle ZU (.u 4 0 Z4)
abbrev Zaq:F:=.nle (.u 4 0 Z4) ZU
abbrev ZhT:List (Nat×R.RV):=[Zs,Z5,ZaF,ZbZ,Zj5,Zf4]
abbrev Zf6:T:=.w 0 Zc7 Z8
abbrev Zc8:F:=.le Zf6 Zh
abbrev Zbl:F:=.le Z8 Zh
abbrev Zf7:T:=.w 0 Z8 Zc7
abbrev Zc9:F:=.le Zf7 Zh
abbrev Zda:List (Nat×R.RV):=[Zs,Z5,ZaF,ZbZ,Zj6,Zf4]
abbrev Zf8:T:=.w 0 Zf6 Z8
abbrev Zf9:T:=.w 0 Zf7 Z8
abbrev Zga:F:=.le ZeC Zh
abbrev Zgb:T:=.w 0 ZeC Zc7
abbrev ZaK:List (Nat×R.RV):=[Zs,Z5,ZaF,ZbZ,Zj7,Zf4]
abbrev Zb0:T:=.v 13
abbrev Zar:R1:=.sl 5 9 Za Zao Zb0 false
abbrev Zbm:T:=.v 14
abbrev ZbB:qu:=.dat 9 Zbm false
abbrev ZbC:qu:=.dat 9 (.v 15) false
abbrev ZbD:List Y:=[Zw,Zv,.i .i64,.i .i64,.i .i64,.i .i64,.i .i64,.i .i64,Z1,Z1,.i .i64,.i .i64,.i .i64,.i .i64,Zv,Zv]
abbrev ZbE:F:=.rows 940 Zbm (.u 0 0 Zbm) Zae
abbrev ZbF:F:=.nle Zac (.u 0 0 Zbm)
abbrev ZbG:F:=.nle (.u 0 0 Zbm) Zac
abbrev ZhU:T:=.u 0 0 (.v 15)
abbrev ZbH:F:=.rows 940 (.v 15) ZhU Zae
abbrev ZbI:F:=.nle Zao ZhU
abbrev ZbJ:F:=.nle ZhU Zao
abbrev Zas:F:=.nle Zb0 Zao
abbrev Zat:F:=.nle Zg Zao
abbrev ZdL:T:=.u 4 0 Zao
abbrev Zgc:T:=.w 0 Zc7 ZdL
abbrev Zdb:F:=.le Zgc Zh
abbrev Zgd:T:=.w 0 Zgc Z8
abbrev Zge:T:=.w 0 Zf6 ZdL
abbrev Zgf:T:=.w 0 Zf7 ZdL
abbrev ZdM:R1:=.sl 6 9 Za Zbm (.v 15) false
abbrev Zb1:T:=.v 16
abbrev ZeF:qu:=.dat 9 Zb1 false
abbrev ZeG:qu:=.dat 9 (.v 17) false
abbrev ZdN:qu:=.dat 9 (.v 18) false
abbrev ZeH:List Y:=[Zw,Zv,.i .i64,.i .i64,.i .i64,.i .i64,.i .i64,.i .i64,Z1,Z1,.i .i64,.i .i64,.i .i64,.i .i64,.i .i64,.i .i64,Zv,Zv,Zv]
abbrev ZeI:F:=.rows 940 Zb1 (.u 0 0 Zb1) Zae
abbrev ZeJ:F:=.nle Zac (.u 0 0 Zb1)
abbrev ZeK:F:=.nle (.u 0 0 Zb1) Zac
abbrev ZhV:T:=.u 0 0 (.v 17)
abbrev ZeL:F:=.rows 940 (.v 17) ZhV Zae
abbrev ZeM:F:=.nle Zao ZhV
abbrev ZeN:F:=.nle ZhV Zao
abbrev ZeO:T:=.u 0 0 (.v 18)
abbrev ZdO:F:=.rows 940 (.v 18) ZeO Zae
abbrev ZeP:F:=.nle Zbm ZeO
abbrev ZeQ:F:=.nle ZeO Zbm
abbrev ZdP:F:=.nle (.v 15) Zbm
abbrev ZdQ:F:=.nle Zg Zbm
abbrev Zgg:T:=.u 4 0 Zbm
abbrev Zgh:T:=.w 0 Zgc Zgg
abbrev ZhW:T:=.u 0 0 (.v 19)
abbrev ZhX:T:=.u 0 0 (.v 20)
abbrev ZhY:T:=.u 0 0 (.v 21)
abbrev Zgi:Y:=.l 140737488355328 Zcp
abbrev Zdc:T:=.w 14 (.u 1 12 Zb) Za
abbrev Zgj:F:=.le ZG (.u 0 0 (.u 1 9 Zb))
abbrev Zgk:F:=.le (.u 0 0 (.u 1 9 Zb)) ZG
abbrev Zcv:T:=.u 1 0 Zb
abbrev ZeR:T:=.u 12 1 Zc
abbrev Zj8:F:=.le (.u 11 3 (.u 1 9 Zb)) Zcv
abbrev ZeS:T:=.u 0 0 (.u 1 3 ZaZ)
abbrev Zgl:F:=.rows 912 Zc Zi ZeS
abbrev ZeT:T:=.u 0 0 (.u 1 3 Zb)
abbrev ZhZ:Y:=.l 301 (.s 1000000000)
abbrev Zb2:Y:=.l 1099511627776 .y8
abbrev Zgm:T:=.w 4 (.mk (.i .u8) (.u 5 1 Ze)) .z
abbrev Zgn:F:=.le Zb Zi
abbrev Zh0:Nat×R.RV:=(5,.o (.sl 0 1 Za Zb Zd false))
abbrev Zdd:T:=.u 4 0 Zb
abbrev Zj9:T:=.u 3 191 (.w 4 (.mk .s ZaH) .z)
abbrev Zbn:T:=.w 3 Zc Zf
abbrev Zka:T:=.u 3 191 (.w 4 (.mk .s Zbn) .z)
abbrev ZeU:T:=.w 0 Zf Zg
abbrev Zgo:T:=.w 6 Zb (.w 7 Za Zj)
abbrev Zau:Y:=.l 8 (qbF 301 301)
abbrev Zh1:F:=.nle (.w 8 Za Zb) Zan
abbrev ZeV:F:=.nle Zd Zb
abbrev Zcw:Y:=qlC 301 301
abbrev Zde:T:=.u 1 9 Zc
abbrev ZeW:T:=.u 0 0 Zde
abbrev Zh2:List Y:=[qIQ 301 301]
abbrev ZaL:T:=.w 14 (.u 1 10 Zd) Za
abbrev ZdR:T:=.w 0 Zbk Zcv
abbrev Zbo:T:=.u 0 0 ZdI
abbrev Zkb:qu:=.box [.c (.i .i64) Zbk,.c .l Zet,.c .l ZfV,.c .l ZdI,.c (.i .i64) Zeu,.c (.i .i64) Zev,.c (.i .i64) ZdH,.c (.i .i64) Zc3,.c (.i .i64) Zew,.c .l Zde] false
abbrev Zh3:R1:=.c (.i .i64) Zcv
abbrev ZaT:R1:=.c (.i .i64) (.u 1 4 Zb)
abbrev Zcx:R1:=.c (.i .i64) (.u 1 5 Zb)
abbrev ZaU:R1:=.c (.i .i64) (.u 1 6 Zb)
abbrev ZeX:T:=.u 1 7 Zb
abbrev Zkc:R1:=.c (.i .i64) (.u 1 8 Zb)
abbrev Zkd:qu:=.box [Zh3,.c .l (.u 1 1 Zb),.c .l (.u 1 2 Zb),.c .l (.u 1 3 Zb),ZaT,Zcx,ZaU,.c (.i .i64) ZeX,Zkc,.c .l (.u 1 9 Zb)] false
abbrev ZeY:qu:=.box [Zp,.nil,.nil,.nil,Zp,Zp,Zp,Zp,Zp,.nil,Zp] false
abbrev Zke:R1:=.c (.i .i64) (.w 27 Zeu (.u 1 4 Zb))
abbrev Zkf:R1:=.c (.i .i64) (.w 26 Zev (.u 1 5 Zb))
abbrev Zkg:R1:=.c (.i .i64) (.w 26 ZdH (.u 1 6 Zb))
abbrev Zkh:R1:=.c (.i .i64) (.w 27 Zc3 ZeX)
abbrev Zki:R1:=.c (.i .i64) (.w 26 Zew (.u 1 8 Zb))
abbrev Zkj:F:=.bool (.w 12 ZdR ZaY) false
abbrev Zgp:Y:=qaS 301 301
abbrev ZeZ:Y:=.l 301 Zgp
abbrev Zgq:Y:=.l 301 Zcw
abbrev Zdf:T:=.u 1 10 Zb
abbrev ZdS:T:=.w 14 Zdf Za
abbrev ZdT:T:=.w 14 Zb0 Za
abbrev Zkk:List F:=[.le Ze9 ZbM,.le Zdq Z7,.pre Zbd Z7 ZcD]
abbrev Zh4:T:=.u 0 0 (.u 1 16 Zf)
abbrev Zkl:T:=.w 4 ZcI (.w 4 Zag (.w 4 Zbs .z))
abbrev Zgr:T:=.u 3 9 Zkl
abbrev Zkm:T:=.w 4 (.mk (.i .i64) (.i 5)) .z
abbrev Zh5:T:=.u 3 39 (.w 4 ZcI .z)
abbrev Zh6:List (Nat×List T):=[(9,[ZcI,Zag,Zbs]),(39,[ZcI])]
abbrev Zkn:T:=.w 4 (.mk (.i .i64) (.i 9)) .z
abbrev Zko:T:=.u 2 0 (.w 4 (.mk (.i .i64) (.w 8 Za Zgr)) Zeh)
abbrev Zh7:T:=.u 0 0 (.u 1 16 (.u 1 0 Zf))
abbrev Zh8:T:=.u 1 0 (.u 3 8 Zkl)
abbrev Zb3:T:=.w 3 (.u 3 22 (.w 4 ZcI .z)) Zh8
abbrev Zkp:T:=.u 2 0 (.w 4 (.mk (.i .i64) (.u 1 0 Zb3)) (.w 4 (.mk (.i .i64) (.u 1 1 Zb3)) (.w 4 (.mk (.i .i64) (.u 1 2 Zb3)) (.w 4 (.mk (.i .i64) (.u 1 3 Zb3)) (.w 4 (.mk (.i .i64) (.u 1 4 Zb3)) (.w 4 (.mk (.i .i64) (.u 1 5 Zb3)) (.w 4 (.mk (.i .i64) (.u 1 6 Zb3)) (.w 4 (.mk .l (.u 1 7 Zb3)) (.w 4 (.mk .l (.u 1 8 Zb3)) .z)))))))))
abbrev Zkq:T:=.mk .l (.w 4 ZaG (.w 4 Zag .z))
abbrev Zkr:T:=.w 4 (.mk .s (.u 16 0 (.w 6 (.u 0 0 (.u 3 51 (.w 4 Zkq .z))) (.w 7 Za (.u 3 51 (.w 4 Zkq .z)))))) .z
abbrev Zav:T:=.u 3 50 (.w 4 (.mk (.i .i64) (.i 291)) (.w 4 Zkr .z))
abbrev Zgs:F:=.le Zd Zu
abbrev Zks:F:=.nle (.w 0 Za ZQ) ZL
abbrev Zh9:T:=.w 1 Zu Zd
abbrev Zkt:T:=.mk (.i .i64) (.w 3 Zbd Za)
abbrev Zaw:T:=.u 3 17 (.w 4 ZE (.w 4 Zkt .z))
abbrev Zku:T:=.w 4 (.u 2 0 (.w 4 (.mk (.i .u8) (.u 1 0 Zaw)) (.w 4 (.mk (.i .u8) (.u 1 1 Zaw)) (.w 4 (.mk (.i .u8) (.u 1 2 Zaw)) (.w 4 (.mk (.i .u8) (.u 1 3 Zaw)) (.w 4 (.mk (.i .u8) (.u 1 4 Zaw)) (.w 4 (.mk (.i .u8) (.u 1 5 Zaw)) (.w 4 (.mk (.i .u8) (.u 1 6 Zaw)) (.w 4 (.mk (.i .u8) (.u 1 7 Zaw)) (.w 4 (.mk (.i .u8) (.u 1 8 Zaw)) (.w 4 (.mk (.i .u8) (.u 1 9 Zaw)) (.w 4 (.mk (.i .u8) (.u 1 10 Zaw)) (.w 4 (.mk (.i .u8) (.u 1 11 Zaw)) (.w 4 (.mk (.i .u8) (.u 1 12 Zaw)) (.w 4 (.mk (.i .u8) (.u 1 13 Zaw)) (.w 4 (.mk (.i .u8) (.u 1 14 Zaw)) (.w 4 (.mk (.i .u8) (.u 1 15 Zaw)) .z))))))))))))))))) .z
abbrev Zkv:T:=.mk (.i .i64) (.w 3 Zbd Zd)
abbrev Zax:T:=.u 3 17 (.w 4 Zeg (.w 4 Zkv .z))
abbrev Zkw:T:=.w 4 (.u 2 0 (.w 4 (.mk (.i .u8) (.u 1 0 Zax)) (.w 4 (.mk (.i .u8) (.u 1 1 Zax)) (.w 4 (.mk (.i .u8) (.u 1 2 Zax)) (.w 4 (.mk (.i .u8) (.u 1 3 Zax)) (.w 4 (.mk (.i .u8) (.u 1 4 Zax)) (.w 4 (.mk (.i .u8) (.u 1 5 Zax)) (.w 4 (.mk (.i .u8) (.u 1 6 Zax)) (.w 4 (.mk (.i .u8) (.u 1 7 Zax)) (.w 4 (.mk (.i .u8) (.u 1 8 Zax)) (.w 4 (.mk (.i .u8) (.u 1 9 Zax)) (.w 4 (.mk (.i .u8) (.u 1 10 Zax)) (.w 4 (.mk (.i .u8) (.u 1 11 Zax)) (.w 4 (.mk (.i .u8) (.u 1 12 Zax)) (.w 4 (.mk (.i .u8) (.u 1 13 Zax)) (.w 4 (.mk (.i .u8) (.u 1 14 Zax)) (.w 4 (.mk (.i .u8) (.u 1 15 Zax)) .z))))))))))))))))) .z
abbrev ZA:T:=.mk (.i .u8) Za
abbrev Zia:T:=.w 4 ZA (.w 4 ZA (.w 4 ZA (.w 4 ZA (.w 4 ZA (.w 4 ZA (.w 4 ZA (.w 4 ZA (.w 4 ZA (.w 4 ZA (.w 4 ZA (.w 4 ZA (.w 4 ZA (.w 4 ZA (.w 4 ZA (.w 4 ZA .z)))))))))))))))
abbrev Zkx:T:=.mk (.i .i64) (.w 3 Zbd Zc)
abbrev Zay:T:=.u 3 16 (.w 4 Zag (.w 4 Zkx .z))
abbrev ZaV:T:=.mk .b (.t false)
abbrev ZdU:T:=.mk (.i .u32) Ze
abbrev Zky:T:=.mk (.i .i64) (.u 5 0 (.u 9 0 Zc))
abbrev Zkz:T:=.mk (.i .i64) (.u 5 0 (.u 9 0 Zb))
abbrev ZkA:T:=.mk (.i .i64) (.u 5 0 (.u 9 0 Zd))
abbrev ZkB:List Y:=[qIO 140737488355328 140737488355328]
abbrev ZkC:T:=.u 3 222 (.w 4 ZaG (.w 4 Zhk (.w 4 ZcS .z)))
abbrev Ze0:F:=.nle Zi Zaf
abbrev ZkD:T:=.u 2 0 (.w 4 ZE (.w 4 ZE ZiN))
abbrev Zib:T:=.u 3 217 (.w 4 ZaG (.w 4 Zae (.w 4 ZcS .z)))
abbrev Zic:T:=.w 8 Za Za
abbrev ZkE:T:=.w 4 (.mk .s (.u 16 0 (.w 6 (.w 9 ZaE Za) (.w 7 Zic (.w 4 (.mk (.i .u8) Z6) (.w 4 (.mk (.i .u8) Zbb) (.w 4 (.mk (.i .u8) ZaR) (.w 4 (.mk (.i .u8) ZbN) (.w 4 (.mk (.i .u8) Zdn) (.w 4 (.mk (.i .u8) Zdo) (.w 4 (.mk (.i .u8) ZcE) (.w 4 (.mk (.i .u8) Zdp) (.w 4 (.mk (.i .u8) ZcF) (.w 4 (.mk (.i .u8) ZaW) (.w 4 (.mk (.i .u8) Za9) (.w 4 (.mk (.i .u8) ZcG) (.w 4 (.mk (.i .u8) (.u 1 12 Ze)) (.w 4 (.mk (.i .u8) (.u 1 13 Ze)) (.w 4 (.mk (.i .u8) (.u 1 14 Ze)) (.w 4 (.mk (.i .u8) (.u 1 15 Ze)) .z)))))))))))))))))))) (.w 4 (.mk .s (.u 16 0 (.w 6 (.w 9 ZaE Za) (.w 7 Zic (.w 4 (.mk (.i .u8) Zbk) (.w 4 (.mk (.i .u8) Zet) (.w 4 (.mk (.i .u8) ZfV) (.w 4 (.mk (.i .u8) ZdI) (.w 4 (.mk (.i .u8) Zeu) (.w 4 (.mk (.i .u8) Zev) (.w 4 (.mk (.i .u8) ZdH) (.w 4 (.mk (.i .u8) Zc3) (.w 4 (.mk (.i .u8) Zew) (.w 4 (.mk (.i .u8) Zde) (.w 4 (.mk (.i .u8) (.u 1 10 Zc)) (.w 4 (.mk (.i .u8) (.u 1 11 Zc)) (.w 4 (.mk (.i .u8) (.u 1 12 Zc)) (.w 4 (.mk (.i .u8) (.u 1 13 Zc)) (.w 4 (.mk (.i .u8) (.u 1 14 Zc)) (.w 4 (.mk (.i .u8) (.u 1 15 Zc)) .z)))))))))))))))))))) .z)
abbrev Zaz:T:=.u 3 50 (.w 4 (.mk (.i .i64) (.i 31)) (.w 4 ZkE .z))
abbrev ZkF:F:=.ifF (.rows 2 Zc Zi Zg) (.le Zb Za)
abbrev ZkG:T:=.mk .l (.u 3 109 (.w 4 ZaG Zd8))
abbrev ZaA:T:=.u 3 108 (.w 4 ZkG .z)
abbrev Zgt:qu:=.box [.nil,.nil,.c .b (.t false),Zp] false
abbrev Zgu:F:=.bool (.w 14 Zu Za) false
abbrev ZkH:F:=.nle (.w 8 Za Zb) Zab
abbrev ZkI:F:=.and ZiD (.and Zfi (.nle Zx ZaY))
abbrev Zid:F:=.rows 0 Zc Zi Z6
abbrev ZdV:Y:=.l 8 Yr
abbrev Zie:F:=.has Zc ZdV
abbrev Zdg:T:=.mk .l Ze
abbrev Zif:T:=.w 10 Za Zu
abbrev ZkJ:Nat×R.RV:=(3,.o (.sl 0 9 Za Zc Zb false))
abbrev ZkK:F:=.bool (.w 12 Za Za) false
abbrev Zcy:Y:=.l 2199023255552 .y8
abbrev Zgv:F:=.le Zi (.w 2 ZR (.w 100 Zi ZR))
abbrev Zig:Nat×R.RV:=(3,.o (.sl 0 1 Za Zc Zb false))
abbrev Zih:T:=.w 0 (.w 2 ZR (.w 100 (.w 0 ZQ (.i 7)) ZR)) (.i 56)
abbrev ZkL:T:=.u 5 3 (.w 2 Zaf (.u 5 3 Zu))
abbrev Zgw:T:=.w 1 ZQ Zd
abbrev ZkM:T:=.w 0 (.w 2 ZR (.w 100 Zgw ZR)) (.i 56)
abbrev Zii:T:=.w 4 (.mk (.i .u8) (.i 128)) .z
abbrev ZkN:T:=.w 8 (.w 8 Za Zu) (.u 0 0 Zii)
abbrev ZkO:T:=.w 8 Zc (.u 0 0 (.w 4 ZA .z))
abbrev ZkP:T:=.w 4 (.mk (.i .u8) (.u 5 1 (.w 133 ZkL (.w 1 (.i 56) (.w 2 Zaf Zd))))) .z
abbrev ZkQ:T:=.w 4 (.u 2 0 (.w 4 (.mk (.i .i64) (.u 1 0 ZaZ)) (.w 4 (.mk (.i .i64) (.u 1 1 ZaZ)) (.w 4 (.mk (.i .i64) (.u 1 2 ZaZ)) (.w 4 (.mk (.i .i64) (.u 1 3 ZaZ)) (.w 4 (.mk (.i .i64) (.u 1 4 ZaZ)) (.w 4 (.mk (.i .i64) (.u 1 5 ZaZ)) (.w 4 (.mk (.i .i64) (.u 1 6 ZaZ)) (.w 4 (.mk .l (.u 1 7 ZaZ)) (.w 4 (.mk .l (.u 1 8 ZaZ)) (.w 4 Zkt .z))))))))))) .z
abbrev ZkR:T:=.w 4 (.u 2 0 (.w 4 (.mk (.i .i64) (.u 1 0 Zbn)) (.w 4 (.mk (.i .i64) (.u 1 1 Zbn)) (.w 4 (.mk (.i .i64) (.u 1 2 Zbn)) (.w 4 (.mk (.i .i64) (.u 1 3 Zbn)) (.w 4 (.mk (.i .i64) (.u 1 4 Zbn)) (.w 4 (.mk (.i .i64) (.u 1 5 Zbn)) (.w 4 (.mk (.i .i64) (.u 1 6 Zbn)) (.w 4 (.mk .l (.u 1 7 Zbn)) (.w 4 (.mk .l (.u 1 8 Zbn)) (.w 4 (.mk (.i .i64) (.w 3 Zbd Zf)) .z))))))))))) .z
abbrev ZkS:T:=.u 2 0 (.w 4 Zba (.w 4 Zad (.w 4 (.mk (.i .i64) ZaR) (.w 4 ZbO (.w 4 Zhz (.w 4 ZhA (.w 4 ZhB (.w 4 (.mk .l Zdp) (.w 4 (.mk .l ZcF) .z)))))))))
abbrev Zij:F:=.and (.le Za Z6) (.le Z6 ZaY)
abbrev Zcz:T:=.mk .l ZfV
abbrev Zik:T:=.mk (.i .i64) Zc3
abbrev Zil:T:=.mk (.i .i64) Zew
abbrev ZkT:T:=.u 2 0 (.w 4 Zes (.w 4 (.mk .l Zet) (.w 4 Zcz (.w 4 (.mk .l ZdI) (.w 4 (.mk (.i .i64) Zeu) (.w 4 (.mk (.i .i64) Zev) (.w 4 (.mk (.i .i64) ZdH) (.w 4 Zik (.w 4 Zil (.w 4 (.mk .l Zde) .z))))))))))
abbrev Zgx:Nat×List T:=(42,[Zbc,Zcz])
abbrev Zim:T:=.mk .l (.u 1 16 Zc)
abbrev ZaB:T:=.u 3 44 (.w 4 ZgM .z)
abbrev ZkU:T:=.mk (.i .i64) (.u 1 10 Zc)
abbrev ZkV:T:=.mk (.i .i64) (.u 1 11 Zc)
abbrev Zgy:T:=.u 2 0 (.w 4 ZhH (.w 4 (.mk .l Zeu) (.w 4 (.mk .l Zev) (.w 4 (.mk .l ZdH) (.w 4 Zik (.w 4 Zil (.w 4 (.mk (.i .i64) Zde) (.w 4 ZkU (.w 4 ZkV (.w 4 (.mk .l (.u 1 12 Zc)) (.w 4 (.mk .l (.u 1 13 Zc)) (.w 4 (.mk .l (.u 1 14 Zc)) .z))))))))))))
abbrev ZaC:T:=.u 3 44 (.w 4 Zgy .z)
abbrev ZkW:T:=.w 4 (.mk (.i .u8) (.u 1 0 ZaC)) (.w 4 (.mk (.i .u8) (.u 1 1 ZaC)) (.w 4 (.mk (.i .u8) (.u 1 2 ZaC)) (.w 4 (.mk (.i .u8) (.u 1 3 ZaC)) (.w 4 (.mk (.i .u8) (.u 1 4 ZaC)) (.w 4 (.mk (.i .u8) (.u 1 5 ZaC)) (.w 4 (.mk (.i .u8) (.u 1 6 ZaC)) (.w 4 (.mk (.i .u8) (.u 1 7 ZaC)) (.w 4 (.mk (.i .u8) (.u 1 8 ZaC)) (.w 4 (.mk (.i .u8) (.u 1 9 ZaC)) (.w 4 (.mk (.i .u8) (.u 1 10 ZaC)) (.w 4 (.mk (.i .u8) (.u 1 11 ZaC)) (.w 4 (.mk (.i .u8) (.u 1 12 ZaC)) (.w 4 (.mk (.i .u8) (.u 1 13 ZaC)) (.w 4 (.mk (.i .u8) (.u 1 14 ZaC)) (.w 4 (.mk (.i .u8) (.u 1 15 ZaC)) .z)))))))))))))))
abbrev Zgz:T:=.u 2 0 (.w 4 (.mk .l (.u 1 15 Zc)) .z)
abbrev ZbK:Nat×R.RV:=(3,ZcM)
abbrev ZkX:qu:=.box [Zl,Zl,Zl,Zl,Zl,Zl,Zl,Zl,Zl,Zl,Zl,Zl,Zl,Zl,Zl,Zl,Zl,Zl,Zl,Zl,Zl,Zl,Zl,Zl,Zl,Zl,Zl,Zl,Zl,Zl,Zl,Zl,Zl,Zl,Zl,Zl,Zl,Zl,Zl,Zl,Zl,Zl,Zl,Zl,Zl,Zl,Zl,Zl,Zl,Zl,Zl,Zl,Zl,Zl,Zl,Zl,Zl,Zl,Zl,Zl,Zl,Zl,Zl,Zl] false
abbrev Zin:List qu:=[ZkX,.arr 64 (.i .u32) Zb false]
abbrev Zio:List Y:=[Zcy,.i .i64,ZfI]
abbrev Zdh:T:=.w 2 Z4 Zc
abbrev Zip:T:=.w 6 (.w 9 (.w 0 Zdh Z4) Zdh) (.w 7 Zdh Ze)
abbrev ZgA:T:=.w 10 Zc ZaE
abbrev Zn:T:=.mk (.i .u32) Za
abbrev ZkY:T:=.w 3 Zb (.w 1 Zc (.i 15))
abbrev ZcA:T:=.mk (.i .u32) ZkY
abbrev ZkZ:T:=.mk (.i .i64) (.i (-7))
abbrev Zk0:T:=.mk (.i .i64) (.i (-18))
abbrev Zk1:T:=.w 3 Zb (.w 1 Zc ZT)
abbrev ZcB:T:=.mk (.i .u32) Zk1
abbrev Zk2:T:=.mk (.i .i64) (.i (-17))
abbrev Zk3:T:=.mk (.i .i64) (.i (-19))
abbrev Zk4:T:=.w 3 Zb (.w 1 Zc ZaE)
abbrev Zk5:T:=.w 3 Zb (.w 1 Zc (.i 7))
abbrev Zk6:T:=.mk .l (.u 1 1 (.w 3 Z6 Zb))
abbrev Zk7:T:=.mk .l (.u 1 1 (.w 3 Zbk Zb))
abbrev ZB:T:=.u 3 190 (.w 4 Zdg .z)
abbrev Zk8:T:=.mk (.i .u8) (.w 3 Zd Za)
abbrev Zk9:T:=.mk (.i .u8) (.w 3 Zd Zg)
abbrev Zla:T:=.mk (.i .u8) (.w 3 Zd ZT)
abbrev Zlb:T:=.mk (.i .u8) (.w 3 Zd Zai)
abbrev Zlc:T:=.mk (.i .u8) (.w 3 Zd Z4)
abbrev Zld:T:=.mk (.i .u8) (.w 3 Zd (.i 5))
abbrev Zle:T:=.mk (.i .u8) (.w 3 Zd (.i 6))
abbrev Zlf:T:=.mk (.i .u8) (.w 3 Zd (.i 7))
abbrev Zlg:T:=.mk (.i .u8) (.w 3 Zd Zaf)
abbrev Zlh:T:=.mk (.i .u8) (.w 3 Zd (.i 9))
abbrev Zli:T:=.mk (.i .u8) (.w 3 Zd Zb5)
abbrev Zlj:T:=.mk (.i .u8) (.w 3 Zd (.i 11))
abbrev Zlk:T:=.mk (.i .u8) (.w 3 Zd (.i 12))
abbrev Zll:T:=.mk (.i .u8) (.w 3 Zd (.i 13))
abbrev Zlm:T:=.mk (.i .u8) (.w 3 Zd (.i 14))
abbrev Zln:T:=.mk (.i .u8) (.w 3 Zd (.i 15))
abbrev ZgB:T:=.u 0 0 ZeX
abbrev Ze1:qu:=.box [Zh3,.c (.i .i64) (.u 1 1 Zb),.c (.i .i64) (.u 1 2 Zb),.c (.i .i64) (.u 1 3 Zb),ZaT,Zcx,ZaU,.c .l ZeX,.c .l (.u 1 8 Zb)] false
abbrev Ze2:qu:=.box [Zp,.nil,.nil,.nil,Zp,Zp,Zp,Zp,Zp,.nil] false
abbrev Ze3:R1:=.c (.i .i64) Zg
abbrev ZgC:T:=.w 8 Za ZgB
abbrev Ze4:R1:=.sl 4 1 Za ZgC ZgC false
abbrev Ze5:R1:=.sl 5 1 Za ZgC ZgC false
abbrev ZbL:qu:=.dat 1 ZeX false
abbrev Zlo:List qu:=[Zq,Ze1,Ze2,.box [Ze3,Ze4,Ze5,.nil,ZaT,ZaT,Zcx,ZaU,ZaU,.nil] false,ZbL,ZbL]
abbrev ZgD:F:=.bool (.w 11 ZgB Za) false
abbrev Zlp:R1:=.sl 6 2 Za Zf Zj false
abbrev Zlq:T:=.w 4 (.u 2 0 (.w 4 (.mk (.i .i64) (.u 1 0 Za7)) (.w 4 (.mk (.i .i64) (.u 1 1 Za7)) (.w 4 (.mk (.i .i64) (.u 1 2 Za7)) (.w 4 (.mk (.i .i64) (.u 1 3 Za7)) (.w 4 (.mk (.i .i64) (.u 1 4 Za7)) (.w 4 (.mk (.i .i64) (.u 1 5 Za7)) (.w 4 (.mk (.i .i64) (.u 1 6 Za7)) (.w 4 (.mk .l (.u 1 7 Za7)) (.w 4 (.mk .l (.u 1 8 Za7)) .z)))))))))) .z
abbrev Zlr:T:=.w 3 Zj (.w 8 Za (.w 1 Zf Zg))
abbrev Zb4:T:=.w 3 Ze Zd
abbrev Zls:T:=.w 6 (.w 9 Zf Za) (.w 7 Zic Zj)
abbrev Ziq:T:=.w 6 (.w 9 Zc Zf) (.w 7 Zfd Zj)
abbrev ZgE:T:=.w 4 (.u 2 0 (.w 4 (.mk (.i .i64) (.u 1 0 Zb4)) (.w 4 (.mk (.i .i64) (.u 1 1 Zb4)) (.w 4 (.mk (.i .i64) (.u 1 2 Zb4)) (.w 4 (.mk (.i .i64) (.u 1 3 Zb4)) (.w 4 (.mk (.i .i64) (.u 1 4 Zb4)) (.w 4 (.mk (.i .i64) (.u 1 5 Zb4)) (.w 4 (.mk (.i .i64) (.u 1 6 Zb4)) (.w 4 (.mk .l (.u 1 7 Zb4)) (.w 4 (.mk .l (.u 1 8 Zb4)) .z)))))))))) .z
abbrev ZgF:T:=.w 8 Za (.u 0 0 ZgE)
abbrev ZgG:T:=.w 8 (.w 8 Za (.u 0 0 Zls)) (.u 0 0 ZgE)
abbrev Zlt:T:=.w 5 (.w 6 (.w 8 Za (.u 0 0 Zls)) (.w 7 Za Zls)) ZgE
abbrev ZgH:Y:=.l 140737488355328 Zbe
abbrev Zlu:T:=.u 2 0 (.w 4 (.mk (.i .i64) (.u 1 0 ZaQ)) (.w 4 (.mk (.i .i64) (.u 1 1 ZaQ)) (.w 4 (.mk (.i .i64) (.u 1 2 ZaQ)) (.w 4 (.mk (.i .i64) (.u 1 3 ZaQ)) (.w 4 (.mk (.i .i64) (.u 1 4 ZaQ)) (.w 4 (.mk (.i .i64) (.u 1 5 ZaQ)) (.w 4 (.mk (.i .i64) (.u 1 6 ZaQ)) (.w 4 (.mk .l (.u 1 7 ZaQ)) (.w 4 (.mk .l (.u 1 8 ZaQ)) .z)))))))))
abbrev Zlv:T:=.u 2 0 (.w 4 (.mk (.i .i64) (.u 1 0 ZaH)) (.w 4 (.mk (.i .i64) (.u 1 1 ZaH)) (.w 4 (.mk (.i .i64) (.u 1 2 ZaH)) (.w 4 (.mk (.i .i64) (.u 1 3 ZaH)) (.w 4 (.mk (.i .i64) (.u 1 4 ZaH)) (.w 4 (.mk (.i .i64) (.u 1 5 ZaH)) (.w 4 (.mk (.i .i64) (.u 1 6 ZaH)) (.w 4 (.mk .l (.u 1 7 ZaH)) (.w 4 (.mk .l (.u 1 8 ZaH)) .z)))))))))
abbrev Zlw:T:=.w 4 (.mk (.i .i64) (.w 1 Za7 ZaZ)) .z
abbrev Zlx:T:=.w 4 (.mk (.i .i64) (.w 1 (.w 3 Ze Zf) Zbn)) .z
abbrev ZgI:qu:=.box [Zr,Zr,Zr,Zr,Zr,Zr,Zr,Zr,Zr,Zr,Zr,Zr,Zr,Zr,Zr,Zr,Zr,Zr,Zr,Zr,Zr,Zr,Zr,Zr,Zr,Zr,Zr,Zr,Zr,Zr,Zr,Zr] false
abbrev Zir:F:=.le Zb (.w 2 ZR (.w 100 Zb ZR))
abbrev Zis:T:=.w 1 (.w 0 Zi ZR) Zb
abbrev Zly:T:=.mk .l (.w 6 (.w 9 (.w 0 Zb ZR) Zb) (.w 7 Zb Zc))
abbrev Zo:T:=.u 3 282 (.w 4 Zly .z)
abbrev Zit:T:=.w 3 Zt Z4
abbrev Zdi:T:=.mk (.i .u32) Zit
abbrev Zdj:T:=.mk (.i .u32) ZfY
abbrev Zlz:T:=.u 5 2 (.w 0 (.u 5 2 (.w 0 (.u 5 2 (.w 0 (.u 5 2 (.w 0 (.w 3 Zt (.i 7)) (.w 162 (.w 162 (.u 3 283 (.w 4 Zdi (.w 4 Zfv .z))) (.u 3 283 (.w 4 Zdi (.w 4 ZfK .z)))) (.u 3 283 (.w 4 Zdi (.w 4 Zhn .z)))))) (.w 162 (.w 142 Zit (.w 3 Zt (.i 5))) (.w 142 (.w 162 Zit (.i 4294967295)) (.w 3 Zt (.i 6)))))) (.w 3 Zjk Zd))) (.w 3 Zj Zd))
abbrev Ziu:T:=.w 3 Zt Zg
abbrev Ziv:T:=.w 3 Zt ZT
abbrev Ziw:T:=.u 0 0 (.u 1 9 Za7)
abbrev Zix:T:=.u 0 0 (.u 1 3 Za7)
abbrev Ziy:T:=.u 0 0 (.u 1 16 Zc)
abbrev ZlA:F:=.imp Zb (.nle Zg Ziy)
abbrev Ze6:T:=.u 2 0 (.w 4 Zes (.w 4 ZfU (.w 4 Zcz (.w 4 ZhH (.w 4 (.mk .l Zeu) (.w 4 (.mk .l Zev) (.w 4 (.mk .l ZdH) (.w 4 Zik (.w 4 Zil (.w 4 (.mk (.i .i64) Zde) (.w 4 ZkU (.w 4 ZkV (.w 4 (.mk .l (.u 1 12 Zc)) (.w 4 (.mk .l (.u 1 13 Zc)) (.w 4 (.mk .l (.u 1 14 Zc)) (.w 4 (.mk .l (.u 1 15 Zc)) (.w 4 Zim .z)))))))))))))))))
abbrev ZlB:F:=.imp Zb (.le (.u 0 0 (.u 3 1000039 (.w 4 Ze6 .z))) Ziy)
abbrev ZgJ:T:=.mk .l (.u 3 39 (.w 4 Ze6 .z))
abbrev ZaM:T:=.u 3 79 (.w 4 ZS (.w 4 Zes (.w 4 ZfU (.w 4 ZgJ .z))))
abbrev ZdW:Nat×List T:=(39,[Ze6])
abbrev ZdX:Nat×List T:=(79,[ZS,Zes,ZfU,ZgJ])
abbrev Ze7:Nat×List T:=(80,[ZgJ,Zim])
abbrev ZgK:Nat×List T:=(42,[Zcz,.mk .l (.u 1 2 ZaM)])
abbrev ZlC:T:=.u 2 0 (.w 4 (.mk .l (.u 1 15 ZaM)) .z)
abbrev ZlD:T:=.u 2 0 (.w 4 (.mk (.i .i64) (.u 1 3 ZaM)) (.w 4 (.mk .l (.u 1 4 ZaM)) (.w 4 (.mk .l (.u 1 5 ZaM)) (.w 4 (.mk .l (.u 1 6 ZaM)) (.w 4 (.mk (.i .i64) (.u 1 7 ZaM)) (.w 4 (.mk (.i .i64) (.u 1 8 ZaM)) (.w 4 (.mk (.i .i64) (.u 1 9 ZaM)) (.w 4 (.mk (.i .i64) (.u 1 10 ZaM)) (.w 4 (.mk (.i .i64) (.u 1 11 ZaM)) (.w 4 (.mk .l (.u 1 12 ZaM)) (.w 4 (.mk .l (.u 1 13 ZaM)) (.w 4 (.mk .l (.u 1 14 ZaM)) .z))))))))))))
abbrev ZaD:T:=.u 3 44 (.w 4 ZlD .z)
abbrev ZdY:Y:=.l 8192 Zdl
abbrev ZgL:T:=.w 0 Zu Zi
end Go.Aev.R29
end
