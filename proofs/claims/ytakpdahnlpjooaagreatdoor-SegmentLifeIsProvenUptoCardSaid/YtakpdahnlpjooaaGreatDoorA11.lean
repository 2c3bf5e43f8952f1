/- Lemmas for the statements of this seat: an abstract machine that the model follows, and contracts of functions. Conditions: none. -/
import Derived.Test.YtakpdahnlpjooaaGreatDoorA10
set_option linter.all false
set_option maxRecDepth 1000000
set_option maxHeartbeats 0
section
namespace Go.Aev.R
open Go Go.Aev
variable [RT]
structure Gam where
 hs:List (T×Y)
 fs:List F
 B:Bs
def lkT (t:T):List (T×Y)→Option Y
 | []=>none|p::r=>match p.1.eq t with
  | true=>some p.2|false=>lkT t r
def Y.nth:Y→Nat→Option Y
 | .ec c _,0=>some c|.ec _ r,n+1=>r.nth n|_,_=>none
def qpG (p q:Bool×T×T):Bool:=bEq p.1 q.1&&(p.2.1.eq q.2.1&&p.2.2.eq q.2.2)
def qd6 (ps qs:List (Bool×T×T)):Bool:=ps.all fun p=>qs.any (qpG p)
def Y.subA (n m:Nat):Y→Y→Bool
 | .i k,.i k'=>IntKind.eq k k'|.b,.b=>true|.s n,.s m=>Nat.ble n m|.l p x,.l q y=>Nat.ble p q&&x.subA n m y|.g x,.g y=>x.subA n m y|.e0,.e0=>true|.ec p x,.ec q y=>p.subA n m q&&x.subA n m y|.nm a,.nm c=>Nat.beq a c||Nat.beq a n&&Nat.beq c m|.rg p q,.rg u w=>leI u p&&leI q w|.rg _ _,.i k=>IntKind.eq .i64 k|.y8,.y8=>true|.y8,.i k=>IntKind.eq .u8 k|.gq x _,.g y=>x.subA n m y|.gq x p,.gq y q=>x.subA n m y&&qd6 q p|_,_=>false
def Y.sub:Y→Y→Bool
 | .i k,.i k'=>IntKind.eq k k'|.b,.b=>true|.s n,.s m=>Nat.ble n m|.l n x,.l m y=>Nat.ble n m&&x.sub y|.g x,.g y=>x.sub y|.e0,.e0=>true|.ec p x,.ec q y=>p.sub q&&x.sub y|.nm n,.nm m=>Nat.beq n m||Y.subA n m (RT.body n) (RT.body m)|.rg p q,.rg u w=>leI u p&&leI q w|.rg _ _,.i k=>IntKind.eq .i64 k|.y8,.y8=>true|.y8,.i k=>IntKind.eq .u8 k|.gq x _,.g y=>x.sub y|.gq x p,.gq y q=>x.sub y&&qd6 q p|_,_=>false
def Y.chainy:Y→Bool
 | .ec _ _=>true|.e0=>true|_=>false
def Y.simple:Y→Bool
 | .i _=>true|.b=>true|.s _=>true|.l _ _=>true|.rg _ _=>true|.y8=>true|_=>false
def qd7:T→Bool→List Lin
 | .w 10 a b,true=>[((lnI b).sub (lnI a)).plus (-1)]|.w 10 a b,false=>[(lnI a).sub (lnI b)]|.w 11 a b,true=>[(lnI b).sub (lnI a)]|.w 11 a b,false=>[((lnI a).sub (lnI b)).plus (-1)]|.w 12 a b,true=>[((lnI a).sub (lnI b)).plus (-1)]|.w 12 a b,false=>[(lnI b).sub (lnI a)]|.w 13 a b,true=>[(lnI a).sub (lnI b)]|.w 13 a b,false=>[((lnI b).sub (lnI a)).plus (-1)]|.w 14 a b,true=>[(lnI a).sub (lnI b),(lnI b).sub (lnI a)]|.w 15 a b,false=>[(lnI a).sub (lnI b),(lnI b).sub (lnI a)]|.u 6 _ x,v=>qd7 x (!v)|_,_=>[]
def qaO:F→List Lin
 | .le a b=>[(lnI b).sub (lnI a)]|.lt a b=>[((lnI b).sub (lnI a)).plus (-1)]|.nle a b=>[(lnN b).sub (lnN a)]|.nlt a b=>[((lnN b).sub (lnN a)).plus (-1)]|.nnle a b=>[((lnN a).sub (lnN b)).plus (-1)]|.bool t v=>qd7 t v|.and f g=>qaO f++qaO g|_=>[]
def qd8 (f:T→Y→Bool):T→Y→Bool
 | .w 4 a b,.ec c r=>r.chainy&&(f a c&&qd8 f b r)|.z,.e0=>true|_,_=>false
def qbW (f:T→Y→Bool) (t:T):Y→Y→Nat→Bool
 | .ec _ a,.ec c b,k=>f (.u 1 k t) c&&qbW f t a b (k+1)|.e0,.e0,_=>true|_,_,_=>false
def qcE (ck:T→Y→Bool) (base:T→Y→Bool) (e:Y):T→Bool
 | .z=>true|.w 4 a b=>ck a e&&qcE ck base e b|.w 5 a b=>qcE ck base e a&&qcE ck base e b|.w 6 _ l=>qcE ck base e l|.w 7 _ l=>qcE ck base e l|.w 21 l (.u 2 _ (.w 4 _ (.w 4 d .z)))=>qcE ck base e l&&ck d e|.w 32 _ a=>ck a e|.mk .l x=>qcE ck base e x|t=>base t e
def qpH (sy:T→Option Y) (ln:Lin→Bool) (fs:List F) (t:T) (e:Y):Bool:=match sy t with
 | some (.l _ e')=>((e'.sub e||(unN e').sub e)||match e with | .nm m=>e'.sub (RT.body m) | _=>false)||fs.any fun f=>match f with
  | .pre l i y=>l.eq t&&(y.sub e&&ln ((lnN i).sub (lnL t)))|_=>false
 | _=>false
def qe4 (t q:T):Nat→List Lin
 | 0=>[(lnN q).sub (.aw t),(Lin.aw t).sub (lnN q)]|1=>[(lnN q).sub (.aw t)]|2=>[.aw t,((lnN q).sub (.aw t)).plus (-1)]|k+3=>match Nat.blt k 900 with
  | true=>[(lnN q).sub (.aw t)]|false=>[]
def qkN (t q:T):Nat→Nat→List Lin
 | 1,0=>[(lnN q).sub (.aw t)]|0,1=>[(lnN q).sub (.aw t)]|_,_=>[]
def qhW (ln:Lin→Bool) (e:Nat) (l i t:T):F→List Lin
 | .rows e' l' i' q=>match l'.eq l&&(ln (((lnN i').sub (lnN i)).plus (-1))&&ln (((lnL l).sub (lnN i)).plus (-1)))with
  | true=>match Nat.beq e e' with
   | true=>qe4 t q e|false=>qkN t q e e'
  | false=>[]
 | _=>[]
def qgg (x q:T) (p:Bool×T×T):List Lin:=match p.2.1.pure0 2&&p.2.2.pure0 2 with
 | true=>match p.1 with
  | true=>[(lnN (p.2.2.sub [x,.u 4 0 q])).sub (lnN (p.2.1.sub [x,.u 4 0 q]))]|false=>[(lnI (p.2.2.sub [x,.u 4 0 q])).sub (lnI (p.2.1.sub [x,.u 4 0 q]))]
 | false=>[]
def tmV (x q:T) (p:Bool×T×T):Lin:=match p.1 with
 | true=>(lnN (p.2.2.sub [x,q])).sub (lnN (p.2.1.sub [x,q]))|false=>(lnI (p.2.2.sub [x,q])).sub (lnI (p.2.1.sub [x,q]))
def qhX (x q:T) (p:Bool×T×T):List Lin:=match p.2.1.pure 2&&p.2.2.pure 2 with
 | true=>[tmV x q p]|false=>[]
def qF1:F→Bool
 | .rows e _ _ _=>Nat.ble 903 e|_=>false
def qpI (ln:Lin→Bool) (l i:T):F→List Lin
 | .rows e l' i' q=>match (Nat.ble 903 e&&Nat.blt e 940)&&(l'.eq l&&(ln (((lnN i').sub (lnN i)).plus (-1))&&ln (((lnL l).sub (lnN i)).plus (-1))))with
  | true=>(RT.tm (e - 903)).flatMap (match Nat.blt e 920 with
   | true=>qgg (.w 3 l i) q|false=>qhX (.w 3 l i) q)
  | false=>[]
 | _=>[]
def qb5:T→T
 | .w 6 _ l=>qb5 l|.w 7 _ l=>qb5 l|.mk .l l=>qb5 l|t=>t
def qpJ (ln:Lin→Bool) (l i:T):F→List Lin
 | .rows e l' i' q=>match (Nat.ble 903 e&&Nat.blt e 940)&&((!(l'.eq l)&&l'.eq (qb5 l))&&(ln ((lnN i').sub (lnL l'))&&ln (((lnL l).sub (lnN i)).plus (-1))))with
  | true=>(RT.tm (e - 903)).flatMap (match Nat.blt e 920 with
   | true=>qgg (.w 3 l i) q|false=>qhX (.w 3 l i) q)
  | false=>[]
 | _=>[]
def qpK (ln:Lin→Bool) (e:Nat) (l i t:T):F→List Lin
 | .rows e' l' i' q=>match (!(l'.eq l)&&l'.eq (qb5 l))&&(ln ((lnN i').sub (lnL l'))&&ln (((lnL l).sub (lnN i)).plus (-1)))with
  | true=>match Nat.beq e e' with
   | true=>qe4 t q e|false=>qkN t q e e'
  | false=>[]
 | _=>[]
def qgh:T→List (T×T)
 | .w 3 l i=>(l,i)::qgh l|.w _ x y=>qgh x++qgh y|.u _ _ x=>qgh x|.mk _ x=>qgh x|_=>[]
def qhY (ln:Lin→Bool) (l i:T):List F→Option Y
 | []=>none|.pre l' i' y::r=>match l'.eq l&&(ln (((lnN i').sub (lnN i)).plus (-1))&&ln (((lnL l).sub (lnN i)).plus (-1)))with
  | true=>some y|false=>qhY ln l i r
 | _::r=>qhY ln l i r
def qkO:T→List T
 | .u 1 _ x=>x::qkO x|.u _ _ x=>qkO x|.mk _ x=>qkO x|_=>[]
def qpL (ln:Lin→Bool):T→List Lin
 | .w 2 a b=>match a.eq b with
  | true=>.aw (.w 2 a b)::((match ln ((lnI a).smul (-1))&&ln (lnI a)with
   | true=>[(Lin.cst 0).sub (.aw (.w 2 a b))]|false=>[])++match ln ((Lin.cst 2000).sub (lnI a))&&ln ((lnI a).plus 2000)with
   | true=>[(Lin.cst 4000000).sub (.aw (.w 2 a b))]|false=>[])
  | false=>[]
 | _=>[]
def nlT:T→T
 | .mk .l x=>nlT x|t=>t
def mm1:T→Option (Bool×T×T)
 | .w 26 a b=>some (true,a,b)|.w 27 a b=>some (false,a,b)|.u 4 _ (.w 26 a b)=>some (true,.u 4 0 a,.u 4 0 b)|.u 4 _ (.w 27 a b)=>some (false,.u 4 0 a,.u 4 0 b)|.u 4 _ x=>some (true,x,.i 0)|_=>none
def qgi:List (Int×T)→Option (Int×T×T×List (Int×T))
 | []=>none|p::r=>match mm1 p.2 with
  | some (s,a,b)=>match bEq s (qal p.1)with
   | true=>some (p.1,a,b,r)|false=>match qgi r with
    | some (k,a,b,q)=>some (k,a,b,p::q)|none=>none
  | none=>match qgi r with
   | some (k,a,b,q)=>some (k,a,b,p::q)|none=>none
def qbB (ck base:T→Bool):T→Bool
 | .z=>true|.w 4 a b=>ck a&&qbB ck base b|.w 5 a b=>qbB ck base a&&qbB ck base b|.w 6 _ l=>qbB ck base l|.w 7 _ l=>qbB ck base l|.mk .l x=>qbB ck base x|t=>base t
def qe5 (ln:Lin→Bool) (x q:T):Nat→Bool
 | 0=>ln ((lnN q).sub (lnL x))&&ln ((lnL x).sub (lnN q))|1=>ln ((lnN q).sub (lnL x))|2=>ln (lnI x)&&ln (((lnN q).sub (lnI x)).plus (-1))|k+3=>match Nat.blt k 900 with
  | true=>ln ((lnN q).sub (lnL (JZ k x)))|false=>match Nat.blt k 917 with
   | true=>(RT.tm (k - 900)).all fun p=>(p.2.1.pure0 2&&p.2.2.pure0 2)&&ln (match p.1 with
    | true=>(lnN (p.2.2.sub [x,.u 4 0 q])).sub (lnN (p.2.1.sub [x,.u 4 0 q]))|false=>(lnI (p.2.2.sub [x,.u 4 0 q])).sub (lnI (p.2.1.sub [x,.u 4 0 q])))
   | false=>Nat.blt k 937&&(RT.tm (k - 900)).all fun p=>(p.2.1.pure 2&&p.2.2.pure 2)&&ln (tmV x q p)
def qkP (ln:Lin→Bool) (e' e:Nat) (q' q:T):Bool:=(Nat.ble 920 e||ln ((lnN q).sub (lnN q')))&&match e,e' with
 | 0,0=>ln ((lnN q').sub (lnN q))|1,0=>true|e,e'=>Nat.beq e e'&&(Nat.blt e 903||match Nat.blt e 920 with
  | true=>ln ((lnN q').sub (lnN q))|false=>q'.eq q)
def qpM (ln:Lin→Bool) (fs:List F) (e:Nat) (q:T) (t:T):Bool:=fs.any fun f=>match f with
 | .rows e' l i q'=>l.eq t&&(ln ((lnN i).sub (lnL t))&&qkP ln e' e q' q)|_=>false
def qkQ:List (Bool×T×T):=[(true,.u 13 0 (.v 0),.v 1)]
def qkR (e:Nat):Bool:=Nat.beq e 910&&(qd6 qkQ (RT.tm 7)&&qd6 (RT.tm 7) qkQ)
def qhZ (ln:Lin→Bool) (fs:List F) (e:Nat) (q t:T):Bool:=qpM ln fs e q t||match e with
 | k+3=>match Nat.blt k 900 with
  | true=>ln ((lnN q).sub (.aw (.u 11 k t)))|false=>qkR (k+3)&&ln ((lnN q).sub (.aw (.u 14 0 t)))
 | _=>false
def qkS (ln:Lin→Bool) (fs:List F) (b:T):T→Bool
 | .u 11 k l=>(Nat.blt k 900&&ln (lnI b))&&qbB (fun x=>qe5 ln x b (k+3)) (qhZ ln fs (k+3) b) l
 | .u 14 _ l=>(qkR 910&&ln (lnI b))&&qbB (fun x=>qe5 ln x b 910) (qhZ ln fs 910 b) l
 | _=>false
def qh0 (x:T):Lin:=((lnL (JZ 11 x)).add (.aw (.u 12 1000 (Jg (JZ 10 x))))).plus 1
def Y9 (t:T) (e:Lin):List Lin:=[(Lin.aw t).sub e,e.sub (.aw t)]
def qgj (k:Nat) (x:T):Lin:=match k with
 | 0=>lnL x|k+1=>match Nat.beq k 999 with
  | true=>.aw (.u 15 0 x)|false=>lnN (JZ k x)
def qpN (ln:Lin→Bool) (k:Nat) (x t:T):List Lin:=match x with
 | .z=>Y9 t (.cst 0)|.u 1 10 y=>match Nat.beq k 1000 with
  | true=>Y9 (.u 15 0 y) (qh0 y)|false=>[]
 | .w 4 a r=>Y9 t ((qgj k a).add (.aw (.u 12 k r)))|.w 5 a b=>Y9 t ((Lin.aw (.u 12 k a)).add (.aw (.u 12 k b)))|.mk .l y=>Y9 t (.aw (.u 12 k y))|.w 7 (.i (.ofNat 0)) y=>Y9 t (.aw (.u 12 k y))|.w 6 i l=>(Lin.aw (.u 12 k l)).sub (.aw t)::((match ln (((lnL l).sub (lnN i)).plus (-1))with
  | true=>[((Lin.aw (.u 12 k l)).sub (.aw t)).sub (qgj k (.w 3 l i))]|false=>[])++((match ln ((lnN i).sub (lnL l))with
  | true=>Y9 t (.aw (.u 12 k l))|false=>[])++((match ln ((lnN i).smul (-1))with
  | true=>Y9 t (.cst 0)|false=>[])++match i with
   | .w 0 j (.i (.ofNat 1))=>match ln (lnI j)&&ln (((lnL l).sub (lnI j)).plus (-1))with
    | true=>Y9 t ((Lin.aw (.u 12 k (.w 6 j l))).add (qgj k (.w 3 l j)))|false=>[]
   | .i (.ofNat (m+1))=>match ln (((lnL l).plus (-(m:Int))).plus (-1))with
    | true=>Y9 t ((Lin.aw (.u 12 k (.w 6 (.i (.ofNat m)) l))).add (qgj k (.w 3 l (.i (.ofNat m)))))|false=>[]
   | _=>[])))
 | _=>[]
def qpO (k:Nat) (x:T):List Lin:=match x with
 | .z=>Y9 (.u 14 k .z) (.cst 0)|.w 4 a r=>Y9 (.u 14 k x) (.aw (.w 26 (.u 13 0 a) (.u 14 0 r)))|.w 5 a b=>Y9 (.u 14 k x) (.aw (.w 26 (.u 14 0 a) (.u 14 0 b)))|.w 6 _ l=>[(Lin.aw (.u 14 0 l)).sub (.aw (.u 14 k x))]|.w 7 _ l=>[(Lin.aw (.u 14 0 l)).sub (.aw (.u 14 k x))]|.mk .l y=>Y9 (.u 14 k x) (.aw (.u 14 0 y))|.u 1 10 y=>Y9 (.u 13 0 y) ((Lin.aw (.u 14 0 (Jg (JZ 10 y)))).plus 1)|_=>[]
def atM:Nat→List T→List T
 | _,[]=>[]|m,t::r=>match Nat.beq (Nat.mod m 2) 1 with
  | true=>t::atM (Nat.div m 2) r|false=>atM (Nat.div m 2) r
def qh1:Nat→(T→List Lin)→Rw→Nat→Nat→Bs→Bool
 | 0,_,_,_,_,_=>false|k+1,f,g,m0,dn,B =>
  let m:=qbF 8 B.rw m0
  let nw:=Nat.xor m (Nat.land m dn)
  match Nat.beq nw 0 with
  | true=>false|false =>
   let B':=qca ((atM nw B.as).flatMap f) B
   qif (qbF 8 B'.rw m0) B'.rw g||qh1 k f g m0 (Nat.lor dn m) B'
def qkT:Y→Option (Y×Nat)
 | .ec c .e0=>some (c,1)|.ec c r=>match qkT r with
  | some (c',m)=>match c,c' with
   | .i k,.i k'=>match IntKind.eq k k' with
    | true=>some (c,m+1)|false=>none
   | .y8,.y8=>some (c,m+1)|_,_=>none
  | none=>none
 | _=>none
def qkU (ln:Lin→Bool) (t a b:T) (q:Bool):List Lin:=match b with
 | .i (.ofNat (m+1))=>match ln (lnI a)&&ln ((Lin.cst 9223372036854775807).sub (lnI a))with
  | true=>match q with
   | true=>[.aw t,(lnI a).sub ((Lin.aw t).smul (m+1)),(((Lin.aw t).smul (m+1)).plus m).sub (lnI a)]|false=>[.aw t,(Lin.cst m).sub (.aw t),(lnI a).sub (.aw t)]++Y9 t ((lnI a).sub ((Lin.aw (.w 100 a b)).smul (m+1)))
  | false=>[]
 | _=>[]
def qpP (sy:Option Y):T→Bool
 | .u 5 1 _=>true|.w 24 _ _=>true|.w 161 _ _=>true|.i (.ofNat n)=>Nat.blt n 256|_=>match sy with
  | some .y8=>true|_=>false
mutual
def Y4:Nat→Nat→Gam→T→Option Y
 | 0,_,G,t=>lkT t G.hs|n+1,d,G,t=>match lkT t G.hs with
  | some y=>some y|none=>match t with
   | .i _=>some (.i .i64)|.t _=>some .b|.s l=>some (.s l.length)|.u 1 k x=>match (Y4 n d G x).map unY with
    | some (.g r)=>r.nth k|_=>none
   | .w 3 l i=>match qhY (qU n d G) l i G.fs with
    | some y=>some y|none=>match Y4 n d G l with
    | some (.l _ e)=>match qU n d G (((lnL l).sub (lnN i)).plus (-1))with
     | true=>some e|false=>none
    | _=>none
   | .mk (.i k) x=>match k with
    | .u8=>match qpP (Y4 n d G x) x with
     | true=>some .y8|false=>some (.i .u8)
    | k=>some (.i k)
   | .mk .b _=>some .b|.mk .s x=>match Y4 n d G x with
    | some (.s m)=>some (.s m)|_=>none
   | .mk .l x=>match Y4 n d G x with
    | some (.l m e)=>some (.l m e)|_=>none
   | .w 6 _ l=>match Y4 n d G l with
    | some (.l m e)=>some (.l m e)|_=>none
   | .w 7 _ l=>match Y4 n d G l with
    | some (.l m e)=>some (.l m e)|_=>none
   | .w 10 _ _=>some .b|.w 11 _ _=>some .b|.w 12 _ _=>some .b|.w 13 _ _=>some .b|.w 14 _ _=>some .b|.w 15 _ _=>some .b|.w 16 _ _=>some .b|.w 17 _ _=>some .b|.w 18 _ _=>some .b|.w 19 _ _=>some .b|.w 20 _ _=>some .b|.u 6 _ _=>some .b|.w 0 _ _=>some (.i .i64)|.w 1 _ _=>some (.i .i64)|.w 2 _ _=>some (.i .i64)|.w 8 _ _=>some (.i .i64)|.w 22 _ _=>some (.i .i64)|.w 23 _ _=>some (.i .i64)|.w 24 _ _=>some (.i .u8)|.u 0 _ _=>some (.i .i64)|.u 4 _ _=>some (.i .i64)|.u 5 _ _=>some (.i .i64)|.u 7 _ _=>some (.i .i64)|.u 8 _ _=>some (.i .i64)|.u 10 _ _=>some (.i .i64)|.w 9 _ _=>some (.i .i64)|.w 100 _ _=>some (.i .i64)|.w 110 _ _=>some (.i .i64)|.w 26 _ _=>some (.i .i64)|.w 27 _ _=>some (.i .i64)|.w 28 _ _=>some .b|.w 33 _ _=>some .b|.w 29 _ _=>some .b|.w 30 _ _=>some .b|.u 9 _ _=>some (.i .i64)|.u 16 _ x=>match Y4 n d G x with
    | some (.l m .y8)=>some (.s m)|_=>none
   | _=>none
def qU:Nat→Nat→Gam→Lin→Bool
 | 0,_,G,goal=>qqE 3 G.B goal|n+1,d,G,goal=>match qbE goal G.B with
  | (g,B) =>
   let m0:=qqD g.1 B.rw
   let m1:=qbF 1 B.rw m0
   let m3:=qbF 8 B.rw m1
   match qlu B.rw g.2||qif m1 B.rw g.2 with
   | true=>true|false=>match !(Nat.beq m1 m3)&&qif m3 B.rw g.2 with
    | true=>true|false=>match d with
     | 0=>false|d+1=>!(qfd g.2.2)&&qh1 8 (qe6 n d G) g.2 m0 0 B||match qgi goal.ts with
      | some (k,a,b,r)=>qU n d G ⟨goal.c+k*(lnI a).c,((lnI a).smul k).ts++r⟩&&qU n d G ⟨goal.c+k*(lnI b).c,((lnI b).smul k).ts++r⟩|none=>false
def qe6:Nat→Nat→Gam→T→List Lin
 | 0,_,_,_=>[]|n+1,d,G,t=>(match Y4 n d G t with
  | some (.rg a b)=>[(Lin.aw t).plus (-a),(Lin.cst b).sub (.aw t)]|_=>[])++(((qkO t).flatMap fun x=>match Y4 n d G x with
   | some y=>match unN y with
    | .gq _ ps=>ps.flatMap (qgg x (.i 0))|_=>[]
   | none=>[])++((match G.fs.any qF1 with
  | true=>(qgh t).flatMap fun p=>G.fs.flatMap (qpI (qU n d G) p.1 p.2)++G.fs.flatMap (qpJ (qU n d G) p.1 p.2)
  | false=>[])++(qpL (qU n d G) t++match t with
  | .u 0 _ x=>(match Y4 n d G x with
   | some (.l m _)=>[(Lin.cst m).sub (.aw t)]|_=>[])++(match x with
   | .w 3 l i=>G.fs.flatMap (qhW (qU n d G) 0 l i t)++G.fs.flatMap (qpK (qU n d G) 0 l i t)|.u 1 k (.w 3 l i)=>G.fs.flatMap (qhW (qU n d G) (k+3) l i t)++match qU n d G (((lnL l).sub (lnN i)).plus (-1))with
    | true=>[(Lin.aw (.u 11 k (nlT l))).sub (.aw t)]|false=>[]
   | .w 6 a (.w 7 o l)=>match qU n d G (((lnL l).sub (lnN a)).sub (lnN o))with
    | true=>[(lnN a).sub (.aw t),(Lin.aw t).sub (lnN a)]|false=>[]
   | .w 7 o l=>match qU n d G ((lnL l).sub (lnN o))with
    | true=>Y9 t ((lnL l).sub (lnN o))|false=>[]
   | _=>[])
  | .u 7 _ x=>(match Y4 n d G x with
   | some (.s m)=>[(Lin.cst m).sub (.aw t)]|_=>[])++match x with
   | .u 16 _ l=>Y9 t (lnL l)|_=>[]
  | .u 4 _ x=>(Lin.aw t).sub (lnI x)::match qU n d G (lnI x)with
   | true=>[(lnI x).sub (.aw t)]|false=>[]
  | .u 5 0 x=>match qU n d G ((lnI x).plus 9223372036854775808)&&qU n d G ((Lin.cst 9223372036854775807).sub (lnI x))with
   | true=>[(lnI x).sub (.aw t),(Lin.aw t).sub (lnI x)]|false=>[]
  | .w 3 l i=>G.fs.flatMap (qhW (qU n d G) 2 l i t)|.u 12 k x=>qpN (qU n d G) k x t|.u 13 k x=>Y9 t ((Lin.aw (.u 14 0 (Jg (JZ 10 x)))).plus 1)++match x with
   | .w 3 l i=>match qU n d G (((lnL l).sub (lnN i)).plus (-1))with
    | true=>[(Lin.aw (.u 14 0 (nlT l))).sub (.aw (.u 13 k x))]|false=>[]
   | .u 2 _ (.w 4 (.mk _ (.u 1 _ e)) _)=>Y9 (.u 13 0 e) ((Lin.aw (.u 14 0 (Jg (JZ 10 e)))).plus 1)|_=>[]
  | .u 14 k x=>qpO k x|.u 15 k x=>Y9 t (qh0 x)++match x with
   | .w 3 l i=>match qU n d G (((lnL l).sub (lnN i)).plus (-1))with
    | true=>[(Lin.aw (.u 12 1000 (nlT l))).sub (.aw (.u 15 k x))]|false=>[]
   | .u 2 _ (.w 4 (.mk _ (.u 1 _ e)) _)=>Y9 (.u 15 0 e) (qh0 e)|_=>[]
  | .w 9 a b=>match qU n d G ((lnN a).sub (lnN b))with
   | true=>[((lnN a).sub (lnN b)).sub (.aw t),(Lin.aw t).sub ((lnN a).sub (lnN b))]|false=>[]
  | .w 26 a b=>[(Lin.aw t).sub (lnI a),(Lin.aw t).sub (lnI b)]++match qU n d G ((lnI a).sub (lnI b))with
   | true=>[(lnI a).sub (.aw t)]|false=>match qU n d G ((lnI b).sub (lnI a))with
    | true=>[(lnI b).sub (.aw t)]|false=>match qU n d G (lnI a)&&qU n d G (lnI b)with
     | true=>[((lnI a).add (lnI b)).sub (.aw t)]|false=>[]
  | .w 27 a b=>[(lnI a).sub (.aw t),(lnI b).sub (.aw t)]++match qU n d G ((lnI a).sub (lnI b))with
   | true=>[(Lin.aw t).sub (lnI b)]|false=>match qU n d G ((lnI b).sub (lnI a))with
    | true=>[(Lin.aw t).sub (lnI a)]|false=>match qU n d G (lnI a)&&qU n d G (lnI b)with
     | true=>[.aw t]|false=>[]
  | .w 100 a b=>qkU (qU n d G) t a b true|.w 110 a b=>qkU (qU n d G) t a b false|_=>[])))
def qaP:Nat→Nat→Gam→T→Y→Bool
 | 0,_,_,_,_=>false|n+1,d,G,t,y=>(match Y4 n d G t with
   | some y'=>(y'.sub y||(unN y').sub y)||(y'.simple&&match lkT (.mk y'.kind t) G.hs with
    | some y''=>y''.sub y|none=>false)
   | none=>false)||match y with
  | .l m e=>qcE (qaP n d G) (qpH (Y4 n d G) (qU n d G) G.fs) e t&&qU n d G ((Lin.cst m).sub (lnL t))|.s m=>match Y4 n d G t with
   | some (.s _)=>qU n d G ((Lin.cst m).sub (.aw (.u 7 0 t)))|_=>match t with
    | .u 16 _ x=>qaP n d G x (.l m .y8)|.mk .s (.u 16 _ x)=>qaP n d G x (.l m .y8)|_=>false
  | .g r=>match t with
   | .u 2 _ x=>qd8 (qaP n d G) x r||match Y4 n d G x,qkT r with
    | some (.l _ e),some (c,m)=>e.sub c&&(qU n d G ((lnL x).plus (-(m:Int)))&&qU n d G ((Lin.cst m).sub (lnL x)))|_,_=>false
   | _=>match (Y4 n d G t).map unY with
    | some (.g r')=>qbW (qaP n d G) t r' r 0|_=>false
  | .ec c r=>qd8 (qaP n d G) t (.ec c r)|.e0=>qd8 (qaP n d G) t .e0|.nm m=>qaP n d G t (RT.body m)|.gq r ps=>qaP n d G t (.g r)&&ps.all fun p=>(p.2.1.pure0 2&&p.2.2.pure0 2)&&(qU n d G (match p.1 with
   | true=>(lnN (p.2.2.sub [t,.u 4 0 (.i 0)])).sub (lnN (p.2.1.sub [t,.u 4 0 (.i 0)]))|false=>(lnI (p.2.2.sub [t,.u 4 0 (.i 0)])).sub (lnI (p.2.1.sub [t,.u 4 0 (.i 0)])))||!p.1&&qkS (qU n d G) G.fs (p.2.2.sub [t,.u 4 0 (.i 0)]) (p.2.1.sub [t,.u 4 0 (.i 0)]))
  | .rg a b=>(match Y4 n d G t with
   | some (.i k)=>IntKind.eq k .i64|some (.rg _ _)=>true|_=>false)&&(qU n d G ((lnI t).plus (-a))&&qU n d G ((Lin.cst b).sub (lnI t)))
  | _=>false
end
def DEP:Nat:=3
def qpQ (n:Nat) (G:Gam):Bool:=qh1 8 (qe6 n 1 G) (-1,[]) (qqD 0 G.B.rw) 0 G.B
abbrev qdl (n:Nat) (G:Gam) (t:T):Option Y:=Y4 n DEP G t
abbrev lin (n:Nat) (G:Gam) (g:Lin):Bool:=qU n DEP G g
abbrev aux (n:Nat) (G:Gam) (t:T):List Lin:=qe6 n DEP G t
abbrev chk (n:Nat) (G:Gam) (t:T) (y:Y):Bool:=qaP n DEP G t y
section
variable {wf:Nat→List D→D} {rcP:Nat→List D→Prop} {ρ:Nat→D}
variable [PW]
structure Gam.OK (wf:Nat→List D→D) (rcP:Nat→List D→Prop) (ρ:Nat→D) (G:Gam):Prop where
 wv:∀g,Ju≤g→wf g=PW.wV g
 hs:∀p∈G.hs,qj p.2 (p.1.den wf ρ)
 fs:∀f∈G.fs,f.den wf rcP ρ
 ls:G.B.OK wf ρ
theorem qkV {t:T} {y:Y}:∀{hs:List (T×Y)},lkT t hs=some y→(∀p∈hs,qj p.2 (p.1.den wf ρ))→qj y (t.den wf ρ)
 | [],h,_=>by cases h
 | p::r,h,hp=>by
  simp only[lkT]at h;split at h
  ·rename_i he;cases h;rw[←T.eq_eq he]; exact hp p (by simp)
  ·exact qkV h fun q hq=>hp q (qTG _ hq)
theorem qb6 {y:Y} {d:D} (h:y.simple=true) (hd:qj y d):y.kind.den d=d:=by
 cases y<;>simp only[Y.simple]at h<;>first|cases h|skip
 ·obtain⟨n,rfl⟩:=hd; rfl
 ·obtain⟨n,rfl⟩:=hd; rfl
 ·obtain⟨n,rfl,_⟩:=hd; rfl
 ·obtain⟨n,rfl,_⟩:=hd; rfl
 ·obtain⟨n,rfl,_⟩:=hd; rfl
 ·obtain⟨n,rfl⟩:=hd; rfl
theorem qkW {a b:Int} (h:leI a b=true):a≤b:=by
 unfold leI at h;split at h
 ·cases h
 ·rename_i hn
  cases hz:b - a with
  | ofNat n=>have:b - a=(n:Int):=hz; omega
  | negSucc n=>rw[hz]at hn; simp[qal]at hn
theorem qvK {ps qs:List (Bool×T×T)} {d:D} (h:qd6 ps qs=true) (hq:∀q∈qs,qaD d 0 q):∀p∈ps,qaD d 0 p:=by
 intro p hp;obtain⟨q,hq',e⟩:=qUb.1 (qTI.1 h p hp);unfold qpG at e;rw[qTC,qTC]at e;have:p=q:=by
  obtain⟨a,b,c⟩:=p;obtain⟨a',b',c'⟩:=q;have e1:=qgu e.1; have e2:=T.eq_eq e.2.1; have e3:=T.eq_eq e.2.2;simp only at e1 e2 e3;rw[e1,e2,e3]
 rw[this]; exact hq q hq'
theorem Y.subA_ok {n m:Nat}:∀{x y:Y} {d:D},x.subA n m y=true→qcd JO x d→qcd (fun k e=>JO k e∨k=m∧JO n e) y d:=by
 intro x
 induction x with
 | i k=>intro y d h hd; cases y<;>simp only[Y.subA]at h<;>first | (rw[←IntKind.eq_eq h]; exact hd) | cases h
 | b=>intro y d h hd; cases y<;>simp only[Y.subA]at h<;>first|exact hd|cases h
 | s p =>
  intro y d h hd; cases y<;>simp only[Y.subA]at h<;>first|cases h|skip
  obtain⟨l,h1,h2⟩:=hd;exact⟨l,h1,qT2 h2 (qT5 h)⟩
 | l p e ih =>
  intro y d h hd; cases y<;>simp only[Y.subA,qTC]at h<;>first|cases h|skip
  rename_i q e';obtain⟨es,h1,h2,h3⟩:=hd;exact⟨es,h1,qT2 h2 (qT5 (by simp_all)),fun x hx=>ih (by simp_all) (h3 x hx)⟩
 | g r ih =>
  intro y d h hd; cases y<;>simp only[Y.subA]at h<;>first|cases h|skip
  obtain⟨cs,h1,h2⟩:=hd;exact⟨cs,h1,ih h h2⟩
 | e0=>intro y d h hd; cases y<;>simp only[Y.subA]at h<;>first|exact hd|cases h
 | ec c r ih1 ih2 =>
  intro y d h hd; cases y<;>simp only[Y.subA,qTC]at h<;>first|cases h|skip
  obtain⟨x,xs,h1,h2,h3⟩:=hd;exact⟨x,xs,h1,ih1 (by simp_all) h2,ih2 (by simp_all) h3⟩
 | y8 =>
  intro y d h hd;obtain⟨c,hc⟩:=hd
  cases y with
  | i k =>
   have h':IntKind.eq .u8 k=true:=h;rw[←IntKind.eq_eq h']; exact⟨_,hc⟩
  | y8=>exact⟨c,hc⟩|_=>simp[Y.subA]at h
 | rg p q =>
  intro y d h hd;obtain⟨z,h1,h2,h3⟩:=hd
  cases y with
  | i k =>
   have h':IntKind.eq .i64 k=true:=h;rw[←IntKind.eq_eq h']; exact⟨z,h1⟩
  | rg u w =>
   have h':(leI u p&&leI q w)=true:=h;rw[qTC]at h';have:=qkW h'.1; have:=qkW h'.2;exact⟨z,h1,by omega,by omega⟩
  | _=>simp[Y.subA]at h
 | gq x p ih =>
  intro y d h hd;obtain⟨⟨cs,h1,h2⟩,h3⟩:=hd
  cases y with
  | g z =>
   have h':x.subA n m z=true:=h;exact⟨cs,h1,ih h' h2⟩
  | gq z q =>
   have h':(x.subA n m z&&qd6 q p)=true:=h;rw[qTC]at h';exact⟨⟨cs,h1,ih h'.1 h2⟩,qvK h'.2 h3⟩
  | _=>simp[Y.subA]at h
 | nm a =>
  intro y d h hd; cases y<;>simp only[Y.subA]at h<;>first|cases h|skip
  rename_i c;rw[qTM,qTC]at h;rcases h with h|⟨h1,h2⟩
  ·rw[←qTO h]; exact .inl hd
  ·exact .inr ⟨qTO h2,by rw[←qTO h1]; exact hd⟩
theorem JO.le {n m:Nat} {d:D} (h:Y.subA n m (RT.body n) (RT.body m)=true) (hd:JO n d):JO m d:=by
 refine⟨fun k e=>JO k e∨k=m∧JO n e,fun k e hk=>?_,.inr ⟨rfl,hd⟩⟩;rcases hk with hk|⟨rfl,hk⟩
 ·exact qqM (fun _ _ q=>.inl q) hk.un
 ·exact Y.subA_ok h hk.un
theorem Y.sub_ok:∀{a b:Y} {d:D},a.sub b=true→qj a d→qj b d:=by
 intro a
 induction a with
 | i k=>intro b d h hd; cases b<;>simp only[Y.sub]at h<;>first | (rw[←IntKind.eq_eq h]; exact hd) | cases h
 | b=>intro b d h hd; cases b<;>simp only[Y.sub]at h<;>first|exact hd|cases h
 | s n =>
  intro b d h hd; cases b<;>simp only[Y.sub]at h<;>first|cases h|skip
  obtain⟨l,h1,h2⟩:=hd;exact⟨l,h1,qT2 h2 (qT5 h)⟩
 | l n e ih =>
  intro b d h hd; cases b<;>simp only[Y.sub,qTC]at h<;>first|cases h|skip
  rename_i m e';obtain⟨es,h1,h2,h3⟩:=hd;exact⟨es,h1,qT2 h2 (qT5 (by simp_all)),fun x hx=>ih (by simp_all) (h3 x hx)⟩
 | g r ih =>
  intro b d h hd; cases b<;>simp only[Y.sub]at h<;>first|cases h|skip
  obtain⟨cs,h1,h2⟩:=hd;exact⟨cs,h1,ih h h2⟩
 | e0=>intro b d h hd; cases b<;>simp only[Y.sub]at h<;>first|exact hd|cases h
 | ec c r ih1 ih2 =>
  intro b d h hd; cases b<;>simp only[Y.sub,qTC]at h<;>first|cases h|skip
  obtain⟨x,xs,h1,h2,h3⟩:=hd;exact⟨x,xs,h1,ih1 (by simp_all) h2,ih2 (by simp_all) h3⟩
 | y8 =>
  intro y d h hd;obtain⟨c,hc⟩:=hd
  cases y with
  | i k =>
   have h':IntKind.eq .u8 k=true:=h;rw[←IntKind.eq_eq h']; exact⟨_,hc⟩
  | y8=>exact⟨c,hc⟩|_=>simp[Y.sub]at h
 | rg p q =>
  intro y d h hd;obtain⟨z,h1,h2,h3⟩:=hd
  cases y with
  | i k =>
   have h':IntKind.eq .i64 k=true:=h;rw[←IntKind.eq_eq h']; exact⟨z,h1⟩
  | rg u w =>
   have h':(leI u p&&leI q w)=true:=h;rw[qTC]at h';have:=qkW h'.1; have:=qkW h'.2;exact⟨z,h1,by omega,by omega⟩
  | _=>simp[Y.sub]at h
 | gq x p ih =>
  intro y d h hd;obtain⟨⟨cs,h1,h2⟩,h3⟩:=hd
  cases y with
  | g z =>
   have h':x.sub z=true:=h;exact⟨cs,h1,ih h' h2⟩
  | gq z q =>
   have h':(x.sub z&&qd6 q p)=true:=h;rw[qTC]at h';exact⟨⟨cs,h1,ih h'.1 h2⟩,qvK h'.2 h3⟩
  | _=>simp[Y.sub]at h
 | nm n =>
  intro b d h hd; cases b<;>simp only[Y.sub]at h<;>first|cases h|skip
  rw[qTM]at h;rcases h with h|h
  ·rw[←qTO h]; exact hd
  ·exact JO.le h hd
theorem Y.chainy_list {r:Y} {d:D} (h:r.chainy=true) (hd:qj r d):∃cs,d=.list cs:=by
 cases r<;>simp only[Y.chainy]at h<;>first|cases h|skip
 ·exact⟨[],hd⟩
 ·obtain⟨x,xs,h1,_⟩:=hd; exact⟨_,h1⟩
theorem Y.nth_ok:∀{r:Y} {k:Nat} {y:Y} {cs:List D},r.nth k=some y→qj r (.list cs)→∃x,cs[k]?=some x∧qj y x:=by
 intro r
 induction r with
 | ec c r _ ih =>
  intro k y cs h hd;obtain⟨x,xs,h1,h2,h3⟩:=hd;cases h1
  cases k with
  | zero=>simp only[Y.nth]at h; cases h; exact⟨x,rfl,h2⟩
  | succ k=>simp only[Y.nth]at h; obtain⟨x',q1,q2⟩:=ih h h3; exact⟨x',by simpa using q1,q2⟩
 | _=>intro k y cs h hd; simp only[Y.nth]at h; cases h
theorem qF2:∀{t:T} {v:Bool},toB (t.den wf ρ)=v→∀l∈qd7 t v,0≤l.val wf ρ:=by
  intro t v
  induction t generalizing v with
  | u o k x ih =>
    intro h l hl
    by_cases e:o=6
    · subst e
      simp only[qd7]at hl;refine ih ?_ l hl;have:(!toB (x.den wf ρ))=v:=h;rw[←this]; simp
    · have:qd7 (.u o k x) v=[]:=by unfold qd7; split<;>simp_all
      rw[this]at hl; cases hl
  | w o a b _ _ =>
    intro h l hl;have A:=(qk (wf:=wf) (ρ:=ρ) a).1;have B:=(qk (wf:=wf) (ρ:=ρ) b).1;unfold qd7 at hl;split at hl<;>first
      | (rename_i heq; cases heq; done)
      | (rename_i heq
         cases heq;simp only[qTD,qTJ,or_false]at hl;have hh:toB (T.bi _ (a.den wf ρ) (b.den wf ρ))=_:=h;simp only[T.bi,toB,decide_eq_true_eq,decide_eq_false_iff_not,beq_iff_eq,bne_eq_false_iff_eq]at hh
         first
          | (subst hl; simp only[Lin.val_plus,Lin.val_sub,A,B]; omega)
          | (rcases hl with rfl|rfl<;>(simp only[Lin.val_plus,Lin.val_sub,A,B]; omega)))
      | (cases hl; done)
  | _=>intro h l hl; simp only[qd7]at hl; cases hl
theorem qvL:∀{f:F},f.den wf rcP ρ→∀l∈qaO f,0≤l.val wf ρ:=by
 intro f
 induction f with
 | le a b=>intro h l hl; simp only[qaO,qTD,qTJ,or_false]at hl; subst hl; simp only[Lin.val_sub,(qk a).1,(qk b).1]; have:toI (a.den wf ρ)≤toI (b.den wf ρ):=h; omega
 | lt a b=>intro h l hl; simp only[qaO,qTD,qTJ,or_false]at hl; subst hl; simp only[Lin.val_plus,Lin.val_sub,(qk a).1,(qk b).1]; have:toI (a.den wf ρ)<toI (b.den wf ρ):=h; omega
 | nle a b=>intro h l hl; simp only[qaO,qTD,qTJ,or_false]at hl; subst hl; simp only[Lin.val_sub,(qk a).2.1,(qk b).2.1]; have:toN (a.den wf ρ)≤toN (b.den wf ρ):=h; omega
 | nlt a b=>intro h l hl; simp only[qaO,qTD,qTJ,or_false]at hl; subst hl; simp only[Lin.val_plus,Lin.val_sub,(qk a).2.1,(qk b).2.1]; have:toN (a.den wf ρ)<toN (b.den wf ρ):=h; omega
 | nnle a b=>intro h l hl; simp only[qaO,qTD,qTJ,or_false]at hl; subst hl; simp only[Lin.val_plus,Lin.val_sub,(qk a).2.1,(qk b).2.1]; have:¬toN (a.den wf ρ)≤toN (b.den wf ρ):=h; omega
 | bool t v=>intro h l hl; exact qF2 h l hl
 | and f g ih1 ih2 =>
  intro h l hl;simp only[qaO,qTH]at hl;rcases hl with hl|hl
  ·exact ih1 h.1 l hl
  ·exact ih2 h.2 l hl
 | _=>intro h l hl; simp only[qaO]at hl; cases hl
def SOK (wf:Nat→List D→D) (ρ:Nat→D) (G:Gam) (n d:Nat):Prop :=
 (∀t y,Y4 n d G t=some y→qj y (t.den wf ρ))∧(∀g,qU n d G g=true→0≤g.val wf ρ)∧(∀t,∀l∈qe6 n d G t,0≤l.val wf ρ) ∧
 (∀t y,qaP n d G t y=true→qj y (t.den wf ρ))
theorem Je {d:D} {es:List D} (h:d=.list es):toL d=es:=by subst h; rfl
theorem qpR {ln:Lin→Bool} (hl:∀g,ln g=true→0≤g.val wf ρ) {l i:T} {y:Y}:∀{fs:List F},(∀f∈fs,f.den wf rcP ρ)→qhY ln l i fs=some y→qj y ((T.w 3 l i).den wf ρ)
 | [],_,h=>by cases h
 | f::r,hf,h=>by
  have hr:=fun g hg=>hf g (qTG _ hg)
  unfold qhY at h;split at h
  ·cases h
  ·rename_i l' i' y' r' heq;injection heq with e1 e2
   subst e1; subst e2;split at h
   ·rename_i hc;cases h;rw[qTC,qTC]at hc;have el:=T.eq_eq hc.1;subst el;have h1:=hl _ hc.2.1;rw[Lin.val_plus,Lin.val_sub,(qk i').2.1,(qk i).2.1]at h1;have h9:∀j:Nat,j<toN (i'.den wf ρ)→qj y ((toL (l'.den wf ρ)).getD j .nilp):=hf (.pre l' i' y) (by simp);exact h9 _ (by omega)
   ·exact qpR hl hr h
  ·rename_i f' r' _ heq;injection heq with e1 e2
   subst e1; subst e2;exact qpR hl hr h
theorem qkX (z:Int):0≤IntKind.wrap .u8 z∧IntKind.wrap .u8 z<256:=by
 simp only[IntKind.wrap,IntKind.bits,IntKind.signed];constructor
 ·simp; omega
 ·simp; omega
theorem qF3 {sy:Option Y} {x:T} (h:qpP sy x=true) (hs:∀y,sy=some y→qj y (x.den wf ρ)):qj .y8 ((T.mk (.i .u8) x).den wf ρ):=by
 have key:∀z:Int,0≤z→z<256→toI (x.den wf ρ)=z→qj .y8 ((T.mk (.i .u8) x).den wf ρ):=by
  intro z h0 h1 e;refine⟨UInt8.ofNat z.toNat,?_⟩;show D.int .u8 (toI (x.den wf ρ))=.int .u8 ((UInt8.ofNat z.toNat).toNat:Int);rw[e]
  congr 1
  simp;omega
 unfold qpP at h;split at h
 ·rename_i y;exact key _ (qkX (toI (y.den wf ρ))).1 (qkX (toI (y.den wf ρ))).2 rfl
 ·rename_i a b;have h1:=((toS (a.den wf ρ)).getD (toN (b.den wf ρ)) 0).toNat_lt;exact key (((toS (a.den wf ρ)).getD (toN (b.den wf ρ)) 0).toNat:Int) (by omega) (by omega) rfl
 ·exact key _ (qkX _).1 (qkX _).2 rfl
 ·rename_i n;rw[qT0]at h;exact key (n:Int) (by omega) (by omega) rfl
 ·split at h
  ·have:=hs _ rfl;obtain⟨c,hc⟩:=this;refine⟨c,?_⟩;show D.int .u8 (toI (x.den wf ρ))=_;rw[hc]; rfl
  ·cases h
theorem qF4 {G:Gam} {n d:Nat} (hG:G.OK wf rcP ρ) (ih:SOK wf ρ G n d):∀t y,Y4 (n+1) d G t=some y→qj y (t.den wf ρ):=by
 obtain⟨i1,i2,i3,i4⟩:=ih;intro t y h;unfold Y4 at h;split at h
 ·rename_i hl; cases h; exact qkV hl hG.hs
 ·have sl:∀{l:T} {m:Nat} {e:Y},Y4 n d G l=some (.l m e)→∃es,l.den wf ρ=.list es∧es.length≤m∧∀x∈es,qj e x:=fun hs=>i1 _ _ hs
  split at h<;>first
   | (cases h; done)
   | (cases h; exact⟨_,rfl⟩)
   | (cases h; exact⟨_,rfl,qTF _⟩)
   | skip
  ·rename_i k x _;split at h
   ·rename_i r hs;obtain⟨q,hq,hs⟩:=qTP.1 hs;obtain⟨cs,h1,h2⟩:=hs ▸ qei (i1 _ _ hq);obtain⟨x',hx,hy⟩:=Y.nth_ok h h2;have:(T.u 1 k x).den wf ρ=x':=by
     show cel (x.den wf ρ) k=x';rw[h1]; simp[cel,D.cells,hx]
    rw[this]; exact hy
   ·cases h
  ·rename_i l i _;split at h
   ·rename_i y' hp;cases h;exact qpR i2 hG.fs hp
   split at h
   ·rename_i m e hs;split at h
    ·rename_i hlin;cases h;obtain⟨es,h1,h2,h3⟩:=sl hs;have hl:=i2 _ hlin;rw[Lin.val_plus,Lin.val_sub,(qk l).2.2,(qk i).2.1,Je h1]at hl;show qj y ((toL (l.den wf ρ)).getD (toN (i.den wf ρ)) .nilp);rw[Je h1];have hlt:toN (i.den wf ρ)<es.length:=by omega
     rw[List.getD_eq_getElem?_getD,qTE hlt];exact h3 _ (qTL hlt)
    ·cases h
   ·cases h
  ·rename_i k x _;split at h
   ·split at h
    ·rename_i hb;cases h;exact qF3 hb fun y hy=>i1 _ _ hy
    ·cases h; exact⟨_,rfl⟩
   ·cases h; exact⟨_,rfl⟩
  ·rename_i x _;split at h
   ·rename_i m hs;cases h;obtain⟨l,h1,h2⟩:=i1 _ _ hs;exact⟨l,by show D.str ⟨⟨toS (x.den wf ρ)⟩⟩=_; rw[h1]; rfl,h2⟩
   ·cases h
  ·rename_i x _;split at h
   ·rename_i m e hs;cases h;obtain⟨es,h1,h2,h3⟩:=sl hs;exact⟨es,by show D.list (toL (x.den wf ρ))=_; rw[h1]; rfl,h2,h3⟩
   ·cases h
  ·rename_i a l _;split at h
   ·rename_i m e hs;cases h;obtain⟨es,h1,h2,h3⟩:=sl hs;refine⟨es.take (toN (a.den wf ρ)),by show D.list ((toL (l.den wf ρ)).take _)=_; rw[h1]; rfl,?_,fun x hx=>h3 x (qUg hx)⟩;rw[qTU]; omega
   ·cases h
  ·rename_i a l _;split at h
   ·rename_i m e hs;cases h;obtain⟨es,h1,h2,h3⟩:=sl hs;refine⟨es.drop (toN (a.den wf ρ)),by show D.list ((toL (l.den wf ρ)).drop _)=_; rw[h1]; rfl,?_,fun x hx=>h3 x (qUE hx)⟩;rw[qT8]; omega
   ·cases h
  ·rename_i x _;split at h
   ·rename_i m hs;cases h;obtain⟨es,h1,h2,h3⟩:=sl hs;refine⟨(toL (x.den wf ρ)).map unB,rfl,?_⟩;rw[qTS,Je h1]; exact h2
   ·cases h
theorem qpS {f:T→List Lin} {l:Lin} {g:Rw} {m0:Nat}:∀{k dn:Nat} {B:Bs},B.OK wf ρ→(∀t,∀l∈f t,0≤l.val wf ρ)→(∀e,g.1+spv (qcb wf ρ (B.as++e)) g.2=l.val wf ρ)→qh1 k f g m0 dn B=true→0≤l.val wf ρ
 | 0,dn,B,hB,_,_,h=>by cases h
 | k+1,dn,B,hB,hf,hg,h=>by
  unfold qh1 at h;simp only at h;split at h
  ·cases h
  ·have hB':(qca ((atM (Nat.xor (qbF 8 B.rw m0) (Nat.land (qbF 8 B.rw m0) dn)) B.as).flatMap f) B).OK wf ρ:=by
    refine qgy hB fun q hq=>?_
    obtain⟨a,_,ha⟩:=qUd.1 hq; exact hf a q ha
   have he:=qwQ ((atM (Nat.xor (qbF 8 B.rw m0) (Nat.land (qbF 8 B.rw m0) dn)) B.as).flatMap f) B;have hg':∀e,g.1+spv (qcb wf ρ ((qca ((atM (Nat.xor (qbF 8 B.rw m0) (Nat.land (qbF 8 B.rw m0) dn)) B.as).flatMap f) B).as++e)) g.2=l.val wf ρ:=by
    intro e;obtain⟨x,hx⟩:=he;rw[hx,qTW]; exact hg _
   rw[qTM]at h;rcases h with h|h
   ·rw[←hg' []]; exact qlv h (hB' [])
   ·exact qpS hB' hf hg' h
theorem qF5 {t a b:T} {s:Bool} (h:mm1 t=some (s,a,b)):toI (t.den wf ρ)=toI (a.den wf ρ)∨toI (t.den wf ρ)=toI (b.den wf ρ):=by
 have n1:∀(j:Nat) (x:T),toI ((T.u 4 j x).den wf ρ)=(toN (x.den wf ρ):Int):=fun j x=>Yy _
 unfold mm1 at h;split at h
 ·cases h;show(if toI (b.den wf ρ)>toI (a.den wf ρ)then toI (b.den wf ρ)else toI (a.den wf ρ))=_∨(if toI (b.den wf ρ)>toI (a.den wf ρ)then toI (b.den wf ρ)else toI (a.den wf ρ))=_;split
  ·exact .inr rfl
  ·exact .inl rfl
 ·cases h;show(if toI (b.den wf ρ)<toI (a.den wf ρ)then toI (b.den wf ρ)else toI (a.den wf ρ))=_∨(if toI (b.den wf ρ)<toI (a.den wf ρ)then toI (b.den wf ρ)else toI (a.den wf ρ))=_;split
  ·exact .inr rfl
  ·exact .inl rfl
 ·rename_i j x y;cases h;rw[n1,n1,n1];show(toN (I64 (if toI (y.den wf ρ)>toI (x.den wf ρ)then toI (y.den wf ρ)else toI (x.den wf ρ))):Int)=_∨(toN (I64 (if toI (y.den wf ρ)>toI (x.den wf ρ)then toI (y.den wf ρ)else toI (x.den wf ρ))):Int)=_;split
  ·exact .inr rfl
  ·exact .inl rfl
 ·rename_i j x y;cases h;rw[n1,n1,n1];show(toN (I64 (if toI (y.den wf ρ)<toI (x.den wf ρ)then toI (y.den wf ρ)else toI (x.den wf ρ))):Int)=_∨(toN (I64 (if toI (y.den wf ρ)<toI (x.den wf ρ)then toI (y.den wf ρ)else toI (x.den wf ρ))):Int)=_;split
  ·exact .inr rfl
  ·exact .inl rfl
 ·cases h;rw[n1];have z:toI ((T.i 0).den wf ρ)=0:=rfl;rw[z];unfold toN;rcases Int.le_total 0 (toI (a.den wf ρ))with q|q
  ·left; omega
  ·right; omega
 ·cases h
theorem qvM {k:Int} {a b:T}:∀{l r:List (Int×T)},qgi l=some (k,a,b,r)→YG wf ρ l=k*toI (a.den wf ρ)+YG wf ρ r∨YG wf ρ l=k*toI (b.den wf ρ)+YG wf ρ r
 | [],r,h=>by cases h
 | p::l,r,h=>by
  have next:∀{h':(match qgi l with|some (k,a,b,q)=>some (k,a,b,p::q) | none=>none)=some (k,a,b,r)},YG wf ρ (p::l)=k*toI (a.den wf ρ)+YG wf ρ r∨YG wf ρ (p::l)=k*toI (b.den wf ρ)+YG wf ρ r:=by
   intro h;split at h
   ·rename_i k' a' b' q' hm;cases h;rcases qvM hm with e|e
    ·left; simp only[YG,e]; omega
    ·right; simp only[YG,e]; omega
   ·cases h
  unfold qgi at h;split at h
  ·rename_i s a' b' hm;split at h
   ·cases h;rcases qF5 (wf:=wf) (ρ:=ρ) hm with e|e
    ·left; simp only[YG,e]
    ·right; simp only[YG,e]
   ·exact next (h':=h)
  ·exact next (h':=h)
theorem qF6 {G:Gam} {n:Nat} (hG:G.OK wf rcP ρ) (ih:∀d,SOK wf ρ G n d):∀d g,qU (n+1) d G g=true→0≤g.val wf ρ:=by
 intro d goal h;unfold qU at h;generalize hq:qbE goal G.B=q at h;obtain⟨g,B⟩:=q;obtain⟨a1,a2,a3⟩:=qqC hG.ls hq;simp only at h;split at h
 ·rename_i h0;rw[qTM]at h0;rw[←a3 []];rcases h0 with h0|h0
  ·exact qwT h0 (a1 [])
  ·exact qlv h0 (a1 [])
 ·split at h
  ·rename_i h0;rw[qTC]at h0;rw[←a3 []]; exact qlv h0.2 (a1 [])
  ·split at h
   ·cases h
   ·rename_i d';obtain⟨i1,i2,i3,i4⟩:=ih d';rw[qTM]at h;rcases h with h|h
    ·rw[qTC]at h;exact qpS a1 i3 a3 h.2
    ·split at h
     ·rename_i k a b r hm;rw[qTC]at h;have h1:=i2 _ h.1;have h2:=i2 _ h.2;have e:=qvM (wf:=wf) (ρ:=ρ) hm;simp only[Lin.val,Lin.smul,qwx,qwy]at h1 h2;have A:=(qk (wf:=wf) (ρ:=ρ) a).1;have B:=(qk (wf:=wf) (ρ:=ρ) b).1;simp only[Lin.val]at A B ⊢;rcases e with e|e
      ·rw[e,←A,qUU]; omega
      ·rw[e,←B,qUU]; omega
     ·cases h
theorem qpT {n:Int} (h:-9223372036854775808≤n∧n≤9223372036854775807):IntKind.wrap .i64 n=n:=by
 simp[IntKind.wrap,IntKind.bits,IntKind.signed];omega
def qkY (e:Nat) (x:D):Int:=match e with
 | 2=>toI x|k+3=>((toL (cel x k)).length:Int)|_=>((toL x).length:Int)
theorem qvN {t q:T} {y:D}:∀{e:Nat},toI (t.den wf ρ)=qkY e y→Yf e (q.den wf ρ) y→∀x∈qe4 t q e,0≤x.val wf ρ:=by
 have Q:=(qk (wf:=wf) (ρ:=ρ) q).2.1;intro e ht h3 x hx
 match e,ht,h3,hx with
 | 0,ht,h3,hx =>
  have h3':(toL y).length=toN (q.den wf ρ):=h3;have ht':toI (t.den wf ρ)=((toL y).length:Int):=ht;simp only[qe4,qTD,qTJ,or_false]at hx;rcases hx with rfl|rfl<;>(simp only[Lin.val_sub,Lin.val_at,Q]; omega)
 | 1,ht,h3,hx =>
  have h3':(toL y).length≤toN (q.den wf ρ):=h3;have ht':toI (t.den wf ρ)=((toL y).length:Int):=ht;simp only[qe4,qTD,qTJ,or_false]at hx;subst hx; simp only[Lin.val_sub,Lin.val_at,Q]; omega
 | 2,ht,h3,hx =>
  have h3':0≤toI y∧toI y<(toN (q.den wf ρ):Int):=h3;have ht':toI (t.den wf ρ)=toI y:=ht;simp only[qe4,qTD,qTJ,or_false]at hx;rcases hx with rfl|rfl<;>(simp only[Lin.val_sub,Lin.val_plus,Lin.val_at,Q]; omega)
 | k+3,ht,h3,hx =>
  unfold qe4 at hx;unfold Yf at h3;simp only at hx h3;split at hx
  ·rename_i hk;rw[hk]at h3;have h3':(toL (cel y k)).length≤toN (q.den wf ρ):=h3;have ht':toI (t.den wf ρ)=((toL (cel y k)).length:Int):=ht;simp only[qTD,qTJ,or_false]at hx;subst hx; simp only[Lin.val_sub,Lin.val_at,Q]; omega
  ·cases hx
theorem qvO {t q:T} {y:D}:∀{e e':Nat},toI (t.den wf ρ)=qkY e y→Yf e' (q.den wf ρ) y→∀x∈qkN t q e e',0≤x.val wf ρ:=by
 have Q:=(qk (wf:=wf) (ρ:=ρ) q).2.1;intro e e' ht h3 x hx;unfold qkN at hx;split at hx
 ·have h3':(toL y).length=toN (q.den wf ρ):=h3;have ht':toI (t.den wf ρ)=((toL y).length:Int):=ht;simp only[qTD,qTJ,or_false]at hx;subst hx; simp only[Lin.val_sub,Lin.val_at,Q]; omega
 ·have h3':(toL y).length≤toN (q.den wf ρ):=h3;have ht':toI (t.den wf ρ)=((toL y).length:Int):=ht;simp only[qTD,qTJ,or_false]at hx;subst hx; simp only[Lin.val_sub,Lin.val_at,Q]; omega
 ·cases hx
theorem qpU {ln:Lin→Bool} (hl:∀g,ln g=true→0≤g.val wf ρ) {e:Nat} {l i t:T} (ht:toI (t.den wf ρ)=qkY e ((toL (l.den wf ρ)).getD (toN (i.den wf ρ)) .nilp)) {f:F} (hf:f.den wf rcP ρ):∀x∈qhW ln e l i t f,0≤x.val wf ρ:=by
 intro x hx;unfold qhW at hx;split at hx
 ·rename_i e' l' i' q;split at hx
  ·rename_i hc;rw[qTC,qTC]at hc;have el:=T.eq_eq hc.1;subst el;have h1:=hl _ hc.2.1;have h2:=hl _ hc.2.2;rw[Lin.val_plus,Lin.val_sub,(qk i').2.1,(qk i).2.1]at h1;rw[Lin.val_plus,Lin.val_sub,(qk l').2.2,(qk i).2.1]at h2;have h3:Yf e' (q.den wf ρ) ((toL (l'.den wf ρ)).getD (toN (i.den wf ρ)) .nilp):=hf (toN (i.den wf ρ)) (by omega) (by omega);split at hx
   ·rename_i he;have:=qTO he;subst this;exact qvN ht h3 x hx
   ·exact qvO ht h3 x hx
  ·cases hx
 ·cases hx
theorem qvP {x q:T}:∀k,k<2→qim (x.den wf ρ) (toN (q.den wf ρ)) k=qV wf ρ [x,.u 4 0 q] k
 | 0,_=>rfl|1,_=>rfl
theorem qvQ {x q:T}:∀k,k<2→qin (x.den wf ρ) (q.den wf ρ) k=qV wf ρ [x,q] k
 | 0,_=>rfl|1,_=>rfl
theorem qvR (hv:∀g,Ju≤g→wf g=PW.wV g) {x q:T} {p:Bool×T×T} (h:(p.2.1.pure 2&&p.2.2.pure 2)=true):0≤(tmV x q p).val wf ρ↔qlK (x.den wf ρ) (q.den wf ρ) p:=by
 rw[qTC]at h;have hv':∀g,Ju≤g→PW.wV g=wf g:=fun g hg=>(hv g hg).symm
 have e1:=T.den_pure (wf:=PW.wV) (wf':=wf) (n:=2) hv' (qvQ (wf:=wf) (ρ:=ρ) (x:=x) (q:=q)) p.2.1 h.1;have e2:=T.den_pure (wf:=PW.wV) (wf':=wf) (n:=2) hv' (qvQ (wf:=wf) (ρ:=ρ) (x:=x) (q:=q)) p.2.2 h.2;unfold qlK tmV;rw[e1,e2];obtain⟨c,s,t⟩:=p
 cases c with
 | true =>
  show 0≤Lin.val wf ρ ((lnN (t.sub [x,q])).sub (lnN (s.sub [x,q])))↔toN _≤toN _;rw[Lin.val_sub,(qk _).2.1,(qk _).2.1,T.den_sub,T.den_sub]; simp only; omega
 | false =>
  show 0≤Lin.val wf ρ ((lnI (t.sub [x,q])).sub (lnI (s.sub [x,q])))↔toI _≤toI _;rw[Lin.val_sub,(qk _).1,(qk _).1,T.den_sub,T.den_sub]; simp only; omega
theorem qvS (hv:∀g,Ju≤g→wf g=PW.wV g) {x q:T} {p:Bool×T×T} (h:qlK (x.den wf ρ) (q.den wf ρ) p):∀l∈qhX x q p,0≤l.val wf ρ:=by
 intro l hl;unfold qhX at hl;split at hl
 ·rename_i hp;simp only[qTD,qTJ,or_false]at hl;subst hl;exact(qvR hv hp).2 h
 ·cases hl
theorem qkZ {x q:T} {p:Bool×T×T} (h:(p.2.1.pure0 2&&p.2.2.pure0 2)=true):((match p.1 with
  | true=>(lnN (p.2.2.sub [x,.u 4 0 q])).sub (lnN (p.2.1.sub [x,.u 4 0 q]))|false=>(lnI (p.2.2.sub [x,.u 4 0 q])).sub (lnI (p.2.1.sub [x,.u 4 0 q])):Lin).val wf ρ≥0)↔qaD (x.den wf ρ) (toN (q.den wf ρ)) p:=by
 rw[qTC]at h;have e1:=T.den_pure0 (wf:=w0) (wf':=wf) (n:=2) (qvP (wf:=wf) (ρ:=ρ) (x:=x) (q:=q)) p.2.1 h.1;have e2:=T.den_pure0 (wf:=w0) (wf':=wf) (n:=2) (qvP (wf:=wf) (ρ:=ρ) (x:=x) (q:=q)) p.2.2 h.2;unfold qaD;rw[e1,e2];obtain⟨c,s,t⟩:=p
 cases c with
 | true =>
  show 0≤Lin.val wf ρ ((lnN (t.sub [x,.u 4 0 q])).sub (lnN (s.sub [x,.u 4 0 q])))↔toN _≤toN _;rw[Lin.val_sub,(qk _).2.1,(qk _).2.1,T.den_sub,T.den_sub]; simp only; omega
 | false =>
  show 0≤Lin.val wf ρ ((lnI (t.sub [x,.u 4 0 q])).sub (lnI (s.sub [x,.u 4 0 q])))↔toI _≤toI _;rw[Lin.val_sub,(qk _).1,(qk _).1,T.den_sub,T.den_sub]; simp only; omega
theorem qpV {x q:T} {p:Bool×T×T} (h:qaD (x.den wf ρ) (toN (q.den wf ρ)) p):∀l∈qgg x q p,0≤l.val wf ρ:=by
 intro l hl;unfold qgg at hl;split at hl
 ·rename_i hp;have:=(qkZ hp).2 h
  revert this
  revert hl
  split
  ·intro hl this; simp only[qTD,qTJ,or_false]at hl; subst hl; exact this
  ·intro hl this; simp only[qTD,qTJ,or_false]at hl; subst hl; exact this
 ·cases hl
theorem qF7 (hv:∀g,Ju≤g→wf g=PW.wV g) {ln:Lin→Bool} (hl:∀g,ln g=true→0≤g.val wf ρ) {l i:T} {f:F} (hf:f.den wf rcP ρ):∀x∈qpI ln l i f,0≤x.val wf ρ:=by
 intro x hx;unfold qpI at hx;split at hx
 ·rename_i e l' i' q;split at hx
  ·rename_i hc;rw[qTC,qTC,qTC,qTC]at hc;obtain⟨⟨c0,c4⟩,c1,c2,c3⟩:=hc;have el:=T.eq_eq c1;subst el;have h1:=hl _ c2;have h2:=hl _ c3;rw[Lin.val_plus,Lin.val_sub,(qk i').2.1,(qk i).2.1]at h1;rw[Lin.val_plus,Lin.val_sub,(qk l').2.2,(qk i).2.1]at h2;have h3:Yf e (q.den wf ρ) ((toL (l'.den wf ρ)).getD (toN (i.den wf ρ)) .nilp):=hf (toN (i.den wf ρ)) (by omega) (by omega);obtain⟨p,hp,hxp⟩:=qUd.1 hx;have h9:=qT5 c0;obtain⟨k,rfl⟩:∃k,e=k+3:=⟨e - 3,by omega⟩
   unfold Yf at h3;simp only at h3;have hk:Nat.blt k 900=false:=by
    cases hb:Nat.blt k 900 with
    | false=>rfl|true=>simp only[qT0]at hb; omega
   rw[hk]at h3;simp only at h3;have hp':p∈RT.tm (k - 900):=by rwa[show k+3 - 903=k - 900 by omega]at hp
   cases hb:Nat.blt (k+3) 920 with
   | true =>
    rw[hb]at hxp;have hb':Nat.blt k 917=true:=by rw[qT0]at hb ⊢; omega
    rw[hb']at h3;exact qpV (x:=.w 3 l' i) (h3 p hp') x hxp
   | false =>
    rw[hb]at hxp;have hb':Nat.blt k 917=false:=by
     cases hq:Nat.blt k 917 with
     | false=>rfl|true=>rw[qT0]at hq; have:Nat.blt (k+3) 920=true:=by {rw[qT0]; omega}; rw[this]at hb; cases hb
    have hb2:Nat.blt k 937=true:=by rw[qT0]at c4 ⊢; omega
    rw[hb']at h3;simp only[hb2]at h3;exact qvS hv (x:=.w 3 l' i) (h3 p hp') x hxp
  ·cases hx
 ·cases hx
theorem qvT:∀{l:T} {x:D},x∈toL (l.den wf ρ)→x∈toL ((qb5 l).den wf ρ):=by
 intro l
 induction l with
 | mk k y ih =>
  intro x hx
  cases k with
  | l=>exact ih (show x∈toL (y.den wf ρ) from hx)
  | _=>exact hx
 | w o a c _ ih =>
  intro x hx;unfold qb5;split
  ·rename_i heq; cases heq; exact ih (qUg (show x∈(toL (c.den wf ρ)).take _ from hx))
  ·rename_i heq; cases heq; exact ih (qUE (show x∈(toL (c.den wf ρ)).drop _ from hx))
  ·rename_i heq; cases heq
  ·exact hx
 | _=>intro x hx; exact hx
theorem qF8 (hv:∀g,Ju≤g→wf g=PW.wV g) {e:Nat} {x q:T} (c0:Nat.ble 903 e=true) (c4:Nat.blt e 940=true) (h3:Yf e (q.den wf ρ) (x.den wf ρ)) {p:Bool×T×T} (hp:p∈RT.tm (e - 903)):∀l∈(match Nat.blt e 920 with|true=>qgg x q|false=>qhX x q) p,0≤l.val wf ρ:=by
 intro lx hxp;have h9:=qT5 c0;obtain⟨k,rfl⟩:∃k,e=k+3:=⟨e - 3,by omega⟩
 unfold Yf at h3;simp only at h3;have hk:Nat.blt k 900=false:=by
  cases hb:Nat.blt k 900 with
  | false=>rfl|true=>simp only[qT0]at hb; omega
 rw[hk]at h3;simp only at h3;have hp':p∈RT.tm (k - 900):=by rwa[show k+3 - 903=k - 900 by omega]at hp
 cases hb:Nat.blt (k+3) 920 with
 | true =>
  rw[hb]at hxp;have hb':Nat.blt k 917=true:=by rw[qT0]at hb ⊢; omega
  rw[hb']at h3;exact qpV (h3 p hp') lx hxp
 | false =>
  rw[hb]at hxp;have hb':Nat.blt k 917=false:=by
   cases hq:Nat.blt k 917 with
   | false=>rfl|true=>rw[qT0]at hq; have:Nat.blt (k+3) 920=true:=by {rw[qT0]; omega}; rw[this]at hb; cases hb
  have hb2:Nat.blt k 937=true:=by rw[qT0]at c4 ⊢; omega
  rw[hb']at h3;simp only[hb2]at h3;exact qvS hv (h3 p hp') lx hxp
theorem qF9 (hv:∀g,Ju≤g→wf g=PW.wV g) {ln:Lin→Bool} (hl:∀g,ln g=true→0≤g.val wf ρ) {l i:T} {f:F} (hf:f.den wf rcP ρ):∀x∈qpJ ln l i f,0≤x.val wf ρ:=by
 intro x hx;unfold qpJ at hx;split at hx
 ·rename_i e l' i' q;split at hx
  ·rename_i hc;rw[qTC,qTC,qTC,qTC,qTC]at hc;obtain⟨⟨c0,c4⟩,⟨_,c1⟩,c2,c3⟩:=hc;have el:=T.eq_eq c1;subst el;have h1:=hl _ c2;have h2:=hl _ c3;rw[Lin.val_sub,(qk i').2.1,(qk (qb5 l)).2.2]at h1;rw[Lin.val_plus,Lin.val_sub,(qk l).2.2,(qk i).2.1]at h2;have hlt:toN (i.den wf ρ)<(toL (l.den wf ρ)).length:=by omega
   have hm:=qvT (qTL hlt);obtain⟨j,hj,ej⟩:=qUu hm;have h3:Yf e (q.den wf ρ) ((toL ((qb5 l).den wf ρ)).getD j .nilp):=hf j (by omega) hj;rw[List.getD_eq_getElem?_getD,qTE hj,qTT,ej]at h3;have e3:(T.w 3 l i).den wf ρ=(toL (l.den wf ρ))[toN (i.den wf ρ)]:=by
    show(toL (l.den wf ρ)).getD _ _=_;rw[List.getD_eq_getElem?_getD,qTE hlt]; rfl
   rw[←e3]at h3;obtain⟨p,hp,hxp⟩:=qUd.1 hx;exact qF8 hv c0 c4 h3 hp x hxp
  ·cases hx
 ·cases hx
theorem qGa {ln:Lin→Bool} (hl:∀g,ln g=true→0≤g.val wf ρ) {e:Nat} {l i t:T} (ht:toI (t.den wf ρ)=qkY e ((toL (l.den wf ρ)).getD (toN (i.den wf ρ)) .nilp)) {f:F} (hf:f.den wf rcP ρ):∀x∈qpK ln e l i t f,0≤x.val wf ρ:=by
 intro x hx;unfold qpK at hx;split at hx
 ·rename_i e' l' i' q;split at hx
  ·rename_i hc;rw[qTC,qTC,qTC]at hc;obtain⟨⟨_,c1⟩,c2,c3⟩:=hc;have el:=T.eq_eq c1;subst el;have h1:=hl _ c2;have h2:=hl _ c3;rw[Lin.val_sub,(qk i').2.1,(qk (qb5 l)).2.2]at h1;rw[Lin.val_plus,Lin.val_sub,(qk l).2.2,(qk i).2.1]at h2;have hlt:toN (i.den wf ρ)<(toL (l.den wf ρ)).length:=by omega
   have hm:=qvT (qTL hlt);obtain⟨j,hj,ej⟩:=qUu hm;have h3:Yf e' (q.den wf ρ) ((toL ((qb5 l).den wf ρ)).getD j .nilp):=hf j (by omega) hj;rw[List.getD_eq_getElem?_getD,qTE hj,qTT,ej]at h3;have e3:(toL (l.den wf ρ)).getD (toN (i.den wf ρ)) .nilp=(toL (l.den wf ρ))[toN (i.den wf ρ)]:=by
    rw[List.getD_eq_getElem?_getD,qTE hlt]; rfl
   rw[←e3]at h3;split at hx
   ·rename_i he;have:=qTO he;subst this;exact qvN ht h3 x hx
   ·exact qvO ht h3 x hx
  ·cases hx
 ·cases hx
theorem qGb {ln:Lin→Bool} (hl:∀g,ln g=true→0≤g.val wf ρ) {t:T}:∀l∈qpL ln t,0≤l.val wf ρ:=by
 intro l h;unfold qpL at h;split at h
 ·rename_i a b;split at h
  ·rename_i he;have e:=T.eq_eq he;subst e;have hv:toI ((T.w 2 a a).den wf ρ)=toI (a.den wf ρ)*toI (a.den wf ρ):=rfl;rcases qTD.1 h with rfl|h
   ·rw[Lin.val_at,hv];rcases Int.le_total 0 (toI (a.den wf ρ))with q|q
    ·exact qVG q q
    ·exact Int.mul_nonneg_of_nonpos_of_nonpos q q
   ·rcases qTH.1 h with h|h
    ·split at h
     ·rename_i hc;rw[qTC]at hc;have h1:=hl _ hc.1;have h2:=hl _ hc.2;rw[Lin.val_smul,(qk a).1]at h1;rw[(qk a).1]at h2;have h3:toI (a.den wf ρ)=0:=by omega
      simp only[qTD,qTJ,or_false]at h;subst h;rw[Lin.val_sub,Lin.val_cst,Lin.val_at,hv,h3];decide
     ·cases h
    split at h
    ·rename_i hc;rw[qTC]at hc;have h1:=hl _ hc.1;have h2:=hl _ hc.2;rw[Lin.val_sub,Lin.val_cst,(qk a).1]at h1;rw[Lin.val_plus,(qk a).1]at h2;simp only[qTD,qTJ,or_false]at h;subst h;rw[Lin.val_sub,Lin.val_cst,Lin.val_at,hv];have h3:=qVG h1 h2;have e:(2000 - toI (a.den wf ρ))*(toI (a.den wf ρ)+2000)=4000000 - toI (a.den wf ρ)*toI (a.den wf ρ):=by
      rw[Int.sub_mul,qUU,qUU]; omega
     omega
    ·cases h
  ·cases h
 ·cases h
theorem qpW (k:Nat):∀(l:List D) (x:D),x∈l→(toL (cel x k)).length≤qaC k l
 | [],x,h=>by cases h
 | y::r,x,h=>by
  rcases qTD.1 h with rfl|h
  ·exact Nat.le_max_left _ _
  ·exact qT2 (qpW k r x h) (Nat.le_max_right _ _)
theorem qvU {k n:Nat}:∀{l:List D},(∀x∈l,(toL (cel x k)).length≤n)→qaC k l≤n
 | [],_=>qVB _|y::r,h=>Nat.max_le.2 ⟨h y (by simp),qvU fun x hx=>h x (qTG _ hx)⟩
theorem JM:∀t:T,toL ((nlT t).den wf ρ)=toL (t.den wf ρ):=by
 intro t
 induction t with
 | mk k x ih =>
  cases k with
  | l=>exact ih|_=>rfl
 | _=>rfl
theorem Jn {t:T} {e:Lin} (h:toI (t.den wf ρ)=e.val wf ρ):∀l∈Y9 t e,0≤l.val wf ρ:=by
 intro l hl;simp only[Y9,qTD,qTJ,or_false]at hl;rcases hl with rfl|rfl<;>(rw[Lin.val_sub,Lin.val_at,h]; omega)
theorem qpX {k:Nat} (x:T):toI ((T.u 13 k x).den wf ρ)=((Lin.aw (.u 14 0 (Jg (JZ 10 x)))).plus 1).val wf ρ:=by
 have ed:toI ((T.u 13 k x).den wf ρ)=(qaa (x.den wf ρ):Int):=Yy _;rw[Lin.val_plus,Lin.val_at,ed,qHE];show _=toI (N64 (Jh (toL ((Jg (JZ 10 x)).den wf ρ))))+1;rw[Yy,qgC,qgD]; omega
theorem qk0:∀(a b:List D),Jh (a++b)=max (Jh a) (Jh b)
 | [],b=>by show Jh b=max 0 (Jh b); omega
 | x::a,b=>by
  show max (qaa x) (Jh (a++b))=max (max (qaa x) (Jh a)) (Jh b);rw[qk0 a b]; omega
theorem qGc {k:Nat} {x:T}:∀l∈qpO k x,0≤l.val wf ρ:=by
 have M:∀(k:Nat) (y:T),toI ((T.u 14 k y).den wf ρ)=(Jh (toL (y.den wf ρ)):Int):=fun k y=>Yy _
 have Dd:∀(k:Nat) (y:T),toI ((T.u 13 k y).den wf ρ)=(qaa (y.den wf ρ):Int):=fun k y=>Yy _
 have mx:∀(a b:T),toI ((T.w 26 a b).den wf ρ)=if toI (b.den wf ρ)>toI (a.den wf ρ)then toI (b.den wf ρ)else toI (a.den wf ρ):=fun a b=>rfl
 intro l h;unfold qpO at h;split at h
 ·exact Jn (by rw[M,Lin.val_cst]; rfl) l h
 ·rename_i a r;refine Jn ?_ l h;rw[M,Lin.val_at,mx,Dd,M];show((max (qaa (a.den wf ρ)) (Jh (toL (r.den wf ρ))):Nat):Int)=_;split<;>omega
 ·rename_i a b;refine Jn ?_ l h;rw[M,Lin.val_at,mx,M,M];show(Jh (toL (a.den wf ρ)++toL (b.den wf ρ)):Int)=_;rw[qk0];split<;>omega
 ·rename_i i y;simp only[qTD,qTJ,or_false]at h;subst h;rw[Lin.val_sub,Lin.val_at,Lin.val_at,M,M];show(0:Int)≤_ - (Jh ((toL (y.den wf ρ)).take (toN (i.den wf ρ))):Int);have:=qk0 ((toL (y.den wf ρ)).take (toN (i.den wf ρ))) ((toL (y.den wf ρ)).drop (toN (i.den wf ρ)));rw[qUw]at this;omega
 ·rename_i i y;simp only[qTD,qTJ,or_false]at h;subst h;rw[Lin.val_sub,Lin.val_at,Lin.val_at,M,M];show(0:Int)≤_ - (Jh ((toL (y.den wf ρ)).drop (toN (i.den wf ρ))):Int);have:=qk0 ((toL (y.den wf ρ)).take (toN (i.den wf ρ))) ((toL (y.den wf ρ)).drop (toN (i.den wf ρ)));rw[qUw]at this;omega
 ·exact Jn (by rw[M,Lin.val_at,M]; rfl) l h
 ·exact Jn (qpX _) l h
 ·cases h
theorem qpY {k:Nat} (x:T):toI ((T.u 15 k x).den wf ρ)=(qh0 x).val wf ρ:=by
 have ed:toI ((T.u 15 k x).den wf ρ)=(nsz (x.den wf ρ):Int):=Yy _;unfold qh0;rw[Lin.val_plus,Lin.val_add,Lin.val_at,ed,qHG,(qk _).2.2,qgD];show _=_+toI (N64 (Yz 1000 (toL ((Jg (JZ 10 x)).den wf ρ))))+1;rw[Yy,qgC,qgD]; omega
theorem qk1 (k:Nat) (x:T):(qgj k x).val wf ρ=(qdq k (x.den wf ρ):Int):=by
 cases k with
 | zero=>exact(qk x).2.2|succ k =>
  unfold qgj qdq;simp only
  cases hk:Nat.beq k 999 with
  | true=>rw[Lin.val_at]; exact Yy _|false=>rw[(qk _).2.1,qgD]
theorem qGd {ln:Lin→Bool} (hl:∀g,ln g=true→0≤g.val wf ρ) {k:Nat} {x:T}:∀l∈qpN ln k x (.u 12 k x),0≤l.val wf ρ:=by
 have T0:∀y:T,toI ((T.u 12 k y).den wf ρ)=(Yz k (toL (y.den wf ρ)):Int):=fun y=>Yy _
 have A:∀y:T,(Lin.aw (.u 12 k y)).val wf ρ=(Yz k (toL (y.den wf ρ)):Int):=fun y=>by rw[Lin.val_at,T0]
 intro l h;unfold qpN at h;split at h
 ·refine Jn ?_ l h;rw[T0,Lin.val_cst]; rfl
 ·split at h
  ·exact Jn (qpY _) l h
  ·cases h
 ·rename_i a r;refine Jn ?_ l h;rw[T0,Lin.val_add,A,qk1];show((qdq k (a.den wf ρ)+Yz k (toL (r.den wf ρ)):Nat):Int)=_;omega
 ·rename_i a b;refine Jn ?_ l h;rw[T0,Lin.val_add,A,A];show(Yz k (toL (a.den wf ρ)++toL (b.den wf ρ)):Int)=_;rw[qqJ]; omega
 ·refine Jn ?_ l h;rw[T0,A]; rfl
 ·refine Jn ?_ l h;rw[T0,A];rename_i y;show(Yz k ((toL (y.den wf ρ)).drop (toN (I64 0))):Int)=_;rfl
 ·rename_i i y;have tk:toI ((T.u 12 k (.w 6 i y)).den wf ρ)=(Yz k ((toL (y.den wf ρ)).take (toN (i.den wf ρ))):Int):=T0 _;rcases qTD.1 h with rfl|h
  ·rw[Lin.val_sub,A,Lin.val_at,tk];have:=qxh k (toN (i.den wf ρ)) (toL (y.den wf ρ));omega
  ·rcases qTH.1 h with h|h
   ·split at h
    ·rename_i hc;have h2:=hl _ hc;rw[Lin.val_plus,Lin.val_sub,(qk y).2.2,(qk i).2.1]at h2;simp only[qTD,qTJ,or_false]at h;subst h;rw[Lin.val_sub,Lin.val_sub,A,Lin.val_at,tk,qk1];have h3:=qqK (k:=k) (n:=toN (i.den wf ρ)) (l:=toL (y.den wf ρ)) (by omega);have h4:=qxh k (toN (i.den wf ρ)+1) (toL (y.den wf ρ));have:(T.w 3 y i).den wf ρ=(toL (y.den wf ρ)).getD (toN (i.den wf ρ)) .nilp:=rfl;rw[this]; omega
    ·cases h
   rcases qTH.1 h with h|h
   ·split at h
    ·rename_i hc;have:=hl _ hc;rw[Lin.val_sub,(qk i).2.1,(qk y).2.2]at this;refine Jn ?_ l h;rw[tk,A,qTX (by omega)]
    ·cases h
   ·rcases qTH.1 h with h|h
    ·split at h
     ·rename_i hc;have:=hl _ hc;rw[Lin.val_smul,(qk i).2.1]at this;refine Jn ?_ l h;rw[tk,Lin.val_cst,show toN (i.den wf ρ)=0 by omega]; rfl
     ·cases h
    ·split at h
     ·rename_i j _ _ _ _;split at h
      ·rename_i hc;rw[qTC]at hc;have h1:=hl _ hc.1;have h2:=hl _ hc.2;rw[(qk j).1]at h1;rw[Lin.val_plus,Lin.val_sub,(qk y).2.2,(qk j).1]at h2;refine Jn ?_ l h;have e1:toN ((T.w 0 j (.i (.ofNat 1))).den wf ρ)=toN (j.den wf ρ)+1:=by
        show toN (I64 (toI (j.den wf ρ)+1))=_;unfold toN;show(toI (j.den wf ρ)+1).toNat=_;omega
       have hj:toN (j.den wf ρ)<(toL (y.den wf ρ)).length:=by unfold toN; omega
       rw[tk,e1,qqK hj,Lin.val_add,A,qk1];show _=(Yz k ((toL (y.den wf ρ)).take (toN (j.den wf ρ))):Int)+_;have:(T.w 3 y j).den wf ρ=(toL (y.den wf ρ)).getD (toN (j.den wf ρ)) .nilp:=rfl;rw[this]; omega
      ·cases h
     ·rename_i m _ _ _ _;split at h
      ·rename_i hc;have h2:=hl _ hc;rw[Lin.val_plus,Lin.val_plus,(qk y).2.2]at h2;refine Jn ?_ l h;have hj:m<(toL (y.den wf ρ)).length:=by omega
       have e1:toN ((T.i (.ofNat (m+1))).den wf ρ)=m+1:=rfl;have e2:toN ((T.i (.ofNat m)).den wf ρ)=m:=rfl;rw[tk,e1,qqK hj,Lin.val_add,A,qk1];show _=(Yz k ((toL (y.den wf ρ)).take (toN ((T.i (.ofNat m)).den wf ρ))):Int)+_;have:(T.w 3 y (.i (.ofNat m))).den wf ρ=(toL (y.den wf ρ)).getD m .nilp:=rfl;rw[this,e2]; omega
      ·cases h
     ·cases h
 ·cases h
theorem qvV {ln:Lin→Bool} (i2:∀g,ln g=true→0≤g.val wf ρ) {a b:T} {q:Bool}:∀l∈qkU ln (.w (match q with|true=>100|false=>110) a b) a b q,0≤l.val wf ρ:=by
 intro l hl;unfold qkU at hl;split at hl
 ·rename_i m;split at hl
  ·rename_i hc;rw[qTC]at hc;have A:=(qk (wf:=wf) (ρ:=ρ) a).1;have h0:=i2 _ hc.1;have h1:=i2 _ hc.2;rw[A]at h0;rw[Lin.val_sub,Lin.val_cst,A]at h1;have hd:(toI (a.den wf ρ)).tdiv ((m+1:Nat):Int)=toI (a.den wf ρ) / ((m+1:Nat):Int):=qWr h0;have hm:(toI (a.den wf ρ)).tmod ((m+1:Nat):Int)=toI (a.den wf ρ) % ((m+1:Nat):Int):=qWq h0;have k1:0≤toI (a.den wf ρ) % ((m+1:Nat):Int):=Int.emod_nonneg _ (by omega);have k2:toI (a.den wf ρ) % ((m+1:Nat):Int)<((m+1:Nat):Int):=Int.emod_lt_of_pos _ (by omega);have k3:=Int.mul_ediv_add_emod (toI (a.den wf ρ)) ((m+1:Nat):Int);have k4:0≤toI (a.den wf ρ) / ((m+1:Nat):Int):=Int.ediv_nonneg h0 (by omega);have k5:toI (a.den wf ρ) / ((m+1:Nat):Int)≤toI (a.den wf ρ):=Int.ediv_le_self _ h0
   cases q with
   | true =>
    have e:toI ((T.w 100 a (.i (.ofNat (m+1)))).den wf ρ)=toI (a.den wf ρ) / ((m+1:Nat):Int):=by
     show IntKind.wrap .i64 ((toI (a.den wf ρ)).tdiv ((m+1:Nat):Int))=_;rw[hd]; exact qpT ⟨by omega,by omega⟩
    generalize toI (a.den wf ρ) / ((m+1:Nat):Int)=Q at e k3 k4 k5;generalize toI (a.den wf ρ) % ((m+1:Nat):Int)=R at k1 k2 k3;have e2:((m+1:Nat):Int)*Q=((m:Int)+1)*Q:=by rw[qWs]; rfl
    simp only[qTD,qTJ,or_false]at hl;rcases hl with rfl|rfl|rfl
    ·rw[Lin.val_at]; show 0≤toI ((T.w 100 a (.i (.ofNat (m+1)))).den wf ρ); omega
    ·rw[Lin.val_sub,Lin.val_smul,Lin.val_at,A]; show 0≤_ - ((m:Int)+1)*toI ((T.w 100 a (.i (.ofNat (m+1)))).den wf ρ); rw[e]; omega
    ·rw[Lin.val_sub,Lin.val_plus,Lin.val_smul,Lin.val_at,A]; show 0≤((m:Int)+1)*toI ((T.w 100 a (.i (.ofNat (m+1)))).den wf ρ)+_ - _; rw[e]; omega
   | false =>
    have e:toI ((T.w 110 a (.i (.ofNat (m+1)))).den wf ρ)=toI (a.den wf ρ) % ((m+1:Nat):Int):=by
     show(toI (a.den wf ρ)).tmod ((m+1:Nat):Int)=_;rw[hm]
    have k6:toI (a.den wf ρ) % ((m+1:Nat):Int)≤toI (a.den wf ρ):=by
     have:0≤((m+1:Nat):Int)*(toI (a.den wf ρ) / ((m+1:Nat):Int)):=qVG (by omega) k4;omega
    rcases(qTH.1 hl).symm with hl|hl
    ·refine Jn ?_ l hl;have e3:toI ((T.w 100 a (.i (.ofNat (m+1)))).den wf ρ)=toI (a.den wf ρ) / ((m+1:Nat):Int):=by
      show IntKind.wrap .i64 ((toI (a.den wf ρ)).tdiv ((m+1:Nat):Int))=_;rw[hd]; exact qpT ⟨by omega,by omega⟩
     rw[Lin.val_sub,Lin.val_smul,Lin.val_at,A,e3];show toI ((T.w 110 a (.i (.ofNat (m+1)))).den wf ρ)=_;rw[e];have e2:((m+1:Nat):Int)*(toI (a.den wf ρ) / ((m+1:Nat):Int))=((m:Int)+1)*(toI (a.den wf ρ) / ((m+1:Nat):Int)):=by rw[qWs]; rfl
     omega
    simp only[qTD,qTJ,or_false]at hl;rcases hl with rfl|rfl|rfl
    ·rw[Lin.val_at]; show 0≤toI ((T.w 110 a (.i (.ofNat (m+1)))).den wf ρ); omega
    ·rw[Lin.val_sub,Lin.val_cst,Lin.val_at]; show 0≤(m:Int) - toI ((T.w 110 a (.i (.ofNat (m+1)))).den wf ρ); omega
    ·rw[Lin.val_sub,Lin.val_at,A]; show 0≤_ - toI ((T.w 110 a (.i (.ofNat (m+1)))).den wf ρ); omega
  ·cases hl
 ·cases hl
theorem qGe {G:Gam} {n d:Nat} (hG:G.OK wf rcP ρ) (ih:SOK wf ρ G n d):∀t,∀l∈qe6 (n+1) d G t,0≤l.val wf ρ:=by
 obtain⟨i1,i2,i3,i4⟩:=ih;intro t l hl;unfold qe6 at hl;have hl3:=qTH.1 hl;clear hl;rcases hl3 with hl|hl3
 ·split at hl
  ·rename_i a b hs;obtain⟨z,hz,h1,h2⟩:=i1 _ _ hs;have:toI (t.den wf ρ)=z:=by rw[hz]; rfl
   simp only[qTD,qTJ,or_false]at hl;rcases hl with rfl|rfl
   ·rw[Lin.val_plus,Lin.val_at]; omega
   ·rw[Lin.val_sub,Lin.val_cst,Lin.val_at]; omega
  ·cases hl
 have hl6:=qTH.1 hl3;clear hl3;rcases hl6 with hl|hl7
 ·obtain⟨x,_,hx⟩:=qUd.1 hl;split at hx
  ·rename_i y hs;have h9:=qlJ (i1 _ _ hs)
   revert h9 hx
   generalize unN y=z;intro hx h9;split at hx
   ·rename_i r ps;obtain⟨p,hp,hxp⟩:=qUd.1 hx;exact qpV (q:=.i 0) (h9.2 p hp) l hxp
   ·cases hx
  ·cases hx
 have hl2:=qTH.1 hl7;clear hl7;rcases hl2 with hl|hl4
 ·split at hl
  ·obtain⟨p,_,hp⟩:=qUd.1 hl;rcases qTH.1 hp with hp|hp
   ·obtain⟨f,hf,hx⟩:=qUd.1 hp;exact qF7 hG.wv i2 (hG.fs f hf) l hx
   ·obtain⟨f,hf,hx⟩:=qUd.1 hp;exact qF9 hG.wv i2 (hG.fs f hf) l hx
  ·cases hl
 have hl5:=qTH.1 hl4;clear hl4;rcases hl5 with hl|hl
 ·exact qGb i2 l hl
 split at hl
 ·rename_i k x;rcases qTH.1 hl with hl|hl
  ·split at hl
   ·rename_i m e hs;simp only[qTD,qTJ,or_false]at hl;subst hl;obtain⟨es,h1,h2,h3⟩:=i1 _ _ hs;rw[Lin.val_sub,Lin.val_cst,Lin.val_at];show(0:Int)≤_ - toI (N64 (toL (x.den wf ρ)).length);rw[Yy,Je h1]; omega
   ·cases hl
  ·split at hl
   ·rename_i l' i _;rcases qTH.1 hl with hl|hl
    ·obtain⟨f,hf,hx⟩:=qUd.1 hl;exact qpU i2 (by rfl) (hG.fs f hf) l hx
    ·obtain⟨f,hf,hx⟩:=qUd.1 hl;exact qGa i2 (by rfl) (hG.fs f hf) l hx
   ·rename_i k' l' i _;rcases qTH.1 hl with hl|hl
    ·obtain⟨f,hf,hx⟩:=qUd.1 hl;exact qpU i2 (by rfl) (hG.fs f hf) l hx
    ·split at hl
     ·rename_i hlin;have h0:=i2 _ hlin;rw[Lin.val_plus,Lin.val_sub,(qk l').2.2,(qk i).2.1]at h0;simp only[qTD,qTJ,or_false]at hl;subst hl;rw[Lin.val_sub,Lin.val_at,Lin.val_at];have hj:toN (i.den wf ρ)<(toL (l'.den wf ρ)).length:=by omega
      have hm:=qpW k' (toL (l'.den wf ρ)) _ (qTL hj);show(0:Int)≤toI (N64 (qaC k' (toL ((nlT l').den wf ρ)))) - toI (N64 (toL (cel ((toL (l'.den wf ρ)).getD (toN (i.den wf ρ)) .nilp) k')).length);rw[Yy,Yy,JM,List.getD_eq_getElem?_getD,qTE hj,qTT];omega
     ·cases hl
   ·rename_i a o l' _;split at hl
    ·rename_i hlin;have h0:=i2 _ hlin;rw[Lin.val_sub,Lin.val_sub,(qk l').2.2,(qk a).2.1,(qk o).2.1]at h0;have e:toI ((T.u 0 k (.w 6 a (.w 7 o l'))).den wf ρ)=(toN (a.den wf ρ):Int):=by
      show toI (N64 ((toL (l'.den wf ρ)).drop (toN (o.den wf ρ)) |>.take (toN (a.den wf ρ))).length)=_;rw[Yy,qTU,qT8]; omega
     simp only[qTD,qTJ,or_false]at hl;rcases hl with rfl|rfl
     ·rw[Lin.val_sub,Lin.val_at,(qk a).2.1,e]; omega
     ·rw[Lin.val_sub,Lin.val_at,(qk a).2.1,e]; omega
    ·cases hl
   ·rename_i o l' _;split at hl
    ·rename_i hlin;have h0:=i2 _ hlin;rw[Lin.val_sub,(qk l').2.2,(qk o).2.1]at h0;refine Jn ?_ l hl;rw[Lin.val_sub,(qk l').2.2,(qk o).2.1];show toI (N64 ((toL (l'.den wf ρ)).drop (toN (o.den wf ρ))).length)=_;rw[Yy,qT8]; omega
    ·cases hl
   ·cases hl
 ·rename_i k x;rcases qTH.1 hl with hl|hl
  rotate_left
  ·split at hl
   ·rename_i j y _;refine Jn ?_ l hl;rw[(qk y).2.2];show toI (N64 ((toL (y.den wf ρ)).map unB).length)=_;rw[Yy,qTS]
   ·cases hl
  split at hl
  ·rename_i m hs;simp only[qTD,qTJ,or_false]at hl;subst hl;obtain⟨s,h1,h2⟩:=i1 _ _ hs;rw[Lin.val_sub,Lin.val_cst,Lin.val_at];show(0:Int)≤_ - toI (N64 (toS (x.den wf ρ)).length);rw[Yy,h1]; show(0:Int)≤_ - ((s.length:Nat):Int); omega
  ·cases hl
 ·rename_i k x;have e4:toI ((T.u 4 k x).den wf ρ)=(toN (x.den wf ρ):Int):=Yy _;rcases qTD.1 hl with rfl|hl
  ·rw[Lin.val_sub,Lin.val_at,(qk x).1,e4]; unfold toN; omega
  split at hl
  ·rename_i hlin;have h0:=i2 _ hlin;rw[(qk x).1]at h0;simp only[qTD,qTJ,or_false]at hl;subst hl;rw[Lin.val_sub,Lin.val_at,(qk x).1,e4]; unfold toN; omega
  ·cases hl
 ·rename_i x;split at hl
  ·rename_i hlin;rw[qTC]at hlin;have h0:=i2 _ hlin.1;have h1:=i2 _ hlin.2;rw[Lin.val_plus,(qk x).1]at h0;rw[Lin.val_sub,Lin.val_cst,(qk x).1]at h1;have e:toI ((T.u 5 0 x).den wf ρ)=toI (x.den wf ρ):=by
    show IntKind.wrap .i64 (toI (x.den wf ρ))=_;exact qpT (by omega)
   simp only[qTD,qTJ,or_false]at hl;rcases hl with rfl|rfl
   ·rw[Lin.val_sub,Lin.val_at,(qk x).1,e]; omega
   ·rw[Lin.val_sub,Lin.val_at,(qk x).1,e]; omega
  ·cases hl
 ·rename_i l' i;obtain⟨f,hf,hx⟩:=qUd.1 hl;exact qpU i2 (by rfl) (hG.fs f hf) l hx
 ·exact qGd i2 l hl
 ·rename_i k x;have ed:toI ((T.u 13 k x).den wf ρ)=(qaa (x.den wf ρ):Int):=Yy _;rcases qTH.1 hl with hl|hl
  ·exact Jn (qpX _) l hl
  ·split at hl
   ·rename_i l' i _;split at hl
    ·rename_i hlin;have h0:=i2 _ hlin;rw[Lin.val_plus,Lin.val_sub,(qk l').2.2,(qk i).2.1]at h0;have hj:toN (i.den wf ρ)<(toL (l'.den wf ρ)).length:=by omega
     simp only[qTD,qTJ,or_false]at hl;subst hl;have hm:=qqI (qTL hj);rw[Lin.val_sub,Lin.val_at,Lin.val_at,ed];show(0:Int)≤toI (N64 (Jh (toL ((nlT l').den wf ρ)))) - (qaa ((toL (l'.den wf ρ)).getD (toN (i.den wf ρ)) .nilp):Int);rw[Yy,JM,List.getD_eq_getElem?_getD,qTE hj,qTT];omega
    ·cases hl
   ·exact Jn (qpX _) l hl
   ·cases hl
 ·exact qGc l hl
 ·rename_i k x;rcases qTH.1 hl with hl|hl
  ·exact Jn (qpY _) l hl
  ·split at hl
   ·rename_i l' i _;split at hl
    ·rename_i hlin;have h0:=i2 _ hlin;rw[Lin.val_plus,Lin.val_sub,(qk l').2.2,(qk i).2.1]at h0;have hj:toN (i.den wf ρ)<(toL (l'.den wf ρ)).length:=by omega
     simp only[qTD,qTJ,or_false]at hl;subst hl;have hm:=qxi 1000 (qTL hj);rw[Lin.val_sub,Lin.val_at,Lin.val_at];show(0:Int)≤toI (N64 (Yz 1000 (toL ((nlT l').den wf ρ)))) - toI (N64 (nsz ((toL (l'.den wf ρ)).getD (toN (i.den wf ρ)) .nilp)));rw[Yy,Yy,JM,List.getD_eq_getElem?_getD,qTE hj,qTT];have e:qdq 1000 (toL (l'.den wf ρ))[toN (i.den wf ρ)]=nsz (toL (l'.den wf ρ))[toN (i.den wf ρ)]:=rfl;omega
    ·cases hl
   ·exact Jn (qpY _) l hl
   ·cases hl
 ·rename_i a b;have e:∀(h:toN (b.den wf ρ)≤toN (a.den wf ρ)),toI ((T.w 9 a b).den wf ρ)=(toN (a.den wf ρ):Int) - toN (b.den wf ρ):=by
   intro h;show toI (N64 (toN (a.den wf ρ) - toN (b.den wf ρ)))=_;rw[Yy]; omega
  split at hl
  ·rename_i hlin;have h0:=i2 _ hlin;rw[Lin.val_sub,(qk a).2.1,(qk b).2.1]at h0;have e:=e (by omega);simp only[qTD,qTJ,or_false]at hl;rcases hl with rfl|rfl
   ·simp only[Lin.val_sub,Lin.val_at,(qk a).2.1,(qk b).2.1]; rw[e]; omega
   ·simp only[Lin.val_sub,Lin.val_at,(qk a).2.1,(qk b).2.1]; rw[e]; omega
  ·cases hl
 ·rename_i a b;have A:=(qk (wf:=wf) (ρ:=ρ) a).1;have B:=(qk (wf:=wf) (ρ:=ρ) b).1;have e:toI ((T.w 26 a b).den wf ρ)=if toI (b.den wf ρ)>toI (a.den wf ρ)then toI (b.den wf ρ)else toI (a.den wf ρ):=rfl
  rcases qTH.1 hl with hl|hl
  ·simp only[qTD,qTJ,or_false]at hl;rcases hl with rfl|rfl
   ·simp only[Lin.val_sub,Lin.val_at,A]; rw[e]; split<;>omega
   ·simp only[Lin.val_sub,Lin.val_at,B]; rw[e]; split<;>omega
  ·split at hl
   ·rename_i h1;have:=i2 _ h1;rw[Lin.val_sub,A,B]at this;simp only[qTD,qTJ,or_false]at hl;subst hl;simp only[Lin.val_sub,Lin.val_at,A]; rw[e]; split<;>omega
   ·split at hl
    ·rename_i h1;have:=i2 _ h1;rw[Lin.val_sub,A,B]at this;simp only[qTD,qTJ,or_false]at hl;subst hl;simp only[Lin.val_sub,Lin.val_at,B]; rw[e]; split<;>omega
    ·split at hl
     ·rename_i h1;rw[qTC]at h1;have q1:=i2 _ h1.1;have q2:=i2 _ h1.2;rw[A]at q1; rw[B]at q2;simp only[qTD,qTJ,or_false]at hl;subst hl;simp only[Lin.val_sub,Lin.val_add,Lin.val_at,A,B]; rw[e]; split<;>omega
     ·cases hl
 ·rename_i a b;have A:=(qk (wf:=wf) (ρ:=ρ) a).1;have B:=(qk (wf:=wf) (ρ:=ρ) b).1;have e:toI ((T.w 27 a b).den wf ρ)=if toI (b.den wf ρ)<toI (a.den wf ρ)then toI (b.den wf ρ)else toI (a.den wf ρ):=rfl
  rcases qTH.1 hl with hl|hl
  ·simp only[qTD,qTJ,or_false]at hl;rcases hl with rfl|rfl
   ·simp only[Lin.val_sub,Lin.val_at,A]; rw[e]; split<;>omega
   ·simp only[Lin.val_sub,Lin.val_at,B]; rw[e]; split<;>omega
  ·split at hl
   ·rename_i h1;have:=i2 _ h1;rw[Lin.val_sub,A,B]at this;simp only[qTD,qTJ,or_false]at hl;subst hl;simp only[Lin.val_sub,Lin.val_at,B]; rw[e]; split<;>omega
   ·split at hl
    ·rename_i h1;have:=i2 _ h1;rw[Lin.val_sub,A,B]at this;simp only[qTD,qTJ,or_false]at hl;subst hl;simp only[Lin.val_sub,Lin.val_at,A]; rw[e]; split<;>omega
    ·split at hl
     ·rename_i h1;rw[qTC]at h1;have q1:=i2 _ h1.1;have q2:=i2 _ h1.2;rw[A]at q1; rw[B]at q2;simp only[qTD,qTJ,or_false]at hl;subst hl;simp only[Lin.val_at]; rw[e]; split<;>omega
     ·cases hl
 ·exact qvV (q:=true) i2 l hl
 ·exact qvV (q:=false) i2 l hl
 ·cases hl
theorem qpZ {f:T→Y→Bool} (hf:∀a c,f a c=true→qj c (a.den wf ρ)):∀{x:T} {r:Y},qd8 f x r=true→qj r (x.den wf ρ)∧r.chainy=true:=by
 intro x
 induction x with
 | w o a b _ ih =>
  intro r h;unfold qd8 at h;split at h
  ·rename_i a' b' c r' heq;injection heq with e1 e2 e3
   subst e1; subst e2; subst e3;rw[qTC,qTC]at h;obtain⟨h2,h3⟩:=ih h.2.2;obtain⟨cs,hc⟩:=Y.chainy_list h.1 h2;exact⟨⟨a.den wf ρ,cs,by show D.list (_::toL (b.den wf ρ))=_; rw[hc]; rfl,hf _ _ h.2.1,hc ▸ h2⟩,rfl⟩
  ·rename_i heq; cases heq
  ·cases h
 | z=>intro r h; cases r<;>first|exact⟨rfl,rfl⟩ | (simp[qd8]at h; done)
 | _=>intro r h; cases r<;>(simp[qd8]at h; done)
theorem qGf {f:T→Y→Bool} (hf:∀a c,f a c=true→qj c (a.den wf ρ)) {t:T} {cs:List D} (hcs:t.den wf ρ=.agg cs):∀{r' r:Y} {k:Nat},qbW f t r' r k=true→qj r' (.list (cs.drop k))→qj r (.list (cs.drop k)):=by
 intro r'
 induction r' with
 | ec p a _ ih =>
  intro r k h hd
  cases r with
  | ec c b =>
   simp only[qbW,qTC]at h;obtain⟨y,ys,h1,h2,h3⟩:=hd;injection h1 with h1
   have hk:cs[k]?=some y:=by
    have:=congrArg (fun l=>l[0]?) h1;simpa using this
   have hd1:cs.drop (k+1)=ys:=by
    have:=congrArg List.tail h1;simpa using this
   have hy:=hf _ _ h.1;have e:(T.u 1 k t).den wf ρ=y:=by
    show cel (t.den wf ρ) k=y;rw[hcs]; simp[cel,D.cells,hk]
   rw[e]at hy;have:=ih h.2 (hd1 ▸ h3);exact⟨y,ys,by rw[h1],hy,hd1 ▸ this⟩
  | _=>simp[qbW]at h
 | e0=>intro r k h hd; cases r<;>first|exact hd | (simp[qbW]at h; done)
 | _=>intro r k h hd; cases r<;>(simp[qbW]at h; done)
theorem qGg {ck base:T→Y→Bool} (hc:∀a c,ck a c=true→qj c (a.den wf ρ)) (hb:∀t e,base t e=true→∃es,t.den wf ρ=.list es∧∀x∈es,qj e x) {e:Y} :
  ∀{t:T},qcE ck base e t=true→∃es,t.den wf ρ=.list es∧∀x∈es,qj e x:=by
 intro t
 induction t with
 | z=>intro _; exact⟨[],rfl,fun x hx=>by cases hx⟩
 | mk k x ih =>
  intro h
  cases k with
  | l =>
   obtain⟨es,h1,h2⟩:=ih h;exact⟨es,by show D.list (toL (x.den wf ρ))=_; rw[h1]; rfl,h2⟩
  | _=>exact hb _ _ h
 | w o a c ih1 ih2 =>
  intro h;unfold qcE at h;split at h
  ·rename_i heq; cases heq
  ·rename_i a' c' heq;injection heq with e1 e2 e3
   subst e1; subst e2; subst e3;rw[qTC]at h;obtain⟨es,h1,h2⟩:=ih2 h.2;refine⟨a.den wf ρ::es,by show D.list (_::toL (c.den wf ρ))=_; rw[h1]; rfl,fun x hx=>?_⟩;rcases qTD.1 hx with rfl|hx
   ·exact hc _ _ h.1
   ·exact h2 x hx
  ·rename_i a' c' heq;injection heq with e1 e2 e3
   subst e1; subst e2; subst e3;rw[qTC]at h;obtain⟨es,h1,h2⟩:=ih1 h.1;obtain⟨es',h3,h4⟩:=ih2 h.2;refine⟨es++es',by show D.list (toL (a.den wf ρ)++toL (c.den wf ρ))=_; rw[h1,h3]; rfl,fun x hx=>?_⟩;rcases qTH.1 hx with hx|hx
   ·exact h2 x hx
   ·exact h4 x hx
  ·rename_i a' c' heq;injection heq with e1 e2 e3
   subst e1; subst e2; subst e3;obtain⟨es,h1,h2⟩:=ih2 h;exact⟨es.take (toN (a.den wf ρ)),by show D.list ((toL (c.den wf ρ)).take _)=_; rw[h1]; rfl,fun x hx=>h2 x (qUg hx)⟩
  ·rename_i a' c' heq;injection heq with e1 e2 e3
   subst e1; subst e2; subst e3;obtain⟨es,h1,h2⟩:=ih2 h;exact⟨es.drop (toN (a.den wf ρ)),by show D.list ((toL (c.den wf ρ)).drop _)=_; rw[h1]; rfl,fun x hx=>h2 x (qUE hx)⟩
  ·rename_i l k p d heq;injection heq with e1 e2 e3
   subst e1; subst e2; subst e3;rw[qTC]at h;obtain⟨es,h1,h2⟩:=ih1 h.1;have h3:=hc _ _ h.2;refine⟨es.set (toN (cel ((T.u 2 k (.w 4 p (.w 4 d .z))).den wf ρ) 0)) (d.den wf ρ),?_,fun x hx=>?_⟩
   ·show D.list ((toL (a.den wf ρ)).set _ _)=_;rw[h1]; rfl
   ·rcases qVb hx with hx|rfl
    ·exact h2 x hx
    ·exact h3
  ·rename_i a' c' heq;injection heq with e1 e2 e3
   subst e1; subst e2; subst e3;have h3:=hc _ _ h;refine⟨List.replicate (toN (a.den wf ρ)) (c.den wf ρ),rfl,fun x hx=>?_⟩;rw[(qUz.1 hx).2]; exact h3
  ·rename_i heq; cases heq
  ·exact hb _ _ h
 | _=>intro h; exact hb _ _ h
theorem qGh {G:Gam} {n d:Nat} (hG:G.OK wf rcP ρ) (ih:SOK wf ρ G n d):∀t e,qpH (Y4 n d G) (qU n d G) G.fs t e=true→∃es,t.den wf ρ=.list es∧∀x∈es,qj e x:=by
 obtain⟨i1,i2,i3,i4⟩:=ih;intro t e h;unfold qpH at h;split at h
 ·rename_i m e' hs;obtain⟨es,h1,h2,h3⟩:=i1 _ _ hs;rw[qTM,qTM,qTM]at h;rcases h with((h|h) | h) | h
  ·exact⟨es,h1,fun x hx=>Y.sub_ok h (h3 x hx)⟩
  ·exact⟨es,h1,fun x hx=>Y.sub_ok h (qlJ (h3 x hx))⟩
  ·split at h
   ·exact⟨es,h1,fun x hx=>JO.fold (Y.sub_ok h (h3 x hx))⟩
   ·cases h
  ·obtain⟨f,hf,hb⟩:=qUb.1 h;split at hb
   ·rename_i l i y;rw[qTC,qTC]at hb;have hp:=hG.fs _ hf;have hl:=i2 _ hb.2.2;have el:=T.eq_eq hb.1;subst el;rw[Lin.val_sub,(qk i).2.1,(qk l).2.2,Je h1]at hl;refine⟨es,h1,fun x hx=>?_⟩;obtain⟨j,hj,rfl⟩:=qUu hx;have:=hp j (by omega);rw[Je h1,List.getD_eq_getElem?_getD,qTE hj]at this;exact Y.sub_ok hb.2.1 this
   ·cases hb
 ·cases h
theorem qp0 (hv:∀g,Ju≤g→wf g=PW.wV g) {ln:Lin→Bool} (hl:∀g,ln g=true→0≤g.val wf ρ) {x q:T} {e:Nat} (h:qe5 ln x q e=true):Yf e (q.den wf ρ) (x.den wf ρ):=by
 have Q:=(qk (wf:=wf) (ρ:=ρ) q).2.1;have X:=qk (wf:=wf) (ρ:=ρ) x
 match e,h with
 | 0,h =>
  simp only[qe5,qTC]at h;have h1:=hl _ h.1; have h2:=hl _ h.2;rw[Lin.val_sub,Q,X.2.2]at h1; rw[Lin.val_sub,Q,X.2.2]at h2;show(toL _).length=_; omega
 | 1,h =>
  have h1:=hl _ h;rw[Lin.val_sub,Q,X.2.2]at h1;show(toL _).length≤_; omega
 | 2,h =>
  simp only[qe5,qTC]at h;have h1:=hl _ h.1; have h2:=hl _ h.2;rw[X.1]at h1; rw[Lin.val_plus,Lin.val_sub,Q,X.1]at h2;show 0≤toI _∧toI _<_; omega
 | k+3,h =>
  unfold qe5 at h;unfold Yf;simp only at h ⊢;split
  ·rename_i hk;rw[hk]at h;have h1:=hl _ h;rw[Lin.val_sub,Q,(qk (JZ k x)).2.2,qgD]at h1;show(toL _).length≤_; omega
  ·rename_i hk;rw[hk]at h;simp only at h;split at h
   ·rename_i hb;rw[hb];intro p hp;have h1:=qTI.1 h p hp;rw[qTC]at h1;exact(qkZ h1.1).1 (hl _ h1.2)
   ·rename_i hb;rw[qTC]at h;rw[hb];simp only[h.1];intro p hp;have h1:=qTI.1 h.2 p hp;rw[qTC]at h1;exact(qvR hv h1.1).1 (hl _ h1.2)
theorem qp1 {ln:Lin→Bool} (hl:∀g,ln g=true→0≤g.val wf ρ) {q' q:T} {e' e:Nat} {x:D} (h:qkP ln e' e q' q=true) (hp:Yf e' (q'.den wf ρ) x):Yf e (q.den wf ρ) x:=by
 unfold qkP at h;rw[qTC,qTM]at h;have h1:e<920→toN (q'.den wf ρ)≤toN (q.den wf ρ):=by
  intro he;rcases h.1 with h1|h1
  ·have:=qT5 h1; omega
  ·have:=hl _ h1;rw[Lin.val_sub,(qk q).2.1,(qk q').2.1]at this;omega
 have h2:=h.2;split at h2
 ·have h3:=hl _ h2;rw[Lin.val_sub,(qk q).2.1,(qk q').2.1]at h3;have hp':(toL x).length=toN (q'.den wf ρ):=hp;have:=h1 (by omega);show(toL x).length=_; omega
 ·have hp':(toL x).length=toN (q'.den wf ρ):=hp;have:=h1 (by omega);show(toL x).length≤_; omega
 ·rw[qTC,qTM]at h2;have:=qTO h2.1;subst this;rename_i e0 _ hn0 hn1;have hq:=h2.2
  match e,hp,hq,h1 with
  | 0,hp,_,_=>exact(hn0 rfl rfl).elim|1,hp,_,h1=>have hp':(toL x).length≤toN (q'.den wf ρ):=hp; have:=h1 (by omega); show(toL x).length≤_; omega
  | 2,hp,_,h1=>have hp':0≤toI x∧toI x<(toN (q'.den wf ρ):Int):=hp; have:=h1 (by omega); show 0≤toI x∧toI x<_; omega
  | k+3,hp,hq,h1 =>
   unfold Yf at hp ⊢;simp only at hp ⊢
   cases hk:Nat.blt k 900 with
   | true =>
    rw[hk]at hp;have hk':k<900:=by rwa[qT0]at hk
    have hp':(toL (cel x k)).length≤toN (q'.den wf ρ):=hp;have:=h1 (by omega);show(toL (cel x k)).length≤_; omega
   | false =>
    rw[hk]at hp;have hlt:¬k<900:=by
     intro hc;rw[←qT0]at hc; rw[hc]at hk; cases hk
    rcases hq with hq|hq
    ·rw[qT0]at hq; omega
    ·cases hb:Nat.blt k 917 with
     | true =>
      have hk2:k<917:=by rwa[qT0]at hb
      have hb':Nat.blt (k+3) 920=true:=by rw[qT0]; omega
      rw[hb']at hq;rw[hb]at hp;have h3:=hl _ hq;rw[Lin.val_sub,(qk q).2.1,(qk q').2.1]at h3;have h4:=h1 (by omega);have:toN (q'.den wf ρ)=toN (q.den wf ρ):=by omega
      show ∀p∈RT.tm (k - 900),qaD x (toN (q.den wf ρ)) p;rw[←this]; exact hp
     | false =>
      have hk2:¬k<917:=by
       intro hc;rw[←qT0]at hc; rw[hc]at hb; cases hb
      have hb':Nat.blt (k+3) 920=false:=by
       cases hz:Nat.blt (k+3) 920 with
       | false=>rfl|true=>rw[qT0]at hz; omega
      rw[hb']at hq;rw[hb]at hp;rw[←T.eq_eq hq]; exact hp
theorem qk2 {ck base:T→Bool} {e:Nat} {v:D} (hc:∀a,ck a=true→Yf e v (a.den wf ρ)) (hb:∀t,base t=true→∀x∈toL (t.den wf ρ),Yf e v x) :
  ∀{t:T},qbB ck base t=true→∀x∈toL (t.den wf ρ),Yf e v x:=by
 intro t
 induction t with
 | z=>intro _ x hx; cases hx
 | mk k x ih =>
  intro h
  cases k with
  | l=>exact ih h|_=>exact hb _ h
 | w o a c ih1 ih2 =>
  intro h;unfold qbB at h;split at h
  ·rename_i heq; cases heq
  ·rename_i a' c' heq;injection heq with e1 e2 e3
   subst e1; subst e2; subst e3;rw[qTC]at h;intro x hx;rcases qTD.1 (show x∈a.den wf ρ::toL (c.den wf ρ) from hx)with rfl|hx
   ·exact hc _ h.1
   ·exact ih2 h.2 x hx
  ·rename_i a' c' heq;injection heq with e1 e2 e3
   subst e1; subst e2; subst e3;rw[qTC]at h;intro x hx;rcases qTH.1 (show x∈toL (a.den wf ρ)++toL (c.den wf ρ) from hx)with hx|hx
   ·exact ih1 h.1 x hx
   ·exact ih2 h.2 x hx
  ·rename_i a' c' heq;injection heq with e1 e2 e3
   subst e1; subst e2; subst e3;exact fun x hx=>ih2 h x (qUg (show x∈(toL (c.den wf ρ)).take _ from hx))
  ·rename_i a' c' heq;injection heq with e1 e2 e3
   subst e1; subst e2; subst e3;exact fun x hx=>ih2 h x (qUE (show x∈(toL (c.den wf ρ)).drop _ from hx))
  ·rename_i heq; cases heq
  ·exact hb _ h
 | _=>intro h; exact hb _ h
theorem qe7 {e:Nat} {l i t:T}:(F.rows e l i t).den wf rcP ρ↔∀j:Nat,j<toN (i.den wf ρ)→j<(toL (l.den wf ρ)).length→Yf e (t.den wf ρ) ((toL (l.den wf ρ)).getD j .nilp):=qU5
theorem qvW {e:Nat} {v x:D} (h:qkR e=true):e=910∧(Yf e v x↔qaa x≤toN v):=by
 unfold qkR at h;rw[qTC,qTC]at h;have he:=qTO h.1;subst he;refine⟨rfl,?_⟩;have key:qaD x (toN v) (true,.u 13 0 (.v 0),.v 1)↔qaa x≤toN v:=by
  show toN (N64 (qaa x))≤toN (N64 (toN v))↔_;rw[qdo,qdo]
 have hr:Yf 910 v x↔∀p∈RT.tm 7,qaD x (toN v) p:=qU5;rw[hr];have sub:∀{ps qs:List (Bool×T×T)},qd6 ps qs=true→(∀q∈qs,qaD x (toN v) q)→∀p∈ps,qaD x (toN v) p:=by
  intro ps qs h hq p hp;obtain⟨q,hq',e⟩:=qUb.1 (qTI.1 h p hp);unfold qpG at e;rw[qTC,qTC]at e;have:p=q:=by
   obtain⟨a,b,c⟩:=p;obtain⟨a',b',c'⟩:=q;have e1:=qgu e.1; have e2:=T.eq_eq e.2.1; have e3:=T.eq_eq e.2.2;simp only at e1 e2 e3;rw[e1,e2,e3]
  rw[this]; exact hq q hq'
 constructor
 ·intro hh; exact key.1 (sub h.2.1 hh _ (by simp[qkQ]))
 ·intro hh;refine sub h.2.2 fun q hq=>?_
  simp only[qkQ,qTD,qTJ,or_false]at hq;subst hq; exact key.2 hh
theorem qp2 {ln:Lin→Bool} {fs:List F} (i2:∀g,ln g=true→0≤g.val wf ρ) (hfs:∀f∈fs,f.den wf rcP ρ) {e:Nat} {t q:T} (h:qhZ ln fs e t q=true):∀x∈toL (q.den wf ρ),Yf e (t.den wf ρ) x:=by
 intro x hx;unfold qhZ at h;rw[qTM]at h;rcases h with hq|hq
 ·obtain⟨f,hf,hb⟩:=qUb.1 hq;split at hb
  ·rename_i e' l' i' q';rw[qTC,qTC]at hb;obtain⟨b1,b3,b4⟩:=hb;have el:=T.eq_eq b1;subst el;have hp:=qe7.1 (hfs _ hf);have h1:=i2 _ b3;rw[Lin.val_sub,(qk i').2.1,(qk l').2.2]at h1;obtain⟨j,hj,rfl⟩:=qUu hx;have:=hp j (by omega) hj;rw[List.getD_eq_getElem?_getD,qTE hj]at this;exact qp1 i2 b4 this
  ·cases hb
 ·split at hq
  ·rename_i k;split at hq
   ·rename_i hk;have h1:=i2 _ hq;rw[Lin.val_sub,Lin.val_at,(qk t).2.1]at h1;have h2:toI ((T.u 11 k q).den wf ρ)=(qaC k (toL (q.den wf ρ)):Int):=Yy _;have:=qpW k (toL (q.den wf ρ)) x hx;unfold Yf;simp only[hk];omega
   ·rw[qTC]at hq;have h1:=i2 _ hq.2;rw[Lin.val_sub,Lin.val_at,(qk t).2.1]at h1;have h2:toI ((T.u 14 0 q).den wf ρ)=(Jh (toL (q.den wf ρ)):Int):=Yy _;have:=qqI hx;exact(qvW hq.1).2.2 (by omega)
  ·cases hq
theorem qvX (hv:∀g,Ju≤g→wf g=PW.wV g) {ln:Lin→Bool} {fs:List F} (i2:∀g,ln g=true→0≤g.val wf ρ) (hfs:∀f∈fs,f.den wf rcP ρ) {a b:T} (h:qkS ln fs b a=true):toI (a.den wf ρ)≤toI (b.den wf ρ):=by
 unfold qkS at h;split at h
 ·rename_i k l;rw[qTC,qTC]at h;have h1:=i2 _ h.1.2;rw[(qk b).1]at h1;have key:=qk2 (wf:=wf) (ρ:=ρ) (e:=k+3) (v:=b.den wf ρ) (fun a ha=>qp0 hv i2 ha) (fun q hq=>qp2 i2 hfs hq) h.2;have:=qvU (k:=k) (n:=toN (b.den wf ρ)) (l:=toL (l.den wf ρ)) fun x hx=>by
   have:=key x hx;unfold Yf at this;simp only[h.1.1]at this;exact this
  show toI (N64 (qaC k (toL (l.den wf ρ))))≤toI (b.den wf ρ);rw[Yy];have:toI (b.den wf ρ)=(toN (b.den wf ρ):Int):=by unfold toN; omega
  omega
 ·rename_i k l;rw[qTC,qTC]at h;have h1:=i2 _ h.1.2;rw[(qk b).1]at h1;have key:=qk2 (wf:=wf) (ρ:=ρ) (e:=910) (v:=b.den wf ρ) (fun a ha=>qp0 hv i2 ha) (fun q hq=>qp2 i2 hfs hq) h.2;have:=qxf (n:=toN (b.den wf ρ)) (l:=toL (l.den wf ρ)) fun x hx=>(qvW h.1.1).2.1 (key x hx)
  show toI (N64 (Jh (toL (l.den wf ρ))))≤toI (b.den wf ρ);rw[Yy];have:toI (b.den wf ρ)=(toN (b.den wf ρ):Int):=by unfold toN; omega
  omega
 ·cases h
theorem qGi:∀{r c:Y} {m:Nat} {es:List D},qkT r=some (c,m)→es.length=m→(∀x∈es,qj c x)→qj r (.list es):=by
 intro r
 induction r with
 | ec a r _ ih =>
  intro c m es h hl hc;unfold qkT at h;split at h
  ·rename_i c' heq;injection heq with e1 e2
   subst e1; subst e2;cases h
   match es,hl with
   | [x],_=>exact⟨x,[],rfl,hc x (by simp),rfl⟩
  ·rename_i c' r' _ heq;injection heq with e1 e2
   subst e1; subst e2;split at h
   ·rename_i c2 m2 hu;split at h
    ·rename_i k k';split at h
     ·rename_i hk;cases h
      match es,hl with
      | x::xs,hl=>
       refine⟨x,xs,rfl,hc x (by simp),ih hu (by simpa using hl) fun q hq=>?_⟩;rw[←IntKind.eq_eq hk];exact hc q (qTG _ hq)
     ·cases h
    ·cases h
     match es,hl with
     | x::xs,hl=>exact⟨x,xs,rfl,hc x (by simp),ih hu (by simpa using hl) fun q hq=>hc q (qTG _ hq)⟩
    ·cases h
   ·cases h
  ·cases h
 | _=>intro c m es h; cases h
theorem qGj {G:Gam} {n d:Nat} (hG:G.OK wf rcP ρ) (ih:SOK wf ρ G n d):∀t y,qaP (n+1) d G t y=true→qj y (t.den wf ρ):=by
 have hB:=qGh hG ih;obtain⟨i1,i2,i3,i4⟩:=ih;intro t y h;unfold qaP at h;rw[qTM]at h;rcases h with h|h
 ·split at h
  ·rename_i y' hs;rw[qTM,qTM,qTC]at h;rcases h with(h|h) | ⟨hs',h⟩
   ·exact Y.sub_ok h (i1 _ _ hs)
   ·exact Y.sub_ok h (qlJ (i1 _ _ hs))
   ·split at h
    ·rename_i y'' hl;have:=qkV hl hG.hs;have e:(T.mk y'.kind t).den wf ρ=t.den wf ρ:=qb6 hs' (i1 _ _ hs);rw[e]at this;exact Y.sub_ok h this
    ·cases h
  ·cases h
 ·split at h
  ·rename_i m e;rw[qTC]at h;obtain⟨es,h1,h2⟩:=qGg i4 hB h.1;have h3:=i2 _ h.2;rw[Lin.val_sub,Lin.val_cst,(qk t).2.2,Je h1]at h3;exact⟨es,h1,by omega,h2⟩
  ·rename_i m;split at h
   ·rename_i m' hs;obtain⟨s,h1,h2⟩:=i1 _ _ hs;have h3:=i2 _ h;rw[Lin.val_sub,Lin.val_cst,Lin.val_at]at h3;have e:toI ((T.u 7 0 t).den wf ρ)=(s.length:Int):=by
     show toI (N64 (toS (t.den wf ρ)).length)=_;rw[Yy,h1]; rfl
    rw[e]at h3;exact⟨s,h1,by omega⟩
   ·split at h
    ·rename_i j x _;obtain⟨es,h1,h2,_⟩:=i4 _ _ h;refine⟨(toL (x.den wf ρ)).map unB,rfl,?_⟩;rw[qTS,Je h1]; exact h2
    ·rename_i j x _;obtain⟨es,h1,h2,_⟩:=i4 _ _ h;refine⟨(toL (x.den wf ρ)).map unB,rfl,?_⟩;rw[qTS,Je h1]; exact h2
    ·cases h
  ·rename_i r;split at h
   ·rename_i k x;rw[qTM]at h;rcases h with h|h
    ·obtain⟨h2,h3⟩:=qpZ i4 h;obtain⟨cs,hc⟩:=Y.chainy_list h3 h2;exact⟨cs,by show D.agg (toL (x.den wf ρ))=_; rw[hc]; rfl,hc ▸ h2⟩
    ·split at h
     ·rename_i m' e c m hs hu;rw[qTC,qTC]at h;obtain⟨es,h1,_,h3⟩:=i1 _ _ hs;have b1:=i2 _ h.2.1;have b2:=i2 _ h.2.2;rw[Lin.val_plus,(qk x).2.2,Je h1]at b1;rw[Lin.val_sub,Lin.val_cst,(qk x).2.2,Je h1]at b2;exact⟨es,by show D.agg (toL (x.den wf ρ))=_; rw[h1]; rfl,qGi hu (by omega) fun q hq=>Y.sub_ok h.1 (h3 q hq)⟩
     ·cases h
   ·split at h
    ·rename_i r' hs;obtain⟨q,hq,hs⟩:=qTP.1 hs;obtain⟨cs,h1,h2⟩:=hs ▸ qei (i1 _ _ hq);exact⟨cs,h1,by have:=qGf i4 h1 h (by simpa using h2); simpa using this⟩
    ·cases h
  ·exact(qpZ i4 h).1
  ·exact(qpZ i4 h).1
  ·exact JO.fold (i4 _ _ h)
  ·rename_i r ps;rw[qTC]at h;refine⟨i4 _ _ h.1,fun p hp=>?_⟩;have h1:=qTI.1 h.2 p hp;rw[qTC,qTM]at h1;rcases h1.2 with h2|h2
   ·exact(qkZ (q:=.i 0) h1.1).1 (i2 _ h2)
   ·rw[qTC,qUy]at h2;refine(qkZ (q:=.i 0) h1.1).1 ?_;have h3:=qvX (rcP:=rcP) hG.wv i2 hG.fs h2.2;rw[h2.1];show 0≤Lin.val wf ρ ((lnI (p.2.2.sub [t,.u 4 0 (.i 0)])).sub (lnI (p.2.1.sub [t,.u 4 0 (.i 0)])));rw[Lin.val_sub,(qk _).1,(qk _).1]; omega
  ·rename_i a b;rw[qTC,qTC]at h;obtain⟨h1,h2,h3⟩:=h;have k2:=i2 _ h2;have k3:=i2 _ h3;rw[Lin.val_plus,(qk t).1]at k2;rw[Lin.val_sub,Lin.val_cst,(qk t).1]at k3;split at h1
   ·rename_i k hs;obtain⟨z,hz⟩:=i1 _ _ hs;rw[hz]at k2 k3;refine⟨z,by rw[hz,IntKind.eq_eq h1],?_,?_⟩
    ·have:toI (D.int k z)=z:=rfl;omega
    ·have:toI (D.int k z)=z:=rfl;omega
   ·rename_i p q hs;obtain⟨z,hz,_⟩:=i1 _ _ hs;rw[hz]at k2 k3;have:toI (D.int .i64 z)=z:=rfl;exact⟨z,hz,by omega,by omega⟩
   ·cases h1
  ·cases h
theorem qgk {G:Gam} (hG:G.OK wf rcP ρ):∀n d,SOK wf ρ G n d
 | 0,d=>by
  refine⟨fun t y h=>?_,fun g h=>?_,fun t l hl=>?_,fun t y h=>?_⟩
  ·unfold Y4 at h; exact qkV h hG.hs
  ·unfold qU at h; exact qHc h hG.ls
  ·unfold qe6 at hl; cases hl
  ·unfold qaP at h; cases h
 | n+1,d=>⟨qF4 hG (qgk hG n d),qF6 hG (fun d=>qgk hG n d) d,qGe hG (qgk hG n d),qGj hG (qgk hG n d)⟩
theorem qvY {G:Gam} {n:Nat} (hG:G.OK wf rcP ρ) (h:qpQ n G=true):False:=by
 have:=qpS (l:=.cst (-1)) hG.ls (qgk hG n 1).2.2.1 (fun e=>by rw[Lin.val_cst]; rfl) h;rw[Lin.val_cst]at this;omega
theorem sok {G:Gam} (hG:G.OK wf rcP ρ) (n:Nat):SOK wf ρ G n DEP:=qgk hG n DEP
end
end Go.Aev.R
end
section
namespace Go.Aev.R
open Go Go.Aev
variable [RT]
def F.sub (σ:List T):F→F
 | .num a b=>.num a b|.le a b=>.le (a.sub σ) (b.sub σ)|.lt a b=>.lt (a.sub σ) (b.sub σ)|.nle a b=>.nle (a.sub σ) (b.sub σ)|.nnle a b=>.nnle (a.sub σ) (b.sub σ)|.nlt a b=>.nlt (a.sub σ) (b.sub σ)|.nne a b=>.nne (a.sub σ) (b.sub σ)|.aw l i ks ag=>.aw (Jg (l.sub σ)) (i.sub σ) ks ag|.bool t v=>.bool (t.sub σ) v|.inI t=>.inI (t.sub σ)|.rc g x=>.rc g (x.map (T.sub σ))|.all l k=>.all (Jg (l.sub σ)) k|.and f g=>.and (f.sub σ) (g.sub σ)|.has t y=>.has (t.sub σ) y|.pre l i y=>.pre (Jg (l.sub σ)) (i.sub σ) y|.imp t f=>.imp (t.sub σ) (f.sub σ)|.tt b=>.tt b|.keq a b=>.keq a b|.ine t=>.ine (t.sub σ)|.rows e l i t=>.rows e (Jg (l.sub σ)) (i.sub σ) (t.sub σ)|.ifF f g=>.ifF (f.sub σ) (g.sub σ)|.eqD a b=>.eqD (a.sub σ) (b.sub σ)|.byt l=>.byt (Jg (l.sub σ))|.ar l=>.ar (Jg (l.sub σ))|.sca l=>.sca (Jg (l.sub σ))|.sp l k n=>.sp (Jg (l.sub σ)) k n|.iz t z=>.iz (t.sub σ) z
def F.pure (n:Nat):F→Bool
 | .num _ _=>true|.le a b=>a.pure n&&b.pure n|.lt a b=>a.pure n&&b.pure n|.nle a b=>a.pure n&&b.pure n|.nnle a b=>a.pure n&&b.pure n|.nlt a b=>a.pure n&&b.pure n|.nne a b=>a.pure n&&b.pure n|.aw l i _ _=>l.pure n&&i.pure n|.bool t _=>t.pure n|.inI t=>t.pure n|.rc _ _=>false|.all l _=>l.pure n|.and f g=>f.pure n&&g.pure n|.has t _=>t.pure n|.pre l i _=>l.pure n&&i.pure n|.imp t f=>t.pure n&&f.pure n|.tt _=>true|.keq _ _=>true|.ine t=>t.pure n|.rows _ l i t=>l.pure n&&(i.pure n&&t.pure n)|.ifF f g=>f.pure n&&g.pure n|.eqD a b=>a.pure n&&b.pure n|.byt l=>l.pure n|.ar l=>l.pure n|.sca l=>l.pure n|.sp l _ _=>l.pure n|.iz t _=>t.pure n
section
variable [PW] {wf:Nat→List D→D} {rcP:Nat→List D→Prop} {ρ:Nat→D}
theorem F.den_sub (σ:List T):∀f:F,(f.sub σ).den wf rcP ρ↔f.den wf rcP (qV wf ρ σ):=by
 intro f
 induction f with
 | rc g x =>
  show rcP g _↔rcP g _;rw[qUs];have:(T.den wf ρ∘T.sub σ)=T.den wf (qV wf ρ σ):=by funext t; exact T.den_sub σ t
  rw[this]
 | and f g ih1 ih2=>simp only[F.sub,F.den,ih1,ih2]|imp t f ih=>simp only[F.sub,F.den,ih,T.den_sub]|ifF f g ih1 ih2=>simp only[F.sub,F.den,ih1,ih2]|_=>simp only[F.sub,F.den,T.den_sub,qgC]
theorem F.den_pure {n:Nat} {wf':Nat→List D→D} {rcP':Nat→List D→Prop} {ρ':Nat→D} (hw:∀g,Ju≤g→wf g=wf' g) (h:∀k,k<n→ρ k=ρ' k):∀f:F,f.pure n=true→(f.den wf rcP ρ↔f.den wf' rcP' ρ'):=by
 intro f;have tp:=fun t=>T.den_pure (wf:=wf) (wf':=wf') (n:=n) hw h t
 induction f with
 | rc g x=>intro hp; cases hp
 | and f g ih1 ih2=>intro hp; simp only[F.pure,qTC]at hp; simp only[F.den,ih1 hp.1,ih2 hp.2]
 | imp t f ih=>intro hp; simp only[F.pure,qTC]at hp; simp only[F.den,ih hp.2,tp t hp.1]
 | ifF f g ih1 ih2=>intro hp; simp only[F.pure,qTC]at hp; simp only[F.den,ih1 hp.1,ih2 hp.2]
 | eqD a b=>intro hp; simp only[F.pure,qTC]at hp; simp only[F.den,tp a hp.1,tp b hp.2]
 | byt l=>intro hp; simp only[F.den,tp l hp]
 | ar l=>intro hp; simp only[F.den,tp l hp]
 | sca l=>intro hp; simp only[F.den,tp l hp]
 | sp l k n=>intro hp; simp only[F.den,tp l hp]
 | iz t z=>intro hp; simp only[F.den,tp t hp]
 | num a b=>intro _; rfl
 | tt b=>intro _; rfl
 | keq a b=>intro _; rfl
 | ine t=>intro hp; simp only[F.den,tp t hp]
 | rows e l i t=>intro hp; simp only[F.pure,qTC]at hp; simp only[F.den,tp l hp.1,tp i hp.2.1,tp t hp.2.2]
 | bool t v=>intro hp; simp only[F.den,tp t hp]
 | inI t=>intro hp; simp only[F.den,tp t hp]
 | all l k=>intro hp; simp only[F.den,tp l hp]
 | has t y=>intro hp; simp only[F.den,tp t hp]
 | le a b=>intro hp; simp only[F.pure,qTC]at hp; simp only[F.den,tp a hp.1,tp b hp.2]
 | lt a b=>intro hp; simp only[F.pure,qTC]at hp; simp only[F.den,tp a hp.1,tp b hp.2]
 | nle a b=>intro hp; simp only[F.pure,qTC]at hp; simp only[F.den,tp a hp.1,tp b hp.2]
 | nnle a b=>intro hp; simp only[F.pure,qTC]at hp; simp only[F.den,tp a hp.1,tp b hp.2]
 | nlt a b=>intro hp; simp only[F.pure,qTC]at hp; simp only[F.den,tp a hp.1,tp b hp.2]
 | nne a b=>intro hp; simp only[F.pure,qTC]at hp; simp only[F.den,tp a hp.1,tp b hp.2]
 | aw l i ks ag=>intro hp; simp only[F.pure,qTC]at hp; simp only[F.den,tp l hp.1,tp i hp.2]
 | pre l i y=>intro hp; simp only[F.pure,qTC]at hp; simp only[F.den,tp l hp.1,tp i hp.2]
end
def Y.flatC:Y→Bool
 | .ec c r=>c.simple&&r.flatC|.e0=>true|_=>false
def Y.good:Y→Bool
 | .g r=>r.flatC|.gq r _=>r.flatC|y=>y.simple
def qh5:List K→List K→Bool
 | [],[]=>true|a::r,b::s=>K.eq a b&&qh5 r s|_,_=>false
def qgp (e:T):T→Nat→List K→Bool
 | .z,_,[]=>true|.w 4 (.mk kd (.u 1 j x)) r,n,k::ks=>K.eq kd k&&(Nat.beq j n&&(x.eq e&&qgp e r (n+1) ks))|_,_,_=>false
def hdE:T→Option T
 | .w 4 (.mk _ (.u 1 _ x)) _=>some x|_=>none
def qec (G:Gam) (t:T):T:=match t with
 | .u 2 _ l=>match hdE l with
  | some e=>match (qdl 6 G e).map unY with
   | some (.g r)=>match r.flatC&&qgp e l 0 r.kinds with
    | true=>e|false=>t
   | _=>t
  | none=>t
 | .mk k x=>match qdl 6 G x with
  | some y=>match y.simple&&K.eq y.kind k with
   | true=>x|false=>t
  | none=>t
 | t=>t
def qh6 (t:T) (v:Bool):F→Bool
 | .bool t' v'=>t'.eq t&&bEq v' v|_=>false
def qqe (G:Gam) (a b:T):List Lin :=
 (match lin 8 G ((lnI b).sub (lnI a))with
  | true=>[((lnI b).sub (lnI a)).plus (-1)]|false=>[])++match lin 8 G ((lnI a).sub (lnI b))with
  | true=>[((lnI a).sub (lnI b)).plus (-1)]|false=>[]
def qla (G:Gam):F→List Lin
 | .bool (.w 14 a b) false=>qqe G a b|.bool (.w 15 a b) true=>qqe G a b|_=>[]
def stI:T→T
 | .mk (.i _) x=>stI x|t=>t
def nb:T→Bool→T×Bool
 | .mk .b x,v=>nb x v|.u 6 _ x,v=>nb x (!v)|.w o a b,v=>match Nat.ble 10 o&&Nat.ble o 15 with
  | true=>(.w o (stI a) (stI b),v)|false=>(.w o a b,v)
 | x,v=>(x,v)
def qlb:T→Bool→Bool
 | .t b,v=>bEq b v|_,_=>false
def qgq:T→Y→List (T×Y)
 | .w 4 a b,.ec c r=>(a,c)::qgq b r|_,_=>[]
def qqf:T→Y→List (T×Y)
 | .u 2 _ l,.g r=>qgq l r|.u 2 _ l,.gq r _=>qgq l r|_,_=>[]
def qfb (G:Gam) (t:T) (v:Bool):Bool:=G.fs.any (qh6 t v)||match t,v with
 | .w 10 a b,true=>lin 8 G (((lnI b).sub (lnI a)).plus (-1))|.w 11 a b,true=>lin 8 G ((lnI b).sub (lnI a))|.w 12 a b,true=>lin 8 G (((lnI a).sub (lnI b)).plus (-1))|.w 13 a b,true=>lin 8 G ((lnI a).sub (lnI b))|.w 14 a b,true=>lin 8 G ((lnI b).sub (lnI a))&&lin 8 G ((lnI a).sub (lnI b))|.w 14 a b,false=>G.fs.any (qh6 (.w 15 a b) true)||(lin 8 G (((lnI b).sub (lnI a)).plus (-1))||lin 8 G (((lnI a).sub (lnI b)).plus (-1)))|_,_=>false
def qGy:T→Bool
 | .u 0 _ (.w 6 _ _)=>true|.w 9 _ _=>true|.w 110 _ _=>true|_=>false
def qwf (ls:List Lin):List T:=ls.flatMap fun l=>(l.ts.map (·.2)).filter qGy
def qqg (G:Gam) (ls:List Lin):Gam:=match qwf ls with
 | []=>G|ts =>
  let A:=ts.flatMap (aux 8 G)
  {G with B:=qca ((qwf A).flatMap (aux 8 G)) (qca A G.B)}
def qGz:F→List Lin
 | .bool (.w 15 a b) true=>[lnI a,lnI b]|_=>[]
def JN (G:Gam):F→Gam
 | .has t y=>{G with hs:=(qec G t,y)::(qqf (qec G t) y++G.hs)}
 | .and f g=>JN (JN G f) g|.imp t f=>match qfb G (nb t true).1 (nb t true).2 with
  | true=>JN G f|false=>{G with fs:=.imp t f::G.fs}
 | .bool t v=>qqg {G with fs:=.bool (nb t v).1 (nb t v).2::G.fs,B:=qca (qaO (.bool (nb t v).1 (nb t v).2)++qla G (.bool (nb t v).1 (nb t v).2)) G.B} (qGz (.bool (nb t v).1 (nb t v).2)++qaO (.bool (nb t v).1 (nb t v).2))
 | f=>{G with fs:=f::G.fs,B:=qca (qaO f) G.B}
def qfc (G:Gam):List F→Gam
 | []=>G|f::r=>qfc (JN G f) r
def qqh (e:Y) (ks:List K) (ag:Bool):Bool:=match ag,e with
 | true,.g r=>r.flatC&&qh5 r.kinds ks|false,e=>e.simple&&qh5 [e.kind] ks|_,_=>false
def Y.cnt:Y→Nat
 | .ec _ r=>r.cnt+1|_=>0
def Y.size:Y→Nat
 | .g r=>r.cnt|.gq r _=>r.cnt|_=>1
def qlc (n:Nat) (G:Gam) (q x:T):Bool:=match qec G x with
 | .w 3 l i=>lin n G (((lnL l).sub (lnN i)).plus (-1))&&((nlT l).eq (nlT q)||G.fs.any fun f=>match f with
  | .rows e l' i' b=>Nat.beq e 940&&((nlT l').eq (nlT l)&&((nlT b).eq (nlT q)&&lin n G (((lnN i').sub (lnN i)).plus (-1))))|_=>false)
 | _=>false
def qld (ln:Lin→Bool) (fs:List F) (e:Nat) (q b:T):Bool:=qpM ln fs e q (nlT b)||Nat.beq e 940&&(nlT b).eq (nlT q)
def qle (ln:Lin→Bool) (fs:List F) (e:Nat) (q t:T):Bool:=qhZ ln fs e q t||((Nat.beq e 940&&(nlT t).eq (nlT q))||fs.any fun f=>match f with
 | .rows e' l i b=>match Nat.beq e' 940 with
  | true=>(nlT l).eq (nlT t)&&(ln ((lnN i).sub (lnL t))&&qld ln fs e q b)|false=>match Nat.beq e' 950,nlT t with
   | true,.w 3 p k=>(nlT l).eq (nlT p)&&((ln (((lnN i).sub (lnN k)).plus (-1))&&ln (((lnL p).sub (lnN k)).plus (-1)))&&qld ln fs e q b)|_,_=>false
 | _=>false)
def qqi (n:Nat) (G:Gam) (e:Nat) (q t:T):Bool:=match e with
 | k+3=>Nat.blt k 900&&match qdl n G t with
  | some (.l _ y)=>match unY y with
   | .g r=>match r.nth k with
    | some (.l m _)=>lin n G ((lnN q).plus (-(m:Int)))|_=>false
   | _=>false
  | _=>false
 | _=>false
def Yt (n:Nat) (G:Gam) (e:Nat) (q x:T):Bool:=qe5 (lin n G) x q e||(Nat.beq e 940&&qlc n G q x||Nat.beq e 950&&qbB (qlc n G q) (qle (lin n G) G.fs 940 q) x)
def qqj (n:Nat) (G:Gam) (e:Nat) (l q:T):Bool:=qbB (Yt n G e q) (fun t=>qle (lin n G) G.fs e q t||qqi n G e q t) l
def qh7 (G:Gam):F→Bool
 | .le a b=>lin 8 G ((lnI b).sub (lnI a))|.lt a b=>lin 8 G (((lnI b).sub (lnI a)).plus (-1))|.nle a b=>lin 8 G ((lnN b).sub (lnN a))|.nlt a b=>lin 8 G (((lnN b).sub (lnN a)).plus (-1))|.bool t v=>qfb G (nb t v).1 (nb t v).2|.rows e l _ q=>qqj 8 G e l q|.has t y=>chk 8 G t y|.and f g=>qh7 G f&&qh7 G g|.eqD a b=>G.fs.any fun f=>match f with
  | .eqD c d=>c.eq a&&d.eq b|_=>false
 | _=>false
def qlf (G:Gam):F→Bool
 | .imp t _=>qfb G (nb t true).1 (nb t true).2|.ifF f _=>qh7 G f|_=>false
def qGA:F→F
 | .imp _ f=>f|.ifF _ f=>f|f=>f
def qqk (G:Gam):F→Bool
 | .bool (.w 15 a b) true=>lin 8 G ((lnI b).sub (lnI a))&&lin 8 G ((lnI a).sub (lnI b))|.bool (.w 14 a b) false=>lin 8 G ((lnI b).sub (lnI a))&&lin 8 G ((lnI a).sub (lnI b))|.bool t v=>G.fs.any (qh6 t (!v))|_=>false
def qql (G:Gam):Bool:=G.fs.any (qqk G)
def JC (G:Gam):Gam:=match G.fs.any (qlf G)with
 | true=>qfc {G with fs:=G.fs.filter fun f=>!(qlf G f)} ((G.fs.filter (qlf G)).map qGA)
 | false=>G
def qGB (ln:Lin→Bool) (ck:T→Bool) (fs:List F) (e:Nat) (l i q:T):Bool:=fs.any fun f=>match f with
 | .rows e' l' i' q'=>l'.eq l&&(ln (((lnN i').plus 1).sub (lnN i))&&(qkP ln e' e q' q&&(ln ((lnN i').sub (lnN i))||ck (.w 3 l' i'))))|_=>false
def qGC (G:Gam):List T:=G.fs.filterMap fun f=>match f with
 | .imp t _=>match (nb t true).1 with
  | .w o a b=>match Nat.ble 10 o&&Nat.ble o 13 with
   | true=>some (.w o a b)|false=>none
  | _=>none
 | _=>none
def leQ (n:Nat) (G:Gam) (a b:T):Bool:=lin n G ((lnI b).sub (lnI a))||qkS (lin n G) G.fs b a
def qwg (n:Nat) (G:Gam) (a b:T):Bool:=(qGC G).any fun t=>leQ n (JC (JC (JN G (.bool t true)))) a b&&leQ n (JC (JC (JN G (.bool t false)))) a b
def qgr:T→Bool
 | .z=>true|.w 4 (.mk k _) r=>(match k with | .o=>false|_=>true)&&qgr r
 | .w 6 _ l=>qgr l|.w 7 _ l=>qgr l|_=>false
def qGD (G:Gam):List (T×T):=G.fs.filterMap fun f=>match f with
 | .bool (.w 15 (.w 110 a c) b) true=>some (.w 110 a c,b)|_=>none
def qqm (n:Nat) (G:Gam) (g:Lin):Bool:=(qGD G).any fun p=>lin n (JN G (.bool (.w 10 p.1 p.2) true)) g&&lin n (JN G (.bool (.w 12 p.1 p.2) true)) g
def Yx (n:Nat) (G:Gam) (f:F):Bool:=match f with
 | .num a b=>Nat.beq a b|.le a b=>leQ n G a b||(qwg n G a b||qqm n G ((lnI b).sub (lnI a)))|.lt a b=>lin n G (((lnI b).sub (lnI a)).plus (-1))|.nle a b=>lin n G ((lnN b).sub (lnN a))|.nlt a b=>lin n G (((lnN b).sub (lnN a)).plus (-1))||qqm n G (((lnN b).sub (lnN a)).plus (-1))|.nnle a b=>lin n G (((lnN a).sub (lnN b)).plus (-1))|.nne a b=>lin n G (((lnN b).sub (lnN a)).plus (-1))||lin n G (((lnN a).sub (lnN b)).plus (-1))|.aw l i ks ag=>match qdl n G l with
   | some (.l _ e)=>qqh (unY e) ks ag&&lin n G (((lnL l).sub (lnN i)).plus (-1))|_=>match ks,ag with
    | [.i k],false=>chk n G l (.l 1073741824 (.i k))&&lin n G (((lnL l).sub (lnN i)).plus (-1))|_,_=>false
 | .bool t v=>qfb G (nb t v).1 (nb t v).2||qlb (nb t v).1 (nb t v).2|.inI t=>lin n G ((lnI t).plus 9223372036854775808)&&lin n G ((Lin.cst 9223372036854775807).sub (lnI t))|.all l k=>match qdl n G l with
   | some (.l _ e)=>(unY e).good&&Nat.beq (unY e).size k|_=>false
 | .and f g=>Yx n G f&&Yx n G g|.has t y=>chk n G t y|.pre l i y=>lin 0 G ((lnN i).smul (-1))||G.fs.any (fun f=>match f with
    | .pre l' i' y'=>l'.eq l&&(y'.sub y&&(lin n G ((lnN i').sub (lnN i))||lin n G (((lnN i').plus 1).sub (lnN i))&&chk n G (.w 3 l' i') y))|_=>false)||match qdl n G l with
   | some (.l _ e)=>e.sub y&&lin n G ((lnL l).sub (lnN i))|_=>false
 | .imp t f=>(qlb (nb t true).1 (!(nb t true).2)||qfb G (nb t true).1 (!(nb t true).2))||Yx n (JC (JC (JN G (.bool t true)))) f|.rc _ _=>false|.tt b=>b|.keq a b=>IntKind.eq a b|.ine t=>lin n G ((lnI t).plus (-1))||lin n G (((lnI t).smul (-1)).plus (-1))|.rows e l i t=>lin 0 G ((lnN i).smul (-1))||(qGB (lin n G) (Yt n G e t) G.fs e l i t||qqj n G e l t)|.ifF f g=>Yx n (JC (JC (JN G f))) g||(qql (JC (JC (JN G f)))||qpQ n (JC (JC (JN G f))))|.byt l=>match qdl n G l with
  | some (.l _ .y8)=>true|_=>chk n G l (.l 1152921504606846976 .y8)
 | .ar _=>true|.iz t z=>lin n G ((lnI t).plus (-z))&&lin n G ((Lin.cst z).sub (lnI t))|.sca l=>qgr l||match qdl n G l with
  | some (.l _ e)=>(unY e).simple|_=>false
 | .sp l k m=>match qdl n G l with
  | some (.l _ e)=>(unY e).simple&&K.eq (unY e).kind k&&(lin n G ((lnL l).plus (-(m:Int)))&&lin n G ((Lin.cst m).sub (lnL l)))|_=>false
 | .eqD a b=>(qec G a).eq (qec G b)||G.fs.any fun f=>match f with
  | .eqD c d=>c.eq a&&d.eq b|_=>false
def qh8 (n:Nat) (G:Gam):List T→List Y→Bool
 | [],[]=>true|t::r,y::s=>chk n G t y&&qh8 n G r s|_,_=>false
def qGE (c:Con) (g:Nat) (x:List T):List F:=.has (.u 3 g (qW x)) c.rt::c.post.map (F.sub (x++[.u 3 g (qW x)]))
def qqn (n:Nat) (G:Gam) (c:Con) (x:List T):Bool :=
 qh8 n G x c.pts&&(c.pre.all (fun f=>f.pure c.pts.length&&Yx n G (f.sub x))&&c.post.all fun f=>f.pure (c.pts.length+1))
structure Grp where
 ms:List (Nat×T):=[]
 cur:T:=.i 0
 deriving Inhabited
def Grp.get (r:Grp) (g:Nat):Option T:=(r.ms.find? fun p=>Nat.beq p.1 g).map (·.2)
def qqo (n:Nat) (G:Gam) (r:Grp) (g na:Nat) (x:List T):Bool:=match r.get g with
 | some m=>m.pure0 na&&Yx n G (.nlt (m.sub x) r.cur)|none=>true
def qlg (G:Gam):F→Gam
 | .aw l i _ _=>{G with B:=qgx (((lnL l).sub (lnN i)).plus (-1)) G.B}
 | .and f g=>qlg (qlg G f) g|_=>G
def dis (n:Nat) (tab:Tab) (r:Grp) (G:Gam) (f:F):Option Gam:=match f with
 | .rc g x=>match tab.get g with
  | some c=>match qqn n G c x&&(Nat.blt g Ju&&qqo n G r g c.pts.length x)with
   | true=>some (JC (JC (qfc G (qGE c g x))))|false=>none
  | none=>none
 | f=>match Yx n G f with
  | true=>some (qlg G f)|false=>none
def qwh (G:Gam):Gam:=qfc G (G.fs.filter fun f=>match qla G f with
 | []=>false|_=>true)
def qed (n:Nat) (tab:Tab) (r:Grp) (G:Gam):List F→Option Gam
 | []=>some (qwh G)|f::l=>match dis n tab r G f with
  | some G'=>qed n tab r G' l|none=>none
def qlh (n:Nat) (tab:Tab) (r:Grp) (G:Gam):List F→Gam
 | []=>G|f::l=>match dis n tab r G f with
  | some G'=>qlh n tab r G' l|none=>G
section
variable [PW] {wf:Nat→List D→D} {rcP:Nat→List D→Prop} {ρ:Nat→D}
theorem qqp {t:T} {v:Bool} {fs:List F} (h:fs.any (qh6 t v)=true) (hf:∀f∈fs,f.den wf rcP ρ):toB (t.den wf ρ)=v:=by
 obtain⟨f,hm,hb⟩:=qUb.1 h;have:=hf f hm;unfold qh6 at hb;split at hb
 ·rename_i t' v';rw[qTC]at hb;rw[←T.eq_eq hb.1,←qgu hb.2]; exact this
 ·cases hb
theorem qqq:∀{a b:List K},qh5 a b=true→a=b
 | [],[],_=>rfl|[],_::_,h=>by cases h
 | _::_,[],h=>by cases h
 | a::r,c::s,h=>by
  simp only[qh5,qTC]at h;rw[K.eq_eq h.1,qqq h.2]
theorem qqr:∀{r:Y} {n:Nat} {cs:List D},r.flatC=true→qj r (.list (cs.drop n))→qab.formC r.kinds n (.agg cs)=cs.drop n:=by
 intro r
 induction r with
 | ec c r _ ih =>
  intro n cs h hd;simp only[Y.flatC,qTC]at h;obtain⟨x,xs,h1,h2,h3⟩:=hd;injection h1 with h1
  have hk:cs[n]?=some x:=by
   have:=congrArg (fun l=>l[0]?) h1;simpa using this
  have hd1:cs.drop (n+1)=xs:=by
   have:=congrArg List.tail h1;simpa using this
  simp only[Y.kinds,qab.formC];rw[ih h.2 (hd1 ▸ h3),h1,hd1];have:cel (.agg cs) n=x:=by simp[cel,D.cells,hk]
  rw[this,qb6 h.1 h2]
 | e0 =>
  intro n cs h hd;have:D.list (cs.drop n)=.list []:=hd;injection this with this
  rw[this]; rfl
 | _=>intro n cs h hd; cases h
theorem qGF {e:T}:∀{l:T} {n:Nat} {ks:List K},qgp e l n ks=true→l.den wf ρ=.list (qab.formC ks n (e.den wf ρ)):=by
 intro l
 induction l with
 | z=>intro n ks h; cases ks<;>first|rfl | (simp[qgp]at h; done)
 | w o a c _ ih =>
  intro n ks h;unfold qgp at h;split at h
  ·rename_i heq; cases heq
  ·rename_i kd j x r n' k ks' heq;injection heq with e1 e2 e3
   subst e1; subst e2; subst e3;rw[qTC,qTC,qTC]at h;obtain⟨h1,h2,h3,h4⟩:=h;rw[K.eq_eq h1,qTO h2,T.eq_eq h3];have:=ih h4;show D.list (K.den _ (cel (e.den wf ρ) _)::toL (c.den wf ρ))=_;rw[this]; rfl
  ·cases h
 | _=>intro n ks h; cases ks<;>(simp[qgp]at h; done)
theorem qli {G:Gam} (hG:G.OK wf rcP ρ) (t:T):(qec G t).den wf ρ=t.den wf ρ:=by
 unfold qec;split
 ·rename_i k l;split
  ·rename_i e _;split
   ·rename_i r hs;split
    ·rename_i hc;rw[qTC]at hc;obtain⟨q,hq,hs⟩:=qTP.1 hs;obtain⟨cs,h1,h2⟩:=hs ▸ qei ((sok hG 6).1 _ _ hq);have h3:=qGF (wf:=wf) (ρ:=ρ) hc.2;have h4:=qqr (r:=r) (n:=0) (cs:=cs) hc.1 (by simpa using h2);show _=D.agg (toL (l.den wf ρ));rw[h3,h1,h4]; simp[toL]
    ·rfl
   ·rfl
  ·rfl
 ·rename_i k x;split
  ·rename_i y hs;split
   ·rename_i hc;rw[qTC]at hc;have h1:=qb6 (y:=y) hc.1 ((sok hG 6).1 _ _ hs);rw[K.eq_eq hc.2]at h1;exact h1.symm
   ·rfl
  ·rfl
 ·rfl
theorem qwi:∀{l:T} {r:Y},qj r (.list (toL (l.den wf ρ)))→∀p∈qgq l r,qj p.2 (p.1.den wf ρ):=by
 intro l
 induction l with
 | w o a c _ ih =>
  intro r h p hp;unfold qgq at hp;split at hp
  ·rename_i a' b' c' r' heq;injection heq with e1 e2 e3
   subst e1; subst e2; subst e3;obtain⟨x,xs,h1,h2,h3⟩:=h;have h1':D.list (a.den wf ρ::toL (c.den wf ρ))=.list (x::xs):=h1;injection h1' with h1'
   injection h1' with e1 e2
   rcases qTD.1 hp with rfl|hp
   ·show qj _ (a.den wf ρ); rw[e1]; exact h2
   ·exact ih (by rw[e2]; exact h3) p hp
  ·cases hp
 | _=>intro r h p hp; cases r<;>(simp[qgq]at hp; done)
theorem qGG {t:T} {y:Y} (h:qj y (t.den wf ρ)):∀p∈qqf t y,qj p.2 (p.1.den wf ρ):=by
 unfold qqf;split
 ·rename_i k l r;obtain⟨cs,h1,h2⟩:=h;have h1':D.agg (toL (l.den wf ρ))=.agg cs:=h1;injection h1' with h1'
  exact qwi (by rw[h1']; exact h2)
 ·rename_i k l r ps;obtain⟨⟨cs,h1,h2⟩,_⟩:=h;have h1':D.agg (toL (l.den wf ρ))=.agg cs:=h1;injection h1' with h1'
  exact qwi (by rw[h1']; exact h2)
 ·intro p hp; cases hp
theorem qh9 {G:Gam} {t:T} {v:Bool} (hG:G.OK wf rcP ρ) (h:qfb G t v=true):toB (t.den wf ρ)=v:=by
 unfold qfb at h;rw[qTM]at h;rcases h with h|h
 ·exact qqp h hG.fs
 ·split at h
  ·rename_i a b;have:=(sok hG 8).2.1 _ h;rw[Lin.val_plus,Lin.val_sub,(qk a).1,(qk b).1]at this;show decide (toI (a.den wf ρ)<toI (b.den wf ρ))=true;exact decide_eq_true (by omega)
  ·rename_i a b;have:=(sok hG 8).2.1 _ h;rw[Lin.val_sub,(qk a).1,(qk b).1]at this;show decide (toI (a.den wf ρ)≤toI (b.den wf ρ))=true;exact decide_eq_true (by omega)
  ·rename_i a b;have:=(sok hG 8).2.1 _ h;rw[Lin.val_plus,Lin.val_sub,(qk a).1,(qk b).1]at this;show decide (toI (a.den wf ρ)>toI (b.den wf ρ))=true;exact decide_eq_true (by omega)
  ·rename_i a b;have:=(sok hG 8).2.1 _ h;rw[Lin.val_sub,(qk a).1,(qk b).1]at this;show decide (toI (a.den wf ρ)≥toI (b.den wf ρ))=true;exact decide_eq_true (by omega)
  ·rename_i a b;rw[qTC]at h;have h1:=(sok hG 8).2.1 _ h.1;have h2:=(sok hG 8).2.1 _ h.2;rw[Lin.val_sub,(qk a).1,(qk b).1]at h1 h2;show(toI (a.den wf ρ)==toI (b.den wf ρ))=true;exact beq_iff_eq.2 (by omega)
  ·rename_i a b;show(toI (a.den wf ρ)==toI (b.den wf ρ))=false;rw[beq_eq_false_iff_ne];rw[qTM,qTM]at h;rcases h with h|h|h
   ·have h1:(toI (a.den wf ρ) != toI (b.den wf ρ))=true:=qqp h hG.fs;exact bne_iff_ne.1 h1
   ·have h1:=(sok hG 8).2.1 _ h;rw[Lin.val_plus,Lin.val_sub,(qk a).1,(qk b).1]at h1;omega
   ·have h1:=(sok hG 8).2.1 _ h;rw[Lin.val_plus,Lin.val_sub,(qk a).1,(qk b).1]at h1;omega
  ·cases h
theorem qGH:∀t:T,toI ((stI t).den wf ρ)=toI (t.den wf ρ):=by
 intro t
 induction t with
 | mk k x ih =>
  cases k with
  | i k=>exact ih|_=>rfl
 | _=>rfl
theorem qgs:∀(t:T) (v:Bool),toB ((nb t v).1.den wf ρ)=(nb t v).2↔toB (t.den wf ρ)=v:=by
 intro t
 induction t with
 | mk k x ih =>
  intro v
  cases k with
  | b=>exact ih v|_=>exact qU5
 | u o k x ih =>
  intro v
  by_cases e:o=6
  ·subst e;show toB ((nb x (!v)).1.den wf ρ)=(nb x (!v)).2↔(!toB (x.den wf ρ))=v;rw[ih];cases toB (x.den wf ρ)<;>cases v<;>simp
  ·have:nb (.u o k x) v=(.u o k x,v):=by unfold nb; split<;>simp_all
   rw[this]
 | w o x y _ _ =>
  intro v;have h:=fun t:T=>qGH (wf:=wf) (ρ:=ρ) t
  show toB ((match Nat.ble 10 o&&Nat.ble o 15 with
   | true=>(T.w o (stI x) (stI y),v)|false=>(T.w o x y,v):T×Bool).1.den wf ρ)=(match Nat.ble 10 o&&Nat.ble o 15 with
   | true=>(T.w o (stI x) (stI y),v)|false=>(T.w o x y,v):T×Bool).2↔_
  split
  ·rename_i hc;rw[qTC]at hc;have h1:=qT5 hc.1;have h2:=qT5 hc.2;have e:(T.w o (stI x) (stI y)).den wf ρ=(T.w o x y).den wf ρ:=by
    show T.bi o ((stI x).den wf ρ) ((stI y).den wf ρ)=T.bi o (x.den wf ρ) (y.den wf ρ);have:o=10∨o=11∨o=12∨o=13∨o=14∨o=15:=by omega
    rcases this with rfl|rfl|rfl|rfl|rfl|rfl<;>simp only[T.bi,h]
   show toB ((T.w o (stI x) (stI y)).den wf ρ)=v↔_;rw[e]
  ·exact qU5
 | _=>intro v; exact qU5
theorem qwj {t:T} {v:Bool} (h:qlb t v=true):toB (t.den wf ρ)=v:=by
 unfold qlb at h;split at h
 ·exact qgu h
 ·cases h
theorem qwk {G:Gam} {a b:T} (hG:G.OK wf rcP ρ) (h:toI (a.den wf ρ)≠toI (b.den wf ρ)):∀l∈qqe G a b,0≤l.val wf ρ:=by
 intro l hl;have A:=(qk (wf:=wf) (ρ:=ρ) a).1;have B:=(qk (wf:=wf) (ρ:=ρ) b).1;rcases qTH.1 hl with hl|hl
 ·split at hl
  ·rename_i hx;have:=(sok hG 8).2.1 _ hx;rw[Lin.val_sub,A,B]at this;simp only[qTD,qTJ,or_false]at hl;subst hl;rw[Lin.val_plus,Lin.val_sub,A,B]; omega
  ·cases hl
 ·split at hl
  ·rename_i hx;have:=(sok hG 8).2.1 _ hx;rw[Lin.val_sub,A,B]at this;simp only[qTD,qTJ,or_false]at hl;subst hl;rw[Lin.val_plus,Lin.val_sub,A,B]; omega
  ·cases hl
theorem qGI {G:Gam} {f:F} (hG:G.OK wf rcP ρ) (h:f.den wf rcP ρ):∀l∈qla G f,0≤l.val wf ρ:=by
 unfold qla;split
 ·rename_i a b;have h1:(toI (a.den wf ρ)==toI (b.den wf ρ))=false:=h;exact qwk hG (by simpa using h1)
 ·rename_i a b;have h1:(toI (a.den wf ρ) != toI (b.den wf ρ))=true:=h;exact qwk hG (by simpa using h1)
 ·intro l hl; cases hl
theorem qGJ {G:Gam} {ls:List Lin} (hG:G.OK wf rcP ρ):(qqg G ls).OK wf rcP ρ:=by
 have h3:=(sok hG 8).2.2.1;unfold qqg;split
 ·exact hG
 ·refine⟨hG.wv,hG.hs,hG.fs,qgy (qgy hG.ls fun l hl=>?_) fun l hl=>?_⟩
  ·obtain⟨t,_,ht⟩:=qUd.1 hl; exact h3 t l ht
  ·obtain⟨t,_,ht⟩:=qUd.1 hl; exact h3 t l ht
theorem qdn:∀{f:F} {G:Gam},G.OK wf rcP ρ→f.den wf rcP ρ→(JN G f).OK wf rcP ρ:=by
 have gen:∀{f:F} {G:Gam},G.OK wf rcP ρ→f.den wf rcP ρ→Gam.OK wf rcP ρ {G with fs:=f::G.fs,B:=qca (qaO f) G.B}:=by
  intro f G hG h;refine⟨hG.wv,hG.hs,fun q hq=>?_,qgy hG.ls fun l hl=>qvL h l hl⟩;rcases qTD.1 hq with rfl|hq
  ·exact h
  ·exact hG.fs q hq
 intro f
 induction f with
 | has t y =>
  intro G hG h;refine⟨hG.wv,fun p hp=>?_,hG.fs,hG.ls⟩;have h':qj y ((qec G t).den wf ρ):=by rw[qli hG]; exact h
  rcases qTD.1 hp with rfl|hp
  ·exact h'
  ·rcases qTH.1 hp with hp|hp
   ·exact qGG h' p hp
   ·exact hG.hs p hp
 | and f g ih1 ih2=>intro G hG h; exact ih2 (ih1 hG h.1) h.2
 | bool t v =>
  intro G hG h;have h':(F.bool (nb t v).1 (nb t v).2).den wf rcP ρ:=(qgs t v).2 h;refine qGJ ⟨hG.wv,hG.hs,fun q hq=>?_,qgy hG.ls fun l hl=>?_⟩
  ·rcases qTD.1 hq with rfl|hq
   ·exact h'
   ·exact hG.fs q hq
  ·rcases qTH.1 hl with hl|hl
   ·exact qvL h' l hl
   ·exact qGI hG h' l hl
 | imp t f ih =>
  intro G hG h;simp only[JN];split
  ·rename_i ha; exact ih hG (h ((qgs t true).1 (qh9 hG ha)))
  ·refine⟨hG.wv,hG.hs,fun q hq=>?_,hG.ls⟩;rcases qTD.1 hq with rfl|hq
   ·exact h
   ·exact hG.fs q hq
 | _=>intro G hG h; exact gen hG h
theorem qia:∀{fs:List F} {G:Gam},G.OK wf rcP ρ→(∀f∈fs,f.den wf rcP ρ)→(qfc G fs).OK wf rcP ρ
 | [],_,hG,_=>hG|f::r,G,hG,h=>by
  show(qfc (JN G f) r).OK wf rcP ρ;exact qia (qdn hG (h f (by simp))) fun q hq=>h q (qTG _ hq)
theorem qaz {y:Y} {d:D} (h:y.good=true) (hd:qj y d):y.form d=d:=by
 cases y with
 | g r =>
  obtain⟨cs,rfl,h2⟩:=hd;have:=qqr (r:=r) (n:=0) (cs:=cs) h (by simpa using h2);show D.agg (qab.formC r.kinds 0 (.agg cs))=_;rw[this]; simp
 | gq r ps =>
  obtain⟨⟨cs,rfl,h2⟩,_⟩:=hd;have:=qqr (r:=r) (n:=0) (cs:=cs) h (by simpa using h2);show D.agg (qab.formC r.kinds 0 (.agg cs))=_;rw[this]; simp
 | i k=>exact qb6 rfl hd|b=>exact qb6 rfl hd|s n=>exact qb6 rfl hd|l n e=>exact qb6 rfl hd|rg a b=>exact qb6 rfl hd|y8=>exact qb6 rfl hd|e0=>cases h
 | ec a c=>cases h
 | nm m=>cases h
theorem qGK {e:Y} {ks:List K} {ag:Bool} {d:D} (h:qqh e ks ag=true) (hd:qj e d):qab ks ag d=d:=by
 unfold qqh at h;split at h
 ·rename_i r;rw[qTC]at h;rw[←qqq h.2];exact qaz (y:=.g r) h.1 hd
 ·rw[qTC]at h;rw[←qqq h.2];exact qb6 h.1 hd
 ·cases h
theorem qwl:∀{r:Y} {cs:List D},r.flatC=true→qj r (.list cs)→cs.length=r.cnt:=by
 intro r
 induction r with
 | ec c r _ ih =>
  intro cs h hd;simp only[Y.flatC,qTC]at h;obtain⟨x,xs,h1,h2,h3⟩:=hd;injection h1 with h1
  rw[h1,qT9,ih h.2 h3]; rfl
 | e0=>intro cs h hd; have:D.list cs=.list []:=hd; injection this with this; rw[this]; rfl
 | _=>intro cs h hd; cases h
theorem qGL {y:Y} {d:D} (h:y.good=true) (hd:qj y d):d.cells.length=y.size:=by
 cases y with
 | g r=>obtain⟨cs,rfl,h2⟩:=hd; exact qwl h h2
 | gq r ps=>obtain⟨⟨cs,rfl,h2⟩,_⟩:=hd; exact qwl h h2
 | i k=>obtain⟨n,rfl⟩:=hd; rfl
 | b=>obtain⟨n,rfl⟩:=hd; rfl
 | s n=>obtain⟨n,rfl,_⟩:=hd; rfl
 | l n e=>obtain⟨n,rfl,_⟩:=hd; rfl
 | rg a b=>obtain⟨n,rfl,_⟩:=hd; rfl
 | y8=>obtain⟨n,rfl⟩:=hd; rfl
 | e0=>cases h
 | ec a c=>cases h
 | nm m=>cases h
theorem qGM (c:UInt8):unB (Yr c)=c:=by simp[unB,Yr]
theorem qwm {n:Nat} {G:Gam} (hG:G.OK wf rcP ρ) {q x:T} (h:qlc n G q x=true):x.den wf ρ∈toL (q.den wf ρ):=by
 unfold qlc at h;rw[←qli hG x];split at h
 ·rename_i l i heq;rw[qTC]at h;have h1:=(sok hG n).2.1 _ h.1;rw[Lin.val_plus,Lin.val_sub,(qk l).2.2,(qk i).2.1]at h1;have hlt:toN (i.den wf ρ)<(toL (l.den wf ρ)).length:=by omega
  rw[heq];have hx:(T.w 3 l i).den wf ρ=(toL (l.den wf ρ))[toN (i.den wf ρ)]:=by
   show(toL (l.den wf ρ)).getD (toN (i.den wf ρ)) .nilp=_;rw[List.getD_eq_getElem?_getD,qTE hlt]; rfl
  have h2:=h.2;rw[qTM]at h2;rcases h2 with h2|h2
  ·rw[hx,←JM q,←T.eq_eq h2,JM];exact qTL hlt
  ·obtain⟨f,hf,hb⟩:=qUb.1 h2;split at hb
   ·rename_i e l' i' b;rw[qTC,qTC,qTC]at hb;obtain⟨b1,b2,b3,b4⟩:=hb;have e1:=qTO b1;subst e1;have hp:=qe7.1 (hG.fs _ hf);have h4:=(sok hG n).2.1 _ b4;rw[Lin.val_plus,Lin.val_sub,(qk i').2.1,(qk i).2.1]at h4;have el:toL (l'.den wf ρ)=toL (l.den wf ρ):=by rw[←JM l',T.eq_eq b2,JM]
    have:=hp (toN (i.den wf ρ)) (by omega) (by rw[el]; exact hlt);have h5:(toL (l'.den wf ρ)).getD (toN (i.den wf ρ)) .nilp∈toL (b.den wf ρ):=this;rw[el,List.getD_eq_getElem?_getD,qTE hlt,qTT]at h5;rw[hx,←JM q,←T.eq_eq b3,JM]; exact h5
   ·cases hb
 ·cases h
theorem qGN {ln:Lin→Bool} {fs:List F} (i2:∀g,ln g=true→0≤g.val wf ρ) (hfs:∀f∈fs,f.den wf rcP ρ) {e:Nat} {t q:T} (h:qpM ln fs e q t=true):∀x∈toL (t.den wf ρ),Yf e (q.den wf ρ) x:=by
 intro x hx;obtain⟨f,hf,hb⟩:=qUb.1 h;split at hb
 ·rename_i e' l' i' q';rw[qTC,qTC]at hb;obtain⟨b1,b3,b4⟩:=hb;have el:=T.eq_eq b1;subst el;have hp:=qe7.1 (hfs _ hf);have h1:=i2 _ b3;rw[Lin.val_sub,(qk i').2.1,(qk l').2.2]at h1;obtain⟨j,hj,rfl⟩:=qUu hx;have:=hp j (by omega) hj;rw[List.getD_eq_getElem?_getD,qTE hj]at this;exact qp1 i2 b4 this
 ·cases hb
theorem qwn {ln:Lin→Bool} {fs:List F} (i2:∀g,ln g=true→0≤g.val wf ρ) (hfs:∀f∈fs,f.den wf rcP ρ) {e:Nat} {b q:T} (h:qld ln fs e q b=true):∀x∈toL (b.den wf ρ),Yf e (q.den wf ρ) x:=by
 unfold qld at h;rw[qTM,qTC]at h;rcases h with h|⟨h1,h2⟩
 ·rw[←JM b]; exact qGN i2 hfs h
 ·have e1:=qTO h1;subst e1;intro x hx;show x∈toL (q.den wf ρ);rw[←JM q,←T.eq_eq h2,JM]; exact hx
theorem qwo {ln:Lin→Bool} {fs:List F} (i2:∀g,ln g=true→0≤g.val wf ρ) (hfs:∀f∈fs,f.den wf rcP ρ) {e:Nat} {t q:T} (h:qle ln fs e q t=true):∀x∈toL (t.den wf ρ),Yf e (q.den wf ρ) x:=by
 unfold qle at h;rw[qTM,qTM,qTC]at h;rcases h with h|⟨h1,h2⟩|h
 ·exact qp2 i2 hfs h
 ·have e1:=qTO h1;subst e1;intro x hx;show x∈toL (q.den wf ρ);rw[←JM q,←T.eq_eq h2,JM]; exact hx
 ·obtain⟨f,hf,hb⟩:=qUb.1 h;split at hb
  ·rename_i e' l i b;have hp:=qe7.1 (hfs _ hf);split at hb
   ·rename_i h940;have e1:=qTO h940;subst e1;rw[qTC,qTC]at hb;obtain⟨b1,b2,b3⟩:=hb;have h1:=i2 _ b2;rw[Lin.val_sub,(qk i).2.1,(qk t).2.2]at h1;have el:toL (l.den wf ρ)=toL (t.den wf ρ):=by rw[←JM l,T.eq_eq b1,JM]
    intro x hx;obtain⟨j,hj,rfl⟩:=qUu hx;have h2:=hp j (by omega) (by rw[el]; exact hj);have h3:(toL (l.den wf ρ)).getD j .nilp∈toL (b.den wf ρ):=h2;rw[el,List.getD_eq_getElem?_getD,qTE hj,qTT]at h3;exact qwn i2 hfs b3 _ h3
   ·split at hb
    ·rename_i p k h950 ht;have e1:=qTO h950;subst e1;rw[qTC,qTC,qTC]at hb;obtain⟨b1,⟨b2,b4⟩,b3⟩:=hb;have h1:=i2 _ b2;have h2:=i2 _ b4;rw[Lin.val_plus,Lin.val_sub,(qk i).2.1,(qk k).2.1]at h1;rw[Lin.val_plus,Lin.val_sub,(qk p).2.2,(qk k).2.1]at h2;have el:toL (l.den wf ρ)=toL (p.den wf ρ):=by rw[←JM l,T.eq_eq b1,JM]
     have h3:=hp (toN (k.den wf ρ)) (by omega) (by rw[el]; omega);have h4:∀y∈toL ((toL (l.den wf ρ)).getD (toN (k.den wf ρ)) .nilp),y∈toL (b.den wf ρ):=h3;intro x hx;rw[←JM t,ht]at hx;rw[el]at h4;exact qwn i2 hfs b3 _ (h4 x hx)
    ·cases hb
  ·cases hb
theorem qwp {n:Nat} {G:Gam} (hG:G.OK wf rcP ρ) {e:Nat} {q x:T} (h:Yt n G e q x=true):Yf e (q.den wf ρ) (x.den wf ρ):=by
 unfold Yt at h;rw[qTM,qTM,qTC,qTC]at h;rcases h with h|⟨h1,h2⟩|⟨h1,h2⟩
 ·exact qp0 hG.wv (sok hG n).2.1 h
 ·have e1:=qTO h1;subst e1;exact qwm hG h2
 ·have e1:=qTO h1;subst e1;show ∀y∈toL (x.den wf ρ),y∈toL (q.den wf ρ);exact qk2 (wf:=wf) (ρ:=ρ) (e:=940) (v:=q.den wf ρ) (fun a ha=>qwm hG ha) (fun t ht=>qwo (sok hG n).2.1 hG.fs ht) h2
theorem qGO {n:Nat} {G:Gam} (hG:G.OK wf rcP ρ) {e:Nat} {q t:T} (h:qqi n G e q t=true):∀x∈toL (t.den wf ρ),Yf e (q.den wf ρ) x:=by
 unfold qqi at h;split at h
 ·rename_i k;rw[qTC]at h;obtain⟨hk,h⟩:=h;split at h
  ·rename_i m y hs;obtain⟨es,e1,_,e3⟩:=(sok hG n).1 _ _ hs
   revert h
   cases hy:unY y with
   | g r =>
    intro h;simp only at h;split at h
    ·rename_i m' y' hr;have h1:=(sok hG n).2.1 _ h;rw[Lin.val_plus,(qk q).2.1]at h1;intro x hx;rw[e1]at hx;have hx':=hy ▸ qei (e3 x hx);obtain⟨cs,rfl,hcs⟩:=hx';obtain⟨c,hc,hyc⟩:=Y.nth_ok hr hcs;obtain⟨es',rfl,hl,_⟩:=hyc;have hcel:cel (.agg cs) k=.list es':=by simp[cel,D.cells,hc]
     unfold Yf;simp only[hk,hcel];show es'.length≤_;omega
    ·cases h
   | _=>intro h; cases h
  ·cases h
 ·cases h
theorem qwq {n:Nat} {G:Gam} (hG:G.OK wf rcP ρ) {e:Nat} {l q:T} (h:qqj n G e l q=true):∀x∈toL (l.den wf ρ),Yf e (q.den wf ρ) x :=
 qk2 (wf:=wf) (ρ:=ρ) (e:=e) (v:=q.den wf ρ) (fun _ ha=>qwp hG ha) (fun _ ht=>by
  rw[qTM]at ht;rcases ht with ht|ht
  ·exact qwo (sok hG n).2.1 hG.fs ht
  ·exact qGO hG ht) h
theorem qGP {G:Gam} (hG:G.OK wf rcP ρ):∀{f:F},qh7 G f=true→f.den wf rcP ρ:=by
 have A:=fun t=>(qk (wf:=wf) (ρ:=ρ) t).1
 have N:=fun t=>(qk (wf:=wf) (ρ:=ρ) t).2.1
 have i2:=(sok hG 8).2.1;intro f
 induction f with
 | le a b=>intro h; have:=i2 _ h; rw[Lin.val_sub,A,A]at this; show toI _≤toI _; omega
 | lt a b=>intro h; have:=i2 _ h; rw[Lin.val_plus,Lin.val_sub,A,A]at this; show toI _<toI _; omega
 | nle a b=>intro h; have:=i2 _ h; rw[Lin.val_sub,N,N]at this; show toN _≤toN _; omega
 | nlt a b=>intro h; have:=i2 _ h; rw[Lin.val_plus,Lin.val_sub,N,N]at this; show toN _<toN _; omega
 | bool t v=>intro h; exact(qgs t v).1 (qh9 hG h)
 | rows e l i q =>
  intro h;rw[qe7];intro j hj hjl;rw[List.getD_eq_getElem?_getD,qTE hjl];exact qwq hG h _ (qTL hjl)
 | has t y=>intro h; exact(sok hG 8).2.2.2 _ _ h
 | and f g ih1 ih2=>intro h; simp only[qh7,qTC]at h; exact⟨ih1 h.1,ih2 h.2⟩
 | eqD a b =>
  intro h;obtain⟨f,hf,hb⟩:=qUb.1 h;split at hb
  ·rename_i c d;rw[qTC]at hb;have:=hG.fs _ hf;rw[←T.eq_eq hb.1,←T.eq_eq hb.2];exact this
  ·cases hb
 | _=>intro h; cases h
theorem qGQ {G:Gam} (hG:G.OK wf rcP ρ) {f:F} (hf:f.den wf rcP ρ) (h:qqk G f=true):False:=by
 unfold qqk at h;split at h
 ·rename_i a b;rw[qTC]at h;have h1:=(sok hG 8).2.1 _ h.1;have h2:=(sok hG 8).2.1 _ h.2;rw[Lin.val_sub,(qk a).1,(qk b).1]at h1 h2;have h3:(toI (a.den wf ρ) != toI (b.den wf ρ))=true:=hf;rw[bne_iff_ne]at h3;omega
 ·rename_i a b;rw[qTC]at h;have h1:=(sok hG 8).2.1 _ h.1;have h2:=(sok hG 8).2.1 _ h.2;rw[Lin.val_sub,(qk a).1,(qk b).1]at h1 h2;have h3:(toI (a.den wf ρ)==toI (b.den wf ρ))=false:=hf;rw[beq_eq_false_iff_ne]at h3;omega
 ·rename_i t v _ _;have h1:toB (t.den wf ρ)=v:=hf;have h2:=qqp h hG.fs;rw[h1]at h2;cases v<;>cases h2
 ·cases h
theorem qwr {G:Gam} (hG:G.OK wf rcP ρ) (h:qql G=true):False:=by
 obtain⟨f,hf,hb⟩:=qUb.1 h;exact qGQ hG (hG.fs f hf) hb
theorem qbD {G:Gam} (hG:G.OK wf rcP ρ):(JC G).OK wf rcP ρ:=by
 unfold JC;split
 ·refine qia ⟨hG.wv,hG.hs,fun f hf=>hG.fs f (qUT.1 hf).1,hG.ls⟩ fun f hf=>?_
  obtain⟨q,hq,rfl⟩:=qTV.1 hf;obtain⟨h1,h2⟩:=qUT.1 hq;have hd:=hG.fs q h1;unfold qlf at h2;split at h2
  ·rename_i t g;have hi:toB (t.den wf ρ)=true→g.den wf rcP ρ:=hd;exact hi ((qgs t true).1 (qh9 hG h2))
  ·rename_i g' g;have hi:g'.den wf rcP ρ→g.den wf rcP ρ:=hd;exact hi (qGP hG h2)
  ·cases h2
 ·exact hG
theorem qqs {n:Nat} {G:Gam} {a b:T} (hG:G.OK wf rcP ρ) (h:leQ n G a b=true):toI (a.den wf ρ)≤toI (b.den wf ρ):=by
 have i2:=(sok hG n).2.1;unfold leQ at h;rw[qTM]at h;rcases h with h|h
 ·have:=i2 _ h; rw[Lin.val_sub,(qk a).1,(qk b).1]at this; omega
 ·exact qvX hG.wv i2 hG.fs h
theorem qGR {n:Nat} {G:Gam} {a b:T} (hG:G.OK wf rcP ρ) (h:qwg n G a b=true):toI (a.den wf ρ)≤toI (b.den wf ρ):=by
 obtain⟨t,_,hb⟩:=qUb.1 h;rw[qTC]at hb
 cases hv:toB (t.den wf ρ)with
 | true=>exact qqs (qbD (qbD (qdn (f:=.bool t true) hG hv))) hb.1|false=>exact qqs (qbD (qbD (qdn (f:=.bool t false) hG hv))) hb.2
theorem qws {n:Nat} {G:Gam} {g:Lin} (hG:G.OK wf rcP ρ) (h:qqm n G g=true):0≤g.val wf ρ:=by
 obtain⟨p,hp,hb⟩:=qUb.1 h;obtain⟨f,hf,he⟩:=List.mem_filterMap.1 hp;rw[qTC]at hb;split at he
 ·rename_i a c b;cases he;have h1:(toI ((T.w 110 a c).den wf ρ) != toI (b.den wf ρ))=true:=hG.fs _ hf;rw[bne_iff_ne]at h1;rcases Int.lt_or_gt_of_ne h1 with h2|h2
  ·exact(sok (qdn (f:=.bool (.w 10 (.w 110 a c) b) true) hG (by show decide (toI _<toI _)=true; exact decide_eq_true h2)) n).2.1 _ hb.1
  ·exact(sok (qdn (f:=.bool (.w 12 (.w 110 a c) b) true) hG (by show decide (toI _>toI _)=true; exact decide_eq_true h2)) n).2.1 _ hb.2
 ·cases he
theorem qGS:∀{l:T},qgr l=true→(toL (l.den wf ρ)).all (fun d=>!d.isAgg)=true:=by
 intro l
 induction l with
 | z=>intro _; rfl
 | w o a b _ ih =>
  intro h;unfold qgr at h;split at h
  ·rename_i heq; cases heq
  ·rename_i k x r heq;injection heq with e1 e2 e3
   subst e1; subst e2; subst e3;rw[qTC]at h;have h2:=ih h.2;show(K.den k (x.den wf ρ)::toL (b.den wf ρ)).all (fun d=>!d.isAgg)=true;rw[qUZ,h2];cases k<;>first|rfl | (have:=h.1; cases this)
  ·rename_i x l heq;injection heq with e1 e2 e3
   subst e1; subst e2; subst e3;have h2:=ih h;rw[qTI]at h2 ⊢;exact fun d hd=>h2 d (qUg hd)
  ·rename_i x l heq;injection heq with e1 e2 e3
   subst e1; subst e2; subst e3;have h2:=ih h;rw[qTI]at h2 ⊢;exact fun d hd=>h2 d (qUE hd)
  ·cases h
 | _=>intro h; cases h
theorem qGT {y:Y} {d:D} (h:y.simple=true) (hd:qj y d):d.isAgg=false:=by
 cases y<;>simp only[Y.simple]at h<;>first|cases h|skip
 ·obtain⟨n,rfl⟩:=hd; rfl
 ·obtain⟨n,rfl⟩:=hd; rfl
 ·obtain⟨n,rfl,_⟩:=hd; rfl
 ·obtain⟨n,rfl,_⟩:=hd; rfl
 ·obtain⟨n,rfl,_⟩:=hd; rfl
 ·obtain⟨n,rfl⟩:=hd; rfl
theorem qee {n:Nat}:∀{f:F} {G:Gam},G.OK wf rcP ρ→Yx n G f=true→f.den wf rcP ρ:=by
 intro f;have A:=fun t=>(qk (wf:=wf) (ρ:=ρ) t).1
 have N:=fun t=>(qk (wf:=wf) (ρ:=ρ) t).2.1
 have L:=fun t=>(qk (wf:=wf) (ρ:=ρ) t).2.2
 induction f with
 | num a b =>
  intro G hG h;obtain⟨i1,i2,i3,i4⟩:=sok hG n;exact qTO h
 | le a b =>
  intro G hG h;obtain⟨i1,i2,i3,i4⟩:=sok hG n;simp only[Yx,qTM]at h;rcases h with h|h|h
  ·exact qqs hG h
  ·exact qGR hG h
  ·have:=qws hG h;rw[Lin.val_sub,A,A]at this; show toI _≤toI _; omega
 | lt a b =>
  intro G hG h;obtain⟨i1,i2,i3,i4⟩:=sok hG n;have:=i2 _ h; rw[Lin.val_plus,Lin.val_sub,A,A]at this; show toI _<toI _; omega
 | nle a b =>
  intro G hG h;obtain⟨i1,i2,i3,i4⟩:=sok hG n;have:=i2 _ h; rw[Lin.val_sub,N,N]at this; show toN _≤toN _; omega
 | nlt a b =>
  intro G hG h;obtain⟨i1,i2,i3,i4⟩:=sok hG n;simp only[Yx,qTM]at h;have:0≤Lin.val wf ρ (((lnN b).sub (lnN a)).plus (-1)):=by
   rcases h with h|h
   ·exact i2 _ h
   ·exact qws hG h
  rw[Lin.val_plus,Lin.val_sub,N,N]at this; show toN _<toN _; omega
 | nnle a b =>
  intro G hG h;obtain⟨i1,i2,i3,i4⟩:=sok hG n;have:=i2 _ h; rw[Lin.val_plus,Lin.val_sub,N,N]at this; show ¬toN _≤toN _; omega
 | nne a b =>
  intro G hG h;obtain⟨i1,i2,i3,i4⟩:=sok hG n;simp only[Yx,qTM]at h;show toN _≠toN _;rcases h with h|h
  ·have:=i2 _ h; rw[Lin.val_plus,Lin.val_sub,N,N]at this; omega
  ·have:=i2 _ h; rw[Lin.val_plus,Lin.val_sub,N,N]at this; omega
 | aw l i ks ag =>
  intro G hG h;obtain⟨i1,i2,i3,i4⟩:=sok hG n;simp only[Yx]at h;split at h
  ·rename_i m e hs;rw[qTC]at h;obtain⟨es,h1,h2,h3⟩:=i1 _ _ hs;have:=i2 _ h.2;rw[Lin.val_plus,Lin.val_sub,L,N,Je h1]at this;have hlt:toN (i.den wf ρ)<es.length:=by omega
   show(toL (l.den wf ρ))[toN (i.den wf ρ)]?=some (qab ks ag ((toL (l.den wf ρ)).getD (toN (i.den wf ρ)) .nilp));rw[Je h1,List.getD_eq_getElem?_getD,qTE hlt,qTT,qGK h.1 (qei (h3 _ (qTL hlt)))]
  ·split at h
   ·rename_i k;rw[qTC]at h;obtain⟨es,h1,h2,h3⟩:=i4 _ _ h.1;have:=i2 _ h.2;rw[Lin.val_plus,Lin.val_sub,L,N,Je h1]at this;have hlt:toN (i.den wf ρ)<es.length:=by omega
    show(toL (l.den wf ρ))[toN (i.den wf ρ)]?=some (qab [.i k] false ((toL (l.den wf ρ)).getD (toN (i.den wf ρ)) .nilp));obtain⟨z,hz⟩:=h3 _ (qTL hlt);rw[Je h1,List.getD_eq_getElem?_getD,qTE hlt,qTT,hz];rfl
   ·cases h
 | bool t v =>
  intro G hG h;obtain⟨i1,i2,i3,i4⟩:=sok hG n;simp only[Yx,qTM]at h;show toB (t.den wf ρ)=v;rw[←qgs];rcases h with h|h
  ·exact qh9 hG h
  ·exact qwj h
 | inI t =>
  intro G hG h;obtain⟨i1,i2,i3,i4⟩:=sok hG n;simp only[Yx,qTC]at h;have h1:=i2 _ h.1; have h2:=i2 _ h.2;rw[Lin.val_plus,A]at h1;rw[Lin.val_sub,Lin.val_cst,A]at h2;show qi _;unfold qi; omega
 | rc g x =>
  intro G hG h;obtain⟨i1,i2,i3,i4⟩:=sok hG n;cases h
 | all l k =>
  intro G hG h;obtain⟨i1,i2,i3,i4⟩:=sok hG n;simp only[Yx]at h;split at h
  ·rename_i m e hs;rw[qTC]at h;obtain⟨es,h1,h2,h3⟩:=i1 _ _ hs;show(toL (l.den wf ρ)).all _=true;rw[Je h1,qTI];intro x hx;rw[qGL h.1 (qei (h3 x hx)),qTO h.2]; exact beq_self_eq_true k
  ·cases h
 | and f g ih1 ih2 =>
  intro G hG h;obtain⟨i1,i2,i3,i4⟩:=sok hG n;simp only[Yx,qTC]at h; exact⟨ih1 hG h.1,ih2 hG h.2⟩
 | has t y =>
  intro G hG h;obtain⟨i1,i2,i3,i4⟩:=sok hG n;exact i4 _ _ h
 | pre l i y =>
  intro G hG h;obtain⟨i1,i2,i3,i4⟩:=sok hG n;simp only[Yx,qTM]at h;show ∀j:Nat,j<toN (i.den wf ρ)→qj y ((toL (l.den wf ρ)).getD j .nilp);rcases h with(h|h) | h
  ·have:=(sok hG 0).2.1 _ h; rw[Lin.val_smul,N]at this; intro j hj; omega
  ·obtain⟨f,hf,hb⟩:=qUb.1 h;split at hb
   ·rename_i l' i' y';rw[qTC,qTC,qTM,qTC]at hb;have el:=T.eq_eq hb.1;subst el;have hp:∀j:Nat,j<toN (i'.den wf ρ)→qj y' ((toL (l'.den wf ρ)).getD j .nilp):=hG.fs _ hf;intro j hj;rcases hb.2.2 with hb2|hb2
    ·have h1:=i2 _ hb2;rw[Lin.val_sub,N,N]at h1;exact Y.sub_ok hb.2.1 (hp j (by omega))
    ·have h1:=i2 _ hb2.1;rw[Lin.val_sub,Lin.val_plus,N,N]at h1;have h2:qj y ((toL (l'.den wf ρ)).getD (toN (i'.den wf ρ)) .nilp):=i4 _ _ hb2.2;rcases qTQ j (toN (i'.den wf ρ))with hlt|hge
     ·exact Y.sub_ok hb.2.1 (hp j hlt)
     ·have:j=toN (i'.den wf ρ):=by omega
      rw[this]; exact h2
   ·cases hb
  ·split at h
   ·rename_i m e hs;rw[qTC]at h;obtain⟨es,h1,h2,h3⟩:=i1 _ _ hs;have:=i2 _ h.2;rw[Lin.val_sub,L,N,Je h1]at this;intro j hj;have hlt:j<es.length:=by omega
    rw[Je h1,List.getD_eq_getElem?_getD,qTE hlt];exact Y.sub_ok h.1 (h3 _ (qTL hlt))
   ·cases h
 | imp t f ih =>
  intro G hG h;obtain⟨i1,i2,i3,i4⟩:=sok hG n;simp only[Yx]at h;intro ht;rw[qTM,qTM]at h;rcases h with h|h
  ·have h1:toB ((nb t true).1.den wf ρ)=!(nb t true).2:=by
    rcases h with h|h
    ·exact qwj (wf:=wf) (ρ:=ρ) h
    ·exact qh9 hG h
   have h2:=(qgs (wf:=wf) (ρ:=ρ) t true).2 ht;rw[h1]at h2
   revert h2
   generalize (nb t true).2=b;intro h2;cases b<;>simp at h2
  ·exact ih (qbD (qbD (qdn (f:=.bool t true) hG ht))) h
 | keq a b =>
  intro G hG h;exact IntKind.eq_eq h
 | ine t =>
  intro G hG h;obtain⟨i1,i2,i3,i4⟩:=sok hG n;simp only[Yx,qTM]at h;show toI _≠0;rcases h with h|h
  ·have:=i2 _ h; rw[Lin.val_plus,A]at this; omega
  ·have:=i2 _ h; rw[Lin.val_plus,Lin.val_smul,A]at this; omega
 | rows e l i t =>
  intro G hG h;obtain⟨i1,i2,i3,i4⟩:=sok hG n;simp only[Yx,qTM]at h;rw[qe7];rcases h with h|h|h
  ·have:=(sok hG 0).2.1 _ h; rw[Lin.val_smul,N]at this; intro j hj; omega
  ·obtain⟨f,hf,hb⟩:=qUb.1 h;split at hb
   ·rename_i e' l' i' q';rw[qTC,qTC,qTC,qTM]at hb;obtain⟨b1,b3,b4,b5⟩:=hb;have el:=T.eq_eq b1;subst el;have hp:=qe7.1 (hG.fs _ hf);have h1:=i2 _ b3;rw[Lin.val_sub,Lin.val_plus,N,N]at h1;intro j hj hjl;rcases qTQ j (toN (i'.den wf ρ))with hlt|hge
    ·exact qp1 i2 b4 (hp j hlt hjl)
    ·have:j=toN (i'.den wf ρ):=by omega
     subst this;rcases b5 with b5|b5
     ·have h2:=i2 _ b5;rw[Lin.val_sub,N,N]at h2; omega
     ·exact qwp hG b5
   ·cases hb
  ·have key:=qwq hG h;intro j hj hjl;rw[List.getD_eq_getElem?_getD,qTE hjl];exact key _ (qTL hjl)
 | tt b =>
  intro G hG h;obtain⟨i1,i2,i3,i4⟩:=sok hG n;exact h
 | ifF f g ih1 ih2 =>
  intro G hG h hf;simp only[Yx,qTM]at h;have hG':=qbD (qbD (qdn (f:=f) hG hf));rcases h with h|h|h
  ·exact ih2 hG' h
  ·exact(qwr hG' h).elim
  ·exact(qvY hG' h).elim
 | byt l =>
  intro G hG h;have key:∀m,qj (.l m .y8) (l.den wf ρ)→(F.byt l).den wf rcP ρ:=by
   intro m ⟨es,h1,_,h3⟩;show toL (l.den wf ρ)=qh ((toL (l.den wf ρ)).map unB);rw[Je h1];unfold qh;rw[qUs];refine(List.map_id' es).symm.trans (qUv fun x hx=>?_);obtain⟨c,rfl⟩:=h3 x hx;show Yr c=Yr (unB (Yr c));rw[qGM]
  simp only[Yx]at h;split at h
  ·rename_i m hs; exact key m ((sok hG n).1 _ _ hs)
  ·exact key _ ((sok hG n).2.2.2 _ _ h)
 | ar l=>intro G hG h; rfl
 | iz t z =>
  intro G hG h;simp only[Yx,qTC]at h;have h1:=(sok hG n).2.1 _ h.1;have h2:=(sok hG n).2.1 _ h.2;rw[Lin.val_plus,A]at h1;rw[Lin.val_sub,Lin.val_cst,A]at h2;show toI _=z;omega
 | sca l =>
  intro G hG h;simp only[Yx,qTM]at h;rcases h with h|h
  ·exact qGS h
  split at h
  ·rename_i m e hs;obtain⟨es,h1,_,h3⟩:=(sok hG n).1 _ _ hs;show(toL (l.den wf ρ)).all (fun d=>!d.isAgg)=true;rw[Je h1,qTI];intro x hx;rw[qGT h (qei (h3 x hx))]; rfl
  ·cases h
 | sp l k m =>
  intro G hG h;simp only[Yx]at h;split at h
  ·rename_i m' e hs;rw[qTC,qTC,qTC]at h;obtain⟨⟨a1,a2⟩,a3,a4⟩:=h;obtain⟨es,h1,_,h3⟩:=(sok hG n).1 _ _ hs;have b3:=(sok hG n).2.1 _ a3;have b4:=(sok hG n).2.1 _ a4;rw[Lin.val_plus,L,Je h1]at b3;rw[Lin.val_sub,Lin.val_cst,L,Je h1]at b4;have hl:es.length=m:=by omega
   show toL (l.den wf ρ)=(List.range m).map fun j=>qab [k] false ((toL (l.den wf ρ)).getD j .nilp)
   rw[Je h1];apply qU6
   ·simp[hl]
   ·intro i hi hi2;rw[qVI,qVJ,List.getD_eq_getElem?_getD,qTE hi,qTT];have h5:=qb6 a1 (qei (h3 _ (qTL hi)));rw[K.eq_eq a2]at h5;exact h5.symm
  ·cases h
 | eqD a b =>
  intro G hG h;simp only[Yx,qTM]at h;show a.den wf ρ=b.den wf ρ;rcases h with h|h
  ·rw[←qli hG a,T.eq_eq h,qli hG b]
  ·obtain⟨f,hf,hb⟩:=qUb.1 h;split at hb
   ·rename_i c d;rw[qTC]at hb;rw[←T.eq_eq hb.1,←T.eq_eq hb.2]; exact hG.fs _ hf
   ·cases hb
theorem qlj:∀x:List T,(qW x).den wf ρ=.list (x.map (T.den wf ρ))
 | []=>rfl|t::r=>by
  show D.list (t.den wf ρ::toL ((qW r).den wf ρ))=_;rw[qlj r]; rfl
theorem qqt {n:Nat} {G:Gam} (hG:G.OK wf rcP ρ):∀{x:List T} {ys:List Y},qh8 n G x ys=true→x.length=ys.length∧∀(i:Nat) (y:Y),ys[i]?=some y→qj y ((x.map (T.den wf ρ)).getD i .nilp)
 | [],[],_=>⟨rfl,fun i y h=>by simp at h⟩
 | [],_::_,h=>by cases h
 | _::_,[],h=>by cases h
 | t::r,y::s,h=>by
  simp only[qh8,qTC]at h;obtain⟨h1,h2⟩:=qqt hG h.2;refine⟨by simp[h1],fun i z hz=>?_⟩
  cases i with
  | zero=>simp at hz; subst hz; exact(sok hG n).2.2.2 _ _ h.1|succ i=>simp only[qUx]at hz; simpa using h2 i z hz
end
theorem qib {wf:Nat→List D→D} {ρ:Nat→D} {x:List T} {k:Nat} (h:k<x.length):qV wf ρ x k=qa (x.map (T.den wf ρ)) k:=by
 unfold qV qa;rw[List.getD_eq_getElem?_getD,List.getD_eq_getElem?_getD,qT3,qTE h];rfl
variable [Glob] [PW]
section
variable {P:Program} {tab:Tab} {ρ:Nat→D}
def qaU (P:Program) (tab:Tab):Prop:=∀g c,tab.get g=some c→qp P g c
def qb8 (P:Program) (tab:Tab) (r:Grp) (B:Nat):Prop:=∀g c,tab.get g=some c→∀ds,qM c ds→(∀m,r.get g=some m→toN (m.den w0 (qa ds))<B)→∃d,J0 c ds d∧JP P g c ds d
theorem qGU {r:Grp} {B:Nat} (ht:qb8 P tab r B) {g:Nat} {c:Con} (hv:g<Ju) (hg:tab.get g=some c) {ds:List D} (hp:qM c ds) (hm:∀m,r.get g=some m→toN (m.den w0 (qa ds))<B) :
  J0 c ds (wOf P tab g ds)∧JP P g c ds (wOf P tab g ds):=by
 have:=qpj (ht g c hg ds hp hm);have hb:Nat.ble Ju g=false:=by
  cases h:Nat.ble Ju g with
  | false=>rfl|true=>have:=qT5 h; omega
 unfold wOf;rw[hb,hg]; exact this
theorem qgt {g:Nat} (h:Ju≤g):wOf P tab g=PW.wV g:=by
 have hb:Nat.ble Ju g=true:=qV8 h
 funext ds
 unfold wOf;rw[hb]
theorem qGV {wf:Nat→List D→D} {rcP:Nat→List D→Prop}:∀{f:F} {G:Gam},G.OK wf rcP ρ→f.den wf rcP ρ→(qlg G f).OK wf rcP ρ:=by
 intro f
 induction f with
 | aw l i ks ag =>
  intro G hG h;refine⟨hG.wv,hG.hs,hG.fs,qwO hG.ls ?_⟩;have h':(toL (l.den wf ρ))[toN (i.den wf ρ)]?=some (qab ks ag ((toL (l.den wf ρ)).getD (toN (i.den wf ρ)) .nilp)):=h;have hlt:toN (i.den wf ρ)<(toL (l.den wf ρ)).length:=by
   rcases qTQ (toN (i.den wf ρ)) (toL (l.den wf ρ)).length with q|q
   ·exact q
   ·rw[qUc q]at h'; cases h'
  rw[Lin.val_plus,Lin.val_sub,(qk l).2.2,(qk i).2.1]; omega
 | and f g ih1 ih2=>intro G hG h; exact ih2 (ih1 hG h.1) h.2
 | _=>intro G hG h; exact hG
theorem qwt {r:Grp} {B:Nat} (ht:qb8 P tab r B) (hB:toN (r.cur.den (wOf P tab) ρ)≤B) {n:Nat} {G:Gam} {g:Nat} {x:List T} {c:Con} (hG:G.OK (wOf P tab) (JQ P tab) ρ) (hg:tab.get g=some c) (hr:(qqn n G c x&&(Nat.blt g Ju&&qqo n G r g c.pts.length x))=true) :
  qM c (x.map (T.den (wOf P tab) ρ))∧J0 c (x.map (T.den (wOf P tab) ρ)) (wOf P tab g (x.map (T.den (wOf P tab) ρ)))∧JP P g c (x.map (T.den (wOf P tab) ρ)) (wOf P tab g (x.map (T.den (wOf P tab) ρ)))∧x.length=c.pts.length∧∀p∈c.post,p.pure (c.pts.length+1)=true:=by
 rw[qTC,qTC,qT0]at hr;obtain⟨hr,hgv,hgr⟩:=hr;unfold qqn at hr;rw[qTC,qTC]at hr;obtain⟨h1,h2,h3⟩:=hr;obtain⟨l1,l2⟩:=qqt hG h1;have hpre:qM c (x.map (T.den (wOf P tab) ρ)):=by
  refine⟨⟨by simp[l1],l2⟩,fun f hf=>?_⟩;have:=qTI.1 h2 f hf;rw[qTC]at this;have hd:=(F.den_sub x f).1 (qee hG this.2);refine(F.den_pure (n:=c.pts.length) (fun _ h=>qgt h) (fun k hk=>?_) f this.1).1 hd;exact qib (by omega)
 have hms:∀m,r.get g=some m→toN (m.den w0 (qa (x.map (T.den (wOf P tab) ρ))))<B:=by
  intro m hm;unfold qqo at hgr;rw[hm]at hgr;simp only[qTC]at hgr;have hd:toN ((m.sub x).den (wOf P tab) ρ)<toN (r.cur.den (wOf P tab) ρ):=qee hG hgr.2;rw[T.den_sub]at hd;have:=T.den_pure0 (wf:=wOf P tab) (wf':=w0) (ρ:=qV (wOf P tab) ρ x) (ρ':=qa (x.map (T.den (wOf P tab) ρ))) (n:=c.pts.length) (fun k hk=>qib (by omega)) m hgr.1;rw[this]at hd;omega
 obtain⟨w,w3⟩:=qGU ht hgv hg hpre hms;exact⟨hpre,w,w3,by omega,fun p hp=>qTI.1 h3 p hp⟩
theorem qqu {r:Grp} {B:Nat} (ht:qb8 P tab r B) (hB:toN (r.cur.den (wOf P tab) ρ)≤B) {n:Nat} {G G':Gam} {f:F} (hG:G.OK (wOf P tab) (JQ P tab) ρ) (h:dis n tab r G f=some G'):f.den (wOf P tab) (JQ P tab) ρ∧G'.OK (wOf P tab) (JQ P tab) ρ:=by
 unfold dis at h;split at h
 ·rename_i g x;split at h
  ·rename_i c hg;split at h
   ·rename_i hr;cases h;obtain⟨_,⟨⟨w1,w2⟩,_⟩,w3,l1,h3⟩:=qwt ht hB hG hg hr;have hden:(T.u 3 g (qW x)).den (wOf P tab) ρ=wOf P tab g (x.map (T.den (wOf P tab) ρ)):=by
     show wOf P tab g (toL ((qW x).den (wOf P tab) ρ))=_;rw[qlj]; rfl
    refine⟨?_,qbD (qbD (qia hG fun q hq=>?_))⟩
    ·show JQ P tab g _;unfold JQ;rw[hg]; exact w3
    ·rcases qTD.1 hq with rfl|hq
     ·show qj c.rt ((T.u 3 g (qW x)).den (wOf P tab) ρ);rw[hden]; exact w1
     ·obtain⟨p,hp,rfl⟩:=qTV.1 hq;refine(F.den_sub _ p).2 ?_;have hpure:=h3 p hp;refine(F.den_pure (n:=c.pts.length+1) (fun _ h=>qgt h) (fun k hk=>?_) p hpure).2 (w2 p hp);rw[qib (by simp; omega),qUC];simp only[qUa,qVg,hden]
   ·cases h
  ·cases h
 ·split at h
  ·rename_i hp;cases h;exact⟨qee hG hp,qGV hG (qee hG hp)⟩
  ·cases h
theorem qGW {wf:Nat→List D→D} {rcP:Nat→List D→Prop} {ρ:Nat→D} {G:Gam} (h:G.OK wf rcP ρ):(qwh G).OK wf rcP ρ:=qia h fun f hf=>h.fs f (qUT.1 hf).1
theorem qlk {r:Grp} {B:Nat} (ht:qb8 P tab r B) (hB:toN (r.cur.den (wOf P tab) ρ)≤B) {n:Nat}:∀{fs:List F} {G G':Gam},G.OK (wOf P tab) (JQ P tab) ρ→qed n tab r G fs=some G'→qf (fs.map (F.den (wOf P tab) (JQ P tab) ρ))∧G'.OK (wOf P tab) (JQ P tab) ρ
 | [],G,G',hG,h=>by cases h; exact⟨trivial,qGW hG⟩
 | f::l,G,G',hG,h=>by
  simp only[qed]at h;split at h
  ·rename_i G1 h1;obtain⟨a,b⟩:=qqu ht hB hG h1;obtain⟨c,d⟩:=qlk ht hB b h;exact⟨⟨a,c⟩,d⟩
  ·cases h
theorem qll {r:Grp} {B:Nat} (ht:qb8 P tab r B) (hB:toN (r.cur.den (wOf P tab) ρ)≤B) {n:Nat}:∀{fs:List F} {G G':Gam},G.OK (wOf P tab) (JQ P tab) ρ→qed n tab r G fs=some G'→∀g x,F.rc g x∈fs→∀c,tab.get g=some c →
  qM c (x.map (T.den (wOf P tab) ρ))∧J0 c (x.map (T.den (wOf P tab) ρ)) (wOf P tab g (x.map (T.den (wOf P tab) ρ)))
 | [],G,G',hG,h,g,x,hm,c,hg=>by cases hm
 | f::l,G,G',hG,h,g,x,hm,c,hg=>by
  simp only[qed]at h;split at h
  ·rename_i G1 h1;rcases qTD.1 hm with rfl|hm
   ·unfold dis at h1;simp only[hg]at h1;split at h1
    ·rename_i hr;obtain⟨q1,q2,_⟩:=qwt ht hB hG hg hr;exact⟨q1,q2⟩
    ·cases h1
   ·exact qll ht hB (qqu ht hB hG h1).2 h g x hm c hg
  ·cases h
theorem qwu {r:Grp} {B:Nat} (ht:qb8 P tab r B) (hB:toN (r.cur.den (wOf P tab) ρ)≤B) {n:Nat}:∀{fs:List F} {G:Gam},G.OK (wOf P tab) (JQ P tab) ρ→(qlh n tab r G fs).OK (wOf P tab) (JQ P tab) ρ
 | [],G,hG=>hG|f::l,G,hG=>by
  unfold qlh;split
  ·rename_i G1 h1;exact qwu ht hB (qqu ht hB hG h1).2
  ·exact hG
end
end Go.Aev.R
end
section
namespace Go.Aev.R
open Go Go.Aev
variable [RT]
abbrev M6:=T×T×T×T×T×T
structure St where
 id:Nat
 env:List (Nat×RV)
 rows:List qx
 tys:List Y
 inv:List F
 ms:M6
 deriving Inhabited
structure RFn where
 g:Nat
 con:Con
 sts:List St
 wr:Bool:=false
 n:Nat:=400
 pn:Nat:=14
 rec':Grp:={}
 deriving Inhabited
def RFn.na (fn:RFn):Nat:=fn.con.pts.length
def qdm:Code→Option Nat
 | .region id _ _=>some id|.seq a b=>match qdm a with
  | some r=>some r|none=>qdm b
 | .cond _ a b=>match qdm a with
  | some r=>some r|none=>qdm b
 | .block _ c=>qdm c|.scope c=>qdm c|.loop c=>qdm c|_=>none
def qd9:Code→List qT→List (Nat×List qT)
 | .seq a b,k=>qd9 a (.it (.code b)::k)++qd9 b k|.cond _ a b,k=>qd9 a k++qd9 b k|.block id c,k=>qd9 c (.it (.inBlock id)::k)|.scope c,k=>qd9 c (.it (.inScope c)::k)|.loop c,k=>((qdm c).getD 0,.it (.code c)::.it (.inLoop c)::k)::qd9 c (.it (.inLoop c)::k)|_,_=>[]
def qh2 (P:Program) (g:Nat):Option Code:=match P.funcs[g]? with
 | some gf=>gf.body|none=>none
def qp3 (P:Program) (g:Nat):Nat:=match P.funcs[g]? with
 | some gf=>gf.ntmps|none=>0
def qvZ (P:Program) (g:Nat):List ResultVar:=match P.funcs[g]? with
 | some gf=>gf.results.toList|none=>[]
def qGk (n:Nat) (l:List (Nat×RV)):List RV:=(List.range n).map fun i=>match l.find? (fun p=>Nat.beq p.1 i)with
 | some p=>p.2|none=>.o .any
def qgl:List Y→Nat→List RV
 | [],_=>[]|y::r,n=>.o (qih y (.v n))::qgl r (n+1)
section
variable (P:Program) (fn:RFn)
def qO:RS:={env:=qgl fn.con.pts 0++List.replicate (qp3 P fn.g - fn.na) (.o .und),rows:=[],todo:=match qh2 P fn.g with
 | some b=>[.it (.code b)]|none=>[]}
def qaQ (st:St):RS:={env:=qGk (qp3 P fn.g) st.env,rows:=st.rows,todo:=match qh2 P fn.g with
 | some b=>match (qd9 b []).find? (fun p=>Nat.beq p.1 st.id)with
  | some p=>p.2|none=>[]
 | none=>[]}
end
noncomputable def RS.den (wf:Nat→List D→D) (ρ:Nat→D) (g:Nat) (s:RS):AS:=⟨⟨g,s.env.map (RV.den wf ρ),s.todo,none,[],[]⟩,[],s.rows.map (qx.den wf ρ)⟩
structure Mt where
 σ:List (Nat×T)
 rm:List (Nat×Nat)
def qaR (na:Nat):T→T→Mt→Option Mt
 | .v n,t,m=>match Nat.blt n na with
  | true=>match t.eq (.v n)with
   | true=>some m|false=>none
  | false=>match m.σ.find? (fun q=>Nat.beq q.1 n)with
   | some q=>match q.2.eq t with
    | true=>some m|false=>none
   | none=>some {m with σ:=(n,t)::m.σ}
 | .mk k x,.mk k' y,m=>match K.eq k k' with
  | true=>qaR na x y m|false=>none
 | .u o k x,.u o' k' y,m=>match Nat.beq o o'&&Nat.beq k k' with
  | true=>qaR na x y m|false=>none
 | .w o x y,.w o' x' y',m=>match Nat.beq o o' with
  | true=>(qaR na x x' m).bind (qaR na y y')|false=>none
 | p,t,m=>match p.eq t with
  | true=>some m|false=>none
def qp4 (r r':Nat) (m:Mt):Option Mt:=match m.rm.find? (fun q=>Nat.beq q.1 r)with
 | some q=>match Nat.beq q.2 r' with
  | true=>some m|false=>none
 | none=>some {m with rm:=(r,r')::m.rm}
def mtC (na:Nat):List (K×T)→List (K×T)→Mt→Option Mt
 | [],[],m=>some m|p::r,q::s,m=>match K.eq p.1 q.1 with
  | true=>(qaR na p.2 q.2 m).bind (mtC na r s)|false=>none
 | _,_,_=>none
def qGl (na:Nat) (k:K) (p t:T):T:=match k,p with
 | .i .i64,_=>t|.i _,.v n=>match Nat.blt n na with
  | true=>t|false=>.mk (.i .i64) t
 | _,_=>t
def mt1 (na:Nat) (p q:R1) (m:Mt):Option Mt:=match p,q with
 | .any,_=>some m|.c k t,.c k' t'=>match K.eq k k' with
  | true=>qaR na t (qGl na k t t') m|false=>none
 | .ag l,.ag l'=>mtC na l l' m|.nil,.nil=>some m|.und,.und=>some m|.sl r k a b c ex,.sl r' k' a' b' c' ex'=>match Nat.beq k k'&&bEq ex ex' with
  | true=>(qp4 r r' m).bind fun m=>(qaR na a a' m).bind fun m=>(qaR na b b' m).bind (qaR na c c')
  | false=>none
 | .pt r k i f,.pt r' k' i' f'=>match Nat.beq k k'&&Nat.beq f f' with
  | true=>(qp4 r r' m).bind (qaR na i i')|false=>none
 | .dp l a,.dp l' a'=>match bEq a a' with
  | true=>mtC na l l' m|false=>none
 | .fn g,.fn g'=>match Nat.beq g g' with
  | true=>some m|false=>none
 | .pa r k f,.pa r' k' f'=>match Nat.beq k k' with
  | true=>(qp4 r r' m).bind (qaR na f f')|false=>none
 | .av n k t,.av n' k' t'=>match Nat.beq n n'&&K.eq k k' with
  | true=>qaR na t t' m|false=>none
 | _,_=>none
def mtL (na:Nat):List R1→List R1→Mt→Option Mt
 | [],[],m=>some m|p::r,q::s,m=>(mt1 na p q m).bind (mtL na r s)|_,_,_=>none
def mtV (na:Nat) (p q:RV) (m:Mt):Option Mt:=match p,q with
 | .o x,.o y=>mt1 na x y m|.vag l,.vag l'=>mtL na l l' m|.tup l,.tup l'=>mtL na l l' m|_,_=>none
def qv0 (na:Nat) (env:List RV):List (Nat×RV)→Mt→Option Mt
 | [],m=>some m|p::r,m=>match env[p.1]? with
  | some v=>(mtV na p.2 v m).bind (qv0 na env r)|none=>none
def qk3 (na:Nat) (rows:List qx):List qx→Nat→Mt→Option Mt
 | [],_,m=>some m|p::r,i,m=>match m.rm.find? (fun q=>Nat.beq q.1 i)with
  | some q=>match p,rows[q.2]? with
   | .dat k t ro,some (.dat k' t' ro')=>match Nat.beq k k'&&bEq ro ro' with
    | true=>(qaR na t t' m).bind (qk3 na rows r (i+1))|false=>none
   | .box l ro,some (.box l' ro')=>match bEq ro ro' with
    | true=>(mtL na l l' m).bind (qk3 na rows r (i+1))|false=>none
   | .arr n k t ro,some (.arr n' k' t' ro')=>match Nat.beq n n'&&(K.eq k k'&&bEq ro ro')with
    | true=>(qaR na t t' m).bind (qk3 na rows r (i+1))|false=>none
   | _,_=>none
  | none=>none
def qGm (na n:Nat) (m:Mt):List T:=(List.range n).map fun i=>match Nat.blt i na with
 | true=>.v i|false=>match m.σ.find? (fun q=>Nat.beq q.1 i)with
  | some q=>q.2|none=>.p
def qGn (n:Nat) (m:Mt):List Nat:=(List.range n).map fun i=>match m.rm.find? (fun q=>Nat.beq q.1 i)with
 | some q=>q.2|none=>0
def qGo (na:Nat) (s:RS) (st:St):Option (List T×List Nat) :=
 match (qv0 na s.env st.env {σ:=[],rm:=[]}).bind (qk3 na s.rows st.rows 0)with
 | some m=>some (qGm na st.tys.length m,qGn st.rows.length m)|none=>none
def qv1 (s:RS):Nat:=match s.todo with
 | .it (.code c)::_=>(qdm c).getD 0|_=>0
def target (na:Nat) (s:RS):List St→Nat→Option (Nat×List T×List Nat)
 | [],_=>none|st::r,k=>match Nat.beq st.id (qv1 s)with
  | true=>match qGo na s st with
   | some p=>some (k,p)|none=>target na s r (k+1)
  | false=>target na s r (k+1)
inductive qe8 where
 | next (gd:List (Nat×Bool)) (h:H) (fs:List F) (k:Nat) (σ:List T) (rs:List Nat)
 | done (gd:List (Nat×Bool)) (h:H) (fs qs:List F) (r:T)
 | bad (why at_:Nat)
inductive qaS where
 | leaf (l:qe8)
 | fork (t:T) (a b:qaS)
def qk4 (rows:List qx):List Nat→List (Nat×T)
 | []=>[]|r::rs=>match rows[r]? with
  | some (.arr _ _ t _)=>(r,t)::qk4 rows rs|_=>qk4 rows rs
def qGp (fn:RFn) (gd:List (Nat×Bool)):qgB→qe8
 | .next fs h s=>match target fn.na s fn.sts 0 with
  | some (k,σ,rs)=>.next gd {h with mv:=qk4 s.rows rs} (fs++(qk4 s.rows rs).map fun p=>.ar p.2) k σ rs
  | none=>.bad 70 (qv1 s)
 | .done fs h vs rows=>match vs with
  | [v]=>match (match JH rows v with|some x=>some x|none=>rvD rows v)with
   | some (qs,r)=>.done gd h fs qs r|none=>.bad 71 0
  | vs=>match qlC rows vs with
   | some (qs,ts)=>.done gd h fs qs (.u 2 0 (qW ts))|none=>.bad 72 0
 | .fork _ _=>.bad 73 0|.fail w a=>.bad w a
def qp5 (fn:RFn) (run:List (Nat×Bool)→qgB):Nat→List (Nat×Bool)→qaS
 | 0,_=>.leaf (.bad 74 0)|n+1,gd=>match run gd with
  | .fork t tm=>.fork t (qp5 fn run n ((tm,true)::gd)) (qp5 fn run n ((tm,false)::gd))|o=>.leaf (qGp fn gd o)
def qaS.leaves:qaS→List qe8
 | .leaf l=>[l]|.fork _ a b=>a.leaves++b.leaves
section
variable (P:Program) (fn:RFn) (tab:Tab)
def qp6:List ResultVar→List (Nat×Bool)
 | []=>[]|.tmp _::r=>qp6 r|.cell a _::r=>(2000000+a,true)::qp6 r
def qbf (s:RS):qaS:=qp5 fn (fun gd=>qxd (q6 P) tab fn.wr (qvZ P fn.g) gd fn.n s [] {}) 40 (qp6 (qvZ P fn.g))
def qI:List RS:=qO P fn::fn.sts.map (qaQ P fn)
def qv2 (k:Nat):List Nat:=match fn.sts[k]? with
 | some st=>st.env.map (·.1)|none=>[]
def qh3 (tys:List Y) (fs:List F):Gam:=qfc {hs:=(List.range tys.length).zip tys |>.map fun p=>(.v p.1,p.2),fs:=[],B:=⟨[],[]⟩} fs
def qv3 (n:Nat) (G:Gam) (fs:List F):Bool:=fs.all (Yx n G)
def qp7 (n:Nat) (G:Gam) (σ:List T) (a b:M6):Bool :=
 let lt:=fun(x y:T)=>Yx n G (.nlt (x.sub σ) y)
 let le:=fun(x y:T)=>Yx n G (.nle (x.sub σ) y)
 lt a.1 b.1||le a.1 b.1&&(lt a.2.1 b.2.1||le a.2.1 b.2.1&&(lt a.2.2.1 b.2.2.1||le a.2.2.1 b.2.2.1&&(lt a.2.2.2.1 b.2.2.2.1||le a.2.2.2.1 b.2.2.2.1 &&
  (lt a.2.2.2.2.1 b.2.2.2.2.1||le a.2.2.2.2.1 b.2.2.2.2.1&&lt a.2.2.2.2.2 b.2.2.2.2.2))))
def qGq (na:Nat) (σ:List T):Bool:=(List.range na).all fun i=>(σ.getD i .p).eq (.v i)
def qv4 (G:Gam) (ms:Option M6) (fs:List F) (k:Nat) (σ:List T):Bool:=match qed fn.pn tab fn.rec' G fs,fn.sts[k]? with
 | some G',some st=>qGq fn.na σ&&(qh8 fn.pn G' σ st.tys&&(qv3 fn.pn G' (st.inv.map (F.sub σ))&&match ms with
  | some m=>qp7 fn.pn G' σ st.ms m|none=>true))
 | _,_=>false
def qv5 (G:Gam) (fs qs:List F) (r:T):Bool:=match qed fn.pn tab fn.rec' G fs with
 | some G1=>match qed fn.pn tab fn.rec' G1 qs with
  | some G'=>chk fn.pn G' r fn.con.rt&&qv3 fn.pn G' (fn.con.post.map (F.sub ((List.range fn.na).map T.v++[r])))|none=>false
 | none=>false
def qk5 (G:Gam) (ms:Option M6) (l:qe8):Bool:=(match l with
  | .next _ _ fs k σ _=>qv4 fn tab G ms fs k σ|.done _ _ fs qs r=>qv5 fn tab G fs qs r|.bad _ _=>false)||(qpQ fn.pn G||qql (qlh fn.pn tab fn.rec' G (match l with
  | .next _ _ fs _ _ _=>fs|.done _ _ fs _ _=>fs|.bad _ _=>[])))
def qcF (ms:Option M6):Gam→qaS→Bool
 | G,.leaf l=>qk5 fn tab G ms l|G,.fork t a b=>qcF ms (JC (JN G (.bool t true))) a&&qcF ms (JC (JN G (.bool t false))) b
def qy (st:St):Bool:=qcF fn tab (some st.ms) (qh3 st.tys (fn.con.pre++st.inv)) (qbf P fn tab (qaQ P fn st))
def qp8:Bool:=(qh2 P fn.g).isSome&&(!fn.con.nw&&(fn.rec'.cur.pure0 fn.na&&(fn.con.pre.all (F.pure fn.na)&&(fn.con.post.all (F.pure (fn.na+1))&&fn.con.pts.all Y.good))))
def qaj:Bool:=qp8 P fn&&(qcF fn tab none (qh3 fn.con.pts fn.con.pre) (qbf P fn tab (qO P fn))&&fn.sts.all (qy P fn tab))
end
def qe9 (fn:RFn) (tab:Tab) (ms:Option M6):Gam→qaS→List Bool
 | G,.leaf l=>[qk5 fn tab G ms l]|G,.fork t a b=>qe9 fn tab ms (JC (JN G (.bool t true))) a++qe9 fn tab ms (JC (JN G (.bool t false))) b
theorem qp9 {fn:RFn} {tab:Tab} {ms:Option M6}:∀{t:qaS} {G:Gam},(∀b∈qe9 fn tab ms G t,b=true)→qcF fn tab ms G t=true
 | .leaf l,G,h=>by
  unfold qcF;exact h _ (by simp[qe9])
 | .fork t a b,G,h=>by
  simp only[qcF,qTC];exact⟨qp9 fun x hx=>h x (by simp[qe9,hx]),qp9 fun x hx=>h x (by simp[qe9,hx])⟩
def qqa (l:List Bool):Nat→Prop
 | 0=>True|n+1=>l.getD n false=true∧qqa l n
theorem qv6 {l:List Bool}:∀{n i:Nat},qqa l n→i<n→l.getD i false=true
 | n+1,i,h,hi=>by
  rcases Nat.lt_succ_iff_lt_or_eq.1 hi with h1|h1
  ·exact qv6 h.2 h1
  ·rw[h1]; exact h.1
def lvS (P:Program) (fn:RFn) (tab:Tab) (st:St):List Bool:=qe9 fn tab (some st.ms) (qh3 st.tys (fn.con.pre++st.inv)) (qbf P fn tab (qaQ P fn st))
theorem qgm {P:Program} {fn:RFn} {tab:Tab} {st:St} {n:Nat} (h:Nat.ble (lvS P fn tab st).length n=true) (hs:qqa (lvS P fn tab st) n):qy P fn tab st=true:=by
 refine qp9 fun b hb=>?_
 obtain⟨i,hi,e⟩:=qUu hb;have:=qv6 hs (qUn hi (qT5 h));rw[List.getD_eq_getElem?_getD,qTE (show i<(lvS P fn tab st).length from hi)]at this;rw[←e]; exact this
def qqb (P:Program) (fn:RFn) (tab:Tab):List St→Prop
 | []=>True|st::r=>qy P fn tab st=true∧qqb P fn tab r
theorem qv7 {P:Program} {fn:RFn} {tab:Tab}:∀{l:List St},qqb P fn tab l→l.all (qy P fn tab)=true
 | [],_=>rfl|st::r,h=>by rw[qUZ,h.1,qv7 h.2]; rfl
def qaT (P:Program) (fn:RFn) (tab:Tab):Bool:=qp8 P fn&&qcF fn tab none (qh3 fn.con.pts fn.con.pre) (qbf P fn tab (qO P fn))
theorem qbC {P:Program} {fn:RFn} {tab:Tab} (h:qaT P fn tab=true) (hs:qqb P fn tab fn.sts):qaj P fn tab=true:=by
 unfold qaT at h;rw[qTC]at h;unfold qaj;rw[h.1,h.2,qv7 hs]; rfl
variable [Glob] [PW]
section
variable (P:Program) (fn:RFn) (tab:Tab)
noncomputable def fH (wf:Nat→List D→D) (ρ:Nat→D) (e:List K×Bool×T):Nat→D:=fun i=>qab e.1 e.2.1 ((toL (e.2.2.den wf ρ)).getD i .nilp)
noncomputable def qv8 (wf:Nat→List D→D) (ρ:Nat→D) (gd:List (Nat×Bool)) (h:H):qB :=
 {gd:=fun i=>match gd.find? (fun p=>Nat.beq p.1 i)with
   | some p=>some p.2|none=>none
  lst:=fun t=>match h.lst.find? (fun p=>Nat.beq p.1 t)with
   | some p=>some (fH wf ρ p.2)|none=>none
  row:=fun t=>match h.row.find? (fun p=>Nat.beq p.1 t)with
   | some p=>some (fH wf ρ p.2)|none=>none
  arr:=fun t=>match h.arr.find? (fun p=>Nat.beq p.1 t)with
   | some p=>some (p.2.1,toL (p.2.2.2.den wf ρ),fH wf ρ ([p.2.2.1],false,p.2.2.2))|none=>none
  arrT:=fun t=>match h.arr.find? (fun p=>Nat.beq p.1 (1000000+t))with
   | some p=>some (p.2.1,toL (p.2.2.2.den wf ρ),fH wf ρ ([p.2.2.1],false,p.2.2.2))|none=>none
  glb:=fun t=>match h.glb.find? (fun p=>Nat.beq p.1 t)with
   | some p=>some (fH wf ρ p.2)|none=>none
  spl:=fun t=>match h.spl.find? (fun p=>Nat.beq p.1 t)with
   | some p=>some (p.2.1,fH wf ρ ([p.2.2.1],false,p.2.2.2))|none=>none
  mv:=fun t=>match h.mv.find? (fun p=>Nat.beq p.1 t)with
   | some p=>some (toL (p.2.den wf ρ))|none=>none
  lit:=fun t=>match h.lit.find? (fun p=>Nat.beq p.1 t)with
   | some p=>some p.2|none=>none
  md:=4,sh:=true,wr:=fn.wr,sx:=true,nz:=fun t=>h.nz.any (Nat.beq t),mz:=fun t=>h.mz.any (Nat.beq t)}
inductive Obs where
 | n (x:List Prop×Option AS)
 | d (x:Option (List Prop×List Prop×V))
noncomputable def lhs (s:RS) (ρ:Nat→D):qe8→Obs
 | .next gd h _ k _ rs=>.n (qpd (cfR P tab) (qv8 fn (wOf P tab) ρ gd h) qo fn.n 0 rs (qv2 fn k) (s.den (wOf P tab) ρ fn.g))|.done gd h _ _ _=>.d (qnA (cfR P tab) (qv8 fn (wOf P tab) ρ gd h) qo fn.n (s.den (wOf P tab) ρ fn.g))|.bad _ _=>.d none
noncomputable def rhs (ρ:Nat→D):qe8→Obs
 | .next _ _ fs k σ _=>.n (fs.map (F.den (wOf P tab) (JQ P tab) ρ),match fn.sts[k]? with
  | some st=>some ((qaQ P fn st).den (wOf P tab) (qV (wOf P tab) ρ σ) fn.g)|none=>none)
 | .done _ _ fs qs r=>.d (some (fs.map (F.den (wOf P tab) (JQ P tab) ρ),qs.map (F.den (wOf P tab) (JQ P tab) ρ),qdr fn.con.rts (r.den (wOf P tab) ρ)))|.bad _ _=>.d none
def Agr (s:RS):Prop:=∀ρ:Nat→D,(qbf P fn tab s).leaves.map (lhs P fn tab s ρ)=(qbf P fn tab s).leaves.map (rhs P fn tab ρ)
def qak:List RS→Prop
 | []=>True|s::r=>Agr P fn tab s∧qak r
end
section
variable {P:Program} {fn:RFn} {tab:Tab}
theorem qv9 {wf:Nat→List D→D} {rcP:Nat→List D→Prop} {ρ:Nat→D} {tys:List Y} {fs:List F} (h:∀(i:Nat) (y:Y),tys[i]?=some y→qj y (ρ i)) (hf:∀f∈fs,f.den wf rcP ρ) (hv:∀g,Ju≤g→wf g=PW.wV g):(qh3 tys fs).OK wf rcP ρ:=by
 refine qia ⟨hv,fun p hp=>?_,(fun f hf=>by cases hf),(fun _ r hr=>by cases hr)⟩ hf;obtain⟨q,hq,rfl⟩:=qTV.1 hp;obtain⟨i,hi,e⟩:=qUu hq;have h2:i<tys.length:=by simp at hi; omega
 have:q=(i,tys[i]):=by rw[←e]; simp
 subst this;exact h i _ (qTE h2)
structure qea (P:Program) (fn:RFn) (tab:Tab) (ds:List D) (tys:List Y) (inv:List F) (ρ:Nat→D):Prop where
 arg:∀i,i<fn.na→ρ i=qa ds i
 ty:∀(i:Nat) (y:Y),tys[i]?=some y→qj y (ρ i)
 inv:∀f∈inv,f.den (wOf P tab) (JQ P tab) ρ
def qk6 (P:Program) (tab:Tab) (ρ:Nat→D) (fs:List F):Prop:=∀g x,F.rc g x∈fs→∀c,tab.get g=some c →
 qM c (x.map (T.den (wOf P tab) ρ))∧J0 c (x.map (T.den (wOf P tab) ρ)) (wOf P tab g (x.map (T.den (wOf P tab) ρ)))
def TEv (P:Program) (tab:Tab) (nx:Nat→(Nat→D)→D→Prop) (ρ:Nat→D) (d:D):qaS→Prop
 | .leaf (.next _ _ fs k σ _)=>qk6 P tab ρ fs∧nx k (qV (wOf P tab) ρ σ) d|.leaf (.done _ _ fs qs r)=>(qk6 P tab ρ fs∧qk6 P tab ρ qs)∧d=r.den (wOf P tab) ρ|.leaf (.bad _ _)=>False|.fork t a b=>(toB (t.den (wOf P tab) ρ)=true∧TEv P tab nx ρ d a)∨(toB (t.den (wOf P tab) ρ)=false∧TEv P tab nx ρ d b)
def EvN (P:Program) (fn:RFn) (tab:Tab) (ds:List D):Nat→Nat→(Nat→D)→D→Prop
 | 0,_,_,_=>False|n+1,k,ρ,d=>∃st,fn.sts[k]?=some st∧qea P fn tab ds st.tys st.inv ρ∧TEv P tab (EvN P fn tab ds n) ρ d (qbf P fn tab (qaQ P fn st))
def Ev0 (P:Program) (fn:RFn) (tab:Tab) (ds:List D) (d:D):Prop:=∃n,TEv P tab (EvN P fn tab ds n) (qa ds) d (qbf P fn tab (qO P fn))
def Ans (P:Program) (fn:RFn) (tab:Tab) (ds:List D) (ev:D→Prop) (s:AS):Prop:=∃d,qio fn.con ds d∧ev d∧qb (cfR P tab) 0 s (Fin (qdr fn.con.rts d))
abbrev N6:=Nat×Nat×Nat×Nat×Nat×Nat
def qh4 (a b:N6):Prop:=Prod.Lex (·<·) (Prod.Lex (·<·) (Prod.Lex (·<·) (Prod.Lex (·<·) (Prod.Lex (·<·) (·<·))))) a b
noncomputable def qeb (wf:Nat→List D→D) (ρ:Nat→D) (m:M6):N6:=(toN (m.1.den wf ρ),toN (m.2.1.den wf ρ),toN (m.2.2.1.den wf ρ),toN (m.2.2.2.1.den wf ρ),toN (m.2.2.2.2.1.den wf ρ),toN (m.2.2.2.2.2.den wf ρ))
theorem qGr {wf:Nat→List D→D} {rcP:Nat→List D→Prop} {ρ:Nat→D} {n:Nat} {G:Gam} {σ:List T} {a b:M6} (hG:G.OK wf rcP ρ) (h:qp7 n G σ a b=true):qh4 (qeb wf (qV wf ρ σ) a) (qeb wf ρ b):=by
  have lt:∀{x y:T},Yx n G (.nlt (x.sub σ) y)=true→toN (x.den wf (qV wf ρ σ))<toN (y.den wf ρ):=by
    intro x y h;have:toN ((x.sub σ).den wf ρ)<toN (y.den wf ρ):=qee hG h;rwa[T.den_sub]at this
  have le:∀{x y:T},Yx n G (.nle (x.sub σ) y)=true→toN (x.den wf (qV wf ρ σ))≤toN (y.den wf ρ):=by
    intro x y h;have:toN ((x.sub σ).den wf ρ)≤toN (y.den wf ρ):=qee hG h;rwa[T.den_sub]at this
  unfold qp7 at h;simp only[qTM,qTC]at h;unfold qh4 qeb;have step:∀{β:Type} {x y:Nat} {r:β→β→Prop} {u v:β},(x<y∨x≤y∧r u v)→Prod.Lex (·<·) r (x,u) (y,v):=by
    intro β x y r u v h;rcases h with h|⟨h1,h2⟩
    · exact .left _ _ h
    · rcases Nat.lt_or_eq_of_le h1 with e|e
      · exact .left _ _ e
      · rw[e]; exact .right _ h2
  refine step (h.imp lt fun h=>⟨le h.1,step (h.2.imp lt fun h=>⟨le h.1,step (h.2.imp lt fun h=>⟨le h.1,step (h.2.imp lt fun h=>⟨le h.1,step (h.2.imp lt fun h=>⟨le h.1,lt h.2⟩)⟩)⟩)⟩)⟩)
theorem qGs (hc:COK (cfR P tab).cfg) {B:Nat} (ht:qb8 P tab fn.rec' B) {ds:List D} (hcur:fn.rec'.cur.pure0 fn.na=true) (hB:toN (fn.rec'.cur.den w0 (qa ds))≤B) (hpost:fn.con.post.all (F.pure (fn.na+1))=true) (hds:ds.length=fn.na) {s:RS} {ρ:Nat→D} {G:Gam} {ms:Option M6} {l:qe8}
  (hG:G.OK (wOf P tab) (JQ P tab) ρ) (harg:∀i,i<fn.na→ρ i=qa ds i) (hl:qk5 fn tab G ms l=true) (ha:lhs P fn tab s ρ l=rhs P fn tab ρ l)
  (IH:∀k st,fn.sts[k]?=some st→∀ρ',qea P fn tab ds st.tys st.inv ρ'→(∀m,ms=some m→qh4 (qeb (wOf P tab) ρ' st.ms) (qeb (wOf P tab) ρ m))→Ans P fn tab ds (fun d=>∃n,EvN P fn tab ds n k ρ' d) ((qaQ P fn st).den (wOf P tab) ρ' fn.g)) :
  Ans P fn tab ds (fun d=>∃n,TEv P tab (EvN P fn tab ds n) ρ d (.leaf l)) (s.den (wOf P tab) ρ fn.g):=by
 have hB':toN (fn.rec'.cur.den (wOf P tab) ρ)≤B:=by
  rw[T.den_pure0 (wf:=wOf P tab) (wf':=w0) (ρ:=ρ) (ρ':=qa ds) (n:=fn.na) harg _ hcur]; exact hB
 unfold qk5 at hl;rw[qTM]at hl;rcases hl with hl|hl
 ·cases l with
  | next gd h fs k σ rs =>
   simp only[qv4]at hl;split at hl
   ·rename_i G' st h1 h2;simp only[qTC]at hl;obtain⟨a1,a2,a3,a4⟩:=hl;obtain⟨p1,p2⟩:=qlk ht hB' hG h1;have hgood:qea P fn tab ds st.tys st.inv (qV (wOf P tab) ρ σ):=by
     obtain⟨c1,c2⟩:=qqt p2 a2;refine⟨fun i hi=>?_,fun i y hy=>?_,fun f hf=>?_⟩
     ·have:=qTI.1 a1 i (qU2.2 hi);show(σ.getD i .p).den _ _=_;rw[T.eq_eq this]; exact harg i hi
     ·have hi:i<σ.length:=by
       rw[c1];rcases qTQ i st.tys.length with q|q
       ·exact q
       ·rw[qUc q]at hy; cases hy
      rw[qib hi]; exact c2 i y hy
     ·exact(F.den_sub σ f).1 (qee p2 (qTI.1 a3 _ (qVi hf)))
    obtain⟨d,r1,⟨n,hev⟩,r2⟩:=IH k st h2 _ hgood (fun m hm=>by subst hm; exact qGr p2 a4);simp only[lhs,rhs,h2]at ha;injection ha with ha
    exact⟨d,r1,⟨n,qll ht hB' hG h1,hev⟩,qb.turnA hc _ qo fn.n rs (qv2 fn k) ha p1 r2⟩
   ·cases hl
  | done gd h fs qs r =>
   simp only[qv5]at hl;split at hl
   ·rename_i G1 h1;split at hl
    ·rename_i G' h2;simp only[qTC]at hl;obtain⟨p1,p2⟩:=qlk ht hB' hG h1;obtain⟨q1,q2⟩:=qlk ht hB' p2 h2;simp only[lhs,rhs]at ha;injection ha with ha
     refine⟨r.den (wOf P tab) ρ,⟨(sok q2 _).2.2.2 _ _ hl.1,fun f hf=>?_⟩,⟨0,⟨qll ht hB' hG h1,qll ht hB' p2 h2⟩,rfl⟩,qb.fin' hc _ qo fn.n ha p1 q1⟩;have:=(F.den_sub _ f).1 (qee q2 (qTI.1 hl.2 _ (qVi hf)));refine(F.den_pure (n:=fn.na+1) (fun _ h=>qgt h) (fun k hk=>?_) f (qTI.1 hpost f hf)).1 this;rw[qib (by simp; omega),qUC,qUs];unfold qa;rcases qTQ k fn.na with hlt|hge
     ·rw[List.getD_eq_getElem?_getD,List.getD_eq_getElem?_getD,qTZ (by simpa using hlt),qTZ (by omega)];simp only[qT3,qVj hlt,qUj,qTT,Function.comp];have:=harg k hlt;unfold qa at this;rw[List.getD_eq_getElem?_getD]at this;exact this
     ·have:k=fn.na:=by omega
      subst this;rw[List.getD_eq_getElem?_getD,List.getD_eq_getElem?_getD,qT1 (by simp),qT1 (by omega)];simp[hds]
    ·cases hl
   ·cases hl
  | bad w a=>cases hl
 ·rw[qTM]at hl;rcases hl with hl|hl
  ·exact(qvY hG hl).elim
  ·exact(qwr (qwu ht hB' hG) hl).elim
theorem qwa (hc:COK (cfR P tab).cfg) {B:Nat} (ht:qb8 P tab fn.rec' B) {ds:List D} (hcur:fn.rec'.cur.pure0 fn.na=true) (hB:toN (fn.rec'.cur.den w0 (qa ds))≤B) (hpost:fn.con.post.all (F.pure (fn.na+1))=true) (hds:ds.length=fn.na) {s:RS} {ρ:Nat→D} {ms:Option M6}
  (harg:∀i,i<fn.na→ρ i=qa ds i)
  (IH:∀k st,fn.sts[k]?=some st→∀ρ',qea P fn tab ds st.tys st.inv ρ'→(∀m,ms=some m→qh4 (qeb (wOf P tab) ρ' st.ms) (qeb (wOf P tab) ρ m))→Ans P fn tab ds (fun d=>∃n,EvN P fn tab ds n k ρ' d) ((qaQ P fn st).den (wOf P tab) ρ' fn.g)) :
  ∀{t:qaS} {G:Gam},G.OK (wOf P tab) (JQ P tab) ρ→qcF fn tab ms G t=true→t.leaves.map (lhs P fn tab s ρ)=t.leaves.map (rhs P fn tab ρ)→Ans P fn tab ds (fun d=>∃n,TEv P tab (EvN P fn tab ds n) ρ d t) (s.den (wOf P tab) ρ fn.g):=by
 intro t
 induction t with
 | leaf l =>
  intro G hG h ha;simp only[qaS.leaves,qUa,qVg]at ha;injection ha with ha _
  exact qGs hc ht hcur hB hpost hds hG harg h ha IH
 | fork t a b ih1 ih2 =>
  intro G hG h ha;simp only[qcF,qTC]at h;simp only[qaS.leaves,qUC]at ha;obtain⟨h1,h2⟩:=qVH ha (by simp)
  cases hb:toB (t.den (wOf P tab) ρ)with
  | true =>
   obtain⟨d,r1,⟨n,hev⟩,r2⟩:=ih1 (qbD (qdn (f:=.bool t true) hG hb)) h.1 h1;exact⟨d,r1,⟨n,.inl ⟨hb,hev⟩⟩,r2⟩
  | false =>
   obtain⟨d,r1,⟨n,hev⟩,r2⟩:=ih2 (qbD (qdn (f:=.bool t false) hG hb)) h.2 h2;exact⟨d,r1,⟨n,.inr ⟨hb,hev⟩⟩,r2⟩
theorem qwb:∀{l:List RS},qak P fn tab l→∀s∈l,Agr P fn tab s
 | [],_,s,h=>by cases h
 | x::r,h,s,hs=>by
  rcases qTD.1 hs with rfl|hs
  ·exact h.1
  ·exact qwb h.2 s hs
theorem qGt:WellFounded qh4 :=
  (Prod.lex ⟨(·<·),Nat.lt_wfRel.wf⟩ (Prod.lex ⟨(·<·),Nat.lt_wfRel.wf⟩ (Prod.lex ⟨(·<·),Nat.lt_wfRel.wf⟩ (Prod.lex ⟨(·<·),Nat.lt_wfRel.wf⟩ (Prod.lex ⟨(·<·),Nat.lt_wfRel.wf⟩ ⟨(·<·),Nat.lt_wfRel.wf⟩))))).wf
theorem qwc {ds:List D} {ρ:Nat→D} (hp:qM fn.con ds) (hpure:fn.con.pre.all (F.pure fn.na)=true) (harg:∀i,i<fn.na→ρ i=qa ds i):∀f∈fn.con.pre,f.den (wOf P tab) (JQ P tab) ρ:=by
 intro f hf;exact(F.den_pure (n:=fn.na) (fun _ h=>qgt h) (fun k hk=>harg k hk) f (qTI.1 hpure f hf)).2 (hp.2 f hf)
theorem qGu (hc:COK (cfR P tab).cfg) {B:Nat} (ht:qb8 P tab fn.rec' B) {ds:List D} (hcur:fn.rec'.cur.pure0 fn.na=true) (hB:toN (fn.rec'.cur.den w0 (qa ds))≤B) (hp:qM fn.con ds) (hpure:fn.con.pre.all (F.pure fn.na)=true) (hpost:fn.con.post.all (F.pure (fn.na+1))=true)
  (hsts:fn.sts.all (qy P fn tab)=true) (hag:qak P fn tab (fn.sts.map (qaQ P fn))) :
  ∀(m:N6) (k:Nat) (st:St),fn.sts[k]?=some st→∀ρ,qea P fn tab ds st.tys st.inv ρ→qeb (wOf P tab) ρ st.ms=m→Ans P fn tab ds (fun d=>∃n,EvN P fn tab ds n k ρ d) ((qaQ P fn st).den (wOf P tab) ρ fn.g):=by
 intro m
 induction m using qGt.induction with
 | _ m ih =>
  intro k st hk ρ hg hm;have hst:=qUi hk;have h1:=qTI.1 hsts st hst;have key:Ans P fn tab ds (fun d=>∃n,TEv P tab (EvN P fn tab ds n) ρ d (qbf P fn tab (qaQ P fn st))) ((qaQ P fn st).den (wOf P tab) ρ fn.g)→Ans P fn tab ds (fun d=>∃n,EvN P fn tab ds n k ρ d) ((qaQ P fn st).den (wOf P tab) ρ fn.g) :=
   fun⟨d,r1,⟨n,hev⟩,r2⟩=>⟨d,r1,⟨n+1,st,hk,hg,hev⟩,r2⟩
  refine key (qwa hc ht hcur hB hpost hp.1.1 hg.arg (ms:=some st.ms) (fun k' st' hk' ρ' hg' hlt=>?_) (qv9 hg.ty (fun f hf=>?_) (fun _ h=>qgt h)) h1 (qwb hag _ (qVi hst) ρ))
  ·have:=hlt _ rfl;rw[hm]at this;exact ih _ this k' st' hk' ρ' hg' rfl
  ·rcases qTH.1 hf with hf|hf
   ·exact qwc hp hpure hg.arg f hf
   ·exact hg.inv f hf
theorem qqc {wf:Nat→List D→D} {ρ:Nat→D} (t:T):∀(ks:List K) (n:Nat),(cellsOf t ks n).map (qgE wf ρ)=qab.formC ks n (t.den wf ρ)
 | [],_=>rfl|k::r,n=>by
  simp only[cellsOf,qUa,qab.formC,qqc t r (n+1)];rfl
theorem qGv {wf:Nat→List D→D} {ρ:Nat→D} {y:Y} {t:T} (h:y.good=true) (hd:qj y (t.den wf ρ)):(qih y t).den wf ρ=.d (t.den wf ρ):=by
 have:=qaz h hd
 cases y with
 | g r =>
  show V.d (.agg ((cellsOf t r.kinds 0).map (qgE wf ρ)))=_;rw[qqc];exact congrArg V.d this
 | gq r ps =>
  show V.d (.agg ((cellsOf t r.kinds 0).map (qgE wf ρ)))=_;rw[qqc];exact congrArg V.d this
 | i k=>exact congrArg V.d this|b=>exact congrArg V.d this|s n=>exact congrArg V.d this|l n e=>exact congrArg V.d this|rg a b=>exact congrArg V.d this|y8=>exact congrArg V.d this|e0=>cases h
 | ec a c=>cases h
 | nm m=>cases h
theorem qwd {wf:Nat→List D→D} {ds:List D}:∀(ys:List Y) (n:Nat),ds.length=n+ys.length→ys.all Y.good=true→(∀(i:Nat) (y:Y),ys[i]?=some y→qj y (qa ds (n+i)))→(qgl ys n).map (RV.den wf (qa ds))=(ds.drop n).map V.d
 | [],n,hl,_,_=>by simp[qgl,qVf (by simp at hl; omega:ds.length≤n)]
 | y::r,n,hl,hg,h=>by
  simp only[qUZ,qTC]at hg;have hn:n<ds.length:=by simp at hl; omega
  rw[qV7 hn];simp only[qgl,qUa];rw[qwd r (n+1) (by simp at hl ⊢; omega) hg.2 (fun i z hz=>by have:=h (i+1) z (by simpa using hz); rwa[show n+1+i=n+(i+1) by omega])]
  congr 1
  show(qih y (.v n)).den wf (qa ds)=_;have h0:=h 0 y rfl;rw[qGv (wf:=wf) (ρ:=qa ds) (t:=.v n) hg.1 (show qj y (qa ds n) from h0)];show V.d (qa ds n)=_;unfold qa;rw[List.getD_eq_getElem?_getD,qTE hn]; rfl
theorem qk7 (YN:(P.funcs.toList.all fun f=>!(f.name == "runtime.NumGoroutine"))=true) (mixed:P.follows .mixedOrders=true) {B:Nat} (ht:qb8 P tab fn.rec' B)
  (hchk:qaj P fn tab=true) (hag:qak P fn tab (qI P fn)) {ds:List D} (hp:qM fn.con ds) (hB:toN (fn.rec'.cur.den w0 (qa ds))≤B) :
  ∃d,(qio fn.con ds d∧JP P fn.g fn.con ds d)∧Ev0 P fn tab ds d:=by
 have hc:COK (cfR P tab).cfg:=qC9 YN mixed (fun g args rows ps v h hp=>by
  have h':qhK P (fun g=>match tab.get g with
   | some c=>match c.nw with
    | false=>some fun args=>qdr c.rts (wOf P tab g (args.map unD))
    | true=>none
   | none=>none) g args rows=some (ps,v):=h
  exact quY h' hp) (fun g args rows ps v rows2 h hp=>by
  have h':qlL P tab g args rows=some (ps,v,rows2):=h;exact qHJ h' hp)
 unfold qaj qp8 at hchk;simp only[qTC,qUy]at hchk;obtain⟨⟨b1,bn,b0,b2,b3,b4⟩,c1,c2⟩:=hchk;have harg:∀i,i<fn.na→qa ds i=qa ds i:=fun _ _=>rfl
 obtain⟨d,r1,hev,r2⟩:=qwa hc ht b0 hB b3 hp.1.1 harg (s:=qO P fn) (ms:=none) (fun k st hst ρ' hg _=>qGu hc ht b0 hB hp b2 b3 c2 hag.2 _ k st hst ρ' hg rfl)
  (qv9 hp.1.2 (qwc hp b2 harg) (fun _ h=>qgt h)) c1 (hag.1 _)
 refine⟨d,⟨r1,?_⟩,hev⟩;unfold JP;rw[bn];show RCs P fn.g (ds.map V.d) [] (qdr fn.con.rts d);have hargs:(qgl fn.con.pts 0).map (RV.den (wOf P tab) (qa ds))=ds.map V.d:=by
  have:=qwd (wf:=wOf P tab) (ds:=ds) fn.con.pts 0 (by simpa using hp.1.1) b4 (by simpa using hp.1.2);simpa using this
 unfold qh2 at b1;split at b1
 ·rename_i gf hgf;obtain⟨b,hb⟩:=qVx.1 b1;have hen:Jd (cfR P tab).cfg fn.g (ds.map V.d)=some {fn:=fn.g,env:=ds.map V.d++List.replicate (gf.ntmps - (ds.map V.d).length) V.undef,todo:=[.it (.code b)],round:=none,marks:=[]}:=by
   unfold Jd;have:(cfR P tab).cfg.F fn.g=some gf:=hgf;rw[this]; simp only[hb]
  refine qP hc (by rw[hen]; rfl) ?_;rw[qku hen];have:(qO P fn).den (wOf P tab) (qa ds) fn.g=⟨{fn:=fn.g,env:=ds.map V.d++List.replicate (gf.ntmps - (ds.map V.d).length) V.undef,todo:=[.it (.code b)],round:=none,marks:=[]},[],[]⟩:=by
   unfold RS.den qO qh2 qp3;simp only[hgf,hb,qUC,hargs,qVg,qTS,hp.1.1,List.map_replicate];rfl
  rw[←this]; exact r2
 ·cases b1
def Ye (P:Program) (g:Nat) (c:Con) (ev:List D→D→Prop):Prop:=∀ds,qM c ds→∃d,(J0 c ds d∧JP P g c ds d)∧ev ds d
theorem Ye.ok {g:Nat} {c:Con} {ev:List D→D→Prop} (h:Ye P g c ev):qp P g c:=fun ds hp=>by
 obtain⟨d,h,_⟩:=h ds hp;exact⟨d,h⟩
theorem Ye.more {g:Nat} {c:Con} {ev:List D→D→Prop} (h:Ye P g c ev) {qs:List F} {fact:List D→D→Prop} (hq:∀ds d,qM c ds→J0 c ds d→ev ds d→(∀f∈qs,f.den PW.wV rc0 (qa (ds++[d])))∧fact ds d):qp P g {c with post:=c.post++qs,fact:=fact}:=fun ds hp=>by
 obtain⟨d,⟨h1,h2⟩,h3⟩:=h ds hp;obtain⟨q1,q2⟩:=hq ds d hp h1 h3;refine⟨d,⟨⟨h1.1.1,fun f hf=>?_⟩,q2⟩,h2⟩;rcases qTH.1 hf with hf|hf
 ·exact h1.1.2 f hf
 ·exact q1 f hf
theorem qTp (YN:(P.funcs.toList.all fun f=>!(f.name == "runtime.NumGoroutine"))=true) (mixed:P.follows .mixedOrders=true) (ht:qaU P tab)
  (hchk:qaj P fn tab=true) (hag:qak P fn tab (qI P fn)) (hfact:∀ds d,qM fn.con ds→qio fn.con ds d→Ev0 P fn tab ds d→fn.con.fact ds d:=by exact fun _ _ _ _ _=>trivial):Ye P fn.g fn.con (Ev0 P fn tab):=by
 intro ds hp;obtain⟨d,⟨h1,h2⟩,h3⟩:=qk7 YN mixed (B:=toN (fn.rec'.cur.den w0 (qa ds))) (fun g c hg ds' hp' _=>ht g c hg ds' hp') hchk hag hp (qTF _);exact⟨d,⟨⟨h1,hfact ds d hp h1 h3⟩,h2⟩,h3⟩
theorem qgn (YN:(P.funcs.toList.all fun f=>!(f.name == "runtime.NumGoroutine"))=true) (mixed:P.follows .mixedOrders=true) (ht:qaU P tab)
  (hr:fn.rec'.ms=[(fn.g,fn.rec'.cur)]) (hchk:qaj P fn ((fn.g,fn.con)::tab)=true) (hag:qak P fn ((fn.g,fn.con)::tab) (qI P fn))
  (hfact:∀ds d,qM fn.con ds→qio fn.con ds d→Ev0 P fn ((fn.g,fn.con)::tab) ds d→fn.con.fact ds d:=by exact fun _ _ _ _ _=>trivial):Ye P fn.g fn.con (Ev0 P fn ((fn.g,fn.con)::tab)):=by
 have key:∀(B:Nat) (ds:List D),qM fn.con ds→toN (fn.rec'.cur.den w0 (qa ds))=B→∃d,(J0 fn.con ds d∧JP P fn.g fn.con ds d)∧Ev0 P fn ((fn.g,fn.con)::tab) ds d:=by
  intro B
  induction B using Nat.strongRecOn with
  | _ B ih =>
   intro ds hp hB;obtain⟨d,⟨h1,h2⟩,h3⟩:=qk7 YN mixed (B:=B) (fun g c hg ds' hp' hm=>by
    unfold Tab.get at hg;simp only[qWt]at hg;split at hg
    ·rename_i e;have e':fn.g=g:=qTO e;subst e';simp only[qUj]at hg;cases hg;have:=hm fn.rec'.cur (by unfold Grp.get; rw[hr]; simp);obtain⟨d,h1,_⟩:=ih _ this ds' hp' rfl;exact⟨d,h1⟩
    ·exact ht g c hg ds' hp') hchk hag hp (by omega)
   exact⟨d,⟨⟨h1,hfact ds d hp h1 h3⟩,h2⟩,h3⟩
 intro ds hp;exact key _ ds hp rfl
theorem qGw {fa fb:RFn} (YN:(P.funcs.toList.all fun f=>!(f.name == "runtime.NumGoroutine"))=true) (mixed:P.follows .mixedOrders=true) (ht:qaU P tab)
  (haa:fa.rec'.get fa.g=some fa.rec'.cur) (hab:fa.rec'.get fb.g=some fb.rec'.cur) (hba:fb.rec'.get fa.g=some fa.rec'.cur) (hbb:fb.rec'.get fb.g=some fb.rec'.cur)
  (ca:qaj P fa ((fa.g,fa.con)::(fb.g,fb.con)::tab)=true) (aa:qak P fa ((fa.g,fa.con)::(fb.g,fb.con)::tab) (qI P fa))
  (cb:qaj P fb ((fa.g,fa.con)::(fb.g,fb.con)::tab)=true) (ab:qak P fb ((fa.g,fa.con)::(fb.g,fb.con)::tab) (qI P fb))
  (hfa:∀ds d,fa.con.fact ds d:=by exact fun _ _=>trivial) (hfb:∀ds d,fb.con.fact ds d:=by exact fun _ _=>trivial) :
  Ye P fa.g fa.con (Ev0 P fa ((fa.g,fa.con)::(fb.g,fb.con)::tab))∧Ye P fb.g fb.con (Ev0 P fb ((fa.g,fa.con)::(fb.g,fb.con)::tab)):=by
 have key:∀(B:Nat),(∀(ds:List D),qM fa.con ds→toN (fa.rec'.cur.den w0 (qa ds))=B→∃d,(J0 fa.con ds d∧JP P fa.g fa.con ds d)∧Ev0 P fa ((fa.g,fa.con)::(fb.g,fb.con)::tab) ds d) ∧
   (∀(ds:List D),qM fb.con ds→toN (fb.rec'.cur.den w0 (qa ds))=B→∃d,(J0 fb.con ds d∧JP P fb.g fb.con ds d)∧Ev0 P fb ((fa.g,fa.con)::(fb.g,fb.con)::tab) ds d):=by
  intro B
  induction B using Nat.strongRecOn with
  | _ B ih =>
   have tk:∀(r:Grp),r.get fa.g=some fa.rec'.cur→r.get fb.g=some fb.rec'.cur→qb8 P ((fa.g,fa.con)::(fb.g,fb.con)::tab) r B:=by
    intro r h1 h2 g c hg ds' hp' hm;unfold Tab.get at hg;simp only[qWt]at hg;split at hg
    ·rename_i e;have e':fa.g=g:=qTO e;subst e';simp only[qUj]at hg;cases hg;obtain⟨d,h1,_⟩:=(ih _ (hm _ h1)).1 ds' hp' rfl;exact⟨d,h1⟩
    ·split at hg
     ·rename_i e;have e':fb.g=g:=qTO e;subst e';simp only[qUj]at hg;cases hg;obtain⟨d,h1,_⟩:=(ih _ (hm _ h2)).2 ds' hp' rfl;exact⟨d,h1⟩
     ·exact ht g c hg ds' hp'
   refine⟨fun ds hp hB=>?_,fun ds hp hB=>?_⟩
   ·obtain⟨d,⟨h1,h2⟩,h3⟩:=qk7 YN mixed (tk _ haa hab) ca aa hp (by omega);exact⟨d,⟨⟨h1,hfa ds d⟩,h2⟩,h3⟩
   ·obtain⟨d,⟨h1,h2⟩,h3⟩:=qk7 YN mixed (tk _ hba hbb) cb ab hp (by omega);exact⟨d,⟨⟨h1,hfb ds d⟩,h2⟩,h3⟩
 exact⟨fun ds hp=>(key _).1 ds hp rfl,fun ds hp=>(key _).2 ds hp rfl⟩
theorem qu:qaU P []:=fun g c h=>by cases h
theorem qm {g:Nat} {c:Con} {l:Tab} (h:qp P g c) (t:qaU P l):qaU P ((g,c)::l):=by
 intro g' c' hg;unfold Tab.get at hg;simp only[qWt]at hg;split at hg
 ·rename_i e;have:g=g':=qTO e;subst this;simp only[qUj]at hg;cases hg;exact h
 ·exact t g' c' hg
end
end Go.Aev.R
end
section
namespace Go.Aev.R
open Go Go.Aev
@[simp] theorem qTq (b:Bool):toB (.bool b)=b:=rfl
@[simp] theorem qb7 (l:List D):toL (.list l)=l:=rfl
@[simp] theorem qTr (z:Int):toI (I64 z)=z:=rfl
@[simp] theorem qTs (z:Int):toN (I64 z)=z.toNat:=rfl
@[simp] theorem qTt (n:Nat):toI (N64 n)=n:=rfl
@[simp] theorem qTu (n:Nat):toN (N64 n)=n:=rfl
@[simp] theorem qTv (k:IntKind) (z:Int):toI (.int k z)=z:=rfl
@[simp] theorem qTw (k:IntKind) (d:D):toI ((K.i k).den d)=toI d:=rfl
@[simp] theorem qTx (d:D):toB (K.b.den d)=toB d:=rfl
@[simp] theorem qTy (d:D):toL (K.l.den d)=toL d:=rfl
@[simp] theorem qTz (l:List D) (k:Nat):cel (.agg l) k=l.getD k .nilp:=rfl
variable [RT]
inductive TQ where
 | next (cs:List (Nat×List T)) (k:Nat) (σ:List T)
 | done (cs:List (Nat×List T)) (r:T)
 | bad
 | fork (t:T) (a b:TQ)
def qgo:List F→List (Nat×List T)
 | []=>[]|.rc g x::r=>(g,x)::qgo r|_::r=>qgo r
def qfa:qaS→TQ
 | .leaf (.next _ _ fs k σ _)=>.next (qgo fs) k σ|.leaf (.done _ _ fs qs r)=>.done (qgo fs++qgo qs) r|.leaf (.bad _ _)=>.bad|.fork t a b=>.fork t (qfa a) (qfa b)
theorem qqd {g:Nat} {x:List T}:∀{fs:List F},(g,x)∈qgo fs→F.rc g x∈fs:=by
 intro fs
 induction fs with
 | nil=>intro h; cases h
 | cons f r ih =>
  intro h;cases f<;>first|exact qTG _ (ih h) | skip
  rcases qTD.1 h with h|h
  ·cases h; exact qTR
  ·exact qTG _ (ih h)
variable [Glob] [PW]
section
variable (P:Program) (tab:Tab)
def YR (ρ:Nat→D) (g:Nat) (x:List T):Prop:=∀c,tab.get g=some c→qM c (x.map (T.den (wOf P tab) ρ))∧J0 c (x.map (T.den (wOf P tab) ρ)) (wOf P tab g (x.map (T.den (wOf P tab) ρ)))
def Yo (ρ:Nat→D):List (Nat×List T)→Prop
 | []=>True|p::r=>YR P tab ρ p.1 p.2∧Yo ρ r
def Yi (nx:Nat→(Nat→D)→D→Prop) (ρ:Nat→D) (d:D):TQ→Prop
 | .next cs k σ=>Yo P tab ρ cs∧nx k (qV (wOf P tab) ρ σ) d|.done cs r=>Yo P tab ρ cs∧d=r.den (wOf P tab) ρ|.bad=>False|.fork t a b=>(toB (t.den (wOf P tab) ρ)=true∧Yi nx ρ d a)∨(toB (t.den (wOf P tab) ρ)=false∧Yi nx ρ d b)
end
section
variable {P:Program} {fn:RFn} {tab:Tab}
theorem qk8 {ρ:Nat→D} {fs:List F} (h:qk6 P tab ρ fs):∀{cs:List (Nat×List T)},(∀p∈cs,F.rc p.1 p.2∈fs)→Yo P tab ρ cs
 | [],_=>trivial|p::r,hm=>⟨h p.1 p.2 (hm p qTR),qk8 h fun q hq=>hm q (qTG _ hq)⟩
theorem qwe {ρ:Nat→D} {l:List (Nat×List T)}:∀{k:List (Nat×List T)},Yo P tab ρ k→Yo P tab ρ l→Yo P tab ρ (k++l)
 | [],_,h=>h|_::_,h1,h2=>⟨h1.1,qwe h1.2 h2⟩
theorem qk9 {nx nx':Nat→(Nat→D)→D→Prop} (hn:∀k ρ d,nx k ρ d→nx' k ρ d) {ρ:Nat→D} {d:D}:∀{t:qaS},TEv P tab nx ρ d t→Yi P tab nx' ρ d (qfa t)
 | .leaf (.next _ _ _ _ _ _),h=>⟨qk8 h.1 fun p hp=>qqd (show(p.1,p.2)∈_ from hp),hn _ _ _ h.2⟩
 | .leaf (.done _ _ _ _ _),h=>⟨qwe (qk8 h.1.1 fun p hp=>qqd (show(p.1,p.2)∈_ from hp)) (qk8 h.1.2 fun p hp=>qqd (show(p.1,p.2)∈_ from hp)),h.2⟩
 | .leaf (.bad _ _),h=>h|.fork t a b,h=>h.imp (fun h=>⟨h.1,qk9 hn h.2⟩) fun h=>⟨h.1,qk9 hn h.2⟩
def YF (P:Program) (fn:RFn) (tab:Tab):List TQ:=(qI P fn).map fun s=>qfa (qbf P fn tab s)
theorem qGx {ds:List D} {q0:TQ} {qs:List TQ} (hq:YF P fn tab=q0::qs) {I:Nat→(Nat→D)→Prop} {Q:D→Prop}
  (step:∀k st q ρ d,fn.sts[k]?=some st→qs[k]?=some q→qea P fn tab ds st.tys st.inv ρ→I k ρ→Yi P tab (fun k' ρ' d'=>I k' ρ'→Q d') ρ d q→Q d) :
  ∀n k ρ d,EvN P fn tab ds n k ρ d→I k ρ→Q d:=by
 intro n
 induction n with
 | zero=>intro k ρ d h; cases h
 | succ n ih =>
  intro k ρ d ⟨st,hst,hg,ht⟩ hi;have hk:qs[k]?=some (qfa (qbf P fn tab (qaQ P fn st))):=by
   have e:(YF P fn tab)[k+1]?=some (qfa (qbf P fn tab (qaQ P fn st))):=by
    unfold YF qI;simp[hst]
   rw[hq]at e;simpa using e
  exact step k st _ ρ d hst hk hg hi (qk9 (fun k' ρ' d' h=>ih k' ρ' d' h) ht)
theorem Jf {ds:List D} {d:D} {q0:TQ} {qs:List TQ} (hq:YF P fn tab=q0::qs) {I:Nat→(Nat→D)→Prop} {Q:D→Prop}
  (step:∀k st q ρ d,fn.sts[k]?=some st→qs[k]?=some q→qea P fn tab ds st.tys st.inv ρ→I k ρ→Yi P tab (fun k' ρ' d'=>I k' ρ'→Q d') ρ d q→Q d)
  (start:∀d,Yi P tab (fun k' ρ' d'=>I k' ρ'→Q d') (qa ds) d q0→Q d) (h:Ev0 P fn tab ds d):Q d:=by
 obtain⟨n,h⟩:=h;have e:(YF P fn tab)[0]?=some (qfa (qbf P fn tab (qO P fn))):=rfl;rw[hq]at e;simp at e;refine start d ?_;rw[e];exact qk9 (fun k' ρ' d' h=>qGx hq step n k' ρ' d' h) h
end
end Go.Aev.R
end
noncomputable section
namespace Go.Aev.R29
open Go Go.Aev Go.Aev.R
def Ys:Y:=.l 32 (.rg (-1000) 1000)
def qkH:Y:=.l 32 (.rg (-2000) 2000)
def shR:List (Bool×T×T):=[(false,.i 0,.u 1 0 (.v 0)),(false,.u 1 0 (.v 0),.u 1 1 (.v 0)),(false,.u 1 1 (.v 0),.i 134217728)]
def qpC:List (Bool×T×T):=[(false,.i 0,.u 1 0 (.v 0)),(false,.u 11 3 (.u 1 9 (.v 0)),.u 1 0 (.v 0)),(false,.u 1 0 (.v 0),.i 4096)]
def gQ (N:Nat) (ps:List (Bool×T×T)) (y:Y):Y:=match Nat.beq N 301 with|true=>.gq y ps|false=>.g y
def sb (N:Nat):Nat:=match Nat.beq N 301 with|true=>8|false=>N
def wb (N:Nat):Nat:=match Nat.beq N 301 with|true=>8192|false=>N
def yJ (N:Nat):Y:=match Nat.beq N 301 with|true=>.i .i64|false=>.rg (-9223372036854775808) 9223372036854775807
def qkI (N S:Nat):Y:=.g (.ec (.s S) (.ec (.i .i64) (.ec (.i .i64) (.ec (.i .i64) (.ec (.l N (.s S)) .e0)))))
def JB (N S:Nat):Y:=.g (.ec (.i .i64) (.ec (.i .i64) (.ec (.l N (qkI N S)) .e0)))
def qb3 (N S:Nat):Y:=gQ N shR (.ec (yJ N) (.ec (yJ N) .e0))
def qaN (N S:Nat):Y:=.g (.ec (.i .i64) (.ec (.i .i64) (.ec (.i .i64) (.ec (.l (wb N) (.s S)) .e0))))
def qge (N S:Nat):Y:=.g (.ec (.s S) (.ec (.i .i64) (.ec (.i .i64) (.ec (.s S) .e0))))
def qai (N S:Nat):Y:=.g (.ec (.i .i64) (.ec (.i .i64) (.ec (.i .i64) (.ec (.i .i64) (.ec (.i .i64) (.ec (.i .i64) (.ec (.i .i64) (.ec (.l N (.i .i64)) (.ec (.l N (qge N S)) .e0)))))))))
def qgf (N S:Nat):Y:=.g (.ec (.i .i64) (.ec (.i .i64) (.ec (.i .i64) (.ec (.i .i64) (.ec (.i .i64) (.ec (.i .i64) (.ec (.i .i64) (.ec Ys (.ec (.l N (qge N S)) .e0)))))))))
def qd3 (N S:Nat):Y:=.g (.ec (.i .i64) (.ec (.l N (.i .i64)) .e0))
def qb4 (N S:Nat):Y:=.g (.ec (.i .i64) (.ec (.i .i64) (.ec (.l N (.l N (.i .i64))) (.ec (yJ N) (.ec (.l N (.i .i64)) (.ec (.l N (.i .i64)) (.ec (.l (sb N) (qb3 N S)) (.ec (.i .i64) (.ec (.i .i64) (.ec (.i .i64) (.ec (.i .i64) (.ec (.i .i64) (.ec (.l N (qaN N S)) (.ec (.l N (.nm N)) (.ec (.l N (qai N S)) (.ec (.l N (qd3 N S)) (.ec (.l N (.i .i64)) .e0)))))))))))))))))
def Yw (N S:Nat):Y:=.g (.ec .y8 (.ec .y8 (.ec .y8 (.ec .y8 (.ec .y8 (.ec .y8 (.ec .y8 (.ec .y8 (.ec .y8 (.ec .y8 (.ec .y8 (.ec .y8 (.ec .y8 (.ec .y8 (.ec .y8 (.ec .y8 .e0))))))))))))))))
def qFR (N S:Nat):Y:=.g (.ec (.i .i64) (.ec (.i .i64) (.ec (.i .i64) .e0)))
def qpD (N S:Nat):Y:=gQ N qpC (.ec (yJ N) (.ec (.l N (.i .i64)) (.ec (.l N (.i .i64)) (.ec (.l (sb N) (qb3 N S)) (.ec (.i .i64) (.ec (.i .i64) (.ec (.i .i64) (.ec (.i .i64) (.ec (.i .i64) (.ec (.l N (qaN N S)) (.ec (.l N (.nm N)) (.ec (.l N (qai N S)) .e0))))))))))))
def qvH (N S:Nat):Y:=.g (.ec (.l N (qd3 N S)) .e0)
def qkJ (N S:Nat):Y:=gQ N qpC (.ec (yJ N) (.ec (.l N (.i .i64)) (.ec (.l N (.i .i64)) (.ec (.l (sb N) (qb3 N S)) (.ec (.i .i64) (.ec (.i .i64) (.ec (.i .i64) (.ec (.i .i64) (.ec (.i .i64) (.ec (.l N (qaN N S)) .e0))))))))))
def qpE (N S:Nat):Y:=.g (.ec (.l N (.i .i64)) (.ec (.l N (.i .i64)) .e0))
def qFS (N S:Nat):Y:=.g (.ec (.i .i64) (.ec (.i .i64) .e0))
def qFT (N S:Nat):Y:=.g (.ec (.i .i64) (.ec (.l N (.i .i64)) (.ec (.l N (.i .i64)) (.ec (.l (sb N) (qb3 N S)) (.ec (.i .i64) (.ec (.i .i64) (.ec (.i .i64) (.ec (.i .i64) (.ec (.i .i64) (.ec (.l N (qaN N S)) (.ec (.i .i64) .e0)))))))))))
def qFU (N S:Nat):Y:=.g (.ec (.l N (.i .i64)) (.ec (.i .i64) .e0))
def qFV (N S:Nat):Y:=.g (.ec (.l N (qd3 N S)) (.ec (.i .i64) .e0))
def qFW (N S:Nat):Y:=.g (.ec (.s S) (.ec (.i .i64) (.ec (.i .i64) (.ec (.s S) (.ec .b .e0)))))
def qvI (N S:Nat):Y:=.g (.ec (.l N (.i .i64)) (.ec (.l N (.i .i64)) (.ec .b (.ec (.i .i64) .e0))))
def qFX (N S:Nat):Y:=.g (.ec (.l (sb N) (qb3 N S)) (.ec (.i .i64) .e0))
def qe3:Y:=.g (.ec (.i .i64) (.ec (.l 301 (.i .i64)) (.ec (.l 301 (.i .i64)) (.ec (.l 301 (.g (.ec (.i .i64) (.ec (.i .i64) .e0)))) (.ec (.i .i64) (.ec (.i .i64) (.ec (.i .i64) (.ec (.i .i64) (.ec (.i .i64) (.ec (.l 301 (qaN 301 301)) (.ec (.l 301 (.nm 999)) (.ec (.l 301 (qai 301 301)) .e0))))))))))))
def qkK:Y:=.gq (.ec (.i .i64) (.ec (.l 301 (.i .i64)) (.ec (.l 301 (.i .i64)) (.ec (.l 8 (qb3 301 301)) (.ec (.i .i64) (.ec (.i .i64) (.ec (.i .i64) (.ec (.i .i64) (.ec (.i .i64) (.ec (.l 301 (qaN 301 301)) (.ec (.l 301 (.nm 999)) (.ec (.l 301 (qai 301 301)) .e0)))))))))))) qpC
def qd4:Y:=.g (.ec (.i .i64) (.ec (.l 301 (.i .i64)) (.ec (.l 301 (.i .i64)) (.ec (.l 301 (.g (.ec (.i .i64) (.ec (.i .i64) .e0)))) (.ec (.i .i64) (.ec (.i .i64) (.ec (.i .i64) (.ec (.i .i64) (.ec (.i .i64) (.ec (.l 301 (qaN 301 301)) .e0))))))))))
def qpF:Y:=.g (.ec (yJ 0) (.ec (.l 301 (.i .i64)) (.ec (.l 301 (.i .i64)) (.ec (.l 301 (.g (.ec (yJ 0) (.ec (yJ 0) .e0)))) (.ec (.i .i64) (.ec (.i .i64) (.ec (.i .i64) (.ec (.i .i64) (.ec (.i .i64) (.ec (.l 301 (qaN 301 301)) .e0))))))))))
def qkL:Y:=.g (.ec (.i .i64) (.ec (.l 301 (.i .i64)) (.ec (.l 301 (.i .i64)) (.ec (.l 8 (qb3 301 301)) (.ec (.i .i64) (.ec (.i .i64) (.ec (.i .i64) (.ec (.i .i64) (.ec (.i .i64) (.ec (.l 301 (qaN 301 301)) (.ec (.l 301 (.nm 999)) (.ec (.l 301 (qai 301 301)) (.ec (.i .i64) .e0)))))))))))))
def qFY:Y:=.g (.ec (.i .i64) (.ec (.i .i64) (.ec (.l 301 (.l 301 (.i .i64))) (.ec (.i .i64) (.ec (.l 301 (.i .i64)) (.ec (.l 301 (.i .i64)) (.ec (.l 301 (.g (.ec (.i .i64) (.ec (.i .i64) .e0)))) (.ec (.i .i64) (.ec (.i .i64) (.ec (.i .i64) (.ec (.i .i64) (.ec (.i .i64) (.ec (.l 301 (qaN 301 301)) (.ec (.l 301 (.nm 999)) (.ec (.l 301 (qai 301 301)) (.ec (.l 301 (qd3 301 301)) (.ec (.l 301 (.i .i64)) (.ec (.i .i64) .e0))))))))))))))))))
def qvJ (ks:List K) (x:T):T:=.u 2 0 (qW ((ks.zip (List.range ks.length)).map fun p=>.mk p.1 (.u 1 p.2 x)))
def qFZ:List K:=[.i .i64,.i .i64,.l]
def qF0:List K:=[.i .i64,.i .i64,.i .i64,.i .i64,.i .i64,.i .i64,.i .i64,.l,.l]
def qkM (s e:T):T:=.u 3 1000212 (qW [qvJ qFZ s,qvJ qF0 e])
def consts:List Nat:=[1116352408,1899447441,3049323471,3921009573,961987163,1508970993,2453635748,2870763221,3624381080,310598401,607225278,1426881987,1925078388,2162078206,2614888103,3248222580,3835390401,4022224774,264347078,604807628,770255983,1249150122,1555081692,1996064986,2554220882,2821834349,2952996808,3210313671,3336571891,3584528711,113926993,338241895,666307205,773529912,1294757372,1396182291,1695183700,1986661051,2177026350,2456956037,2730485921,2820302411,3259730800,3345764771,3516065817,3600352804,4094571909,275423344,430227734,506948616,659060556,883997877,958139571,1322822218,1537002063,1747873779,1955562222,2024104815,2227730452,2361852424,2428436474,2756734187,3204031479,3329325298]
instance rt:RT where
 body:=fun n=>match Nat.beq n 999 with|true=>qe3|false=>qpD n n
 tm:=fun k=>match k with
  | 0=>[(false,.i 0,.u 1 0 (.v 0)),(false,.u 11 3 (.u 1 9 (.v 0)),.u 1 0 (.v 0)),(false,.u 1 0 (.v 0),.i 4096)]|1=>[(true,.v 1,.u 0 0 (.u 1 9 (.v 0))),(true,.u 0 0 (.u 1 9 (.v 0)),.v 1)]|2=>[(true,.v 1,.u 0 0 (.u 1 7 (.v 0))),(true,.u 0 0 (.u 1 7 (.v 0)),.v 1),(true,.i 1,.u 0 0 (.u 1 7 (.v 0)))]|3=>[(false,.i 0,.u 1 0 (.v 0)),(false,.u 1 0 (.v 0),.u 1 1 (.v 0)),(false,.u 1 1 (.v 0),.i 134217728)]|7=>[(true,.u 13 0 (.v 0),.v 1)]|9=>[(true,.v 1,.u 0 0 (.u 1 3 (.v 0))),(true,.u 0 0 (.u 1 3 (.v 0)),.v 1)]|10=>[(true,.i 1,.u 0 0 (.v 0)),(true,.w 8 (.u 0 0 (.v 0)) (.i 1),.v 1)]|11=>[(true,.u 8 2 (.u 0 0 (.v 0)),.w 8 (.v 1) (.i 1))]|17=>[(false,qkM (.v 1) (.v 0),.i 0),(false,.i 0,qkM (.v 1) (.v 0))]|_=>[]
 mkb:=fun t=>Nat.beq t 411
 gl:=fun g=>match Nat.ble g 1 with
  | true=>consts.map fun(n:Nat)=>(.i .u32,.i (Int.ofNat n))
  | false=>[]
abbrev mF (g:Nat) (con:R.Con) (sts:List R.St):R.RFn:={g:=g,con:=con,wr:=false,pn:=14,sts:=sts}
@[simp] def Zc:T:=.v 1
@[simp] def Zi:T:=.u 0 0 Zc
@[simp] def Zbn:T:=.i 10
@[simp] def Ze:T:=.v 0
@[simp] def Zt:T:=.u 0 0 Ze
@[simp] def Zcf:Y:=.s 301
@[simp] def Zcg:Y:=qb4 300 300
@[simp] def Zg:T:=.i 1
@[simp] def Zd2:T:=.u 1 16 Ze
@[simp] def ZaB:T:=.u 0 0 Zd2
@[simp] def ZbJ:T:=.i 60
@[simp] def Zfw:Y:=.rg (-9223372036854775808) 9223372036854775807
@[simp] def Zha:List F:=[.nle Zg ZaB,.le ZaB ZbJ,.pre Zd2 ZaB Zfw]
@[simp] def Zba:Y:=Yw 140737488355328 140737488355328
@[simp] def ZH:Y:=.l 301 (.i .i64)
@[simp] def Zch:F:=.le Zg Ze
@[simp] def Za:T:=.i 0
@[simp] def Zv:Y:=JB 301 301
@[simp] def ZK:Y:=.l 301 ZH
@[simp] def Zd3:Y:=qpD 300 300
@[simp] def Zac:Y:=.l 140737488355328 (.i .i64)
@[simp] def Zb:T:=.v 2
@[simp] def Zci:F:=.nle Zt Zi
@[simp] def Zfx:F:=.nle Zi Zt
@[simp] def Zd4:F:=.has Ze Ys
@[simp] def ZcZ:F:=.nle Zg Zt
@[simp] def Zd5:Y:=qpE 140737488355328 140737488355328
@[simp] def ZW:Y:=.l 301 Ys
@[simp] def Zw:T:=.u 0 0 Zb
@[simp] def Zd:T:=.v 3
@[simp] def Zbb:R.RV:=.o (.c (.i .i64) Zd)
@[simp] def Zbo:R.RV:=.o .nil
@[simp] def Zf:T:=.v 4
@[simp] def Zfy:R1:=.c (.i .i64) Zf
@[simp] def Zcj:R.RV:=.o Zfy
@[simp] def ZaH:F:=.le Za Zf
@[simp] def Zk:T:=.i 1000
@[simp] def Zj:T:=.v 5
@[simp] def Zs:T:=.v 6
@[simp] def Zh:T:=.v 7
@[simp] def Zc0:qx:=.dat 1 Zh false
@[simp] def Zfz:T:=.w 8 Za Zf
@[simp] def Zbp:T:=.u 0 0 Zh
@[simp] def ZfA:F:=.nle Zfz Zbp
@[simp] def Zck:F:=.nle Zj Zf
@[simp] def Zbq:T:=.u 4 0 Zf
@[simp] def ZfB:R1:=.c (.i .i64) Zc
@[simp] def ZbK:R.RV:=.o ZfB
@[simp] def ZfC:R1:=.c (.i .i64) Zb
@[simp] def Zbr:R.RV:=.o ZfC
@[simp] def ZZ:F:=.le Za Zb
@[simp] def ZfD:T:=.w 3 Ze Zb
@[simp] def Zcl:T:=.mk .b (.t false)
@[simp] def Zc1:T:=.w 0 Zb Zg
@[simp] def Zhb:List Y:=[ZH,.i .i64,.i .i64,.i .i64]
@[simp] def Z6:F:=.le Za Zd
@[simp] def ZfE:T:=.w 1 Zt Zd
@[simp] def Zc2:T:=.w 3 Ze Zd
@[simp] def ZaI:T:=.w 0 Zd Zg
@[simp] def Zc3:Y:=qai 140737488355328 140737488355328
@[simp] def Zd6:T:=.u 13 0 Ze
@[simp] def Zc4:R.RV:=.o (.pt 0 0 Za 0)
@[simp] def ZbL:R.RV:=.o (.pt 1 0 Za 0)
@[simp] def Zq:R1:=.c (.i .i64) Za
@[simp] def Zbc:R.RV:=.o Zq
@[simp] def Z3:T:=.u 1 0 Ze
@[simp] def Zc5:R1:=.c (.i .i64) Z3
@[simp] def ZaR:T:=.u 1 1 Ze
@[simp] def ZaC:T:=.u 1 2 Ze
@[simp] def Zd7:R1:=.c .l ZaC
@[simp] def Zbd:T:=.u 1 3 Ze
@[simp] def Zcm:T:=.u 1 4 Ze
@[simp] def ZfF:R1:=.c (.i .i64) Zcm
@[simp] def Zcn:T:=.u 1 5 Ze
@[simp] def ZfG:R1:=.c (.i .i64) Zcn
@[simp] def Zco:T:=.u 1 6 Ze
@[simp] def ZfH:R1:=.c (.i .i64) Zco
@[simp] def Zc6:T:=.u 1 7 Ze
@[simp] def ZfI:R1:=.c (.i .i64) Zc6
@[simp] def Zcp:T:=.u 1 8 Ze
@[simp] def ZfJ:R1:=.c (.i .i64) Zcp
@[simp] def ZaD:T:=.u 1 9 Ze
@[simp] def Zbe:T:=.u 1 10 Ze
@[simp] def Zcq:T:=.u 1 11 Ze
@[simp] def Zc7:qx:=.box [Zc5,.c .l ZaR,Zd7,.c .l Zbd,ZfF,ZfG,ZfH,ZfI,ZfJ,.c .l ZaD,.c .l Zbe,.c .l Zcq] false
@[simp] def Zr:R1:=.c (.i .u8) Za
@[simp] def Zc8:qx:=.box [Zr,Zr,Zr,Zr,Zr,Zr,Zr,Zr,Zr,Zr,Zr,Zr,Zr,Zr,Zr,Zr] false
@[simp] def Zcr:T:=.u 0 0 Zbe
@[simp] def Zd8:qx:=.dat 1 Zf false
@[simp] def ZfK:T:=.w 8 Za Zc
@[simp] def ZO:T:=.u 0 0 Zf
@[simp] def Zcs:F:=.nle ZfK ZO
@[simp] def ZbM:F:=.nle Zb Zc
@[simp] def ZX:T:=.u 4 0 Zc
@[simp] def Zct:F:=.le ZX Zd
@[simp] def Zc9:Y:=qai 301 301
@[simp] def Zu:Y:=.l 301 Zc9
@[simp] def Zd9:List Y:=[Zv,ZK,Zu,.i .i64]
@[simp] def Zea:F:=.nle Zg Zw
@[simp] def ZL:T:=.i 64
@[simp] def ZfL:T:=.mk (.i .i64) Z3
@[simp] def ZbN:T:=.mk (.i .i64) ZaR
@[simp] def ZaJ:T:=.u 2 0 (.w 4 ZfL (.w 4 ZbN (.w 4 (.mk .l ZaC) .z)))
@[simp] def Zeb:F:=.rows 920 Zb Zw ZaJ
@[simp] def Zec:T:=.u 3 1000030 (.w 4 ZaJ .z)
@[simp] def ZaK:F:=.le Zec Za
@[simp] def ZaL:F:=.le Za Zec
@[simp] def Z7:T:=.mk .l Zc
@[simp] def Zed:T:=.w 4 Z7 .z
@[simp] def Zhc:T:=.u 3 1000076 (.w 4 ZaJ Zed)
@[simp] def Zcu:F:=.bool Zhc true
@[simp] def ZF:T:=.u 0 0 ZaC
@[simp] def Zau:T:=.i 16
@[simp] def Zee:T:=.u 13 0 Zf
@[simp] def ZbO:T:=.w 13 Zd (.i 12)
@[simp] def ZbP:T:=.i 32
@[simp] def ZfM:T:=.w 11 Zw ZbP
@[simp] def ZY:T:=.i 2
@[simp] def Zad:T:=.i 3
@[simp] def ZfN:T:=.w 11 Zd (.i 12)
@[simp] def Zef:R1:=.c .l Zf
@[simp] def ZfO:R1:=.c (.i .i64) ZaR
@[simp] def Zp:qx:=.box [Zc5,ZfO,Zd7] false
@[simp] def Zhd:qx:=.box [Zq,.nil,.nil,.nil,Zq,Zq,Zq,Zq,Zq,.nil,.nil,.nil] false
@[simp] def ZaM:F:=.le Za Za
@[simp] def ZbQ:T:=.mk .l Zb
@[simp] def Zhe:F:=.imp ZbO (.rows 914 Zf ZO Zw)
@[simp] def Zeg:T:=.u 14 0 .z
@[simp] def ZB:F:=.nle Za Za
@[simp] def ZbR:T:=.u 0 0 .z
@[simp] def ZC:F:=.nle Za ZbR
@[simp] def ZG:F:=.nle ZbR Za
@[simp] def ZfP:R1:=.c (.i .i64) Zh
@[simp] def ZD:T:=.v 8
@[simp] def Zda:Y:=.l 301 qkK
@[simp] def ZI:F:=.le Za Zh
@[simp] def Zeh:T:=.u 14 0 ZD
@[simp] def ZP:T:=.u 4 0 Zj
@[simp] def Zbf:T:=.u 0 0 ZD
@[simp] def Zcv:F:=.nle ZP Zbf
@[simp] def Zcw:T:=.w 14 (.u 1 12 Zd) Za
@[simp] def ZfQ:F:=.le ZF (.u 0 0 (.u 1 9 Zd))
@[simp] def ZfR:F:=.le (.u 0 0 (.u 1 9 Zd)) ZF
@[simp] def ZaE:T:=.u 1 0 Zd
@[simp] def Zei:T:=.u 0 0 (.u 1 3 Zd)
@[simp] def Zcx:F:=.le Za ZaE
@[simp] def ZfS:F:=.le (.u 11 3 (.u 1 9 Zd)) ZaE
@[simp] def ZaF:T:=.i 4096
@[simp] def Zhf:F:=.and Zeb (.and ZaK (.and ZaL Zcu))
@[simp] def Zhg:F:=.and Zhf (.and Zea (.nle Zw Zau))
@[simp] def Zbs:F:=.le Zg Zd
@[simp] def Zhh:qx:=.box [Zq,.nil,.nil,.nil,Zq,Zq,Zq,Zq,Zq,.nil,.nil,.nil,Zq] false
@[simp] def Zej:List Y:=[.i .i64,ZK,.i .i64]
@[simp] def Zbt:qx:=.box [.nil,Zq] false
@[simp] def Zbu:F:=.bool (.w 10 Zb Zg) false
@[simp] def Zek:F:=.bool (.w 12 Zb ZaF) false
@[simp] def Zdb:T:=.w 3 Zc Za
@[simp] def Zcy:T:=.u 0 0 Zdb
@[simp] def ZaS:F:=.rows 0 Zc Zi Zcy
@[simp] def Zbv:F:=.has Z7 ZW
@[simp] def Zel:T:=.w 1 Zi Za
@[simp] def ZfT:T:=.w 10 Za Zi
@[simp] def Z4:T:=.u 0 0 Zs
@[simp] def ZfU:F:=.nle Zfz Z4
@[simp] def ZfV:T:=.w 1 Zi Zd
@[simp] def ZbS:R.RV:=.o (.c (.i .i64) Zj)
@[simp] def Zcz:F:=.le Za Zj
@[simp] def Zdc:T:=.u 4 0 Zs
@[simp] def ZfW:T:=.w 1 Zi Zj
@[simp] def Zab:T:=.u 0 0 Zd
@[simp] def Zdd:F:=.nle Zg Zab
@[simp] def ZfX:qx:=.box [Zq,Zq,.nil,Zq,.nil,.nil,.nil,Zq,Zq,Zq,Zq,Zq,.nil,.nil,.nil,.nil,.nil,Zq] false
@[simp] def Zhi:F:=.bool (.w 10 Zc Zg) false
@[simp] def Zhj:F:=.bool (.w 12 Zc Zad) false
@[simp] def Zhk:F:=.bool (.w 10 Zb Za) false
@[simp] def Z8:T:=.i 8
@[simp] def ZcA:F:=.bool (.w 12 Zb Z8) false
@[simp] def Zhl:F:=.bool (.u 3 1000076 (.w 4 ZaJ (.w 4 (.mk .l .z) .z))) true
@[simp] def ZbT:R.RV:=.o (.pt 2 0 Za 0)
@[simp] def Zde:R1:=.c .l Zj
@[simp] def Zem:T:=.mk (.i .i64) Za
@[simp] def Zhm:qx:=.dat 1 (.w 32 ZO Zem) false
@[simp] def Zav:T:=.u 0 0 Zj
@[simp] def ZbU:F:=.le Zg Zb
@[simp] def Zhn:R1:=.sl 3 1 Za Zh ZD false
@[simp] def Z9:T:=.v 9
@[simp] def ZJ:qx:=.dat 1 Z9 false
@[simp] def Zay:T:=.u 0 0 Z9
@[simp] def Zho:F:=.nle (.w 8 Za Zh) Zay
@[simp] def ZfY:F:=.nle ZD Zh
@[simp] def Zen:T:=.u 4 0 Zh
@[simp] def Zaw:Y:=JB 140737488355328 140737488355328
@[simp] def ZfZ:T:=.w 14 Zc Za
@[simp] def Zbw:Y:=.s 140737488355328
@[simp] def Zdf:F:=.le Ze Zad
@[simp] def Zbx:F:=.nle Zg Zi
@[simp] def Zf0:F:=.and (.has Zc ZW) (.and ZaS (.and Zbx (.nle Zg Zcy)))
@[simp] def ZbV:T:=.w 4 Zem .z
@[simp] def Zeo:T:=.mk .l Zdb
@[simp] def Zep:T:=.w 4 Zeo .z
@[simp] def Zhp:List qx:=[Zbt,.dat 1 ZbV false,.dat 1 Zep false]
@[simp] def Zbg:T:=.u 4 0 Zg
@[simp] def Zhq:R1:=.sl 2 1 Za Zj Zs false
@[simp] def ZcB:qx:=.dat 1 ZD false
@[simp] def Zeq:T:=.w 8 Za Zd
@[simp] def Zdg:F:=.nle Zf Zd
@[simp] def Zf1:F:=.nle Zg Zd
@[simp] def Zaa:T:=.u 4 0 Zd
@[simp] def Zf2:T:=.w 8 Za Zj
@[simp] def Zf3:F:=.nle Zs Zj
@[simp] def Zf4:R1:=.c (.i .i64) ZD
@[simp] def Zf5:R1:=.c (.i .i64) Z9
@[simp] def Z2:T:=.v 10
@[simp] def ZaT:T:=.v 11
@[simp] def Zer:T:=.u 0 0 ZaT
@[simp] def Zes:T:=.u 0 0 Z2
@[simp] def Zax:T:=.mk (.i .i64) Ze
@[simp] def Zhr:T:=.w 4 (.mk (.i .i64) Zg) .z
@[simp] def Zhs:T:=.u 1 1 (.u 3 217 (.w 4 Zax (.w 4 Zep (.w 4 (.mk .l (.w 3 Zc Zj)) .z))))
@[simp] def ZaU:T:=.w 0 Zj Zg
@[simp] def Zht:T:=.w 4 (.mk (.i .i64) Zd) .z
@[simp] def Zf6:T:=.mk .l (.w 3 Zc Zd)
@[simp] def Zhu:T:=.w 8 Zg (.u 0 0 (.w 4 Zf6 .z))
@[simp] def Zhv:T:=.w 6 Zd (.w 7 Za Zh)
@[simp] def Zet:T:=.w 6 Zj (.w 7 Za ZaT)
@[simp] def Zhw:T:=.u 1 1 (.u 3 217 (.w 4 Zax (.w 4 Zet (.w 4 (.mk .l (.w 3 Zc Z9)) .z))))
@[simp] def Zhx:T:=.w 6 Zd (.w 7 Za Z2)
@[simp] def Zhy:T:=.w 4 (.mk (.i .i64) Zh) .z
@[simp] def Zhz:T:=.w 4 (.mk .l (.w 3 Zc Zh)) .z
@[simp] def ZhA:Y:=.ec (.i .u32) (.ec (.i .u32) (.ec (.i .u32) (.ec (.i .u32) (.ec (.i .u32) (.ec (.i .u32) (.ec (.i .u32) (.ec (.i .u32) .e0)))))))
@[simp] def Zeu:T:=.w 4 (.mk (.i .u32) Z3) (.w 4 (.mk (.i .u32) ZaR) (.w 4 (.mk (.i .u32) ZaC) (.w 4 (.mk (.i .u32) Zbd) (.w 4 (.mk (.i .u32) Zcm) (.w 4 (.mk (.i .u32) Zcn) (.w 4 (.mk (.i .u32) Zco) (.w 4 (.mk (.i .u32) Zc6) .z)))))))
@[simp] def Zl:R1:=.c (.i .u32) Za
@[simp] def ZhB:qx:=.box [Zl,Zl,Zl,Zl,Zl,Zl,Zl,Zl] false
@[simp] def ZhC:qx:=.arr 64 (.i .u32) Zd false
@[simp] def Zev:Y:=.l 64 (.i .u32)
@[simp] def Zew:Y:=.l 4 (.i .u32)
@[simp] def Z0:T:=.i 4
@[simp] def ZbW:Y:=.l 8 (.i .u32)
@[simp] def Zm:T:=.u 3 279 Zed
@[simp] def Zf7:T:=.w 3 Zj Za
@[simp] def Zf8:T:=.mk (.i .u32) Zf7
@[simp] def Zex:T:=.mk (.i .i64) (.i 6)
@[simp] def Zey:T:=.mk (.i .i64) (.i 11)
@[simp] def Zf9:T:=.mk (.i .i64) (.i 25)
@[simp] def Zga:T:=.w 3 Zf Za
@[simp] def Zgb:T:=.mk (.i .u32) Zga
@[simp] def Zez:T:=.mk (.i .i64) ZY
@[simp] def ZeA:T:=.mk (.i .i64) (.i 13)
@[simp] def Zgc:T:=.mk (.i .i64) (.i 22)
@[simp] def ZhD:T:=.w 4 (.mk (.i .u32) (.i 1116352408)) (.w 4 (.mk (.i .u32) (.i 1899447441)) (.w 4 (.mk (.i .u32) (.i 3049323471)) (.w 4 (.mk (.i .u32) (.i 3921009573)) (.w 4 (.mk (.i .u32) (.i 961987163)) (.w 4 (.mk (.i .u32) (.i 1508970993)) (.w 4 (.mk (.i .u32) (.i 2453635748)) (.w 4 (.mk (.i .u32) (.i 2870763221)) (.w 4 (.mk (.i .u32) (.i 3624381080)) (.w 4 (.mk (.i .u32) (.i 310598401)) (.w 4 (.mk (.i .u32) (.i 607225278)) (.w 4 (.mk (.i .u32) (.i 1426881987)) (.w 4 (.mk (.i .u32) (.i 1925078388)) (.w 4 (.mk (.i .u32) (.i 2162078206)) (.w 4 (.mk (.i .u32) (.i 2614888103)) (.w 4 (.mk (.i .u32) (.i 3248222580)) (.w 4 (.mk (.i .u32) (.i 3835390401)) (.w 4 (.mk (.i .u32) (.i 4022224774)) (.w 4 (.mk (.i .u32) (.i 264347078)) (.w 4 (.mk (.i .u32) (.i 604807628)) (.w 4 (.mk (.i .u32) (.i 770255983)) (.w 4 (.mk (.i .u32) (.i 1249150122)) (.w 4 (.mk (.i .u32) (.i 1555081692)) (.w 4 (.mk (.i .u32) (.i 1996064986)) (.w 4 (.mk (.i .u32) (.i 2554220882)) (.w 4 (.mk (.i .u32) (.i 2821834349)) (.w 4 (.mk (.i .u32) (.i 2952996808)) (.w 4 (.mk (.i .u32) (.i 3210313671)) (.w 4 (.mk (.i .u32) (.i 3336571891)) (.w 4 (.mk (.i .u32) (.i 3584528711)) (.w 4 (.mk (.i .u32) (.i 113926993)) (.w 4 (.mk (.i .u32) (.i 338241895)) (.w 4 (.mk (.i .u32) (.i 666307205)) (.w 4 (.mk (.i .u32) (.i 773529912)) (.w 4 (.mk (.i .u32) (.i 1294757372)) (.w 4 (.mk (.i .u32) (.i 1396182291)) (.w 4 (.mk (.i .u32) (.i 1695183700)) (.w 4 (.mk (.i .u32) (.i 1986661051)) (.w 4 (.mk (.i .u32) (.i 2177026350)) (.w 4 (.mk (.i .u32) (.i 2456956037)) (.w 4 (.mk (.i .u32) (.i 2730485921)) (.w 4 (.mk (.i .u32) (.i 2820302411)) (.w 4 (.mk (.i .u32) (.i 3259730800)) (.w 4 (.mk (.i .u32) (.i 3345764771)) (.w 4 (.mk (.i .u32) (.i 3516065817)) (.w 4 (.mk (.i .u32) (.i 3600352804)) (.w 4 (.mk (.i .u32) (.i 4094571909)) (.w 4 (.mk (.i .u32) (.i 275423344)) (.w 4 (.mk (.i .u32) (.i 430227734)) (.w 4 (.mk (.i .u32) (.i 506948616)) (.w 4 (.mk (.i .u32) (.i 659060556)) (.w 4 (.mk (.i .u32) (.i 883997877)) (.w 4 (.mk (.i .u32) (.i 958139571)) (.w 4 (.mk (.i .u32) (.i 1322822218)) (.w 4 (.mk (.i .u32) (.i 1537002063)) (.w 4 (.mk (.i .u32) (.i 1747873779)) (.w 4 (.mk (.i .u32) (.i 1955562222)) (.w 4 (.mk (.i .u32) (.i 2024104815)) (.w 4 (.mk (.i .u32) (.i 2227730452)) (.w 4 (.mk (.i .u32) (.i 2361852424)) (.w 4 (.mk (.i .u32) (.i 2428436474)) (.w 4 (.mk (.i .u32) (.i 2756734187)) (.w 4 (.mk (.i .u32) (.i 3204031479)) (.w 4 (.mk (.i .u32) (.i 3329325298)) .z)))))))))))))))))))))))))))))))))))))))))))))))))))))))))))))))
@[simp] def ZhE:T:=.u 5 2 (.w 0 (.u 5 2 (.w 0 (.u 5 2 (.w 0 (.u 5 2 (.w 0 (.w 3 Zj Zad) (.u 3 280 (.w 4 Zf8 (.w 4 Zex (.w 4 Zey (.w 4 Zf9 .z))))))) (.w 162 (.w 142 Zf7 (.w 3 Zj Zg)) (.w 142 (.w 162 (.i 4294967295) Zf7) (.w 3 Zj ZY))))) (.w 3 ZhD Zb))) (.w 3 Zd Zb))
@[simp] def Zgd:T:=.w 3 Zf Zg
@[simp] def Zge:T:=.w 3 Zf ZY
@[simp] def ZhF:T:=.w 21 Zd (.u 2 0 (.w 4 (.mk (.i .i64) Zb) (.w 4 (.mk (.i .u32) (.u 5 2 (.w 0 (.w 3 Zd Zb) (.w 3 Zf Zb)))) .z)))
@[simp] def ZhG:Y:=qFS 140737488355328 140737488355328
@[simp] def Zdh:Y:=.l 140737488355328 Zc3
@[simp] def ZhH:Y:=.g (.ec (.i .i64) (.ec Zac (.ec Zac (.ec (.l 140737488355328 ZhG) (.ec (.i .i64) (.ec (.i .i64) (.ec (.i .i64) (.ec (.i .i64) (.ec (.i .i64) (.ec (.l 140737488355328 (qaN 140737488355328 140737488355328)) (.ec (.l 140737488355328 (.nm 140737488355328)) (.ec Zdh .e0))))))))))))
@[simp] def Z5:F:=.le Za Zc
@[simp] def ZhI:F:=.le Zd (.w 0 Zc (.i 140737488355330))
@[simp] def Zgf:T:=.w 11 Zd Zc
@[simp] def ZeB:T:=.u 15 0 Ze
@[simp] def ZcC:T:=.u 0 0 Zcq
@[simp] def ZhJ:Y:=qkI 140737488355328 140737488355328
@[simp] def Zgg:qx:=.box [Zc5,ZfO,.c (.i .i64) ZaC,.c (.i .i64) Zbd,ZfF,ZfG,ZfH,.c .l Zc6,.c .l Zcp] false
@[simp] def ZeC:Y:=.l 100000 (.i .i64)
@[simp] def Zdi:T:=.u 0 0 Zcp
@[simp] def ZcD:F:=.nle Zb ZX
@[simp] def ZhK:R.RV:=.o (.sl 2 1 Za Zd Zf false)
@[simp] def Zdj:qx:=.dat 1 Zs false
@[simp] def ZcE:F:=.nle Zaa Zbp
@[simp] def ZaN:T:=.u 0 0 ZaD
@[simp] def Zdk:T:=.i 8192
@[simp] def Zgh:qx:=.box [Zc5,.c .l ZaR,Zd7,.c .l Zbd,ZfF,ZfG,ZfH,ZfI,ZfJ,.c .l ZaD] false
@[simp] def ZhL:List Y:=[qd4,.i .i64,.i .i64,.i .i64,ZeC]
@[simp] def ZbX:T:=.u 0 0 Zbd
@[simp] def Zgi:F:=.nle ZO ZX
@[simp] def ZcF:F:=.le Zd ZX
@[simp] def Zdl:T:=.u 0 0 ZaR
@[simp] def Zgj:T:=.w 4 (.mk (.i .i64) ZF) .z
@[simp] def Zgk:T:=.w 8 (.i 7) (.u 0 0 Zgj)
@[simp] def Zdm:T:=.w 4 (.mk (.i .i64) ZbX) .z
@[simp] def ZeD:T:=.u 0 0 Zdm
@[simp] def Zgl:T:=.mk (.i .i64) Zc6
@[simp] def Zgm:T:=.mk (.i .i64) Zcp
@[simp] def ZhM:T:=.w 4 ZfL (.w 4 (.mk (.i .i64) Zcm) (.w 4 (.mk (.i .i64) Zcn) (.w 4 (.mk (.i .i64) Zco) (.w 4 Zgl (.w 4 Zgm (.w 4 (.mk (.i .i64) Zdl) .z))))))
@[simp] def ZhN:T:=.w 6 Zgk (.w 7 Za (.w 5 ZhM Zgj))
@[simp] def ZhO:T:=.w 8 (.w 8 Zgk ZF) ZeD
@[simp] def Zgn:T:=.w 8 (.w 8 (.i 7) Zdl) (.u 0 0 Zgj)
@[simp] def ZhP:T:=.w 6 Zgn (.w 7 Za (.w 5 (.w 6 (.w 8 (.i 7) Zdl) (.w 7 Za (.w 5 ZhM ZaR))) Zgj))
@[simp] def ZhQ:T:=.w 8 (.w 8 Zgn ZF) ZeD
@[simp] def ZhR:T:=.w 4 (.mk (.i .i64) (.u 1 0 (.w 3 Zbd Zd))) (.w 4 (.mk (.i .i64) (.u 1 1 (.w 3 Zbd Zd))) .z)
@[simp] def Zdn:T:=.w 6 Zc (.w 7 Za Zf)
@[simp] def ZhS:T:=.w 4 (.mk (.i .i64) ZaN) .z
@[simp] def ZeE:T:=.w 3 ZaD Zd
@[simp] def ZeF:T:=.u 0 0 (.u 1 3 ZeE)
@[simp] def ZhT:T:=.w 4 (.mk (.i .i64) (.u 1 0 ZeE)) (.w 4 (.mk (.i .i64) (.u 1 1 ZeE)) (.w 4 (.mk (.i .i64) (.u 1 2 ZeE)) (.w 4 (.mk (.i .i64) ZeF) .z)))
@[simp] def ZeG:T:=.w 8 Zc (.u 0 0 ZhT)
@[simp] def ZhU:T:=.w 6 (.u 0 0 (.u 3 188 (.w 4 .z .z))) (.w 7 Za (.u 3 188 (.w 4 .z .z)))
@[simp] def ZhV:T:=.u 3 51 (.w 4 (.mk .l Zf) .z)
@[simp] def ZhW:T:=.w 6 (.u 0 0 ZhV) (.w 7 Za ZhV)
@[simp] def ZeH:T:=.w 3 ZaD Zj
@[simp] def Zgo:T:=.u 0 0 (.u 1 3 ZeH)
@[simp] def ZhX:T:=.w 4 (.mk (.i .i64) (.u 1 0 ZeH)) (.w 4 (.mk (.i .i64) (.u 1 1 ZeH)) (.w 4 (.mk (.i .i64) (.u 1 2 ZeH)) (.w 4 (.mk (.i .i64) Zgo) .z)))
@[simp] def ZeI:T:=.w 8 Zc (.u 0 0 ZhX)
@[simp] def ZhY:T:=.w 5 (.w 6 Zc (.w 7 Za Zs)) ZhX
@[simp] def ZhZ:T:=.u 3 188 (.w 4 (.mk .l Zh) .z)
@[simp] def Zh0:T:=.w 6 (.u 0 0 ZhZ) (.w 7 Za ZhZ)
@[simp] def Zh1:T:=.u 3 51 (.w 4 (.mk .l Zs) .z)
@[simp] def Zh2:T:=.w 6 (.u 0 0 Zh1) (.w 7 Za Zh1)
@[simp] def ZbY:Y:=.l 300 (.i .i64)
@[simp] def Zh3:Y:=.l 300 (qaN 300 300)
@[simp] def ZcG:Y:=qai 300 300
@[simp] def Zgp:Y:=.g (.ec (.i .i64) (.ec ZbY (.ec ZbY (.ec (.l 300 ZhG) (.ec (.i .i64) (.ec (.i .i64) (.ec (.i .i64) (.ec (.i .i64) (.ec (.i .i64) (.ec Zh3 (.ec (.l 300 (.nm 300)) (.ec (.l 300 ZcG) .e0))))))))))))
@[simp] def Zgq:T:=.u 15 0 (.u 2 0 (.w 4 (.mk (.i .i64) Zbd) (.w 4 (.mk .l Zcm) (.w 4 (.mk .l Zcn) (.w 4 (.mk .l Zco) (.w 4 Zgl (.w 4 Zgm (.w 4 (.mk (.i .i64) ZaD) (.w 4 (.mk (.i .i64) Zbe) (.w 4 (.mk (.i .i64) Zcq) (.w 4 (.mk .l (.u 1 12 Ze)) (.w 4 (.mk .l (.u 1 13 Ze)) (.w 4 (.mk .l (.u 1 14 Ze)) .z)))))))))))))
@[simp] def ZeJ:T:=.w 14 Zb Za
@[simp] def ZbZ:T:=.u 1 7 Zc
@[simp] def Zbh:T:=.u 1 0 Zc
@[simp] def Zgr:T:=.mk (.i .i64) Zbh
@[simp] def Zdo:T:=.u 1 1 Zc
@[simp] def ZeK:T:=.u 1 2 Zc
@[simp] def Zb0:T:=.u 1 3 Zc
@[simp] def Zgs:T:=.mk (.i .i64) Zb0
@[simp] def ZcH:T:=.u 1 4 Zc
@[simp] def ZcI:T:=.u 1 5 Zc
@[simp] def ZcJ:T:=.u 1 6 Zc
@[simp] def Zdp:T:=.u 1 8 Zc
@[simp] def Zgt:T:=.u 3 1000212 (.w 4 ZaJ (.w 4 (.u 2 0 (.w 4 Zgr (.w 4 (.mk (.i .i64) Zdo) (.w 4 (.mk (.i .i64) ZeK) (.w 4 Zgs (.w 4 (.mk (.i .i64) ZcH) (.w 4 (.mk (.i .i64) ZcI) (.w 4 (.mk (.i .i64) ZcJ) (.w 4 (.mk .l ZbZ) (.w 4 (.mk .l Zdp) .z)))))))))) .z))
@[simp] def ZeL:List (Nat×R.RV):=[(1,Zc4),(3,ZbK)]
@[simp] def Zgu:Y:=qkJ 140737488355328 140737488355328
@[simp] def Zh4:F:=.pre ZaD Zc (qaN 300 300)
@[simp] def Zh5:F:=.bool (.w 12 Zdl (.i 40)) false
@[simp] def Zh6:F:=.bool (.w 12 ZF (.i 40)) false
@[simp] def Zh7:F:=.bool (.w 12 ZbX (.i 20)) false
@[simp] def Zh8:F:=.bool (.w 12 ZaN (.i 20)) false
@[simp] def Zh9:T:=.u 0 0 (.u 1 3 (.w 3 ZaD Zc))
@[simp] def Zia:Y:=qpD 140737488355328 140737488355328
@[simp] def Zgv:T:=.u 2 0 (.w 4 ZfL (.w 4 (.mk .l ZaR) (.w 4 (.mk .l ZaC) (.w 4 (.mk .l Zbd) (.w 4 (.mk (.i .i64) Zcm) (.w 4 (.mk (.i .i64) Zcn) (.w 4 (.mk (.i .i64) Zco) (.w 4 Zgl (.w 4 Zgm (.w 4 (.mk .l ZaD) .z))))))))))
@[simp] def Zbi:T:=.mk (.i .i64) Zc
@[simp] def ZcK:Y:=qvH 140737488355328 140737488355328
@[simp] def Zdq:T:=.u 0 0 Z3
@[simp] def Zb1:Y:=qb4 140737488355328 140737488355328
@[simp] def Zib:F:=.pre ZaC Zb (qkI 300 300)
@[simp] def Zdr:T:=.w 3 ZaC Zb
@[simp] def ZeM:T:=.w 3 Ze Za
@[simp] def Zb2:T:=.u 0 0 ZeM
@[simp] def ZcL:F:=.rows 0 Ze Zt Zb2
@[simp] def ZeN:F:=.bool Zc true
@[simp] def Zds:List (Nat×R.RV):=[(0,.o (.c .l Ze)),(3,ZbK)]
@[simp] def Zic:Y:=qge 140737488355328 140737488355328
@[simp] def Zgw:T:=.w 13 Zb (.i 12)
@[simp] def Zid:T:=.w 4 (.mk .l (.u 1 7 Zdb)) .z
@[simp] def Zgx:T:=.w 0 Za Zg
@[simp] def Zgy:T:=.mk (.i .i64) Z0
@[simp] def Zgz:T:=.w 100 (.w 0 Zi Zg) ZY
@[simp] def Zie:T:=.w 4 (.mk .l (.w 6 (.w 9 Zgz Za) (.w 7 Za Zc))) (.w 4 (.mk .l (.w 6 (.w 9 Zi Zgz) (.w 7 Zgz Zc))) .z)
@[simp] def Zif:T:=.w 4 (.mk .l (.u 1 7 (.w 3 Zc Zj))) .z
@[simp] def Zdt:T:=.w 6 Zd (.w 7 Za Zs)
@[simp] def Zig:T:=.u 3 142 (.w 4 ZbN (.w 4 Zdt (.w 4 Zgy .z)))
@[simp] def ZeO:T:=.w 3 Zs Za
@[simp] def Zih:T:=.w 4 (.mk .l (.w 3 Zj (.w 8 Za ZeO))) .z
@[simp] def Zii:T:=.w 4 (.mk .l (.w 3 ZD (.w 8 Za (.w 3 Z9 Zh)))) .z
@[simp] def Zdu:List T:=[Ze,Zc,Zb,Zd,Zf,Zj,Zs,ZD,ZaT]
@[simp] def Zby:Y:=qgf 301 301
@[simp] def Zb3:F:=.le Za Zi
@[simp] def ZeP:R1:=.c .l Zs
@[simp] def Zx:F:=.lt Zb (.i 12)
@[simp] def Zy:F:=.nle Zi Zaa
@[simp] def ZM:qx:=.dat 1 ZD true
@[simp] def ZgA:R1:=.c (.i .i64) Z2
@[simp] def ZN:F:=.nle Zaa Zbf
@[simp] def Z1:T:=.u 4 0 Za
@[simp] def Zdv:qx:=.dat 1 Zh true
@[simp] def Zdw:List Y:=[Zv,Zu,.i .i64,.i .i64,.i .i64,.i .i64,.i .i64,ZW,ZW]
@[simp] def ZE:F:=.nle ZY ZP
@[simp] def ZQ:F:=.rows 940 .z ZbR Z7
@[simp] def ZeQ:F:=.le Z1 Za
@[simp] def ZeR:F:=.le Za Z1
@[simp] def ZeS:F:=.nle ZP (.u 4 0 ZY)
@[simp] def ZeT:F:=.nle (.u 4 0 ZY) ZP
@[simp] def Zdx:T:=.w 0 Z1 Z1
@[simp] def ZR:R1:=.sl 4 9 Za Z2 ZaT false
@[simp] def Zae:T:=.v 12
@[simp] def ZaV:qx:=.dat 9 Zae false
@[simp] def ZaW:List Y:=[Zv,Zu,.i .i64,.i .i64,.i .i64,.i .i64,.i .i64,.i .i64,ZW,ZW,.i .i64,.i .i64,Zu]
@[simp] def ZS:F:=.le Zh Zi
@[simp] def ZT:F:=.nle ZP Zay
@[simp] def Zdy:T:=.u 0 0 Zae
@[simp] def ZaX:F:=.rows 940 Zae Zdy Z7
@[simp] def ZaY:F:=.nle Z2 Zdy
@[simp] def ZaZ:F:=.nle Zdy Z2
@[simp] def ZU:F:=.nle ZaT Z2
@[simp] def ZV:F:=.nle Zg Z2
@[simp] def Zb4:T:=.u 4 0 Z2
@[simp] def Zar:F:=.le Zb4 Zh
@[simp] def ZeU:F:=.le Zh Zb4
@[simp] def Zbz:F:=.nle ZP (.u 4 0 Zad)
@[simp] def ZbA:F:=.nle (.u 4 0 Zad) ZP
@[simp] def Zdz:T:=.w 0 Zdx Z1
@[simp] def Zaf:F:=.nle ZP (.u 4 0 Z0)
@[simp] def Zag:F:=.nle (.u 4 0 Z0) ZP
@[simp] def ZgB:List (Nat×R.RV):=[(1,.o (.c .l Zc)),(3,Zc4),(7,.o (.sl 1 1 Za Zd Zf false)),(11,.o Zhq),(13,.o (.sl 3 1 Za ZY ZY true)),(14,.o ZfP)]
@[simp] def ZeV:T:=.w 0 Zb4 Z1
@[simp] def Zb5:F:=.le ZeV Zh
@[simp] def ZaO:F:=.le Z1 Zh
@[simp] def ZeW:T:=.w 0 Z1 Zb4
@[simp] def Zb6:F:=.le ZeW Zh
@[simp] def Zb7:List (Nat×R.RV):=[(1,.o (.c .l Zc)),(3,Zc4),(7,.o (.sl 1 1 Za Zd Zf false)),(11,.o Zhq),(13,.o (.sl 3 1 Za Zad Zad true)),(14,.o ZfP)]
@[simp] def ZeX:T:=.w 0 ZeV Z1
@[simp] def ZeY:T:=.w 0 ZeW Z1
@[simp] def ZeZ:F:=.le Zdx Zh
@[simp] def Ze0:T:=.w 0 Zdx Zb4
@[simp] def Zas:List (Nat×R.RV):=[(1,.o (.c .l Zc)),(3,Zc4),(7,.o (.sl 1 1 Za Zd Zf false)),(11,.o Zhq),(13,.o (.sl 3 1 Za Z0 Z0 true)),(14,.o ZfP)]
@[simp] def Zbj:T:=.v 13
@[simp] def Zah:R1:=.sl 5 9 Za Zae Zbj false
@[simp] def ZaP:T:=.v 14
@[simp] def Za0:qx:=.dat 9 ZaP false
@[simp] def Za1:qx:=.dat 9 (.v 15) false
@[simp] def Za2:List Y:=[Zv,Zu,.i .i64,.i .i64,.i .i64,.i .i64,.i .i64,.i .i64,ZW,ZW,.i .i64,.i .i64,.i .i64,.i .i64,Zu,Zu]
@[simp] def Za3:F:=.rows 940 ZaP (.u 0 0 ZaP) Z7
@[simp] def Za4:F:=.nle Z2 (.u 0 0 ZaP)
@[simp] def Za5:F:=.nle (.u 0 0 ZaP) Z2
@[simp] def ZgC:T:=.u 0 0 (.v 15)
@[simp] def Za6:F:=.rows 940 (.v 15) ZgC Z7
@[simp] def Za7:F:=.nle Zae ZgC
@[simp] def Za8:F:=.nle ZgC Zae
@[simp] def Zai:F:=.nle Zbj Zae
@[simp] def Zaj:F:=.nle Zg Zae
@[simp] def ZcM:T:=.u 4 0 Zae
@[simp] def Ze1:T:=.w 0 Zb4 ZcM
@[simp] def Zb8:F:=.le Ze1 Zh
@[simp] def Ze2:T:=.w 0 Ze1 Z1
@[simp] def Ze3:T:=.w 0 ZeV ZcM
@[simp] def Ze4:T:=.w 0 ZeW ZcM
@[simp] def ZcN:R1:=.sl 6 9 Za ZaP (.v 15) false
@[simp] def Zbk:T:=.v 16
@[simp] def ZdA:qx:=.dat 9 Zbk false
@[simp] def ZdB:qx:=.dat 9 (.v 17) false
@[simp] def ZcO:qx:=.dat 9 (.v 18) false
@[simp] def ZdC:List Y:=[Zv,Zu,.i .i64,.i .i64,.i .i64,.i .i64,.i .i64,.i .i64,ZW,ZW,.i .i64,.i .i64,.i .i64,.i .i64,.i .i64,.i .i64,Zu,Zu,Zu]
@[simp] def ZdD:F:=.rows 940 Zbk (.u 0 0 Zbk) Z7
@[simp] def ZdE:F:=.nle Z2 (.u 0 0 Zbk)
@[simp] def ZdF:F:=.nle (.u 0 0 Zbk) Z2
@[simp] def ZgD:T:=.u 0 0 (.v 17)
@[simp] def ZdG:F:=.rows 940 (.v 17) ZgD Z7
@[simp] def ZdH:F:=.nle Zae ZgD
@[simp] def ZdI:F:=.nle ZgD Zae
@[simp] def ZdJ:T:=.u 0 0 (.v 18)
@[simp] def ZcP:F:=.rows 940 (.v 18) ZdJ Z7
@[simp] def ZdK:F:=.nle ZaP ZdJ
@[simp] def ZdL:F:=.nle ZdJ ZaP
@[simp] def ZcQ:F:=.nle (.v 15) ZaP
@[simp] def ZcR:F:=.nle Zg ZaP
@[simp] def Ze5:T:=.u 4 0 ZaP
@[simp] def Ze6:T:=.w 0 Ze1 Ze5
@[simp] def ZgE:T:=.u 0 0 (.v 19)
@[simp] def ZgF:T:=.u 0 0 (.v 20)
@[simp] def ZgG:T:=.u 0 0 (.v 21)
@[simp] def Ze7:Y:=.l 140737488355328 Zbw
@[simp] def Zb9:T:=.w 14 (.u 1 12 Zb) Za
@[simp] def Ze8:F:=.le ZF (.u 0 0 (.u 1 9 Zb))
@[simp] def Ze9:F:=.le (.u 0 0 (.u 1 9 Zb)) ZF
@[simp] def ZbB:T:=.u 1 0 Zb
@[simp] def ZdM:T:=.u 12 1 Zc
@[simp] def Zij:F:=.le (.u 11 3 (.u 1 9 Zb)) ZbB
@[simp] def ZdN:T:=.u 0 0 (.u 1 3 Zdb)
@[simp] def Zfa:F:=.rows 912 Zc Zi ZdN
@[simp] def ZdO:T:=.u 0 0 (.u 1 3 Zb)
@[simp] def ZgH:Y:=.l 301 (.s 1000000000)
@[simp] def Zbl:Y:=.l 1099511627776 .y8
@[simp] def Zfb:T:=.w 4 (.mk (.i .u8) (.u 5 1 Ze)) .z
@[simp] def Zfc:F:=.le Zb Zi
@[simp] def Zca:T:=.u 4 0 Zb
@[simp] def Zik:T:=.u 3 191 (.w 4 (.mk .s (.w 3 Zc Zb)) .z)
@[simp] def Zil:T:=.u 3 191 (.w 4 (.mk .s (.w 3 Zc Zf)) .z)
@[simp] def ZdP:T:=.w 0 Zf Zg
@[simp] def ZgI:T:=.w 6 Zb (.w 7 Za Zj)
@[simp] def Zak:Y:=.l 8 (qb3 301 301)
@[simp] def Zim:F:=.nle (.w 8 Za Zb) Zav
@[simp] def Zfd:F:=.nle Zd Zb
@[simp] def ZbC:Y:=qkJ 301 301
@[simp] def ZbD:T:=.u 1 9 Zc
@[simp] def ZdQ:T:=.u 0 0 ZbD
@[simp] def ZgJ:List Y:=[qFT 301 301]
@[simp] def Zat:T:=.w 14 (.u 1 10 Zd) Za
@[simp] def ZcS:T:=.w 0 Zbh ZbB
@[simp] def ZaQ:T:=.u 0 0 Zb0
@[simp] def Zin:qx:=.box [.c (.i .i64) Zbh,.c .l Zdo,.c .l ZeK,.c .l Zb0,.c (.i .i64) ZcH,.c (.i .i64) ZcI,.c (.i .i64) ZcJ,.c (.i .i64) ZbZ,.c (.i .i64) Zdp,.c .l ZbD] false
@[simp] def ZgK:R1:=.c (.i .i64) ZbB
@[simp] def Zaz:R1:=.c (.i .i64) (.u 1 4 Zb)
@[simp] def ZbE:R1:=.c (.i .i64) (.u 1 5 Zb)
@[simp] def ZaA:R1:=.c (.i .i64) (.u 1 6 Zb)
@[simp] def ZdR:T:=.u 1 7 Zb
@[simp] def Zio:R1:=.c (.i .i64) (.u 1 8 Zb)
@[simp] def Zip:qx:=.box [ZgK,.c .l (.u 1 1 Zb),.c .l (.u 1 2 Zb),.c .l (.u 1 3 Zb),Zaz,ZbE,ZaA,.c (.i .i64) ZdR,Zio,.c .l (.u 1 9 Zb)] false
@[simp] def ZdS:qx:=.box [Zq,.nil,.nil,.nil,Zq,Zq,Zq,Zq,Zq,.nil,Zq] false
@[simp] def Ziq:R1:=.c (.i .i64) (.w 27 ZcH (.u 1 4 Zb))
@[simp] def Zir:R1:=.c (.i .i64) (.w 26 ZcI (.u 1 5 Zb))
@[simp] def Zis:R1:=.c (.i .i64) (.w 26 ZcJ (.u 1 6 Zb))
@[simp] def Zit:R1:=.c (.i .i64) (.w 27 ZbZ ZdR)
@[simp] def Ziu:R1:=.c (.i .i64) (.w 26 Zdp (.u 1 8 Zb))
@[simp] def Ziv:F:=.bool (.w 12 ZcS ZaF) false
@[simp] def Zfe:Y:=qaN 301 301
@[simp] def ZdT:Y:=.l 301 Zfe
@[simp] def Zff:Y:=.l 301 ZbC
@[simp] def Zcb:T:=.u 1 10 Zb
@[simp] def ZcT:T:=.w 14 Zcb Za
@[simp] def ZcU:T:=.w 14 Zbj Za
@[simp] def ZcV:T:=.u 1 16 Zc
@[simp] def ZaG:T:=.u 0 0 ZcV
@[simp] def Ziw:qx:=.box [.c (.i .i64) Zbh,.c (.i .i64) Zdo,.c .l ZeK,.c (.i .i64) Zb0,.c .l ZcH,.c .l ZcI,.c .l ZcJ,.c (.i .i64) ZbZ,.c (.i .i64) Zdp,.c (.i .i64) ZbD,.c (.i .i64) (.u 1 10 Zc),.c (.i .i64) (.u 1 11 Zc),.c .l (.u 1 12 Zc),.c .l (.u 1 13 Zc),.c .l (.u 1 14 Zc),.c .l (.u 1 15 Zc),.c .l ZcV] false
@[simp] def Zfg:F:=.le ZaG ZbJ
@[simp] def Zfh:F:=.has Zc Zcg
@[simp] def Zix:F:=.bool (.w 12 Zab (.i 40)) false
@[simp] def ZgL:T:=.mk (.i .i64) ZbZ
@[simp] def ZgM:T:=.mk (.i .i64) Zdp
@[simp] def Ziy:T:=.mk (.i .i64) (.u 1 10 Zc)
@[simp] def Ziz:T:=.mk (.i .i64) (.u 1 11 Zc)
@[simp] def Zbm:T:=.u 2 0 (.w 4 Zgr (.w 4 (.mk (.i .i64) Zdo) (.w 4 (.mk .l ZeK) (.w 4 Zgs (.w 4 (.mk .l ZcH) (.w 4 (.mk .l ZcI) (.w 4 (.mk .l ZcJ) (.w 4 ZgL (.w 4 ZgM (.w 4 (.mk (.i .i64) ZbD) (.w 4 Ziy (.w 4 Ziz (.w 4 (.mk .l (.u 1 12 Zc)) (.w 4 (.mk .l (.u 1 13 Zc)) (.w 4 (.mk .l (.u 1 14 Zc)) (.w 4 (.mk .l (.u 1 15 Zc)) (.w 4 (.mk .l ZcV) .z)))))))))))))))))
@[simp] def Zfi:T:=.mk (.i .i64) Zf
@[simp] def ZiA:T:=.mk (.i .i64) (.w 3 ZcV Zf)
@[simp] def Zal:T:=.u 3 16 (.w 4 Zfi (.w 4 ZiA .z))
@[simp] def ZiB:T:=.w 4 (.u 2 0 (.w 4 (.mk (.i .u8) (.u 1 0 Zal)) (.w 4 (.mk (.i .u8) (.u 1 1 Zal)) (.w 4 (.mk (.i .u8) (.u 1 2 Zal)) (.w 4 (.mk (.i .u8) (.u 1 3 Zal)) (.w 4 (.mk (.i .u8) (.u 1 4 Zal)) (.w 4 (.mk (.i .u8) (.u 1 5 Zal)) (.w 4 (.mk (.i .u8) (.u 1 6 Zal)) (.w 4 (.mk (.i .u8) (.u 1 7 Zal)) (.w 4 (.mk (.i .u8) (.u 1 8 Zal)) (.w 4 (.mk (.i .u8) (.u 1 9 Zal)) (.w 4 (.mk (.i .u8) (.u 1 10 Zal)) (.w 4 (.mk (.i .u8) (.u 1 11 Zal)) (.w 4 (.mk (.i .u8) (.u 1 12 Zal)) (.w 4 (.mk (.i .u8) (.u 1 13 Zal)) (.w 4 (.mk (.i .u8) (.u 1 14 Zal)) (.w 4 (.mk (.i .u8) (.u 1 15 Zal)) .z))))))))))))))))) .z
@[simp] def ZiC:T:=.u 3 28 (.w 4 Zbm (.w 4 .z .z))
@[simp] def Zfj:T:=.mk (.i .i64) ZaG
@[simp] def Zam:T:=.u 3 18 (.w 4 Zbm .z)
@[simp] def ZgN:T:=.u 2 0 (.w 4 (.mk (.i .u8) (.u 1 0 Zam)) (.w 4 (.mk (.i .u8) (.u 1 1 Zam)) (.w 4 (.mk (.i .u8) (.u 1 2 Zam)) (.w 4 (.mk (.i .u8) (.u 1 3 Zam)) (.w 4 (.mk (.i .u8) (.u 1 4 Zam)) (.w 4 (.mk (.i .u8) (.u 1 5 Zam)) (.w 4 (.mk (.i .u8) (.u 1 6 Zam)) (.w 4 (.mk (.i .u8) (.u 1 7 Zam)) (.w 4 (.mk (.i .u8) (.u 1 8 Zam)) (.w 4 (.mk (.i .u8) (.u 1 9 Zam)) (.w 4 (.mk (.i .u8) (.u 1 10 Zam)) (.w 4 (.mk (.i .u8) (.u 1 11 Zam)) (.w 4 (.mk (.i .u8) (.u 1 12 Zam)) (.w 4 (.mk (.i .u8) (.u 1 13 Zam)) (.w 4 (.mk (.i .u8) (.u 1 14 Zam)) (.w 4 (.mk (.i .u8) (.u 1 15 Zam)) .z))))))))))))))))
@[simp] def ZiD:List (Nat×List T):=[(28,[Zbm,.z]),(18,[Zbm]),(29,[Zfj,.z,.z,.mk .l (.u 1 0 ZiC),ZgN])]
@[simp] def ZiE:List T:=[Ze,Zc,Zb,Zd,.t true,Za]
@[simp] def ZgO:T:=.mk (.i .i64) ZD
@[simp] def ZiF:T:=.mk (.i .i64) (.w 3 ZcV ZD)
@[simp] def ZiG:T:=.w 8 Zf (.u 0 0 (.w 4 ZgO .z))
@[simp] def Zan:T:=.u 3 16 (.w 4 ZgO (.w 4 ZiF .z))
@[simp] def ZiH:T:=.w 4 (.u 2 0 (.w 4 (.mk (.i .u8) (.u 1 0 Zan)) (.w 4 (.mk (.i .u8) (.u 1 1 Zan)) (.w 4 (.mk (.i .u8) (.u 1 2 Zan)) (.w 4 (.mk (.i .u8) (.u 1 3 Zan)) (.w 4 (.mk (.i .u8) (.u 1 4 Zan)) (.w 4 (.mk (.i .u8) (.u 1 5 Zan)) (.w 4 (.mk (.i .u8) (.u 1 6 Zan)) (.w 4 (.mk (.i .u8) (.u 1 7 Zan)) (.w 4 (.mk (.i .u8) (.u 1 8 Zan)) (.w 4 (.mk (.i .u8) (.u 1 9 Zan)) (.w 4 (.mk (.i .u8) (.u 1 10 Zan)) (.w 4 (.mk (.i .u8) (.u 1 11 Zan)) (.w 4 (.mk (.i .u8) (.u 1 12 Zan)) (.w 4 (.mk (.i .u8) (.u 1 13 Zan)) (.w 4 (.mk (.i .u8) (.u 1 14 Zan)) (.w 4 (.mk (.i .u8) (.u 1 15 Zan)) .z))))))))))))))))) .z
@[simp] def ZdU:T:=.w 6 Zf (.w 7 Za Z9)
@[simp] def ZgP:T:=.w 6 Zs (.w 7 Za Z2)
@[simp] def ZiI:T:=.u 3 28 (.w 4 Zbm (.w 4 ZdU .z))
@[simp] def ZiJ:List (Nat×List T):=[(28,[Zbm,ZdU]),(18,[Zbm]),(29,[Zfj,ZdU,ZgP,.mk .l (.u 1 0 ZiI),ZgN])]
@[simp] def ZgQ:T:=.w 3 Zd Zj
@[simp] def ZiK:T:=.u 1 1 (.u 3 28 (.w 4 Zbm (.w 4 (.mk .l Zd) .z)))
@[simp] def Zfk:F:=.le Zd Zt
@[simp] def ZiL:F:=.nle (.w 0 Za ZX) ZO
@[simp] def ZbF:T:=.w 0 Zc Zg
@[simp] def Zz:T:=.mk (.i .u8) Za
@[simp] def ZgR:T:=.w 4 Zz (.w 4 Zz (.w 4 Zz (.w 4 Zz (.w 4 Zz (.w 4 Zz (.w 4 Zz (.w 4 Zz (.w 4 Zz (.w 4 Zz (.w 4 Zz (.w 4 Zz (.w 4 Zz (.w 4 Zz (.w 4 Zz (.w 4 Zz .z)))))))))))))))
@[simp] def ZiM:T:=.mk (.i .i64) (.w 3 Zd2 Zc)
@[simp] def Zao:T:=.u 3 16 (.w 4 Zbi (.w 4 ZiM .z))
@[simp] def ZgS:List (Nat×R.RV):=[(0,.o (.c .l Ze)),(1,.o (.c .l Zc)),(5,Zbr)]
@[simp] def ZcW:T:=.mk (.i .u32) Ze
@[simp] def ZiN:T:=.mk (.i .i64) (.u 5 0 (.u 9 0 Zc))
@[simp] def ZiO:T:=.mk (.i .i64) (.u 5 0 (.u 9 0 Zb))
@[simp] def ZiP:T:=.mk (.i .i64) (.u 5 0 (.u 9 0 Zd))
@[simp] def ZiQ:List Y:=[qFR 140737488355328 140737488355328]
@[simp] def ZiR:T:=.u 3 222 (.w 4 Zax (.w 4 Zf6 (.w 4 ZbQ .z)))
@[simp] def ZdV:F:=.nle Zi Z8
@[simp] def ZiS:T:=.u 2 0 (.w 4 Zem (.w 4 Zem Zhr))
@[simp] def ZgT:T:=.u 3 217 (.w 4 Zax (.w 4 Z7 (.w 4 ZbQ .z)))
@[simp] def ZiT:T:=.w 4 (.mk .s (.u 16 0 (.w 6 (.w 9 Zau Za) (.w 7 (.w 8 Za Za) (.w 4 (.mk (.i .u8) Z3) (.w 4 (.mk (.i .u8) ZaR) (.w 4 (.mk (.i .u8) ZaC) (.w 4 (.mk (.i .u8) Zbd) (.w 4 (.mk (.i .u8) Zcm) (.w 4 (.mk (.i .u8) Zcn) (.w 4 (.mk (.i .u8) Zco) (.w 4 (.mk (.i .u8) Zc6) (.w 4 (.mk (.i .u8) Zcp) (.w 4 (.mk (.i .u8) ZaD) (.w 4 (.mk (.i .u8) Zbe) (.w 4 (.mk (.i .u8) Zcq) (.w 4 (.mk (.i .u8) (.u 1 12 Ze)) (.w 4 (.mk (.i .u8) (.u 1 13 Ze)) (.w 4 (.mk (.i .u8) (.u 1 14 Ze)) (.w 4 (.mk (.i .u8) (.u 1 15 Ze)) .z)))))))))))))))))))) (.w 4 (.mk .s (.u 16 0 (.w 6 (.w 9 Zau Za) (.w 7 (.w 8 Za Za) (.w 4 (.mk (.i .u8) Zbh) (.w 4 (.mk (.i .u8) Zdo) (.w 4 (.mk (.i .u8) ZeK) (.w 4 (.mk (.i .u8) Zb0) (.w 4 (.mk (.i .u8) ZcH) (.w 4 (.mk (.i .u8) ZcI) (.w 4 (.mk (.i .u8) ZcJ) (.w 4 (.mk (.i .u8) ZbZ) (.w 4 (.mk (.i .u8) Zdp) (.w 4 (.mk (.i .u8) ZbD) (.w 4 (.mk (.i .u8) (.u 1 10 Zc)) (.w 4 (.mk (.i .u8) (.u 1 11 Zc)) (.w 4 (.mk (.i .u8) (.u 1 12 Zc)) (.w 4 (.mk (.i .u8) (.u 1 13 Zc)) (.w 4 (.mk (.i .u8) (.u 1 14 Zc)) (.w 4 (.mk (.i .u8) (.u 1 15 Zc)) .z)))))))))))))))))))) .z)
@[simp] def Zap:T:=.u 3 50 (.w 4 (.mk (.i .i64) (.i 31)) (.w 4 ZiT .z))
@[simp] def ZiU:F:=.ifF (.rows 2 Zc Zi Zg) (.le Zb Za)
@[simp] def ZiV:T:=.mk .l (.u 3 109 (.w 4 Zax Zed))
@[simp] def Zaq:T:=.u 3 108 (.w 4 ZiV .z)
@[simp] def Zfl:qx:=.box [.nil,.nil,.c .b (.t false),Zq] false
@[simp] def Zfm:F:=.bool (.w 14 Zt Za) false
@[simp] def ZiW:F:=.nle (.w 8 Za Zb) Z4
@[simp] def ZiX:F:=.and Zhf (.and Zea (.nle Zw ZaF))
@[simp] def ZgU:F:=.rows 0 Zc Zi Z3
@[simp] def ZcX:Y:=.l 8 Ys
@[simp] def ZgV:F:=.has Zc ZcX
@[simp] def ZdW:T:=.mk .l Ze
@[simp] def ZiY:F:=.bool (.w 12 Za Za) false
@[simp] def ZbG:Y:=.l 2199023255552 .y8
@[simp] def Zfn:F:=.le Zi (.w 2 ZL (.w 100 Zi ZL))
@[simp] def ZgW:T:=.w 0 (.w 2 ZL (.w 100 (.w 0 ZX (.i 7)) ZL)) (.i 56)
@[simp] def ZiZ:T:=.u 5 3 (.w 2 Z8 (.u 5 3 Zt))
@[simp] def Zfo:T:=.w 1 ZX Zd
@[simp] def Zi0:T:=.w 0 (.w 2 ZL (.w 100 Zfo ZL)) (.i 56)
@[simp] def ZgX:T:=.w 4 (.mk (.i .u8) (.i 128)) .z
@[simp] def Zi1:T:=.w 8 (.w 8 Za Zt) (.u 0 0 ZgX)
@[simp] def Zi2:T:=.w 8 Zc (.u 0 0 (.w 4 Zz .z))
@[simp] def Zi3:T:=.w 4 (.mk (.i .u8) (.u 5 1 (.w 133 ZiZ (.w 1 (.i 56) (.w 2 Z8 Zd))))) .z
@[simp] def ZgY:F:=.and (.le Za Z3) (.le Z3 ZaF)
@[simp] def Zi4:T:=.u 2 0 (.w 4 Zgr (.w 4 (.mk .l Zdo) (.w 4 (.mk .l ZeK) (.w 4 (.mk .l Zb0) (.w 4 (.mk (.i .i64) ZcH) (.w 4 (.mk (.i .i64) ZcI) (.w 4 (.mk (.i .i64) ZcJ) (.w 4 ZgL (.w 4 ZgM (.w 4 (.mk .l ZbD) .z))))))))))
@[simp] def Zi5:qx:=.box [Zl,Zl,Zl,Zl,Zl,Zl,Zl,Zl,Zl,Zl,Zl,Zl,Zl,Zl,Zl,Zl,Zl,Zl,Zl,Zl,Zl,Zl,Zl,Zl,Zl,Zl,Zl,Zl,Zl,Zl,Zl,Zl,Zl,Zl,Zl,Zl,Zl,Zl,Zl,Zl,Zl,Zl,Zl,Zl,Zl,Zl,Zl,Zl,Zl,Zl,Zl,Zl,Zl,Zl,Zl,Zl,Zl,Zl,Zl,Zl,Zl,Zl,Zl,Zl] false
@[simp] def ZgZ:List qx:=[Zi5,.arr 64 (.i .u32) Zb false]
@[simp] def Zg0:List Y:=[ZbG,.i .i64,Zev]
@[simp] def Zcc:T:=.w 2 Z0 Zc
@[simp] def Zg1:T:=.w 6 (.w 9 (.w 0 Zcc Z0) Zcc) (.w 7 Zcc Ze)
@[simp] def Zfp:T:=.w 10 Zc Zau
@[simp] def Zn:T:=.mk (.i .u32) Za
@[simp] def Zi6:T:=.w 3 Zb (.w 1 Zc (.i 15))
@[simp] def ZbH:T:=.mk (.i .u32) Zi6
@[simp] def Zi7:T:=.mk (.i .i64) (.i (-7))
@[simp] def Zi8:T:=.mk (.i .i64) (.i (-18))
@[simp] def Zi9:T:=.w 3 Zb (.w 1 Zc ZY)
@[simp] def ZbI:T:=.mk (.i .u32) Zi9
@[simp] def Zja:T:=.mk (.i .i64) (.i (-17))
@[simp] def Zjb:T:=.mk (.i .i64) (.i (-19))
@[simp] def Zjc:T:=.w 3 Zb (.w 1 Zc Zau)
@[simp] def Zjd:T:=.w 3 Zb (.w 1 Zc (.i 7))
@[simp] def ZA:T:=.u 3 190 (.w 4 ZdW .z)
@[simp] def Zje:T:=.mk (.i .u8) (.w 3 Zd Za)
@[simp] def Zjf:T:=.mk (.i .u8) (.w 3 Zd Zg)
@[simp] def Zjg:T:=.mk (.i .u8) (.w 3 Zd ZY)
@[simp] def Zjh:T:=.mk (.i .u8) (.w 3 Zd Zad)
@[simp] def Zji:T:=.mk (.i .u8) (.w 3 Zd Z0)
@[simp] def Zjj:T:=.mk (.i .u8) (.w 3 Zd (.i 5))
@[simp] def Zjk:T:=.mk (.i .u8) (.w 3 Zd (.i 6))
@[simp] def Zjl:T:=.mk (.i .u8) (.w 3 Zd (.i 7))
@[simp] def Zjm:T:=.mk (.i .u8) (.w 3 Zd Z8)
@[simp] def Zjn:T:=.mk (.i .u8) (.w 3 Zd (.i 9))
@[simp] def Zjo:T:=.mk (.i .u8) (.w 3 Zd Zbn)
@[simp] def Zjp:T:=.mk (.i .u8) (.w 3 Zd (.i 11))
@[simp] def Zjq:T:=.mk (.i .u8) (.w 3 Zd (.i 12))
@[simp] def Zjr:T:=.mk (.i .u8) (.w 3 Zd (.i 13))
@[simp] def Zjs:T:=.mk (.i .u8) (.w 3 Zd (.i 14))
@[simp] def Zjt:T:=.mk (.i .u8) (.w 3 Zd (.i 15))
@[simp] def Zfq:T:=.u 0 0 ZdR
@[simp] def ZdX:qx:=.box [ZgK,.c (.i .i64) (.u 1 1 Zb),.c (.i .i64) (.u 1 2 Zb),.c (.i .i64) (.u 1 3 Zb),Zaz,ZbE,ZaA,.c .l ZdR,.c .l (.u 1 8 Zb)] false
@[simp] def ZdY:qx:=.box [Zq,.nil,.nil,.nil,Zq,Zq,Zq,Zq,Zq,.nil] false
@[simp] def ZdZ:R1:=.c (.i .i64) Zg
@[simp] def Zfr:T:=.w 8 Za Zfq
@[simp] def Zd0:R1:=.sl 4 1 Za Zfr Zfr false
@[simp] def Zd1:R1:=.sl 5 1 Za Zfr Zfr false
@[simp] def Za9:qx:=.dat 1 ZdR false
@[simp] def Zju:List qx:=[Zp,ZdX,ZdY,.box [ZdZ,Zd0,Zd1,.nil,Zaz,Zaz,ZbE,ZaA,ZaA,.nil] false,Za9,Za9]
@[simp] def Zfs:F:=.bool (.w 11 Zfq Za) false
@[simp] def Zjv:R1:=.sl 6 2 Za Zf Zj false
@[simp] def Zjw:List (Nat×R.RV):=[(3,Zc4),(5,ZbL),(6,ZbT),(7,.o (.pt 3 0 Za 0)),(10,Zbc)]
@[simp] def Zjx:List (Nat×R.RV):=[(3,Zc4),(5,ZbL),(6,ZbT),(7,.o (.pt 3 0 Za 0)),(10,Zbb)]
@[simp] def Zft:Y:=.l 140737488355328 Zac
@[simp] def Zjy:T:=.w 4 (.mk (.i .i64) (.w 1 ZeM Zdb)) .z
@[simp] def Zjz:T:=.w 4 (.mk (.i .i64) (.w 1 (.w 3 Ze Zf) (.w 3 Zc Zf))) .z
@[simp] def Zfu:qx:=.box [Zr,Zr,Zr,Zr,Zr,Zr,Zr,Zr,Zr,Zr,Zr,Zr,Zr,Zr,Zr,Zr,Zr,Zr,Zr,Zr,Zr,Zr,Zr,Zr,Zr,Zr,Zr,Zr,Zr,Zr,Zr,Zr] false
@[simp] def Zg2:F:=.le Zb (.w 2 ZL (.w 100 Zb ZL))
@[simp] def Zg3:T:=.w 1 (.w 0 Zi ZL) Zb
@[simp] def ZjA:T:=.mk .l (.w 6 (.w 9 (.w 0 Zb ZL) Zb) (.w 7 Zb Zc))
@[simp] def Zo:T:=.u 3 282 (.w 4 ZjA .z)
@[simp] def Zg4:T:=.w 3 Zs Z0
@[simp] def Zcd:T:=.mk (.i .u32) Zg4
@[simp] def Zce:T:=.mk (.i .u32) ZeO
@[simp] def ZjB:T:=.u 5 2 (.w 0 (.u 5 2 (.w 0 (.u 5 2 (.w 0 (.u 5 2 (.w 0 (.w 3 Zs (.i 7)) (.w 162 (.w 162 (.u 3 283 (.w 4 Zcd (.w 4 Zex .z))) (.u 3 283 (.w 4 Zcd (.w 4 Zey .z)))) (.u 3 283 (.w 4 Zcd (.w 4 Zf9 .z)))))) (.w 162 (.w 142 Zg4 (.w 3 Zs (.i 5))) (.w 142 (.w 162 Zg4 (.i 4294967295)) (.w 3 Zs (.i 6)))))) (.w 3 ZhD Zd))) (.w 3 Zj Zd))
@[simp] def Zg5:T:=.w 3 Zs Zg
@[simp] def Zg6:T:=.w 3 Zs ZY
@[simp] def Zg7:T:=.u 0 0 (.u 1 9 ZeM)
@[simp] def Zg8:T:=.u 0 0 (.u 1 3 ZeM)
@[simp] def ZjC:F:=.imp Zb (.nle Zg ZaG)
@[simp] def ZjD:T:=.w 4 (.mk (.i .i64) Zc2) .z
@[simp] def Zg9:T:=.w 3 Ze Zj
@[simp] def ZjE:T:=.w 4 (.mk (.i .i64) Zg9) .z
@[simp] def ZcY:Y:=.l 8192 Zcf
@[simp] def Zfv:T:=.w 0 Zt Zi
end Go.Aev.R29
end
