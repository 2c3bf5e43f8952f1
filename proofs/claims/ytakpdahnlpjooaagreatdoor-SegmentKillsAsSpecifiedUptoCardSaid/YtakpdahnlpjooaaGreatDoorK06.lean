/- Lemmas: a machine that the model follows, and contracts. Conditions: none. -/
import Derived.Test.YtakpdahnlpjooaaGreatDoorK05
import Derived.Laws.StructEq
set_option linter.all false
set_option maxRecDepth 1000000
set_option maxHeartbeats 0
noncomputable section
namespace Go.Aev
variable [Glob]
section
def qcr (z:Ty) (xs:List D) (off:Nat):Option D :=
 if z.agg then(if off+z.size<=xs.length then some (.agg ((xs.drop off).take z.size))else none)else xs[off]?
def qeP (eq:D->D->Option Bool) (z:Ty) (xs ys:List D):List Nat->Option Bool
 | []=>some true|i::is=>match qcr z xs (i*z.size),qcr z ys (i*z.size)with
  | some a,some b=>match eq a b with
   | some true=>qeP eq z xs ys is|some false=>some false|none=>none
  | _,_=>none
def qhD (T:TypeId->Option Ty) (eq:TypeId->D->D->Option Bool) (xs ys:List D):List Field->Option Bool
 | []=>some true|f::fs=>if f.name = "_" then none else match T f.type with
  | some z=>match qcr z xs f.offset,qcr z ys f.offset with
   | some a,some b=>match eq f.type a b with
    | some true=>qhD T eq xs ys fs|some false=>some false|none=>none
   | _,_=>none
  | none=>none
def eqD (T:TypeId->Option Ty):Nat->TypeId->D->D->Option Bool
 | 0,_,_,_=>none|n+1,t,x,y=>match T t with
  | some z=>if Y2 z.desc x then qa3 x y else match z.desc with
   | .array m e=>match T e,x,y with
    | some ze,.agg xs,.agg ys=>qeP (eqD T n e) ze xs ys (List.range m)|_,_,_=>none
   | .struct fs=>if z.held then none else match x,y with
    | .agg xs,.agg ys=>qhD T (eqD T n) xs ys fs.toList|_,_=>none
   | _=>none
  | none=>none
def eqG (T:TypeId->Option Ty):Nat->TypeId->Bool
 | 0,_=>false|n+1,t=>match T t with
  | some z=>match z.desc with
   | .array _ e=>eqG T n e|.struct fs=>fs.toList.all fun f=>eqG T n f.type
   | .int _ | .bool | .string=>true|_=>false
  | none=>false
def qdI (T:TypeId->Option Ty) (op:BinOp) (t:TypeId) (x y:V):Option V :=
 match x,y with
 | .d (.agg xs),.d (.agg ys)=>if eqG T 16 t then match eqD T 16 t (.agg xs) (.agg ys),op with
   | some b,.eql=>some (.d (.bool b))|some b,.neq=>some (.d (.bool (!b)))|_,_=>none
  else none
 | _,_=>none
variable {P:Program} {T:TypeId->Option Ty} {w0:World} {own:Own} {m:Mp} {S:Nat->Prop} {w:World} {rows:Rows} {g:qq}
def qj1 {t:TypeId} {z:Ty} {xs:List D} {off:Nat} {d:D} {A:Array Value} (hz:q8 P t=some z) (h:qcr z xs off=some d) (hx:RD S w (.agg xs) (.agg A)) :
  ∃u,(part t A off).run P w=.ok u w/\RD S w d u:=by
 have h':qdL z (.d (.agg xs)) off=some (.d d):=by
  unfold qcr at h;unfold qdL;simp only;split at h
  ·rename_i ha;rw[if_pos ha];split at h
   ·rename_i hl; cases h; rw[if_pos hl]
   ·cases h
  ·rename_i ha;rw[if_neg ha,h]
 obtain⟨cs,e,u,h1,h2⟩:=qpX (m:=fun _=>none) (S:=S) (w:=w) (P:=P) hz h' (.d _ _ hx);cases e;exact⟨u,h1,Yh h2⟩
def quW {n:Nat} {e:TypeId} {z:Ty} {eq:D->D->Option Bool} (hz:q8 P e=some z) (he:∀x y b u v,eq x y=some b->RD S w x u->RD S w y v->(Op.equalIn n e u v).run P w=.ok b w) {xs ys:List D} {A B:Array Value}
  (hx:RD S w (.agg xs) (.agg A)) (hy:RD S w (.agg ys) (.agg B)):∀{is:List Nat} {b:Bool},qeP eq z xs ys is=some b->(Op.eqItems n e z.size A B is).run P w=.ok b w
 | [],b,h=>by simp only[qeP,qT4]at h; subst h; simp[Op.eqItems]
 | i::is,b,h=>by
  simp only[qeP]at h;split at h
  ·rename_i a c ha hc;obtain⟨u,u1,u2⟩:=qj1 hz ha hx;obtain⟨v,v1,v2⟩:=qj1 hz hc hy;split at h
   ·rename_i hq;simp only[Op.eqItems,Sem.run_bind,u1,v1,he _ _ _ _ _ hq u2 v2,Result.andThen_ok,qUP,qUW,if_false];exact quW hz he hx hy h
   ·rename_i hq;cases h;simp only[Op.eqItems,Sem.run_bind,u1,v1,he _ _ _ _ _ hq u2 v2,Result.andThen_ok,qVa,if_true,Sem.run_pure]
   ·cases h
  ·cases h
def quX (hT:TOK P T) {n:Nat} {eq:TypeId->D->D->Option Bool} (he:∀e x y b u v,eq e x y=some b->RD S w x u->RD S w y v->(Op.equalIn n e u v).run P w=.ok b w) {xs ys:List D} {A B:Array Value}
  (hx:RD S w (.agg xs) (.agg A)) (hy:RD S w (.agg ys) (.agg B)):∀{fs:List Field} {b:Bool},qhD T eq xs ys fs=some b->(Op.eqFields n A B fs).run P w=.ok b w
 | [],b,h=>by simp only[qhD,qT4]at h; subst h; simp[Op.eqFields]
 | f::fs,b,h=>by
  simp only[qhD]at h;split at h
  ·cases h
  ·rename_i hnm;split at h
   ·rename_i z hz;split at h
    ·rename_i a c ha hc;obtain⟨u,u1,u2⟩:=qj1 (hT _ z hz) ha hx;obtain⟨v,v1,v2⟩:=qj1 (hT _ z hz) hc hy;have hnm':f.name ≠ "_":=hnm;split at h
     ·rename_i hq;simp only[Op.eqFields];rw[if_pos hnm'];simp only[Sem.run_bind,u1,v1,he _ _ _ _ _ _ hq u2 v2,Result.andThen_ok,qUP,qUW,if_false];exact quX hT he hx hy h
     ·rename_i hq;cases h;simp only[Op.eqFields];rw[if_pos hnm'];simp only[Sem.run_bind,u1,v1,he _ _ _ _ _ _ hq u2 v2,Result.andThen_ok,qVa,if_true,Sem.run_pure]
     ·cases h
    ·cases h
   ·cases h
def qj2 (hT:TOK P T):∀{n:Nat} {t:TypeId} {x y:D} {b:Bool} {u v:Value} {k:Nat},eqD T n t x y=some b->RD S w x u->RD S w y v->(Op.equalIn (n+k) t u v).run P w=.ok b w
 | 0,t,x,y,b,u,v,k,h,_,_=>by simp[eqD]at h
 | n+1,t,x,y,b,u,v,k,h,hu,hv=>by
  have hk:n+1+k=(n+k)+1:=by omega
  rw[hk];simp only[eqD]at h;split at h
  ·rename_i z hz;have hz':=hT t z hz;split at h
   ·rename_i ha;exact qo8 hz' (qf6 h ha hu hv)
   ·split at h
    ·rename_i m e hd;split at h
     ·rename_i ze xs ys hze _;obtain⟨A,rfl,_,_⟩:=qbS hu;obtain⟨B,rfl,_,_⟩:=qbS hv;obtain⟨hund,_⟩:=Jk hz';rw[hd]at hund;obtain⟨_,i,hi,hi1,_,_⟩:=Jk (hT e ze hze);have hc:P.cellsOf e=ze.size:=by simp[Program.cellsOf,hi,hi1]
      rw[run_equalIn_array w (n+k) A B hund hi,hc];exact quW (hT e ze hze) (fun x y b u v h hu hv=>qj2 hT h hu hv) hu hv h
     ·cases h
    ·rename_i fs hd;split at h
     ·cases h
     ·rename_i hheld;split at h
      ·rename_i xs ys;obtain⟨A,rfl,_,_⟩:=qbS hu;obtain⟨B,rfl,_,_⟩:=qbS hv;obtain⟨hund,_⟩:=Jk hz';rw[hd]at hund;have hfs:P.fieldsOf t=fs:=by simp[Program.fieldsOf,hund]
       have hst:P.stoodInHeld t=false:=by rw[<-qEo hz']; simpa using hheld
       rw[run_equalIn_struct w (n+k) t A B (by rw[hfs]; exact hund) hst,hfs];exact quX hT (fun e x y b u v h hu hv=>qj2 hT h hu hv) hu hv h
      ·cases h
    ·cases h
  ·cases h
def qo0 (hT:TOK P T):∀{n:Nat} {t:TypeId} {k:Nat},eqG T n t=true->P.eqGuardType (n+k) t=false
 | 0,t,k,h=>by simp[eqG]at h
 | n+1,t,k,h=>by
  have hk:n+1+k=(n+k)+1:=by omega
  rw[hk];simp only[eqG]at h;split at h
  ·rename_i z hz;obtain⟨hund,_⟩:=Jk (hT t z hz);simp only[Program.eqGuardType,hund];split at h
   ·rename_i m e hd; rw[hd]; exact qo0 hT h
   ·rename_i fs hd;rw[hd];simp only[Array.any_eq_false];intro i hi;have hm:fs[i]∈fs.toList:=by simp
    have:=(qTI.1 h) _ hm;simp[qo0 hT (k:=k) this]
   ·rename_i hd; rw[hd]
   ·rename_i hd; rw[hd]
   ·rename_i hd; rw[hd]
   ·cases h
  ·cases h
def qCN (hT:TOK P T) {op:BinOp} {t:TypeId} {x y v:V} {xr yr:Value} {xo yo:Operand} (h:qdI T op t x y=some v) (hx:RV m S w x xr) (hy:RV m S w y yr) :
  ∃u,(do eqGuard op t xo yo xr yr; binOp op t xr yr:Sem Value).run P w=.ok u w/\RV m S w v u:=by
 unfold qdI at h;split at h
 ·rename_i xs ys;split at h
  ·rename_i hg;have hx':=Yh hx;have hy':=Yh hy;obtain⟨A,rfl,_,_⟩:=qbS hx';obtain⟨B,rfl,_,_⟩:=qbS hy';have hgt:P.eqGuardType P.depth t=false:=by
    have:P.depth=16+(2*(P.types.size+Made.depth)+2 - 16):=by
     unfold Program.depth Made.depth; omega
    rw[this];exact qo0 hT hg
   have hgr:=run_eqGuard_agg (P:=P) w op t xo yo A B hgt;split at h
   ·rename_i b hb;cases h;have:=qj2 (k:=9984) hT hb hx' hy';refine⟨.bool b,?_,.d _ _ (.bool b)⟩;simp only[Sem.run_bind,hgr,Result.andThen_ok,run_eql_struct];rw[show(10000:Nat)=16+9984 from rfl,this];rfl
   ·rename_i b hb;cases h;have:=qj2 (k:=9984) hT hb hx' hy';refine⟨.bool (!b),?_,.d _ _ (.bool _)⟩;simp only[Sem.run_bind,hgr,Result.andThen_ok,run_neq_struct];rw[show(10000:Nat)=16+9984 from rfl,this];rfl
   ·cases h
  ·cases h
 ·cases h
end
section
def qbX (g:qq) (k:Nat):V->Option (List V×Nat)
 | .sl r k' off len _ _=>match g r with
  | some (.box cs _)=>if k=k'/\(off+len)*k<=cs.length then some ((cs.drop (off*k)).take (len*k),len)else none
  | _=>none
 | _=>none
def qpn (T:TypeId->Option Ty) (g:qq) (slot:Nat) (t u:TypeId) (s x:V):Option Res :=
 match T t,T u with
 | some y,some yu=>match y.desc,yu.desc with
  | .slice e,.slice _=>match T e with
   | some z=>match qbX g z.size x with
    | some (xs,n) =>
     if 0<z.size/\0<n/\xs.all V.one then
      match s with
      | .nil=>if 2*n*z.bytes<=2 ^ 48/\n<=2 ^ 62 then some {v:=.sl slot z.size 0 n n false,fresh:=some (.box xs false)}else none
      | .sl r k off len c ex=>match g r with
       | some (.box cs ro) =>
        if k=z.size/\(off+len)*z.size<=cs.length then
         if len+n<=c then
          (if ro then none else some {v:=.sl r k off (len+n) c ex,ups:=[(r,.live (.box (Yi cs ((off+len)*z.size) xs) false))]})
         else if 2*(len+n)*z.bytes<=2 ^ 48/\len+n<=2 ^ 62 then
          (if ex then some {v:=.sl slot k 0 (len+n) (len+n) false,fresh:=some (.box ((cs.drop (off*z.size)).take (len*z.size)++xs) false)}
          else if ro then none
          else some {v:=.sl slot k 0 (len+n) (len+n) false,ups:=[(r,.dead)],fresh:=some (.box ((cs.drop (off*z.size)).take (len*z.size)++xs) false)})
         else none
        else none
       | _=>none
      | _=>none
     else none
    | none=>none
   | none=>none
  | _,_=>none
 | _,_=>none
variable {P:Program} {T:TypeId->Option Ty} {w0:World} {own:Own} {m:Mp} {S:Nat->Prop} {w:World} {rows:Rows} {g:qq}
def qvC {xs:List V} {f:Nat->Option Value} (h:∀(j:Nat) (x:V),xs[j]?=some x->∃v,f j=some v/\RV m S w x v) :
  ∃vs:List Value,vs.length=xs.length/\(∀(j:Nat) (v:Value),vs[j]?=some v->f j=some v)/\∀(j:Nat) (x:V) (v:Value),xs[j]?=some x->vs[j]?=some v->RV m S w x v:=by
 have key:∀j,j<xs.length->∃v,f j=some v/\RV m S w (xs.getD j .nil) v:=by
  intro j hj;have:xs[j]?=some (xs.getD j .nil):=by simp[List.getD,hj]
  exact h j _ this
 refine⟨(List.range xs.length).map fun j=>(f j).getD Go.undef,by simp,fun j v hv=>?_,fun j x v hx hv=>?_⟩
 ·have hj:=q7 hv;simp at hj;simp[hj]at hv;obtain⟨u,hu,_⟩:=key j hj;rw[hu]at hv ⊢;simpa using hv
 ·have hj:=q7 hx;simp[hj]at hv;obtain⟨u,hu,hr⟩:=h j x hx;rw[hu]at hv;simp at hv;rw[<-hv]; exact hr
def qvD {cs:List V} {k off len:Nat} (j:Nat) (x:V) (h:((cs.drop (off*k)).take (len*k))[j]?=some x):cs[off*k+j]?=some x:=by
 rw[qUh]at h;split at h
 ·rw[qUk]at h; exact h
 ·cases h
def qvE {cs:List V} {k off len:Nat} (h:(off+len)*k<=cs.length):((cs.drop (off*k)).take (len*k)).length=len*k:=by
 rw[qUf]at h;simp; omega
def qDH (hg:GOK g rows) (inv:Inv w0 own m S w rows) {k n:Nat} {x:V} {xs:List V} {xr:Value} {tx:TypeId} (hk:∃e',P.underlying tx=some (.slice e')) (h:qbX g k x=some (xs,n)) (hn:0<n) (hone:xs.all V.one=true) (hx:RV m S w x xr) :
  xs.length=n*k/\∃news,Src P k tx xr n news w/\(∀(j:Nat) (y:V) (v:Value),xs[j]?=some y->news[j]?=some v->RV m S w y v)/\news.length=n*k:=by
 unfold qbX at h;split at h
 ·rename_i r k' off len c ex;split at h
  ·rename_i cs ro hgr;split at h
   ·rename_i hcond;obtain⟨rfl,hle⟩:=hcond;cases h
    cases hx with
    | sl r k off len c ex b o c' p hm hl hc he hp hb =>
    obtain⟨ca,te,e1,e3⟩:=Y8 inv (hg r _ hgr) hm;have hp':p=some ⟨b,o+off*k,none⟩:=by
     rcases hp with hp|hp
     ·omega
     ·exact hp
    subst hp';have hlen:=qvE (k:=k) hle;obtain⟨vs,v1,v2,v3⟩:=qvC (m:=m) (S:=S) (w:=w) (xs:=(cs.drop (off*k)).take (n*k)) (f:=fun j=>cl w b (o+off*k+j)) (fun j x hj=>by
     obtain⟨v,hv,hr⟩:=e3 _ _ (qvD j x hj);exact⟨v,by rw[qaw e1,<-hv]; congr 1; omega,hr⟩)
    rw[hlen]at v1;have hc2:∀j u,vs[j]?=some u->w.cell? ((⟨b,o+off*k,none⟩:Addr).add j)=some u:=fun j u hu=>by rw[Jz]; exact v2 j u hu
    refine⟨hlen,vs,⟨.inl hk,fun _=>rfl,run_firstCells_some w k n _ n c' vs v1 hc2,run_firstCells_some w.drew k n _ n c' vs v1 (by simpa using hc2),v1,fun v hv=>?_⟩,v3,v1⟩;obtain⟨j,hj⟩:=qUS hv;have hj':j<((cs.drop (off*k)).take (n*k)).length:=by rw[hlen,<-v1]; exact q7 hj
    exact qjV (v3 j _ v (qTE hj') hj) ((qTI.1 hone) _ (qTL hj'))
   ·cases h
  ·cases h
 ·cases h
def qpo (inv:Inv w0 own m S w rows) {slot:Nat} (hs:Yn m rows slot) {t u ty e:TypeId} {i:TypeInfo} {z:Ty} (hz:q8 P e=some z) (ht:P.underlying t=some (.slice e))
  (hi:P.info? e=some i) (hi1:i.size=z.size) (hi2:i.bytes=z.bytes) (hi3:i.zero=some z.zero) {base:Option Addr} {c' len n:Nat} {xs0 xs:List V} {xr:Value} {news:List Value}
  (hl0:xs0.length=len*z.size)
  (hold:(len=0/\(base=none->c'=0))\/∃b o,base=some ⟨b,o,none⟩/\∀(j:Nat) (x:V),xs0[j]?=some x->∃v,cl w b (o+j)=some v/\RV m S w x v)
  (hl:xs.length=n*z.size) (hsrc:Src P z.size u xr n news w)
  (hrel:∀(j:Nat) (x:V) (v:Value),xs[j]?=some x->news[j]?=some v->RV m S w x v) (hnl:news.length=n*z.size) (hg:c'<len+n)
  (hb:2*(len+n)*z.bytes<=2 ^ 48) (h62:len+n<=2 ^ 62) :
  ∃v w' m',(Builtin.append_ #[t,u] ty #[.slice base len c',xr]).run P w=.ok v w'/\Inv w0 own m' S w' (qv rows slot (qc.live (.box (xs0++xs) false)))/\Ext m S w m' S w' /\
   RV m' S w' (.sl slot z.size 0 (len+n) (len+n) false) v:=by
 have hcap:Builtin.nextslicecap (len+n) c'*i.bytes<=281474976710656:=by
  have h1:=nextslicecap_le hg;rw[hi2];have:Builtin.nextslicecap (len+n) c'*z.bytes<=2*(len+n)*z.bytes:=qUp _ h1;omega
 have holds:∃olds:List Value,(Builtin.firstCells i.size len (.slice base len c')).run P w.drew=.ok olds.toArray w.drew/\olds.length=len*z.size /\
   ∀(j:Nat) (x:V) (v:Value),xs0[j]?=some x->olds[j]?=some v->RV m S w x v:=by
  rcases hold with⟨rfl,_⟩|⟨b,o,rfl,h3⟩
  ·refine⟨[],?_,by simp,fun j d v h h'=>by simp at h'⟩
   cases base with
   | none=>simp[Builtin.firstCells]|some a=>simp[Builtin.firstCells,loadCells,loadCellsFrom]
  ·obtain⟨vs,e1,e2,e3⟩:=qvC (f:=fun j=>cl w b (o+j)) h3;refine⟨vs,?_,by rw[e1,hl0],e3⟩;exact run_firstCells_some w.drew i.size len ⟨b,o,none⟩ len c' vs (by rw[e1,hl0,hi1]) (fun j v hj=>by rw[Jz]; exact e2 j v hj)
 obtain⟨olds,ho1,ho2,ho3⟩:=holds;rw[<-hi1]at hsrc;have hrun:=run_append_grow_src (P:=P) w t u ty e i z.zero ht hi hi3 base len c' olds ho1 xr n news hsrc hg (by omega) hcap;have hgc:=grownCap_ge w (len+n) c' e;obtain⟨k0,e0⟩:=inv.same (w':=w.drew) rfl rfl rfl rfl;have hfresh:=k0.fresh hs (.cells ((olds++news).toArray++Builtin.zeroCells z.zero.cells (grownCap w (len+n) c' e - (len+n))) e) (.box (xs0++xs) false) rfl (fun ext=>⟨_,e,qcu w.drew _,fun j x hj=>by
  have hjl:=q7 hj;rw[qTN]at hjl;rw[qT6,qU9 (by simp; omega)];simp only[qWe];rcases qTQ j olds.length with h1|h1
  ·rw[qTZ (by omega)]at hj;rw[qTZ h1];exact⟨olds[j],by simp,((ho3 j x _ hj (by simp)).ext e0).ext ext⟩
  ·rw[qT1 (by omega)]at hj;rw[qT1 h1];have e9:j - xs0.length=j - olds.length:=by rw[ho2,hl0]
   rw[e9]at hj;exact⟨news[j - olds.length]'(by omega),by simp,((hrel _ x _ hj (by simp)).ext e0).ext ext⟩⟩)
 obtain⟨k1,k2⟩:=hfresh;refine⟨_,_,_,hrun,k1,e0.trans k2,?_⟩;refine qeV (w:=w.drew) hgc hgc (by simp) ?_;have hzs:=qwo hz;rw[qV0,size_zeroCells,hzs];simp only[List.size_toArray,qTN,hnl,ho2];have:(len+n)*z.size<=grownCap w (len+n) c' e*z.size:=qUp _ hgc;rw[Nat.sub_mul,qUf]at *;omega
def qDI (hT:TOK P T) (hg:GOK g rows) (inv:Inv w0 own m S w rows) {slot:Nat} (hs:Yn m rows slot) {t u ty:TypeId} {s x:V} {sr xr:Value} {res:Res}
  (h:qpn T g slot t u s x=some res) (hsr:RV m S w s sr) (hx:RV m S w x xr) :
  qbV P w0 own m S w rows slot (Builtin.append_ #[t,u] ty #[sr,xr]) res:=by
 unfold qpn at h;split at h
 ·rename_i y yu hy hyu;split at h
  ·rename_i e e2 hde hde';obtain⟨ht,_⟩:=Jk (hT t y hy);obtain⟨htu0,_⟩:=Jk (hT u yu hyu);rw[hde]at ht;have htu:∃e',P.underlying u=some (.slice e'):=by rw[htu0,hde']; exact⟨_,rfl⟩
   split at h
   ·rename_i z hz;obtain⟨_,i,hi,hi1,hi2,hi3⟩:=Jk (hT _ z hz);split at h
    ·rename_i xs n hds;split at h
     ·rename_i hpre;obtain⟨hzp,hn,hone⟩:=hpre;obtain⟨hxl,news,hsrc,hrel,hnl⟩:=qDH (P:=P) hg inv htu hds hn hone hx;split at h
      ·cases hsr;split at h
       ·rename_i hcond;cases h;obtain⟨v,w',m',r1,r2,r3,r4⟩:=qpo (ty:=ty) inv hs (hT _ z hz) ht hi hi1 hi2 hi3 (base:=none) (c':=0) (len:=0) (xs0:=[]) (by simp)
         (.inl ⟨rfl,fun _=>rfl⟩) hxl hsrc hrel hnl (by omega) (by simpa using hcond.1) (by simpa using hcond.2)
        simp only[qT6,qUG]at r1 r2 r4;exact⟨v,w',m',S,r1,r2,r3,r4⟩
       ·cases h
      ·rename_i r k off len c ex;split at h
       ·rename_i cs ro hgr;have hr:=hg r _ hgr
        cases hsr with
        | sl r k off len c ex b o c' p hm hl hc he hp hb =>
        split at h
        ·rename_i hcond;obtain⟨rfl,hle⟩:=hcond;obtain⟨ca,te,hbk,hec⟩:=Y8 inv hr hm;have hbs:=qbW hbk;rw[hbs]at hb;have hsub:∀(j:Nat) (x:V),((cs.drop (off*z.size)).take (len*z.size))[j]?=some x->∃v,cl w b (o+off*z.size+j)=some v/\RV m S w x v:=by
          intro j x hj;obtain⟨v,hv,hrd⟩:=hec _ _ (qvD j x hj);exact⟨v,by rw[qaw hbk,<-hv]; congr 1; omega,hrd⟩
         have hlen:=qvE (k:=z.size) hle;have hp':0<c'->p=some ⟨b,o+off*z.size,none⟩:=fun hpos=>by
          rcases hp with hp|hp
          ·omega
          ·exact hp
         have hold:(len=0/\(p=none->c'=0))\/∃b o,p=some ⟨b,o,none⟩/\∀(j:Nat) (x:V),((cs.drop (off*z.size)).take (len*z.size))[j]?=some x->∃v,cl w b (o+j)=some v/\RV m S w x v:=by
          rcases qVC c' with h1|h1
          ·left; exact⟨by omega,fun _=>h1⟩
          ·right; exact⟨b,_,hp' h1,hsub⟩
         have room:len+n<=c'->∀{c2:Array Value},c2=(ca.toList.take (o+off*z.size+len*z.size)++news++ca.toList.drop (o+off*z.size+len*z.size+news.length)).toArray ->
           (Builtin.append_ #[t,u] ty #[.slice p len c',xr]).run P w=.ok (.slice p (len+n) c') (w.setRow b c2)/\o+off*z.size+len*z.size+news.length<=ca.size:=by
          intro hroom c2 hc2;have hfit:o+off*z.size+len*z.size+news.length<=ca.size:=by
           rw[hnl];have h1:(off+len+n)*z.size<=(off+c')*z.size:=qUp _ (by omega);rw[qUf,qUf]at h1;omega
          rw[hp' (by omega),hc2];rw[<-hi1]at hsrc hfit ⊢;exact⟨qvA ht hi hsrc hroom hbk hfit,hfit⟩
         split at h
         ·rename_i hroom;split at h
          ·cases h
          ·rename_i hro;cases h;have hro':ro=false:=by simpa using hro
           subst hro';obtain⟨hrun,hfit⟩:=room (by omega) rfl;have key:=inv.write (row':=.box (Yi cs ((off+len)*z.size) xs) false)
            (c':=(ca.toList.take (o+off*z.size+len*z.size)++news++ca.toList.drop (o+off*z.size+len*z.size+news.length)).toArray) hr hm rfl rfl hbk
            (qbu hfit) (fun e2=>by
             refine⟨_,te,setRow_heap w b ca _ te (0,0) hbk,?_⟩;have:=qc0 (R:=RV m S w) (R':=RV m S (w.setRow b (ca.toList.take (o+off*z.size+len*z.size)++news++ca.toList.drop (o+off*z.size+len*z.size+news.length)).toArray)) (pos:=(off+len)*z.size) (vs:=news) hec (fun d v hr=>hr.ext e2) (by rw[hnl,hxl]) (fun j d v hd hv=>(hrel j d v hd hv).ext e2)
              hle (by rw[qUf]; omega)
             rw[show o+(off+len)*z.size=o+off*z.size+len*z.size by rw[qUf]; omega]at this;exact this)
           refine⟨_,_,m,S,hrun,key.1,key.2,.sl r z.size off (len+n) c ex b o c' p hm (by omega) hc he hp ?_⟩;rw[qbW (setRow_heap w b ca _ te (0,0) hbk),qbu hfit];exact hb
         ·rename_i hroom;split at h
          ·rename_i hbytes;split at h
           ·rename_i hex;cases h;have hcc:=he hex;obtain⟨v,w',m',r1,r2,r3,r4⟩:=qpo (ty:=ty) inv hs (hT _ z hz) ht hi hi1 hi2 hi3 (base:=p) (c':=c') hlen hold hxl hsrc hrel hnl (by omega) hbytes.1 hbytes.2;exact⟨v,w',m',S,r1,r2,r3,r4⟩
           ·split at h
            ·cases h
            ·rename_i hro;cases h;have hro':ro=false:=by simpa using hro
             subst hro';have hl':=qbU hr;have kinv:=inv.kill r hl';have hne:r≠slot:=qvz inv hs hr;have hs':Yn m (qv rows r qc.dead) slot:=Yn.mk' kinv (by simp[qv,hl']; exact hs.le) hs.new;rcases qTQ c' (len+n)with hgr' | hgr'
             ·obtain⟨v,w',m',r1,r2,r3,r4⟩:=qpo (ty:=ty) kinv hs' (hT _ z hz) ht hi hi1 hi2 hi3 (base:=p) (c':=c') hlen hold hxl hsrc hrel hnl (by omega) hbytes.1 hbytes.2;exact⟨v,w',m',S,r1,r2,r3,r4⟩
             ·obtain⟨hrun,hfit⟩:=room hgr' rfl;have hother:∀(r':Nat) (row2:Row) (c2 o2:Nat),(qv rows r qc.dead)[r']?=some (qc.live row2)->m r'=some (c2,o2)->c2≠b:=by
               intro r' row2 c2 o2 h1 h2;rw[JJ (qUo hl')]at h1
               by_cases e:r'=r
               ·simp[e]at h1
               ·simp only[e,if_false]at h1;exact fun e2=>inv.apart r r' _ row2 b o c2 o2 (fun e3=>e e3.symm) hr h1 rfl hm h2 e2.symm
              have hnS:=inv.stab r _ b o hr rfl hm;obtain⟨k2,e2⟩:=kinv.scratch (w':=w.setRow b (ca.toList.take (o+off*z.size+len*z.size)++news++ca.toList.drop (o+off*z.size+len*z.size+news.length)).toArray) b (by simp) (fun c2 _ hne=>setRow_other w b c2 _ hne) hother hnS (inv.new r _ b o hr rfl hm)
               (by rw[hbs,qbW (setRow_heap w b ca _ te (0,0) hbk),qbu hfit]; exact qTF _) rfl rfl rfl
              have hext:Ext m S (w.setRow b (ca.toList.take (o+off*z.size+len*z.size)++news++ca.toList.drop (o+off*z.size+len*z.size+news.length)).toArray) (qU m slot (b,o+off*z.size)) S (w.setRow b (ca.toList.take (o+off*z.size+len*z.size)++news++ca.toList.drop (o+off*z.size+len*z.size+news.length)).toArray) :=
               ⟨fun r' p' e=>by
                unfold qU
                by_cases c:r'=slot
                ·subst c; rw[hs.new]at e; cases e
                ·rw[if_neg c]; exact e,fun _ h=>h,fun _ _=>rfl,fun _=>qTF _⟩
              obtain⟨k3,e3⟩:=k2.adopt slot (.box ((cs.drop (off*z.size)).take (len*z.size)++xs) false) b (o+off*z.size) hs'.le hs'.dead (.inl hs.new) hother hnS (by simp; exact inv.bnd r b o hm) (inv.new r _ b o hr rfl hm) rfl (by
               refine⟨_,te,setRow_heap w b ca _ te (0,0) hbk,?_⟩;have hfp:(cs.drop (off*z.size)).take (len*z.size)++xs=Yi ((cs.drop (off*z.size)).take (len*z.size)) (len*z.size) xs:=by
                unfold Yi;rw[qVZ (as:=(cs.drop (off*z.size)).take (len*z.size)) (by rw[hlen]; omega),qTX (l:=(cs.drop (off*z.size)).take (len*z.size)) (by rw[hlen]; exact qTF _),qT7]
               rw[hfp];exact qc0 (R:=RV m S w) (o:=o+off*z.size) (pos:=len*z.size) (vs:=news) (fun j d hj=>by obtain⟨v,hv,hr⟩:=hsub j d hj; rw[qaw hbk]at hv; exact⟨v,hv,hr⟩)
                (fun d v hr=>(hr.ext e2).ext hext) (by rw[hnl,hxl]) (fun j d v hd hv=>((hrel j d v hd hv).ext e2).ext hext) (by rw[hlen]; exact qTF _) hfit)
              refine⟨_,_,_,S,hrun,k3,e2.trans e3,?_⟩;refine .sl slot z.size 0 (len+n) (len+n) false b (o+off*z.size) c' p (by simp[qU]) hgr' hgr' (by simp) ?_ ?_
              ·right; rw[hp' (by omega)]; simp
              ·rw[qbW (setRow_heap w b ca _ te (0,0) hbk),qbu hfit,qT6];rw[qUf]at hb; omega
          ·cases h
        ·cases h
       ·cases h
      ·cases h
     ·cases h
    ·cases h
   ·cases h
  ·cases h
 ·cases h
def qpp (T:TypeId->Option Ty) (slot:Nat) (t u:TypeId) (s x:V):Option Res :=
 match T t,T u with
 | some y,some yu=>match s,x with
  | .nil,.d (.int _ n)=>match y.desc,yu.desc with
   | .slice e,.int _=>match T e with
    | some z=>match Js z.zero.cells.toList with
     | some zs=>match YS (fun _=>none) zs with
      | some (ds,_) =>
       if 0<n/\n<=2 ^ 62/\2*n.toNat*z.bytes<=2 ^ 48/\zs.length=z.size/\0<z.size then
        some {v:=.sl slot z.size 0 n.toNat n.toNat false,fresh:=some (.dat z.size (List.replicate n.toNat (JK z.agg ds)) false)}
       else none
      | none=>none
     | none=>none
    | none=>none
   | _,_=>none
  | _,_=>none
 | _,_=>none
def qvF {n:Int} (h0:0<=n) (h:n<=9223372036854775807):IntKind.wrap .i64 n=n:=by
 simp[IntKind.wrap,IntKind.bits,IntKind.signed];omega
def qDJ {t u ty e:TypeId} {i:TypeInfo} {z:Value} {q k:IntKind} (ht:P.underlying t=some (.slice e)) (hu:P.underlying u=some (.int q)) (hi:P.info? e=some i) (hz:i.zero=some z) (hzs:z.cells.size=i.size) (hzp:0<i.size)
  {n:Int} (h0:0<n) (h62:n<=4611686018427387904) (hb:2*n.toNat*i.bytes<=281474976710656) :
  (Builtin.append_ #[t,u] ty #[.slice none 0 0,.int k n]).run P w =
   .ok (.slice (some ⟨w.heap.size,0,none⟩) n.toNat (grownCap w n.toNat 0 e))
    (w.drew.alloc (.cells (Builtin.zeroCells z.cells n.toNat++Builtin.zeroCells z.cells (grownCap w n.toNat 0 e - n.toNat)) e)):=by
 have hw:IntKind.i64.wrap n=n:=qvF (by omega) (by omega);have h1:¬n<0:=by omega
 have hbb:n*(i.bytes:Int)<=281474976710656:=by
  have e2:n*(i.bytes:Int)=((n.toNat*i.bytes:Nat):Int):=by rw[Int.natCast_mul,Int.toNat_of_nonneg (by omega)]
  have e3:2*n.toNat*i.bytes=2*(n.toNat*i.bytes):=qWi _ _ _;rw[e3]at hb;rw[e2];generalize n.toNat*i.bytes=q at hb;omega
 have h2:¬(281474976710656<n*(i.bytes:Int)):=by omega
 have h3:¬n.toNat=0:=by omega
 have h4:¬n.toNat*i.size=0:=by
  have:0<n.toNat*i.size:=Nat.mul_pos (by omega) hzp;omega
 have h63':¬(9223372036854775807<(n.toNat:Int)):=by omega
 have hcap:Builtin.nextslicecap n.toNat 0*i.bytes<=281474976710656:=by
  have:=nextslicecap_le (show 0<n.toNat by omega);have:Builtin.nextslicecap n.toNat 0*i.bytes<=2*n.toNat*i.bytes:=qUp _ this;omega
 have h48':¬(281474976710656<Builtin.nextslicecap n.toNat 0*i.bytes):=by omega
 have h63'':¬(9223372036854775807<max n 0):=by omega
 have h5:¬(n.toNat=0\/i.size=0):=by omega
 have h6:¬n<=0:=by omega
 simp[Builtin.append_,run_underlying ht,run_underlying hu,sizeOf,typeInfo,zeroValue,hi,hz,asInt,asIntOf,hw,h1,h2,h3,h4,h5,h6,h63',h63'',h48',Question.forced,newRow,grownCap,Builtin.firstCells]
def qDK (hT:TOK P T) (inv:Inv w0 own m S w rows) {slot:Nat} (hs:Yn m rows slot) {t u ty:TypeId} {s x:V} {sr xr:Value} {res:Res}
  (h:qpp T slot t u s x=some res) (hsr:RV m S w s sr) (hx:RV m S w x xr) :
  qbV P w0 own m S w rows slot (Builtin.append_ #[t,u] ty #[sr,xr]) res:=by
 unfold qpp at h;split at h
 ·rename_i y yu hy hyu;split at h
  ·rename_i k n;have e1:=qax hx; subst e1;cases hsr;split at h
   ·rename_i e q hde hde';split at h
    ·rename_i z hz;split at h
     ·rename_i zs hzs;split at h
      ·rename_i ds us hds;split at h
       ·rename_i hcond;obtain⟨h0,h62,hby,hzl,hzp⟩:=hcond;cases h;obtain⟨ht,_⟩:=Jk (hT t y hy);rw[hde]at ht;obtain⟨htu,_⟩:=Jk (hT u yu hyu);rw[hde']at htu;obtain⟨_,i,hi,hi1,hi2,hi3⟩:=Jk (hT _ z hz);have hzr:RVs m S w zs z.zero.cells:=by simpa using qcV (m:=m) (S:=S) (w:=w) hzs
        have hzsz:z.zero.cells.size=z.size:=by rw[hzr.1]; exact hzl
        have hrun:=qDJ (P:=P) (w:=w) (ty:=ty) (k:=k) ht htu hi hi3 (by rw[hzsz,hi1]) (by omega) h0 h62 (by rw[hi2]; exact hby);obtain⟨n1,n2⟩:=qki hds (arr:=z.zero.cells.toList) (by simpa using hzr);have hdl:ds.length=z.size:=by rw[<-n1]; simpa using hzsz
        have hone:=qpi hds hzs;have hec:=qhN (agg:=z.agg) hone;have hgc:=grownCap_ge w n.toNat 0 e;obtain⟨k0,e0⟩:=inv.same (w':=w.drew) rfl rfl rfl rfl;obtain⟨k1,k2⟩:=qkh k0 hs (k:=z.size) (es:=List.replicate n.toNat (JK z.agg ds)) (arr:=Builtin.zeroCells z.zero.cells n.toNat++Builtin.zeroCells z.zero.cells (grownCap w n.toNat 0 e - n.toNat)) e
         (fun x hx=>by rw[(qUz.1 hx).2,hec,hdl])
         (fun d hd=>by
          obtain⟨e',he',hd'⟩:=qUd.1 hd;rw[(qUz.1 he').2,hec]at hd';exact hone d hd')
         (fun j d hj=>by
          have hjl:j<n.toNat*z.size:=by
           have:=q7 hj;rwa[Jr (k:=z.size) (fun x hx=>by rw[(qUz.1 hx).2,hec,hdl]),qU0]at this
          rw[qkj hec hdl hzp _ j hjl]at hj;have hm:=qUX j hzp;rw[qU9 (by rw[size_zeroCells,hzsz]; exact hjl)];have hmg:(Builtin.zeroCells z.zero.cells n.toNat)[j]?=z.zero.cells[j % z.zero.cells.size]?:=qkk (z:=z.zero.cells) (n:=n.toNat*z.zero.cells.size) (by rw[hzsz]; exact hjl) (by omega);rw[hmg,hzsz];exact⟨z.zero.cells[j % z.size]'(by omega),by simp,(n2 _ d _ hj (by simp)).ext e0⟩)
        refine⟨_,_,_,S,hrun,k1,e0.trans k2,qeV (w:=w.drew) hgc hgc (by simp) ?_⟩;rw[qV0,size_zeroCells,size_zeroCells,hzsz,<-qUf];exact qUp _ (by omega)
       ·cases h
      ·cases h
     ·cases h
    ·cases h
   ·cases h
  ·cases h
 ·cases h
end
end Go.Aev
end
