/- Lemmas: a machine that the model follows, and contracts. Conditions: none. -/
import Derived.Test.YtakpdahnlpjooaaGreatDoorK04
import Derived.ChangeKeysEq
set_option linter.all false
set_option maxRecDepth 1000000
set_option maxHeartbeats 0
noncomputable section
namespace Go.Aev
variable [Glob]
variable {P:Program} {T:TypeId->Option Ty} {w0:World} {own:Own} {m:Mp} {S:Nat->Prop} {w:World} {rows:Rows} {g:qq}
def qo8 {n:Nat} {e:TypeId} {z:Ty} {a b:Value} {r:Bool} (hz:q8 P e=some z) (h:Instr.sameNow z.desc a b=some r):(Op.equalIn (n+1) e a b).run P w=.ok r w:=by
 have hu:=YD (w:=w) hz;rw[Op.equalIn];simp only[Sem.run_bind,hu,Result.andThen_ok];generalize z.desc=d at h;unfold Instr.sameNow at h;split at h
 ·split at h
  ·rename_i hk; cases h; simp[hk]
  ·cases h
 ·cases h; rfl
 ·cases h; rfl
 ·cases h
def qo9 {e:TypeId} {z:Ty} {k:D} {xs:Array Value} {off:Nat} {v:Value} (hz:q8 P e=some z) (ha:Y2 z.desc k=true) (hx:xs[off]?=some v):(part e xs off).run P w=.ok v w:=by
 have hu:=YD (w:=w) hz;generalize z.desc=d at ha hu;have hi:(isAgg e).run P w=.ok false w:=by
  simp only[isAgg,Sem.run_bind,hu,Result.andThen_ok];cases d<;>cases k<;>first|rfl|simp[Y2]at ha
 simp only[part,Sem.run_bind,hi,Result.andThen_ok,qUW,if_false,hx,Sem.run_pure]
def qcX (S:Nat->Prop) (w:World) (off:Nat) (xs:List D) (A:Array Value):Prop:=∀(j:Nat) (x:D),xs[j]?=some x->∃v,A[off+j]?=some v/\RD S w x v
def qcX.tail {off:Nat} {x:D} {xs:List D} {A:Array Value} (h:qcX S w off (x::xs) A):qcX S w (off+1) xs A:=fun j y hy=>by
 obtain⟨v,h1,h2⟩:=h (j+1) y (by simpa using hy);exact⟨v,by rw[show off+1+j=off+(j+1) by omega]; exact h1,h2⟩
def qCV {d:TypeDesc} {x y:D} {r:Bool} (h:qa3 x y=some r) (ha:Y2 d x=true):Y2 d y=true:=by
 unfold qa3 at h;split at h<;>first | (cases h; done) | (cases d<;>first|rfl | (simp[Y2]at ha))
def qu3 {n:Nat} {e:TypeId} {z:Ty} (hz:q8 P e=some z) {A B:Array Value}:∀{xs ys:List D} {off:Nat} {b:Bool},qaf xs ys=some b->(∀x∈xs,Y2 z.desc x=true) ->
  qcX S w off xs A->qcX S w off ys B->(Op.eqItems (n+1) e 1 A B (List.range' off xs.length)).run P w=.ok b w
 | [],[],off,b,h,_,_,_=>by
  simp only[qaf,qT4]at h; subst h;simp[Op.eqItems]
 | x::xs,y::ys,off,b,h,hx,ha,hb=>by
  obtain⟨u,a1,a2⟩:=ha 0 x rfl;obtain⟨v,b1,b2⟩:=hb 0 y rfl;rw[qUQ]at a1 b1;have pa:=qo9 (w:=w) hz (hx x (by simp)) (xs:=A) (off:=off*1) (by rw[qUA]; exact a1);have hy:Y2 z.desc y=true:=by
   simp only[qaf]at h
   cases hs:qa3 x y with
   | none=>rw[hs]at h; cases h
   | some r=>exact qCV hs (hx x (by simp))
  have pb:=qo9 (w:=w) hz hy (xs:=B) (off:=off*1) (by rw[qUA]; exact b1);rw[qT9,qVU];simp only[qaf]at h;split at h
  ·rename_i hs;have he:=qo8 (n:=n) (w:=w) hz (qf6 hs (hx x (by simp)) a2 b2);have ih:=qu3 (n:=n) hz h (fun z hz=>hx z (by simp[hz])) ha.tail hb.tail;simp only[Op.eqItems,Sem.run_bind,pa,pb,he,Result.andThen_ok,qUP,qUW,if_false];exact ih
  ·rename_i hs;cases h;have he:=qo8 (n:=n) (w:=w) hz (qf6 hs (hx x (by simp)) a2 b2);simp only[Op.eqItems,Sem.run_bind,pa,pb,he,Result.andThen_ok,qVa,if_true,Sem.run_pure]
  ·cases h
 | [],_::_,_,_,h,_,_,_=>by simp[qaf]at h
 | _::_,[],_,_,h,_,_,_=>by simp[qaf]at h
def qcY (T:TypeId->Option Ty) (d:TypeDesc) (k:D):Bool :=
 match d,k with
 | .array n e,.agg xs=>match T e with
  | some z=>z.size==1&&xs.length==n&&xs.all (Y2 z.desc)|none=>false
 | _,_=>false
def qbS {xs:List D} {v:Value} (h:RD S w (.agg xs) v):∃A:Array Value,v=.agg A/\A.size=xs.length/\qcX S w 0 xs A:=by
 cases h with
 | agg _ A hlen hd =>
  refine⟨A,rfl,hlen,fun j x hx=>?_⟩;have hj:j<A.size:=by rw[hlen]; exact(qWy.1 hx).1
  exact⟨A[j],by rw[qT6,qVk hj],hd j x _ hx (qVk hj)⟩
def qu4 {t:TypeId} {y:Ty} (h:q8 P t=some y):∃i,P.info? t=some i/\i.size=y.size:=by
 unfold q8 at h;split at h
 ·rename_i d i h1 h2;split at h
  ·split at h
   ·cases h; exact⟨i,h2,rfl⟩
   ·cases h
  ·cases h
 ·cases h
def qu5 (hT:TOK P T) {kt:TypeId} {z:Ty} {xs ys:List D} {a b:Value} {r:Bool} (hz:q8 P kt=some z) (hx:qcY T z.desc (.agg xs)=true)
  (h:qaf xs ys=some r) (ha:RD S w (.agg xs) a) (hb:RD S w (.agg ys) b):(Op.equal kt a b).run P w=.ok r w:=by
 obtain⟨A,rfl,_,hA⟩:=qbS ha;obtain⟨B,rfl,_,hB⟩:=qbS hb;have hu:P.underlying kt=some z.desc:=by
  unfold q8 at hz;split at hz
  ·rename_i d i h1 h2;split at hz
   ·split at hz
    ·cases hz; exact h1
    ·cases hz
   ·cases hz
  ·cases hz
 unfold qcY at hx;split at hx
 ·rename_i n e xs' hd heq;cases heq;rw[hd]at hu;split at hx
  ·rename_i ez hez;simp only[qTC,beq_iff_eq]at hx;obtain⟨⟨h1,h2⟩,h3⟩:=hx;obtain⟨i,hi,hsz⟩:=qu4 (hT e ez hez);have hc:P.cellsOf e=1:=by
    simp[Program.cellsOf,hi,hsz,h1]
   rw[Op.equal,show Op.maxDepth=9999+1 from rfl,run_equalIn_array w 9999 A B hu hi,hc,qVV,<-h2];exact qu3 (n:=9998) (hT e ez hez) h (fun x hx=>(qTI.1 h3) x hx) hA hB
  ·cases hx
 ·cases hx
def qf3 (T:TypeId->Option Ty) (d:TypeDesc) (k:D):Bool:=Y2 d k||qcY T d k
structure qhG (P:Program) (m:Mp) (S:Nat->Prop) (w:World) (kt:TypeId) (kd:D) (kv:Value):Prop where
 check:∀e,(Instr.checkKey e 10000 kt kv).run P w=.ok () w
 find:∀{es:List (D×V)} {xs:List MapEntry} {r:Option (Nat×V)},qeT m S w es xs->qas kd es 0=some r->∃r',(Instr.findKey kt kv xs).run P w=.ok r' w/\(r=none->r'=none) /\
  ∀j v,r=some (j,v)->∃u x,r'=some (j,u)/\RV m S w v u/\xs[j]?=some x/\(Instr.keyThatStays x.key kv).run P w=.ok kv w
def qCW {kt:TypeId} {z:Ty} {kd:D} {kv:Value} (hz:q8 P kt=some z) (ha:Y2 z.desc kd=true) (hk:RD S w kd kv):qhG P m S w kt kd kv:=by
 refine⟨fun e=>qvi (n:=9999) hz ha hk,fun{es xs r} he h=>?_⟩;obtain⟨r',f1,f2,f3⟩:=qvh ha hk he h;refine⟨r',qDn hz f1,f2,fun j v hj=>?_⟩;obtain⟨u,x,g1,g2,_,g4,g5⟩:=f3 j v hj;exact⟨u,x,g1,g2,by simpa using g4,by simp only[Instr.keyThatStays,qvk g5,if_true,Sem.run_pure]⟩
def qu6 {n:Nat} {e:TypeId} {z:Ty} {em:Bool} (hz:q8 P e=some z) (h1:z.size=1) {A:Array Value}:∀{xs:List D} {off:Nat},(∀x∈xs,Y2 z.desc x=true)->qcX S w off xs A ->
  (forIn (List.range' off xs.length) () (fun i (_:Unit)=>do
   Instr.checkKey em (n+1) e (<-part e A (i*(<-sizeOf e)))
   pure (ForInStep.yield ()):Nat->Unit->Sem (ForInStep Unit))).run P w=.ok () w
 | [],off,_,_=>by simp
 | x::xs,off,hx,ha=>by
  obtain⟨u,a1,a2⟩:=ha 0 x rfl;rw[qUQ]at a1;obtain⟨i,hi,hsz⟩:=qu4 hz;have hs:(sizeOf e).run P w=.ok 1 w:=by
   rw[run_sizeOf w hi]; simp[Program.cellsOf,hi,hsz,h1]
  have pa:=qo9 (w:=w) hz (hx x (by simp)) (xs:=A) (off:=off*1) (by rw[qUA]; exact a1);have hc:=qvi (e:=em) (n:=n) (w:=w) hz (hx x (by simp)) a2;have ih:=qu6 (n:=n) (em:=em) hz h1 (fun y hy=>hx y (by simp[hy])) ha.tail;rw[qT9,qVU,List.forIn_cons];simp only[Sem.run_bind,hs,pa,hc,Result.andThen_ok,Sem.run_pure]at ih ⊢;exact ih
def qu7:∀{xs ys:List D},qaf xs ys=some true->xs.length=ys.length/\∀(j:Nat) (x y:D),xs[j]?=some x->ys[j]?=some y->qa3 x y=some true
 | [],[],_=>⟨rfl,fun j x y h=>by simp at h⟩
 | x::xs,y::ys,h=>by
  simp only[qaf]at h;split at h
  ·rename_i hs;obtain⟨h1,h2⟩:=qu7 h;refine⟨by simp[h1],fun j a b ha hb=>?_⟩
   cases j with
   | zero=>simp at ha hb; subst ha; subst hb; exact hs|succ j=>exact h2 j a b (by simpa using ha) (by simpa using hb)
  ·cases h
  ·cases h
 | [],_::_,h=>by simp[qaf]at h
 | _::_,[],h=>by simp[qaf]at h
def qCX {n:Nat} {d:TypeDesc} {xs ys:List D} {A B:Array Value} (h:qaf xs ys=some true) (hx:∀x∈xs,Y2 d x=true) (hA:A.size=xs.length) (hB:B.size=ys.length)
  (ha:qcX S w 0 xs A) (hb:qcX S w 0 ys B):Instr.sameBits (n+1) (.agg B) (.agg A)=true:=by
 obtain⟨h1,h2⟩:=qu7 h;simp only[Instr.sameBits,qTC,beq_iff_eq];refine⟨by omega,qTI.2 fun p hp=>?_⟩;obtain⟨j,hj⟩:=List.mem_iff_getElem?.1 hp;rw[qVz]at hj;obtain⟨e1,e2⟩:=hj;rw[qVW]at e1 e2;have hjl:j<xs.length:=by rw[<-hA]; exact(qUY.1 e2).1
 have hjl':j<ys.length:=by omega
 obtain⟨u,u1,u2⟩:=ha j _ (qTE hjl);obtain⟨v,v1,v2⟩:=hb j _ (qTE hjl');rw[qT6]at u1 v1;rw[u1]at e2; rw[v1]at e1;cases e1; cases e2;have hs:=h2 j _ _ (qTE hjl) (qTE hjl');exact qvk (qf6 hs (hx _ (qTL hjl)) u2 v2)
def qu8 (hT:TOK P T) {kt:TypeId} {z:Ty} {ks:List D} {kv:Value} (hz:q8 P kt=some z) (ha:qcY T z.desc (.agg ks)=true) (hk:RD S w (.agg ks) kv):∀{es:List (D×V)} {xs:List MapEntry} {i:Nat} {r:Option (Nat×V)},
  qeT m S w es xs->qas (.agg ks) es i=some r->∃r',(Instr.findAsking kt kv xs i).run P w=.ok r' w/\(r=none->r'=none) /\
   ∀j v,r=some (j,v)->∃u x,r'=some (j,u)/\RV m S w v u/\i<=j/\xs[j - i]?=some x/\(Instr.keyThatStays x.key kv).run P w=.ok kv w
 | [],[],i,r,_,h=>by
  simp only[qas,qT4]at h; subst h;exact⟨none,by simp[Instr.findAsking],fun _=>rfl,fun j v h=>by cases h⟩
 | (k',v)::es,x::xs,i,r,he,h=>by
  obtain⟨⟨h1,h2⟩,h3⟩:=he
  cases k' with
  | agg ys =>
   simp only[qas,qeS]at h;split at h
   ·rename_i hs;cases h;have hn:=qu5 (w:=w) hT hz ha hs hk h1;refine⟨some (i,x.val),by simp only[Instr.findAsking,Sem.run_bind,hn,Result.andThen_ok,if_true,Sem.run_pure],fun h=>(by cases h),fun j v h=>?_⟩;cases h;refine⟨x.val,x,rfl,h2,qTF _,by simp,?_⟩;obtain⟨A,rfl,hA,hA'⟩:=qbS hk;generalize x.key=q at h1;obtain⟨B,rfl,hB,hB'⟩:=qbS h1;unfold qcY at ha;split at ha
    ·rename_i n e xs' hd heq;cases heq;split at ha
     ·rename_i ez hez;simp only[qTC,beq_iff_eq]at ha;have:=qCX (n:=9999) hs (fun x hx=>(qTI.1 ha.2) x hx) hA hB hA' hB';simp only[Instr.keyThatStays,this,if_true,Sem.run_pure]
     ·cases ha
    ·cases ha
   ·rename_i hs;have hn:=qu5 (w:=w) hT hz ha hs hk h1;obtain⟨r',e1,e2,e3⟩:=qu8 hT hz ha hk h3 h;refine⟨r',by simp only[Instr.findAsking,Sem.run_bind,hn,Result.andThen_ok,qUW,if_false,e1],e2,fun j v h=>?_⟩;obtain⟨u,y,f1,f2,f3,f4,f5⟩:=e3 j v h;refine⟨u,y,f1,f2,by omega,?_,f5⟩;have:j - i=(j - (i+1))+1:=by omega
    rw[this,qUx]; exact f4
   ·cases h
  | _=>simp[qas,qeS,qa3]at h
 | [],_::_,_,_,he,_=>he.elim|_::_,[],_,_,he,_=>he.elim
def qCY (hT:TOK P T) {kt:TypeId} {z:Ty} {ks:List D} {kv:Value} (hz:q8 P kt=some z) (ha:qcY T z.desc (.agg ks)=true) (hk:RD S w (.agg ks) kv):qhG P m S w kt (.agg ks) kv:=by
 have hu:=YD (w:=w) hz;refine⟨fun em=>?_,fun{es xs r} he h=>?_⟩
 ·obtain⟨A,rfl,hA,hA'⟩:=qbS hk;unfold qcY at ha;split at ha
  ·rename_i n e xs' hd heq;cases heq;split at ha
   ·rename_i ez hez;simp only[qTC,beq_iff_eq]at ha;obtain⟨⟨h1,h2⟩,h3⟩:=ha;rw[hd]at hu;have hl:=qu6 (n:=9998) (em:=em) (w:=w) (hT e ez hez) h1 (fun x hx=>(qTI.1 h3) x hx) hA';rw[Instr.checkKey];simp only[Sem.run_bind,hu,Result.andThen_ok];simp only[Std.Legacy.Range.forIn_eq_forIn_range',Std.Legacy.Range.size,qUO,Nat.add_one_sub_one,Nat.div_one];rw[<-h2];simp at hl ⊢;exact(congrArg (fun r=>Result.andThen r _) hl).trans rfl
   ·cases ha
  ·cases ha
 ·obtain⟨r',f1,f2,f3⟩:=qu8 hT hz ha hk he h;refine⟨r',?_,f2,fun j v hj=>?_⟩
  ·have hd:∃n e,z.desc=.array n e:=by
    unfold qcY at ha;split at ha
    ·rename_i n e _ hd _; exact⟨n,e,hd⟩
    ·cases ha
   obtain⟨n,e,hd⟩:=hd;rw[hd]at hu
   cases xs with
   | nil =>
    simp only[Instr.findAsking,Sem.run_pure,Result.ok.injEq,and_true]at f1;subst f1;simp only[Instr.findKey,Sem.run_bind,hu,Result.andThen_ok,Instr.findNow,Sem.run_pure]
   | cons x xs =>
    have:Instr.findNow (.array n e) kv (x::xs) 0=none:=by simp[Instr.findNow,Instr.sameNow]
    simp only[Instr.findKey,Sem.run_bind,hu,Result.andThen_ok,this];exact f1
  ·obtain⟨u,x,g1,g2,_,g4,g5⟩:=f3 j v hj;exact⟨u,x,g1,g2,by simpa using g4,g5⟩
def qu9 (hT:TOK P T) {kt:TypeId} {z:Ty} {kd:D} {kv:Value} (hz:q8 P kt=some z) (ha:qf3 T z.desc kd=true) (hk:RD S w kd kv):qhG P m S w kt kd kv:=by
 simp only[qf3,qTM]at ha;rcases ha with ha|ha
 ·exact qCW hz ha hk
 ·cases kd with
  | agg ks=>exact qCY hT hz ha hk|_=>unfold qcY at ha; split at ha<;>first | (rename_i h; cases h) | cases ha
def qf4 (T:TypeId->Option Ty) (g:qq) (t:TypeId) (x k:V) (ok:Bool):Option V :=
 match T t,k with
 | some y,.d kd=>match y.desc with
  | .map kt et=>match T kt,T et,qkb g x with
   | some kz,some ez,some es=>if qf3 T kz.desc kd then match qas kd es 0,qhQ ez.zero with
     | some (some (_,v)),_=>some (if ok then .tup [v,.d (.bool true)]else v)
     | some none,some z=>some (if ok then .tup [z,.d (.bool false)]else z)
     | _,_=>none
    else none
   | _,_,_=>none
  | _=>none
 | _,_=>none
def qf5 (T:TypeId->Option Ty) (g:qq) (t:TypeId) (x k v:V):Option Res :=
 match T t,x,k with
 | some y,.mp r,.d kd=>match y.desc,g r with
  | .map kt _,some (.map es c false)=>match T kt with
   | some kz=>if qf3 T kz.desc kd&&qvf v then match qas kd es 0 with
     | some (some (i,_))=>some {v:=V.undef,ups:=[(r,.live (.map (es.set i (kd,v)) c false))]}|some none=>some {v:=V.undef,ups:=[(r,.live (.map (es++[(kd,v)]) (c+1) false))]}|none=>none
    else none
   | none=>none
  | _,_=>none
 | _,_,_=>none
def qCZ (hT:TOK P T) (hg:GOK g rows) (inv:Inv w0 own m S w rows) {t:TypeId} {x k v:V} {ok:Bool} {xr kr:Value} (h:qf4 T g t x k ok=some v) (hx:RV m S w x xr) (hk:RV m S w k kr) :
  ∃u,(Instr.lookup t xr kr ok).run P w=.ok u w/\RV m S w v u:=by
 unfold qf4 at h;split at h
 ·rename_i y kd hy;split at h
  ·rename_i kt et hd;split at h
   ·rename_i kz ez es hkz hez hes;split at h
    ·rename_i hat;have hkd:=Yh hk;have hu:=YD (w:=w) (hT t y hy);rw[hd]at hu;obtain⟨ents,e1,e2⟩:=qDo hg inv hes hx;have hkf:qhG P m S w kt kd kr:=qu9 hT (hT kt kz hkz) hat hkd;have hck:=hkf.check;have hzr:=qh3 (w:=w) (hT et ez hez);split at h
     ·rename_i i v' hf;obtain⟨r',f1,_,f3⟩:=hkf.find e2 hf;obtain⟨u,_,rfl,f4,_⟩:=f3 _ v' rfl;have hl:=qvj (ok:=ok) hu e1 hck f1 hzr;cases h;refine⟨_,hl,?_⟩;cases ok
      ·exact f4
      ·exact qpc f4 (.d _ _ (.bool _))
     ·rename_i z hf hz;obtain⟨r',f1,f2,_⟩:=hkf.find e2 hf;have:=f2 rfl; subst this;have hl:=qvj (ok:=ok) hu e1 hck f1 hzr;have hzv:=qoV (m:=m) (S:=S) (w:=w) hz;cases h;refine⟨_,hl,?_⟩;cases ok
      ·exact hzv
      ·exact qpc hzv (.d _ _ (.bool _))
     ·cases h
    ·cases h
   ·cases h
  ·cases h
 ·cases h
def qva (hT:TOK P T) (hg:GOK g rows) (inv:Inv w0 own m S w rows) {t:TypeId} {x k v:V} {xr kr vr:Value} {res:Res} (h:qf5 T g t x k v=some res) (hx:RV m S w x xr) (hk:RV m S w k kr) (hv:RV m S w v vr) :
  ∃w',(Instr.mapUpdate t xr kr vr).run P w=.ok () w'/\Inv w0 own m S w' (YJ res.ups rows)/\Ext m S w m S w'/\res.v=V.undef/\res.fresh=none:=by
 unfold qf5 at h;split at h
 ·rename_i y r kd hy;split at h
  ·rename_i kt et es c hd hgr;split at h
   ·rename_i kz hkz;split at h
    ·rename_i hat0;simp only[qTC]at hat0;have hat:=hat0.1;have hkd:=Yh hk;have hu:=YD (w:=w) (hT t y hy);rw[hd]at hu;have hrow:=hg _ _ hgr;obtain⟨b,o,hm,ents,h1,h2,⟨hbn,hborn⟩,h3⟩:=inv.row _ _ hrow
     cases hx with
     | mp _ b' o' hm' =>
     rw[hm]at hm'; cases hm';have hkf:qhG P m S w kt kd kr:=qu9 hT (hT kt kz hkz) hat hkd;have hck:=hkf.check;have e2:qeT m S w es ents.toList:=qkc (by simpa using h2) (fun j e x a b=>h3 j e x a (by simpa using b));have hgo:=qct (P:=P) h1 (by simp);have hlt:=inv.bnd r b o hm;split at h
     ·rename_i i v' hf;obtain⟨r',f1,_,f3⟩:=hkf.find e2 hf;obtain⟨u,xe,rfl,_,f5,hkt⟩:=f3 _ v' rfl;have hfk:=f1;simp only[qVW]at f5;have hso:=qeU (P:=P) (o':=.map (ents.modify i fun e=>{e with key:=kr,val:=vr}) c) h1 (by simp);obtain⟨k1,k2⟩:=inv.writeG (w':={w with heap:=w.heap.setIfInBounds b (.map (ents.modify i fun e=>{e with key:=kr,val:=vr}) c)}) (row':=.map (es.set i (kd,v)) c false) hrow hm rfl rfl (by simp)
       (fun c2 hc=>qkd w b c2 _ hc) (by simp[Yf,h1]) rfl rfl rfl (fun ext=>by
        refine⟨_,qpb w b _ hlt,by simp[h2],⟨by simpa using hbn,fun j x hx=>?_⟩,fun j e x a b=>?_⟩
        ·rw[Array.getElem?_modify]at hx;split at hx
         ·rw[qTP]at hx;obtain⟨y,hy,rfl⟩:=hx;exact hborn j y hy
         ·exact hborn j x hx
        rw[Array.getElem?_modify]at b
        by_cases hj:i=j
        ·subst hj;have hi:i<es.length:=by
          have:=(qWy.1 a).1; simpa using this
         rw[qUV hi]at a;cases a;rw[if_pos rfl,f5]at b;simp only[qUj,qT4]at b;subst b;exact⟨hkd.ext ext,hv.ext ext⟩
        ·rw[qUF hj]at a;rw[if_neg hj]at b;exact⟨(h3 j e x a b).1.ext ext,(h3 j e x a b).2.ext ext⟩)
      cases h;refine⟨_,?_,k1,k2,rfl,rfl⟩;simp only[Instr.mapUpdate,Sem.run_bind,hu,Result.andThen_ok,hgo,hck,hfk,f5,qUj,qTT,hkt,hso]
     ·rename_i hf;obtain⟨r',f1,f2,_⟩:=hkf.find e2 hf;have:=f2 rfl; subst this;have hfk:=f1;have hso:=qeU (P:=P) (o':=.map (ents.push {key:=kr,val:=vr,born:=c}) (c+1)) h1 (by simp);obtain⟨k1,k2⟩:=inv.writeG (w':={w with heap:=w.heap.setIfInBounds b (.map (ents.push {key:=kr,val:=vr,born:=c}) (c+1))}) (row':=.map (es++[(kd,v)]) (c+1) false) hrow hm rfl rfl (by simp)
       (fun c2 hc=>qkd w b c2 _ hc) (by simp[Yf,h1]) rfl rfl rfl (fun ext=>by
        refine⟨_,qpb w b _ hlt,by simp[h2],⟨by simp[hbn],fun j x hx=>?_⟩,fun j e x a b=>?_⟩
        ·rw[qVu]at hx;split at hx
         ·rename_i hj;cases hx;show c=j;omega
         ·exact hborn j x hx
        rw[qVu]at b;rcases qVX j es.length with hj|hj|hj
        ·rw[qTZ hj]at a;rw[if_neg (by omega)]at b;exact⟨(h3 j e x a b).1.ext ext,(h3 j e x a b).2.ext ext⟩
        ·subst hj;rw[qT1 (qTF _),Nat.sub_self]at a;rw[if_pos h2.symm]at b;cases a; cases b;exact⟨hkd.ext ext,hv.ext ext⟩
        ·rw[qUc (by simp; omega)]at a; cases a)
      cases h;refine⟨_,?_,k1,k2,rfl,rfl⟩;simp only[Instr.mapUpdate,Sem.run_bind,hu,Result.andThen_ok,hgo,hck,hfk,hso]
     ·cases h
    ·cases h
   ·cases h
  ·cases h
 ·cases h
end Go.Aev
end
