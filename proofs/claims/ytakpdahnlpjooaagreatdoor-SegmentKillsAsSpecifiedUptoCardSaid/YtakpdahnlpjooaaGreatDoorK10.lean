/- Lemmas: a machine that the model follows, and contracts. Conditions: none. -/
import Derived.Test.YtakpdahnlpjooaaGreatDoorK09
import Derived.KernelRfl
set_option linter.all false
set_option maxRecDepth 1000000
set_option maxHeartbeats 0
noncomputable section
namespace Go.Aev
variable [Glob]
open Go.RowKit (Below)
variable {w0:World} {own:Own} {m:Mp} {S:Nat->Prop} {w:World} {rows:Rows}
def qgc (g:qq):V->Option V
 | .d x=>some (.d x)|.nil=>some .nil|.fn f []=>some (.fn f [])|.sl r k off len c ex=>match qbY g (.sl r k off len c ex)with
  | some (x,_)=>some (.d x)|none=>none
 | _=>none
def qdU (f:V->Option V):List V->Option (List V)
 | []=>some []|v::r=>match f v,qdU f r with
  | some x,some l=>some (x::l)|_,_=>none
def qgd (g:qq):V->Option V
 | .agg cs=>match YS g cs with
  | some (ds,_)=>some (.d (.agg ds))|none=>(qdU (qgc g) cs).map V.agg
 | v=>qgc g v
def frz (g:qq):Nat->V->Option V
 | 0,_=>none|n+1,v=>match v with
  | .d x=>some (.d x)|.nil=>some .nil|.fp cs=>some (.fp cs)|.fm ks xs=>some (.fm ks xs)|.fn f cs=>(qz (frz g n) cs).map (V.fn f)|.pt r k i f=>match g r with
   | some (.box cs _)=>if i*k+f=0 then(qz (frz g n) cs).map V.fp else none
   | _=>none
  | .mp r=>match g r with
   | some (.map es _ _)=>(qz (frz g n) (es.map (·.2))).map (V.fm (es.map (·.1)))|_=>none
  | _=>none
def qcB (g:qq):V->Option V
 | .tup vs=>(qdU (qgd g) vs).map V.tup|v=>match qgd g v with
  | some x=>some x|none=>frz g 6 v
def GE (g:qq) (rows:Rows):Prop:=∀r row,g r=some row->∃row',rows[r]?=some (qc.live row')/\row'.freeze=row.freeze
def qv1 {row:Row} (h:row.freeze.rw=false):row.rw=false->row.freeze=row:=by
 cases row<;>simp[Row.freeze,Row.rw]at h ⊢
def qv2 (inv:Inv w0 own m S w rows) {g:qq} (hg:GE g rows) {r:Nat} {row:Row} {b o:Nat} (hr:g r=some row) (hf:row.freeze.rw=false) (hm:m r=some (b,o)) :
  ∃S',Inv w0 own m S' w (qv rows r (qc.live row.freeze))/\Ext m S w m S' w/\S' b/\GE g (qv rows r (qc.live row.freeze))/\∃row',rows[r]?=some (qc.live row')/\row'.freeze=row.freeze:=by
 obtain⟨row',h1,h2⟩:=hg r row hr;have hl:=qbU h1;have hge:GE g (qv rows r (qc.live row.freeze)):=by
  intro q row2 hq;rw[JJ (qUo hl)]
  by_cases e:q=r
  ·subst e;rw[hr]at hq; cases hq;rw[if_pos rfl];exact⟨_,rfl,by cases row<;>rfl⟩
  ·rw[if_neg e]; exact hg q row2 hq
 rw[<-h2]at hf
 cases hw:row'.rw with
 | true =>
  obtain⟨k1,k2⟩:=inv.freeze r row' b o h1 hf hw hm;rw[h2]at k1;exact⟨_,k1,k2,.inr rfl,hge,row',h1,h2⟩
 | false =>
  have e:=qv1 hf hw;have hsame:qv rows r (qc.live row.freeze)=rows:=by rw[<-h2,e]; exact qdJ h1
  rw[hsame];rw[hsame]at hge;exact⟨S,inv,Ext.refl ..,inv.rost r row' b o h1 hw hm,hge,row',h1,h2⟩
def qv3 (f:V->Option V) (g:qq):Prop:=∀{w0:World} {own:Own} {m:Mp} {S:Nat->Prop} {w:World} {rows:Rows},Inv w0 own m S w rows->GE g rows->∀{v x:V} {u:Value},f v=some x->RV m S w v u ->
  ∃S' rows',Inv w0 own m S' w rows'/\Ext m S w m S' w/\RF S' w x u/\GE g rows'
def qkG {f:V->Option V} {g:qq} (hf:qv3 f g):∀{cs xs:List V} {us:Nat->Value} {S:Nat->Prop} {rows:Rows},Inv w0 own m S w rows->GE g rows->qz f cs=some xs->(∀(j:Nat) (x:V),cs[j]?=some x->RV m S w x (us j)) ->
  ∃S' rows',Inv w0 own m S' w rows'/\Ext m S w m S' w/\(∀(j:Nat) (x:V),xs[j]?=some x->RF S' w x (us j))/\GE g rows'/\xs.length=cs.length
 | [],xs,us,S,rows,inv,hg,h,hv=>by
  cases h;exact⟨S,rows,inv,Ext.refl ..,fun j x h=>by simp at h,hg,rfl⟩
 | v::cs,xs,us,S,rows,inv,hg,h,hv=>by
  simp only[qz]at h;split at h
  ·rename_i x l h1 h2;cases h;obtain⟨S1,rows1,i1,e1,r1,g1⟩:=hf inv hg h1 (hv 0 v rfl);obtain⟨S2,rows2,i2,e2,r2,g2,l2⟩:=qkG hf (us:=fun j=>us (j+1)) i1 g1 h2 (fun j x hx=>(hv (j+1) x (by simpa using hx)).ext e1);refine⟨S2,rows2,i2,e1.trans e2,fun j y hy=>?_,g2,by simp[l2]⟩
   cases j with
   | zero=>simp at hy; subst hy; exact r1.ext e2|succ j=>simp at hy; exact r2 j y hy
  ·cases h
def qD1 (g:qq) (n:Nat):qv3 (frz g n) g:=by
 induction n with
 | zero=>intro w0 own m S w rows inv hg v x u h hv; cases h
 | succ n ih =>
  intro w0 own m S w rows inv hg v x u h hv
  cases v with
  | d y=>simp only[frz]at h; cases h; exact⟨S,rows,inv,Ext.refl ..,.d _ _ (Yh hv),hg⟩
  | nil=>simp only[frz]at h; cases h; cases hv; exact⟨S,rows,inv,Ext.refl ..,.nil,hg⟩
  | fp cs=>simp only[frz]at h; cases h; cases hv with|fp _ b o hf=>exact⟨S,rows,inv,Ext.refl ..,hf,hg⟩
  | fm ks xs=>simp only[frz]at h; cases h; cases hv with|fm _ _ b hf=>exact⟨S,rows,inv,Ext.refl ..,hf,hg⟩
  | fn f cs =>
   simp only[frz,qTP]at h;obtain⟨xs,hx,rfl⟩:=h
   cases hv with
   | fn _ _ arr hlen hd =>
   have get:∀(j:Nat),j<cs.length->arr[j]?=some (arr.getD j Go.undef):=fun j hj=>by
    have:j<arr.size:=by omega
    simp[Array.getD,this]
   obtain⟨S1,rows1,i1,e1,r1,g1,l1⟩:=qkG ih (us:=fun j=>arr.getD j Go.undef) inv hg hx (fun j x hx=>hd j x _ hx (get j (q7 hx)));refine⟨S1,rows1,i1,e1,.fn _ _ arr (by omega) (fun j x v hx hv=>?_),g1⟩;have hj:=q7 hx;rw[get j (by omega)]at hv;cases hv;exact r1 j x hx
  | pt r k i f =>
   simp only[frz]at h;split at h
   ·rename_i cs ro hgr;split at h
    ·rename_i h0;rw[qTP]at h;obtain⟨xs,hx,rfl⟩:=h
     cases hv with
     | pt r k i f b o hm =>
     obtain⟨S1,i1,e1,s1,g1,row',h1,h2⟩:=qv2 inv hg hgr rfl hm;obtain⟨c,e,hb,hcs⟩:YF m S w b o (.box cs ro):=by
      have:=Y8 inv h1 hm;have h3:=this.freeze;rw[h2]at h3;exact h3
     obtain⟨S2,rows2,i2,e2,r2,g2,l2⟩:=qkG ih (us:=fun j=>(cl w b (o+j)).getD Go.undef) i1 g1 hx (fun j x hj=>by
      obtain⟨v,hv,hr⟩:=hcs j x hj;have:cl w b (o+j)=some v:=by rw[qaw hb]; exact hv
      simp only[this,qTT];exact hr.ext e1)
     have ea:o+i*k+f=o:=by omega
     rw[ea];refine⟨S2,rows2,i2,e1.trans e2,.fp xs b o (fun j=>(cl w b (o+j)).getD Go.undef) (e2.sub b s1) (fun j x hj=>?_) r2,g2⟩;have hjl:=q7 hj;obtain⟨v,hv,_⟩:=hcs j (cs[j]'(by omega)) (by simp[show j<cs.length by omega]);have:cl w b (o+j)=some v:=by rw[qaw hb]; exact hv
     simp[this]
    ·cases h
   ·cases h
  | mp r =>
   simp only[frz]at h;split at h
   ·rename_i es clock ro hgr;rw[qTP]at h;obtain⟨xs,hx,rfl⟩:=h
    cases hv with
    | mp r b o hm =>
    obtain⟨S1,i1,e1,s1,g1,row',h1,h2⟩:=qv2 inv hg hgr rfl hm;obtain⟨ents,hb,hsz,_,hcs⟩:YF m S w b o (.map es clock ro):=by
     have:=Y8 inv h1 hm;have h3:=this.freeze;rw[h2]at h3;exact h3
    have get:∀(j:Nat),j<es.length->∃e,ents[j]?=some e:=fun j hj=>⟨ents[j]'(by omega),by simp[show j<ents.size by omega]⟩
    obtain⟨S2,rows2,i2,e2,r2,g2,l2⟩:=qkG ih (us:=fun j=>match ents[j]? with|some e=>e.val|none=>Go.undef) i1 g1 hx (fun j x hj=>by
     rw[qT3,qTP]at hj;obtain⟨e,he,rfl⟩:=hj;obtain⟨t,ht⟩:=get j (q7 he);simp only[ht];exact((hcs j e t he ht).2).ext e1)
    refine⟨S2,rows2,i2,e1.trans e2,.fm _ xs b ents clock (e2.sub b s1) hb (by simp[hsz]) (by rw[l2]; simp) (fun j k e hk he=>?_) (fun j x e hj he=>?_),g2⟩
    ·rw[qT3,qTP]at hk;obtain⟨q,hq,rfl⟩:=hk;exact((hcs j q e hq he).1).ext (e1.trans e2)
    ·have:=r2 j x hj;simp only[he]at this;exact this
   ·cases h
  | _=>simp only[frz]at h; cases h
structure qdV where
 P:Program
 T:TypeId->Option Ty
 F:FuncId->Option Func
 rc:FuncId->Bool
 po:FuncId->Bool
 fuel:Nat
 wc:FuncId->Bool:=fun _=>false
 tab:FuncId->List V->Rows->Option V:=fun _ _ _=>none
def qhY (g:qq):V->Option (V×List (Nat×qc))
 | .agg cs=>match YS g cs with
  | some (ds,us)=>some (.d (.agg ds),us)|none=>none
 | .tup vs=>match YS g vs with
  | some (ds,us)=>some (.tup (ds.map V.d),us)|none=>none
 | _=>none
def cvN (g:qq) (k:Nat) (v:V):V×List (Nat×qc):=(qhY (fun r=>if r<k then none else g r) v).getD (v,[])
def qkH (g:qq) (k:Nat) (v:V):Option (V×Rows) :=
 let v1:=(cvN g k v).1
 let rs:=List.range k++((V.deepRefs 4 v1).eraseDups).filter (fun r=>decide (k<=r))
 if rs.eraseDups.length=rs.length then
  match qz (fun r=>qP (fun r=>q9 r rs 0) (g r)) rs,qA (fun r=>q9 r rs 0) 8 v1 with
  | some rows0,some v0=>some (v0,rows0)|_,_=>none
 else none
def qdV.cfg (b:qdV):Nat->Cfg
 | 0=>{P:=b.P,T:=b.T,F:=b.F,rc:=b.rc,po:=b.po,RC:=b.tab,WC:=fun _ _ _=>none}
 | n+1 =>
  let c:=b.cfg n
  {P:=b.P,T:=b.T,F:=b.F,rc:=b.rc,po:=b.po,RC:=fun g args rows=>match b.tab g args rows with
   | some v=>some v|none=>if b.wc g then none else match Y9 c g args with
    | some fr=>match qdd c b.fuel {fr,stack:=[],rows}with
     | .done v rows'=>qcB (qp rows') v|_=>none
    | none=>none,
   WC:=fun g args rows=>if b.wc g then(match Y9 c g args with
   | some fr=>match qdd c b.fuel {fr,stack:=[],rows}with
    | .done v rows'=>qkH (qp rows') rows.length v|_=>none
   | none=>none)else none}
structure BOK (b:qdV):Prop where
 T:TOK b.P b.T
 F:∀g gf,b.F g=some gf->b.P.funcs[g]?=some gf/\(gf.name == "runtime.NumGoroutine")=false
 rc:∀g,b.rc g=true->∃gf,b.P.funcs[g]?=some gf/\gf.body.isSome=true/\(gf.name == "runtime.NumGoroutine")=false
 mixed:b.P.follows .mixedOrders=true
 tab:qjZ b.P b.tab
def qv4 (b:qdV) (n:Nat):(b.cfg n).P=b.P:=by cases n<;>rfl
def qpI (f:qq->V->Option V):Prop:=∀{w0:World} {own:Own} {m:Mp} {S:Nat->Prop} {w:World} {rows:Rows},Inv w0 own m S w rows->∀{g:qq} {v x:V} {u:Value},GD g rows->f g v=some x->RV m S w v u ->
  ∃S' rows',Inv w0 own m S' w rows'/\Ext m S w m S' w/\(∀(m2:Mp),RV m2 S' w x u)/\GD g rows'
def qv5:qpI qgc:=by
 intro w0 own m S w rows inv g v x u hg h hv;unfold qgc at h;split at h
 ·cases h; exact⟨S,rows,inv,Ext.refl ..,fun m2=>.d _ _ (Yh hv),hg⟩
 ·cases h; cases hv; exact⟨S,rows,inv,Ext.refl ..,fun m2=>.nil,hg⟩
 ·cases h
  cases hv with
  | fn _ _ arr hlen hd =>
   exact⟨S,rows,inv,Ext.refl ..,fun m2=>.fn _ _ arr hlen (fun j x v h=>by simp at h),hg⟩
 ·split at h
  ·rename_i y us hd;cases h;obtain⟨S',i1,e1,r1,g1,_,_⟩:=qpd inv hg hd hv;exact⟨S',_,i1,e1,fun m2=>.d _ _ r1,g1⟩
  ·cases h
 ·cases h
def qpJ {f:qq->V->Option V} (hf:qpI f):∀{vs xs:List V} {us:List Value} {S:Nat->Prop} {rows:Rows} {g:qq},Inv w0 own m S w rows->GD g rows->qdU (f g) vs=some xs->RVs m S w vs us.toArray ->
  ∃S' rows',Inv w0 own m S' w rows'/\Ext m S w m S' w/\(∀(m2:Mp),RVs m2 S' w xs us.toArray)/\GD g rows'
 | [],xs,us,S,rows,g,inv,hg,h,hv=>by
  simp[qdU]at h; subst h;exact⟨S,rows,inv,Ext.refl ..,fun m2=>⟨by have:=hv.1; simpa using this,fun j x v h=>by simp at h⟩,hg⟩
 | v::vs,xs,us,S,rows,g,inv,hg,h,hv=>by
  cases us with
  | nil=>have:=hv.1; simp at this
  | cons u us =>
   simp only[qdU]at h;split at h
   ·rename_i x l h1 h2;cases h;obtain⟨S1,rows1,i1,e1,r1,g1⟩:=hf inv hg h1 (hv.2 0 v u rfl (by simp));obtain⟨S2,rows2,i2,e2,r2,g2⟩:=qpJ hf i1 g1 h2 ((qjU hv).ext e1);refine⟨S2,rows2,i2,e1.trans e2,fun m2=>?_,g2⟩;have ht:=r2 m2;refine⟨by have:=ht.1; simpa using this,fun j y z hy hz=>?_⟩
    cases j with
    | zero =>
     simp at hy hz; subst hy; subst hz;exact(r1 m2).ext ⟨fun _ _ h=>h,e2.sub,e2.obj,e2.size⟩
    | succ j=>simp at hy hz; exact ht.2 j y z hy (by simpa using hz)
   ·cases h
def qv6:qpI qgd:=by
 intro w0 own m S w rows inv g v x u hg h hv;unfold qgd at h;split at h
 ·rename_i cs;split at h
  ·rename_i ds us hd;cases h
   cases hv with
   | agg _ arr hlen hd' =>
   obtain⟨S',i1,e1,⟨l1,r1⟩,g1,_,_⟩:=qhL (arr:=arr.toList) inv hg hd (by rw[qVd]; exact⟨hlen,hd'⟩);exact⟨S',_,i1,e1,fun m2=>.d _ _ (.agg ds arr (by rw[<-l1]; simp) (fun j d v a b=>r1 j d v a (by simpa using b))),g1⟩
  ·cases hc:qdU (qgc g) cs with
   | none=>rw[hc]at h; cases h
   | some xs =>
    rw[hc]at h; cases h
    cases hv with
    | agg _ arr hlen hd' =>
    obtain⟨S',rows',i1,e1,r1,g1⟩:=qpJ (us:=arr.toList) qv5 inv hg hc (by rw[qVd]; exact⟨hlen,hd'⟩);refine⟨S',rows',i1,e1,fun m2=>?_,g1⟩;have:=r1 m2;rw[qVd]at this;exact .agg xs arr this.1 this.2
 ·exact qv5 inv hg h hv
def qv7 (inv:Inv w0 own m S w rows) {v x:V} {u:Value} (h:qcB (qp rows) v=some x) (hv:RV m S w v u) :
  ∃S' rows',Inv w0 own m S' w rows'/\(∀(m2:Mp),RV m2 S' w x u):=by
 unfold qcB at h;split at h
 ·rename_i vs
  cases hc:qdU (qgd (qp rows)) vs with
  | none=>rw[hc]at h; cases h
  | some xs =>
   rw[hc]at h; cases h
   cases hv with
   | tup _ arr hlen hd =>
   obtain⟨S',rows',i1,e1,r1,_⟩:=qpJ (us:=arr.toList) qv6 inv (J4 rows).gd hc (by rw[qVd]; exact⟨hlen,hd⟩);refine⟨S',rows',i1,fun m2=>?_⟩;have:=r1 m2;rw[qVd]at this;exact .tup xs arr this.1 this.2
 ·split at h
  ·rename_i y hy;cases h;obtain⟨S',rows',i1,e1,r1,_⟩:=qv6 inv (J4 rows).gd hy hv;exact⟨S',rows',i1,r1⟩
  ·obtain⟨S',rows',i1,e1,r1,_⟩:=qD1 (qp rows) 6 inv (fun r row hr=>⟨row,J4 rows r row hr,rfl⟩) h hv;exact⟨S',rows',i1,fun m2=>r1.toRV⟩
def Inv.rebase (inv:Inv w0 own m S w rows) (hro:∀(r:Nat) (row:Row),rows[r]?=some (qc.live row)->row.rw=false):Inv w ⟨fun _=>False,S⟩ m S w rows :=
 ⟨inv.none,inv.fre,inv.row,inv.bnd,fun r row b o h hw _=>(by rw[hro r row h]at hw; cases hw),inv.apart,inv.stab,inv.rost,inv.sbnd,fun b h=>.inl h,fun b h=>h,rfl,rfl,rfl,qTF _,fun _ _ _=>rfl,inv.glb⟩
def qv8 {g:qq}:∀{vs:List V} {xs:List D} {us:List (Nat×qc)},YS g vs=some (xs,us)->∀u∈us,∃row,g u.1=some row
 | [],xs,us,h=>by simp[YS]at h; obtain⟨_,rfl⟩:=h; intro u hu; cases hu
 | v::vs,xs,us,h=>by
  simp only[YS]at h;split at h
  ·rename_i x u1 l us' h1 h2;cases h;intro u hu;rcases qTH.1 hu with h3|h3
   ·unfold qbY at h1;split at h1
    ·cases h1; cases h3
    ·cases h1; cases h3
    ·split at h1
     ·rename_i hg;split at h1
      ·cases h1;rcases qUJ.1 h3 with rfl
       exact⟨_,hg⟩
      ·cases h1
     ·cases h1
    ·cases h1
   ·exact qv8 h2 u h3
  ·cases h
def qD2 (inv:Inv w0 own m S w rows) {k:Nat} {v x:V} {us:List (Nat×qc)} {u:Value} (h:qhY (fun r=>if r<k then none else qp rows r) v=some (x,us)) (hv:RV m S w v u) :
  ∃S' rows',Inv w0 own m S' w rows'/\RV m S' w x u/\(∀r,r<k->qp rows' r=qp rows r)/\rows'.length=rows.length:=by
 have hg:GD (fun r=>if r<k then none else qp rows r) rows:=fun r kk es ro e=>by
  simp only at e;split at e
  ·cases e
  ·exact⟨ro,qdK e,fun h=>h⟩
 have fin:∀{vs:List V} {ds:List D} {us:List (Nat×qc)} {arr:Array Value},YS (fun r=>if r<k then none else qp rows r) vs=some (ds,us)->RVs m S w vs arr ->
   ∃S' rows',Inv w0 own m S' w rows'/\(arr.size=ds.length/\∀(j:Nat) (d:D) (v:Value),ds[j]?=some d->arr[j]?=some v->RD S' w d v)/\(∀r,r<k->qp rows' r=qp rows r)/\rows'.length=rows.length:=by
  intro vs ds us arr hd ha;obtain⟨S1,i1,e1,⟨l1,r1⟩,g1,k1,n1⟩:=qhL (arr:=arr.toList) inv hg hd (by rw[qVd]; exact ha);refine⟨S1,_,i1,⟨by rw[<-l1]; simp,fun j d v a b=>r1 j d v a (by simpa using b)⟩,fun r hr=>?_,n1⟩;refine qdR (k1 r fun u hu e=>?_);obtain⟨row,hrow⟩:=qv8 hd u hu;rw[e]at hrow;simp only[if_pos hr]at hrow;cases hrow
 unfold qhY at h;split at h
 ·rename_i cs;split at h
  ·rename_i ds us' hd;cases h
   cases hv with
   | agg _ arr hlen hd' =>
   obtain⟨S1,rows1,i1,⟨l1,r1⟩,k1,n1⟩:=fin hd ⟨hlen,hd'⟩;exact⟨S1,rows1,i1,.d _ _ (.agg ds arr l1 r1),k1,n1⟩
  ·cases h
 ·rename_i vs;split at h
  ·rename_i ds us' hd;cases h
   cases hv with
   | tup _ arr hlen hd' =>
   obtain⟨S1,rows1,i1,⟨l1,r1⟩,k1,n1⟩:=fin hd ⟨hlen,hd'⟩;refine⟨S1,rows1,i1,.tup _ arr (by simpa using l1) (fun j y v hy hv=>?_),k1,n1⟩;rw[qT3,qTP]at hy;obtain⟨d,hd2,rfl⟩:=hy;exact .d _ _ (r1 j d v hd2 hv)
  ·cases h
 ·cases h
def qM.norm {P:Program} {g:FuncId} {args:List V} {rows:Rows} {R:V->Rows->Prop} {v0:V} {rows0:Rows} (h:qM P g rows.length args rows R) (hnn:∀x y,R x y->qkH (qp y) rows.length x=some (v0,rows0)) :
  qM P g rows.length args rows (fun x y=>x=v0/\y=rows0):=by
 intro w0 own m S w vs inv ha cs;obtain⟨e,w',fr,⟨u,x,y,rfl,hR,m',S',i2,r2,hm',hsz⟩,h3⟩:=h w0 own m S w vs inv ha cs;have hn:=hnn x y hR;unfold qkH at hn;simp only at hn;split at hn
 ·rename_i hrs;split at hn
  ·rename_i ra va h1 h2;cases hn;have key:∃S2 rows2,Inv w0 own m' S2 w' rows2/\RV m' S2 w' (cvN (qp y) rows.length x).1 u/\qz (fun r=>qP (fun r=>q9 r (List.range rows.length++((V.deepRefs 4 (cvN (qp y) rows.length x).1).eraseDups).filter (fun r=>decide (rows.length<=r))) 0) (qp rows2 r)) (List.range rows.length++((V.deepRefs 4 (cvN (qp y) rows.length x).1).eraseDups).filter (fun r=>decide (rows.length<=r)))=some rows0:=by
    cases hc:qhY (fun r=>if r<rows.length then none else(qp y) r) x with
    | none =>
     have hcv:cvN (qp y) rows.length x=(x,[]):=by unfold cvN; rw[hc]; rfl
     rw[hcv]at h1 ⊢;exact⟨S',y,i2,r2,h1⟩
    | some p =>
     obtain⟨x1,us⟩:=p;have hcv:cvN (qp y) rows.length x=(x1,us):=by unfold cvN; rw[hc]; rfl
     rw[hcv]at h1 ⊢;obtain⟨S2,rows2,i3,r3,k3,_⟩:=qD2 i2 hc r2;refine⟨S2,rows2,i3,r3,?_⟩;rw[<-h1];have hdata:V.deepRefs 4 x1=[]:=by
      unfold qhY at hc;split at hc
      ·split at hc
       ·cases hc; rfl
       ·cases hc
      ·split at hc
       ·cases hc;simp only[V.deepRefs,List.flatMap_map];exact List.flatMap_eq_nil_iff.2 fun d _=>rfl
       ·cases hc
      ·cases hc
     refine qkz fun r hr=>?_
     simp only[hdata]at hr;have hlt:r<rows.length:=by
      rcases qTH.1 hr with h4|h4
      ·simpa using h4
      ·simp at h4
     rw[k3 r hlt]
   obtain⟨S2,rows2,i3,r3,hmap⟩:=key;refine⟨_,w',fr,⟨u,v0,rows0,rfl,⟨rfl,rfl⟩,qT m' _,S2,qhO i3 hrs hmap,qdG h2 r3,fun r hr p hp=>?_,hsz⟩,h3⟩;have hget:(List.range rows.length++((V.deepRefs 4 (cvN (qp y) rows.length x).1).eraseDups).filter (fun r=>decide (rows.length<=r)))[r]?=some r:=by
    rw[qTZ (by simpa using hr)];exact qVj hr
   simp only[qT,hget,qVt];exact hm' r hr p hp
  ·cases hn
 ·cases hn
def qD3 {P:Program} {g:FuncId} {args:List V} {rows:Rows} {lk:qq} {v v0:V} {rows0:Rows} (h:qM P g rows.length args rows (fun x y=>x=v/\qp y=lk)) (hn:qkH lk rows.length v=some (v0,rows0)) :
  qM P g rows.length args rows (fun x y=>x=v0/\y=rows0) :=
 h.norm fun x y ⟨h1,h2⟩=>by rw[h1,h2]; exact hn
def qkI {b:qdV} (hb:BOK b):∀n,COK (b.cfg n)
 | 0=>⟨hb.T,hb.F,hb.tab,fun g args rows v rows2 h=>(by cases h),hb.rc,hb.mixed⟩
 | n+1=>by
  have ih:=qkI hb n;refine⟨hb.T,hb.F,fun g args rows v h w0 own m S w vs inv hro hargs=>?_,fun g args rows v rows2 h=>?_,hb.rc,hb.mixed⟩
  ·simp only[qdV.cfg]at h;split at h
   ·rename_i v1 ht;cases h;exact hb.tab g args rows v ht w0 own m S w vs inv hro hargs
   split at h
   ·cases h
   split at h
   ·rename_i fr hen;split at h
    ·rename_i v' rows' hrun;have hcalls:=qEm ih hen hrun (inv.rebase hro) hargs;rw[qv4]at hcalls;refine hcalls.mono fun e w' ⟨u,he,m',S',i1,r1⟩=>⟨u,he,?_⟩
     obtain⟨S2,rows2,i2,r2⟩:=qv7 i1 h r1;refine⟨S2,fun c hc=>i2.stb c hc,fun c hc=>?_,r2,fun c hc=>i2.kept c hc (fun h=>h),i2.grow,i2.os,i2.tape,i2.output⟩;rcases i2.base c hc with h1|h1|h1
     ·exact .inl h1
     ·exact .inr ⟨h1,i2.sbnd c hc⟩
     ·exact h1.elim
    ·cases h
   ·cases h
  ·simp only[qdV.cfg]at h;split at h
   ·split at h
    ·rename_i fr hen;split at h
     ·rename_i v' rows' hrun;have hd:=qEn ih hen hrun rows.length;rw[qv4]at hd;refine qD3 (lk:=qp rows') (v:=v') (fun w0 own m S w vs inv ha=>(hd w0 own m S w vs inv ha).mono fun e w' ⟨u,x,y,h1,⟨h2,h3⟩,h4⟩=>⟨u,x,y,h1,⟨h2,by rw[h3]⟩,h4⟩) h
     ·cases h
    ·cases h
   ·cases h
def Inv.start (w:World) {St:Nat->Prop} (hs:∀b,St b->b<w.heap.size) (hg:Glb St w):Inv w ⟨fun _=>False,St⟩ (fun _=>Option.none) St w [] :=
 ⟨fun _ _=>rfl,fun r h=>(by simp at h),fun r row h=>(by simp at h),fun r b o h=>(by cases h),fun r row b o h=>(by simp at h),fun r r' row row' b o b' o' _ h=>(by simp at h),fun r row b o h=>(by simp at h),
  fun r row b o h=>(by simp at h),fun b h=>hs b h,fun b h=>.inl h,fun b h=>h,rfl,rfl,rfl,qTF _,fun _ _ _=>rfl,hg⟩
end Go.Aev
namespace Go.Aev
variable [Glob]
def qh:List Prop->Prop
 | []=>True|p::r=>p/\qh r
def Yl {a b:List Prop} (h:qh (a++b)):qh a/\qh b:=by
 induction a with
 | nil=>exact⟨trivial,h⟩|cons p a ih=>exact⟨⟨h.1,(ih h.2).1⟩,(ih h.2).2⟩
structure qw where
 row:Nat->Option (Nat->D):=fun _=>none
 lst:Nat->Option (Nat->D):=fun _=>none
 md:Nat:=0
 gd:Nat->Option Bool:=fun _=>none
 ar:Bool:=false
 sh:Bool:=false
 wr:Bool:=false
 sx:Bool:=false
 mz:Nat->Bool:=fun _=>false
 nz:Nat->Bool:=fun _=>false
 arr:Nat->Option (Nat×List D×(Nat->D)):=fun _=>none
 arrT:Nat->Option (Nat×List D×(Nat->D)):=fun _=>none
 glb:Nat->Option (Nat->D):=fun _=>none
 spl:Nat->Option (Nat×(Nat->D)):=fun _=>none
 mv:Nat->Option (List D):=fun _=>none
 lit:Nat->Option Int:=fun _=>none
 mput:Nat->Option (List (D×V)):=fun _=>none
 mget:Nat->Option V:=fun _=>none
def qw.atm (h:qw) (o:Operand):qw:=match o with
 | .tmp k=>match h.arrT k with
  | some x=>{h with arr:=fun _=>some x}
  | none=>h
 | _=>h
def qw.mdOf (h:qw) (args:List Operand):Nat:=match Nat.beq h.md 4 with
 | true=>match args with
  | [_,.tmp t]=>match h.mz t with
   | true=>3|false=>match h.nz t with
    | true=>1|false=>0
  | _=>0
 | false=>h.md
def qw.at (h:qw):Operand->Option (Nat->D)
 | .tmp t=>h.lst t|_=>none
def qw.litO (h:qw):Operand->Option Int
 | .tmp t=>h.lit t|_=>none
def qw.mputO (h:qw):Operand->Option (List (D×V))
 | .tmp t=>h.mput t|_=>none
def qw.mgetO (h:qw):Operand->Option V
 | .tmp t=>h.mget t|_=>none
def qw.at' (h:qw):Operand->Option (Nat->D)
 | .global g=>h.glb g|_=>none
def qk3 (T:TypeId->Option Ty) (fh:Option (Nat->D)) (t:TypeId) (x ix:V):Option (List Prop×V) :=
 match T t,ix with
 | some y,.d (.int _ n)=>match y.desc with
  | .slice e=>match T e with
   | some z=>match x with
    | .sl r k off len _ _=>some ([k=z.size/\0<=n/\n<(len:Int)],.pt r k (off+n.toNat) 0)|.d (.list es)=>match fh with
     | some fh=>some ([0<=n/\n<(es.length:Int),es[n.toNat]?=some (fh n.toNat),(fh n.toNat).cells.length=z.size],.dp (fh n.toNat))|none=>none
    | _=>none
   | none=>none
  | _=>none
 | _,_=>none
def qwC {T:TypeId->Option Ty} {h:Option (Nat->D)} {t:TypeId} {x ix v:V} {ps:List Prop} (e:qk3 T h t x ix=some (ps,v)) (hp:qh ps):qa5 T t x ix=some v:=by
 unfold qk3 at e;unfold qa5;split at e
 ·rename_i y q n hy;rw[hy];simp only at e ⊢;split at e
  ·rename_i el hd;simp only[hd];split at e
   ·rename_i z hz;simp only[hz];split at e
    ·cases e;simp only;rw[if_pos hp.1]
    ·split at e
     ·rename_i es fh;cases e;obtain⟨h1,h2,h3,_⟩:=hp;simp only;rw[if_pos h1,h2];simp only;rw[if_pos h3]
     ·cases e
    ·cases e
   ·cases e
  ·cases e
 ·cases e
def qp4 (T:TypeId->Option Ty) (lt:Option Int) (fh:Option (Nat->D)) (t:TypeId) (x ix:V):Option (List Prop×V) :=
 match lt with
 | some z=>match ix with
  | .d (.int k n)=>match qk3 T fh t x (.d (.int k z))with
   | some (ps,v)=>some ((n=z)::ps,v)|none=>none
  | _=>none
 | none=>none
def qEJ {T:TypeId->Option Ty} {lt:Option Int} {h:Option (Nat->D)} {t:TypeId} {x ix v:V} {ps:List Prop} (e:qp4 T lt h t x ix=some (ps,v)) (hp:qh ps):qa5 T t x ix=some v:=by
 unfold qp4 at e;split at e
 ·split at e
  ·split at e
   ·rename_i ps' v' hs;cases e;rw[hp.1];exact qwC hs hp.2
   ·cases e
  ·cases e
 ·cases e
def qEK (y:Ty) (k f:Nat) (e:D):Option V :=
 if y.agg then
  if f=0/\y.size=k then some (.d (.agg e.cells))
  else if f+y.size<=k then some (.d (.agg ((e.cells.drop f).take y.size)))else none
 else match e.cells[f]? with
  | some c=>some (.d c)|none=>none
def qp5 (T:TypeId->Option Ty) (h:qw) (g:qq) (t:TypeId) (a:V):Option (List Prop×V) :=
 match a with
 | .pt r k i f=>match h.row r with
  | some fh=>match T t,g r with
   | some y,some (.dat k' es _)=>match qEK y k f (fh i)with
    | some v=>some ([k=k'/\es[i]?=some (fh i)],v)|none=>none
   | _,_=>none
  | none=>none
 | _=>none
def qEL {T:TypeId->Option Ty} {h:qw} {g:qq} {t:TypeId} {a v:V} {ps:List Prop} (e:qp5 T h g t a=some (ps,v)) (hp:qh ps):qa4 T g t a=some v:=by
 unfold qp5 at e;split at e
 ·rename_i r k i f;split at e
  ·rename_i fh hfh;split at e
   ·rename_i y k' es ro hy hg;split at e
    ·rename_i v' hl;cases e;obtain⟨⟨h1,h2⟩,_⟩:=hp;unfold qa4;simp only[hy,hg];rw[if_pos h1,h2];exact hl
    ·cases e
   ·cases e
  ·cases e
 ·cases e
def qp6 (T:TypeId->Option Ty) (h:qw) (t:TypeId) (x ix:V):Option (List Prop×V) :=
 match h.ar with
 | true=>match T t,ix with
  | some y,.d (.int _ n)=>match y.desc with
   | .array len e=>match T e with
    | some z=>match x with
     | .pt r k i f=>some ([0<=n/\n<(len:Int)],.pt r k i (f+n.toNat*z.size))|_=>none
    | none=>none
   | _=>none
  | _,_=>none
 | false=>none
def qEM {T:TypeId->Option Ty} {h:qw} {t:TypeId} {x ix v:V} {ps:List Prop} (e:qp6 T h t x ix=some (ps,v)) (hp:qh ps):qa5 T t x ix=some v:=by
 unfold qp6 at e;unfold qa5;split at e
 ·split at e
  ·rename_i y q n hy;rw[hy];simp only;split at e
   ·rename_i len el hd;simp only[hd];split at e
    ·rename_i z hz;simp only[hz];split at e
     ·cases e;simp only;rw[if_pos hp.1]
     ·cases e
    ·cases e
   ·cases e
  ·cases e
 ·cases e
def qp7 (T:TypeId->Option Ty) (h:qw) (g:qq) (t:TypeId) (a:V):Option (List Prop×V) :=
 match h.ar with
 | true=>match a with
  | .pt r k i f=>match h.row r with
   | some fh=>match T t,g r with
    | some y,some (.box cs _)=>match y.agg with
     | true=>none|false=>some ([cs[i*k+f]?=some (.d (fh (i*k+f)))],.d (fh (i*k+f)))
    | _,_=>none
   | none=>none
  | _=>none
 | false=>none
def qEN {T:TypeId->Option Ty} {h:qw} {g:qq} {t:TypeId} {a v:V} {ps:List Prop} (e:qp7 T h g t a=some (ps,v)) (hp:qh ps):qa4 T g t a=some v:=by
 unfold qp7 at e;split at e
 ·split at e
  ·rename_i r k i f;split at e
   ·rename_i fh hfh;split at e
    ·rename_i y cs ro hy hg;split at e
     ·cases e
     ·rename_i ha;cases e;unfold qa4;simp only[hy,hg,ha];exact hp.1
    ·cases e
   ·cases e
  ·cases e
 ·cases e
def qp8 (T:TypeId->Option Ty) (fh:Option (Nat->D)) (t:TypeId) (x ix:V):Option (List Prop×V) :=
 match fh with
 | some fh=>match T t,ix with
  | some y,.d (.int _ n)=>match y.desc,x with
   | .array len e,.d (.agg cs)=>match T e with
    | some z=>match z.agg with
     | true=>none|false=>match Nat.beq z.size 1 with
      | true=>some ([0<=n/\n<(len:Int),cs[n.toNat]?=some (fh n.toNat)],.d (fh n.toNat))|false=>some ([0<=n/\n<(len:Int),cs[n.toNat*z.size]?=some (fh n.toNat)],.d (fh n.toNat))
    | none=>none
   | _,_=>none
  | _,_=>none
 | none=>none
def qp9 (T:TypeId->Option Ty) (t:TypeId) (x ix:V):Option (List Prop×V) :=
 match T t,ix with
 | some y,.d (.int _ n)=>match y.desc,x with
  | .string,.d (.str s)=>some ([0<=n/\n<(s.data.toList.length:Int)],.d (.int .u8 ((s.data.toList.getD n.toNat 0).toNat:Nat)))|_,_=>none
 | _,_=>none
def qEO {T:TypeId->Option Ty} {t:TypeId} {x ix v:V} {ps:List Prop} (e:qp9 T t x ix=some (ps,v)) (hp:qh ps):qdM T t x ix=some v:=by
 unfold qp9 at e;unfold qdM;split at e
 ·rename_i y q n hy;split at e
  ·rename_i s hd;rw[hy];cases e;obtain⟨⟨h1,h2⟩,_⟩:=hp;simp only[hd,if_pos h1];have hlt:n.toNat<s.size:=by
    show n.toNat<s.data.size;rw[<-qVv]; omega
   have hs:s[n.toNat]?=some (s.data.toList.getD n.toNat 0):=by
    rw[getElem?_pos s n.toNat hlt]
    congr 1
    have h3:n.toNat<s.data.toList.length:=by rw[qVv]; exact hlt
    rw[zzG,qTE h3];rfl
   rw[hs]
  ·cases e
 ·cases e
def qEP {T:TypeId->Option Ty} {fh:Option (Nat->D)} {t:TypeId} {x ix v:V} {ps:List Prop} (e:qp8 T fh t x ix=some (ps,v)) (hp:qh ps):qdM T t x ix=some v:=by
 unfold qp8 at e;unfold qdM;split at e
 ·split at e
  ·rename_i y q n hy;rw[hy];simp only;split at e
   ·rename_i len el cs hd;simp only[hd];split at e
    ·rename_i z hz;simp only[hz];split at e
     ·cases e
     ·rename_i ha;split at e
      ·rename_i hz1;have hz1:=qTO hz1;cases e;obtain⟨h1,h2,_⟩:=hp;rw[if_pos h1];unfold qdL;simp only[ha,hz1,qUA,h2];rfl
      ·cases e;obtain⟨h1,h2,_⟩:=hp;rw[if_pos h1];unfold qdL;simp only[ha,h2];rfl
    ·cases e
   ·cases e
  ·cases e
 ·cases e
def qqa (T:TypeId->Option Ty) (h:qw) (g:qq) (t:TypeId) (a x:V):Option (List Prop×Res) :=
 match h.ar with
 | true=>match a,T t with
  | .pt r k i f,some y=>match g r with
   | some (.box cs false)=>some ([x.cells.length=y.size/\0<y.size/\x.cells.all V.one=true,i*k+f+y.size<=cs.length],
     {v:=V.undef,ups:=[(r,.live (.box (Yi cs (i*k+f) x.cells) false))]})
   | _=>none
  | _,_=>none
 | false=>none
def qEQ {T:TypeId->Option Ty} {h:qw} {g:qq} {t:TypeId} {a x:V} {ps:List Prop} {res:Res} (e:qqa T h g t a x=some (ps,res)) (hp:qh ps):qaM T g t a x=some res:=by
 unfold qqa at e;unfold qaM;split at e
 ·split at e
  ·rename_i r k i f y hy;simp only[hy];split at e
   ·rename_i cs hg;cases e;obtain⟨a1,a2,_⟩:=hp;rw[if_pos a1];simp only[hg];rw[if_pos a2]
   ·cases e
  ·cases e
 ·cases e
def qia (k i f:Nat):Option Nat:=match Nat.beq k 1 with
 | true=>match f with
  | 0=>some i|_=>none
 | false=>match i with
  | 0=>some f|_=>none
def qk4 {k i f j:Nat} (h:qia k i f=some j):i*k+f=j:=by
 unfold qia at h;split at h
 ·rename_i hk;have:=qTO hk;subst this;split at h
  ·cases h; omega
  ·cases h
 ·split at h
  ·cases h; omega
  ·cases h
def qqb (f n:Nat):Nat:=match f with
 | 0=>n|f=>f+n
def qER (f n:Nat):qqb f n=f+n:=by
 cases f<;>simp[qqb]
def qqc (T:TypeId->Option Ty) (h:qw) (t:TypeId) (x ix:V):Option (List Prop×V) :=
 match x with
 | .pt r k i f=>match h.arr r with
  | some _=>match i,T t,ix with
   | 0,some y,.d (.int _ n)=>match y.desc with
    | .array len e=>match T e with
     | some z=>match Nat.beq z.size 1 with
      | true=>some ([0<=n/\n<(len:Int)],.pt r k 0 (qqb f n.toNat))|false=>none
     | none=>none
    | _=>none
   | _,_,_=>none
  | none=>none
 | _=>none
def qES {T:TypeId->Option Ty} {h:qw} {t:TypeId} {x ix v:V} {ps:List Prop} (e:qqc T h t x ix=some (ps,v)) (hp:qh ps):qa5 T t x ix=some v:=by
 unfold qqc at e;unfold qa5;split at e
 ·rename_i r k i f;split at e
  ·split at e
   ·rename_i y q n hy;rw[hy];simp only;split at e
    ·rename_i len el hd;simp only[hd];split at e
     ·rename_i z hz;simp only[hz];split at e
      ·rename_i h1;cases e;rw[if_pos hp.1,qER,qTO h1,qUA]
      ·cases e
     ·cases e
    ·cases e
   ·cases e
  ·cases e
 ·cases e
def qqd (T:TypeId->Option Ty) (fh:Option (Nat->D)) (t:TypeId) (x ix:V):Option (List Prop×V) :=
 match x with
 | .dp (.agg cs)=>match fh with
  | some fh=>match T t,ix with
   | some y,.d (.int _ n)=>match y.desc with
    | .array len e=>match T e with
     | some z=>match Nat.beq z.size 1 with
      | true=>some ([0<=n/\n<(len:Int),cs[n.toNat]?=some (fh n.toNat),(fh n.toNat).cells.length=1,(!(fh n.toNat).isAgg)=true],.dp (fh n.toNat))|false=>none
     | none=>none
    | _=>none
   | _,_=>none
  | none=>none
 | _=>none
def qET {T:TypeId->Option Ty} {fh:Option (Nat->D)} {t:TypeId} {x ix v:V} {ps:List Prop} (e:qqd T fh t x ix=some (ps,v)) (hp:qh ps):qa5 T t x ix=some v:=by
 unfold qqd at e;unfold qa5;split at e
 ·rename_i cs;split at e
  ·rename_i fh;split at e
   ·rename_i y q n hy;rw[hy];simp only;split at e
    ·rename_i len el hd;simp only[hd];split at e
     ·rename_i z hz;simp only[hz];split at e
      ·rename_i h1;cases e;obtain⟨⟨a1,a2⟩,a3,a4,a5,_⟩:=hp;rw[if_pos ⟨a1,a2,qTO h1⟩];have:(D.agg cs).cells[n.toNat]?=some (fh n.toNat):=a3;simp only[this];rw[if_pos ⟨a4,by simpa using a5⟩]
      ·cases e
     ·cases e
    ·cases e
   ·cases e
  ·cases e
 ·cases e
def qqe (T:TypeId->Option Ty) (h:qw) (g:qq) (t:TypeId) (a:V):Option (List Prop×V) :=
 match a with
 | .pt r k i f=>match h.arr r with
  | some (N,ds,fh)=>match T t,g r with
   | some y,some (.box cs _)=>match y.agg with
    | false=>match qia k i f with
     | some j=>some ([cs=ds.map V.d,ds[j]?=some (fh j)],.d (fh j))|none=>none
    | true=>match i,f,Nat.beq y.size N with
     | 0,0,true=>some ([cs=ds.map V.d,ds.length<=N,N<=ds.length],.d (.agg ds))|_,_,_=>match qia k i f with
      | some j=>some ([cs=ds.map V.d,j+y.size<=ds.length],.d (.agg ((ds.drop j).take y.size)))|none=>none
   | _,_=>none
  | none=>none
 | _=>none
def qEU (ds:List D):qat (ds.map V.d)=some ds:=by
 induction ds with
 | nil=>rfl|cons d r ih=>simp only[qUa,qat,ih]
def qwD (ds:List D):qc2 (ds.map V.d)=.d (.agg ds):=by
 unfold qc2;rw[qEU]
def qEV {T:TypeId->Option Ty} {h:qw} {g:qq} {t:TypeId} {a v:V} {ps:List Prop} (e:qqe T h g t a=some (ps,v)) (hp:qh ps):qa4 T g t a=some v:=by
 unfold qqe at e;split at e
 ·rename_i r k i f;split at e
  ·rename_i N ds fh hfh;split at e
   ·rename_i y cs ro hy hg;unfold qa4;simp only[hy,hg];split at e
    ·rename_i ha;split at e
     ·rename_i j hj;cases e;obtain⟨a1,a2,_⟩:=hp;simp only[ha];rw[qk4 hj,a1,qT3,a2];rfl
     ·cases e
    ·rename_i ha;simp only[ha];split at e
     ·rename_i hN;cases e;obtain⟨a1,a2,a3,_⟩:=hp;have hs:=qTO hN;rw[if_pos trivial,if_pos (by rw[a1,qTS]; omega),a1];simp only[qVh,qT6,qTY];rw[<-qUL,qTX (by omega),qwD]
     ·split at e
      ·rename_i j hj;cases e;obtain⟨a1,a2,_⟩:=hp;rw[if_pos trivial,qk4 hj,if_pos (by rw[a1,qTS]; omega),a1];rw[<-qV5,<-qUL,qwD]
      ·cases e
   ·cases e
  ·cases e
 ·cases e
def qqf (T:TypeId->Option Ty) (h:qw) (g:qq) (t:TypeId) (a x:V):Option (List Prop×Res) :=
 match a with
 | .pt r k i f=>match h.arr r with
  | some (N,ds,_)=>match T t,g r with
   | some y,some (.box cs false)=>match y.agg with
    | false=>match qia k i f,x with
     | some j,.d d=>some ([cs=ds.map V.d,j<ds.length,d.cells.length=1/\y.size=1/\(!d.isAgg)=true],{v:=V.undef,ups:=[(r,.live (.box ((ds.set j d).map V.d) false))]})|_,_=>none
    | true=>match i,f,Nat.beq y.size N,x with
     | 0,0,true,.d (.agg es)=>some ([cs=ds.map V.d,ds.length<=N,N<=ds.length,es.length<=N,N<=es.length,0<y.size,es.all (fun d=>!d.isAgg)=true],{v:=V.undef,ups:=[(r,.live (.box (es.map V.d) false))]})
     | _,_,_,_=>none
   | _,_=>none
  | none=>none
 | _=>none
def qEW {T:TypeId->Option Ty} {h:qw} {g:qq} {t:TypeId} {a x:V} {ps:List Prop} {res:Res} (e:qqf T h g t a x=some (ps,res)) (hp:qh ps):qaM T g t a x=some res:=by
 unfold qqf at e;split at e
 ·rename_i r k i f;split at e
  ·rename_i N ds fh hfh;split at e
   ·rename_i y cs hy hg;unfold qaM;simp only[hy];split at e
    ·split at e
     ·rename_i j d hj;cases e;obtain⟨a1,a2,⟨b1,b2,b3⟩,_⟩:=hp;have hna:d.isAgg=false:=by simpa using b3
      have hc:(V.d d).cells=[V.d d]:=by
       cases d<;>first|rfl|cases hna
      rw[hc,if_pos ⟨by rw[b2]; rfl,by omega,by simp[V.one,hna]⟩];simp only[hg];rw[if_pos (by rw[qk4 hj,a1,qTS]; omega),qk4 hj,a1]
      congr 4
      unfold Yi;rw[List.map_set,List.set_eq_take_append_cons_drop,if_pos (by rw[qTS]; exact a2),qTW];rfl
     ·cases e
    ·split at e
     ·rename_i es hN;cases e;obtain⟨a1,a2,b2,a3,b3,a4,a5,_⟩:=hp;have hs:=qTO hN;have hc:(V.d (.agg es)).cells=es.map V.d:=rfl;rw[hc,if_pos ⟨by rw[qTS]; omega,a4,by
       rw[qTI]at a5 ⊢;intro v hv;obtain⟨d,hd,rfl⟩:=qTV.1 hv;exact a5 d hd⟩]
      simp only[hg];rw[if_pos (by rw[a1,qTS]; omega)]
      congr 4
      unfold Yi;rw[a1];simp only[qVh,qT6,List.take_zero,qUG,qTS];rw[qVf (by rw[qTS]; omega),qT7]
     ·cases e
   ·cases e
  ·cases e
 ·cases e
def qqg (T:TypeId->Option Ty) (h:qw) (g:qq) (t:TypeId) (a x:V):Option (List Prop×Res) :=
 match a with
 | .pt r k i f=>match h.spl r with
  | some (N,fh)=>match T t,g r,x with
   | some y,some (.box cs false),.d (.agg es)=>match y.agg&&Nat.beq y.size N with
    | true=>some ([es=(List.range N).map fh,0<y.size,((List.range N).map fh).all (fun d=>!d.isAgg)=true,i*k+f+N<=cs.length],
      {v:=V.undef,ups:=[(r,.live (.box (Yi cs (i*k+f) (((List.range N).map fh).map V.d)) false))]})
    | false=>none
   | _,_,_=>none
  | none=>none
 | _=>none
def qEX {T:TypeId->Option Ty} {h:qw} {g:qq} {t:TypeId} {a x:V} {ps:List Prop} {res:Res} (e:qqg T h g t a x=some (ps,res)) (hp:qh ps):qaM T g t a x=some res:=by
 unfold qqg at e;split at e
 ·rename_i r k i f;split at e
  ·rename_i N fh hfh;split at e
   ·rename_i y cs es hy hg;split at e
    ·rename_i hN;rw[qTC]at hN;have hs:=qTO hN.2;cases e;obtain⟨a1,a2,a3,a4,_⟩:=hp;unfold qaM;have hc:(V.d (.agg es)).cells=((List.range N).map fh).map V.d:=by rw[<-a1]; rfl
     have hl:(((List.range N).map fh).map V.d).length=N:=by simp
     simp only[hy];rw[hc,if_pos ⟨by rw[hl,hs],a2,by
      rw[qTI]at a3 ⊢;intro v hv;obtain⟨d,hd,rfl⟩:=qTV.1 hv;exact a3 d hd⟩]
     simp only[hg];rw[if_pos (by omega)]
    ·cases e
   ·cases e
  ·cases e
 ·cases e
def qbb (o:Option V) (d:Nat):Option (List Prop×Nat) :=
 match o with
 | none=>some ([],d)|some (.d (.int _ n))=>some ([0<=n],n.toNat)|_=>none
def J6 {o:Option V} {d n:Nat} {ps:List Prop} (e:qbb o d=some (ps,n)) (hp:qh ps):YK o d=some n:=by
 unfold qbb at e;split at e
 ·cases e; rfl
 ·cases e;simp only[YK];rw[if_pos hp.1]
 ·cases e
def qqh (T:TypeId->Option Ty) (t:TypeId) (x:V) (lo hi mx:Option V):Option (List Prop×V) :=
 match T t with
 | some y=>match y.desc,x with
  | .slice e,.sl r k off len c ex=>match T e,qbb lo 0,qbb hi len with
   | some z,some (p1,l),some (p2,h)=>match mx with
    | none=>some (p1++(p2++[k=z.size/\l<=h/\h<=len]),.sl r k (off+l) (h - l) (c - l) ex)|some _=>match qbb mx 0 with
     | some (p3,m)=>some (p1++(p2++(p3++[k=z.size/\l<=h/\h<=len/\h<=m/\m<=c/\hi.isSome=true])),.sl r k (off+l) (h - l) (m - l) true)|none=>none
   | _,_,_=>none
  | .slice e,.d (.list es)=>match T e,qbb lo 0,qbb hi es.length with
   | some z,some (p1,l),some (p2,h)=>match mx with
    | none=>some (p1++(p2++[l<=h/\h<=es.length,es.all (fun e=>e.cells.length==z.size)=true]),.d (.list ((es.drop l).take (h - l))))
    | some _=>match qbb mx 0 with
     | some (p3,m)=>some (p1++(p2++(p3++[l<=h/\h<=es.length/\h<=m/\m<=es.length/\hi.isSome=true,es.all (fun e=>e.cells.length==z.size)=true])),.d (.list ((es.drop l).take (h - l))))
     | none=>none
   | _,_,_=>none
  | _,_=>none
 | none=>none
def qEY {T:TypeId->Option Ty} {g:qq} {t:TypeId} {x v:V} {lo hi mx:Option V} {ps:List Prop} (e:qqh T t x lo hi mx=some (ps,v)) (hp:qh ps):qcw T g t x lo hi mx=some v:=by
 unfold qqh at e;unfold qcw;split at e
 ·rename_i y hy;rw[hy];simp only;split at e
  ·rename_i el r k off len c ex hd;simp only[hd];split at e
   ·rename_i z p1 l p2 h hz hlo hhi;split at e
    ·cases e;obtain⟨h1,h2⟩:=Yl hp;obtain⟨h3,h4⟩:=Yl h2;simp only[hz,J6 hlo h1,J6 hhi h3];rw[if_pos ⟨h4.1.1,h4.1.2.1,.inl h4.1.2.2⟩]
    ·split at e
     ·rename_i p3 m hmx;cases e;obtain⟨h1,h2⟩:=Yl hp;obtain⟨h3,h4⟩:=Yl h2;obtain⟨h5,h6⟩:=Yl h4;obtain⟨⟨a1,a2,a3,a4,a5,a6⟩,_⟩:=h6;simp only[hz,J6 hlo h1,J6 hhi h3];rw[if_pos ⟨a1,a2,.inl a3⟩];simp only[J6 hmx h5];rw[if_pos ⟨a4,a5,a6⟩]
     ·cases e
   ·cases e
  ·rename_i el es hd;simp only[hd];split at e
   ·rename_i z p1 l p2 h hz hlo hhi;split at e
    ·cases e;obtain⟨h1,h2⟩:=Yl hp;obtain⟨h3,⟨h4,h5⟩,h6,_⟩:=Yl h2;simp only[hz,J6 hlo h1,J6 hhi h3];rw[if_pos ⟨h4,h5,h6⟩]
    ·split at e
     ·rename_i p3 m hmx;cases e;obtain⟨h1,h2⟩:=Yl hp;obtain⟨h3,h4⟩:=Yl h2;obtain⟨h5,⟨a1,a2,a3,a4,a5⟩,a6,_⟩:=Yl h4;simp only[hz,J6 hlo h1,J6 hhi h3];rw[if_pos ⟨a1,a2,a6⟩];simp only[J6 hmx h5];rw[if_pos ⟨a3,a4,a5⟩]
     ·cases e
   ·cases e
  ·cases e
 ·cases e
def qqi (T:TypeId->Option Ty) (h:qw) (g:qq) (t:TypeId) (x:V) (lo hi mx:Option V):Option (List Prop×V) :=
 match x with
 | .pt r k i f=>match h.arr r with
  | some (_,ds,_)=>match i,T t,g r with
   | 0,some y,some (.box cs _)=>match y.desc with
    | .array n e=>match T e,qbb lo 0,qbb hi n,mx with
     | some z,some (p1,l),some (p2,hh),none=>match Nat.beq z.size 1 with
      | true=>some (p1++(p2++[cs=ds.map V.d,l<=hh,hh<=n,f+n<=ds.length,0<n]),.sl r 1 (f+l) (hh - l) (n - l) true)|false=>none
     | _,_,_,_=>none
    | _=>none
   | _,_,_=>none
  | none=>none
 | _=>none
def qEZ {T:TypeId->Option Ty} {h:qw} {g:qq} {t:TypeId} {x v:V} {lo hi mx:Option V} {ps:List Prop} (e:qqi T h g t x lo hi mx=some (ps,v)) (hp:qh ps):qcw T g t x lo hi mx=some v:=by
 unfold qqi at e;split at e
 ·rename_i r k i f;split at e
  ·split at e
   ·rename_i y cs ro hy hg;split at e
    ·rename_i n el hd;split at e
     ·rename_i z p1 l p2 hh hz hlo hhi;split at e
      ·rename_i h1;cases e;obtain⟨q1,q2⟩:=Yl hp;obtain⟨q3,a1,a2,a3,a4,a5,_⟩:=Yl q2;unfold qcw;simp only[hy,hd,hz,J6 hlo q1,J6 hhi q3,hg];rw[if_pos ⟨qTO h1,a2,a3,by rw[a1,qTS]; omega,a5⟩];simp only[qVh,qT6]
      ·cases e
     ·cases e
    ·cases e
   ·cases e
  ·cases e
 ·cases e
def qqj (T:TypeId->Option Ty) (g:qq) (t:TypeId) (x:V) (lo hi mx:Option V):Option (List Prop×V) :=
 match T t with
 | some y=>match y.desc,x with
  | .slice e,.sl r k off len c ex=>match T e,qbb lo 0,qbb hi len,g r with
   | some z,some (p1,l),some (p2,h),some (.dat _ es _)=>match mx with
    | none=>some (p1++(p2++[k=z.size/\l<=h/\h<=c/\off+h<=es.length]),.sl r k (off+l) (h - l) (c - l) ex)|some _=>match qbb mx 0 with
     | some (p3,m)=>some (p1++(p2++(p3++[k=z.size/\l<=h/\h<=c/\off+h<=es.length/\h<=m/\m<=c/\hi.isSome=true])),.sl r k (off+l) (h - l) (m - l) true)|none=>none
   | _,_,_,_=>none
  | _,_=>none
 | none=>none
def qE0 {T:TypeId->Option Ty} {g:qq} {t:TypeId} {x v:V} {lo hi mx:Option V} {ps:List Prop} (e:qqj T g t x lo hi mx=some (ps,v)) (hp:qh ps):qcw T g t x lo hi mx=some v:=by
 unfold qqj at e;unfold qcw;split at e
 ·rename_i y hy;rw[hy];simp only;split at e
  ·rename_i el r k off len c ex hd;simp only[hd];split at e
   ·rename_i z p1 l p2 h es ro hz hlo hhi hg;split at e
    ·cases e;obtain⟨h1,h2⟩:=Yl hp;obtain⟨h3,⟨a1,a2,a3,a4⟩,_⟩:=Yl h2;simp only[hz,J6 hlo h1,J6 hhi h3];rw[if_pos ⟨a1,a2,.inr ⟨a3,by simp only[qpz,hg]; exact decide_eq_true a4⟩⟩]
    ·split at e
     ·rename_i p3 m hmx;cases e;obtain⟨h1,h2⟩:=Yl hp;obtain⟨h3,h4⟩:=Yl h2;obtain⟨h5,h6⟩:=Yl h4;obtain⟨⟨a1,a2,a3,b3,a4,a5,a6⟩,_⟩:=h6;simp only[hz,J6 hlo h1,J6 hhi h3];rw[if_pos ⟨a1,a2,.inr ⟨a3,by simp only[qpz,hg]; exact decide_eq_true b3⟩⟩];simp only[J6 hmx h5];rw[if_pos ⟨a4,a5,a6⟩]
     ·cases e
   ·cases e
  ·cases e
 ·cases e
def qk5 (g:qq) (k:Nat):V->Option (List Prop×List D)
 | .nil=>some ([],[])|.d (.list es)=>some ([es.all (fun e=>e.cells.length==k)=true],es)
 | .d (.str s)=>some ([k=1],Ye s)|.sl r k' off len _ _=>match g r with
  | some (.dat k'' es _)=>some ([k=k'/\k'=k''/\off+len<=es.length],(es.drop off).take len)|_=>none
 | _=>none
def qd1 {g:qq} {k:Nat} {v:V} {ps:List Prop} {ds:List D} (e:qk5 g k v=some (ps,ds)) (hp:qh ps):qdQ g k v=some ds:=by
 unfold qk5 at e;unfold qdQ qdP;split at e
 ·cases e; rfl
 ·cases e;simp only;rw[if_pos hp.1]
 ·cases e;simp only;rw[if_pos hp.1]
 ·rename_i r k' off len c ex;split at e
  ·rename_i k'' es ro hg;cases e;simp only[hg];rw[if_pos hp.1]
  ·cases e
 ·cases e
def qqk (T:TypeId->Option Ty) (md:Nat) (g:qq) (slot:Nat) (t u:TypeId) (s x:V):Option (List Prop×Res) :=
 match T t,T u with
 | some y,some yu=>match y.desc,qpA yu.desc with
  | .slice e,true=>match T e with
   | some z=>match qk5 g z.size x with
    | some (p,ds)=>match s with
     | .nil=>if md=3 then some (p++[0<z.size/\ds.length<=0],{v:=.nil})else some (p++[0<z.size/\ds.length≠0/\2*ds.length*z.bytes<=2 ^ 48/\ds.length<=2 ^ 62],{v:=.sl slot z.size 0 ds.length ds.length false,fresh:=some (.dat z.size ds false)})
     | .sl r k off len c ex=>match g r with
      | some (.dat k' es ro) =>
       if md=3 then some (p++[0<z.size/\ds.length<=0],{v:=.sl r k off len c ex})
       else if md=2 then
        match ro with
        | true=>none|false=>some (p++[0<z.size/\ds.length≠0/\k=z.size/\k'=k/\off+len<=es.length/\len+ds.length<=c],
          {v:=.sl r k off (len+ds.length) c ex,ups:=[(r,.live (.dat k' (es.take (off+len)++ds++es.drop (off+len+ds.length)) false))]})
       else match ex,ro with
        | true,_=>some (p++[0<z.size/\ds.length≠0/\k=z.size/\k'=k/\off+len<=es.length/\¬len+ds.length<=c/\2*(len+ds.length)*z.bytes<=2 ^ 48/\len+ds.length<=2 ^ 62],
          {v:=.sl slot k 0 (len+ds.length) (len+ds.length) false,fresh:=some (.dat k' ((es.drop off).take len++ds) false)})
        | false,false=>some (p++[0<z.size/\ds.length≠0/\k=z.size/\k'=k/\off+len<=es.length/\¬len+ds.length<=c/\2*(len+ds.length)*z.bytes<=2 ^ 48/\len+ds.length<=2 ^ 62],
          {v:=.sl slot k 0 (len+ds.length) (len+ds.length) false,ups:=[(r,.dead)],fresh:=some (.dat k' ((es.drop off).take len++ds) false)})
        | _,_=>none
      | _=>none
     | _=>none
    | none=>none
   | none=>none
  | _,_=>none
 | _,_=>none
def qE1 {T:TypeId->Option Ty} {md:Nat} {g:qq} {slot:Nat} {t u:TypeId} {s x:V} {ps:List Prop} {res:Res} (e:qqk T md g slot t u s x=some (ps,res)) (hp:qh ps):qhS T g slot t u s x=some res:=by
 unfold qqk at e;unfold qhS;split at e
 ·rename_i y yu hy hyu;simp only[hy,hyu];split at e
  ·rename_i el hd hdu;simp only[hd,hdu];split at e
   ·rename_i z hz;simp only[hz];split at e
    ·rename_i p ds hel;split at e
     ·split at e
      ·cases e;obtain⟨h1,⟨a1,a2⟩,_⟩:=Yl hp;simp only[qd1 hel h1];rw[if_pos a1,if_pos (Nat.le_zero.1 a2)]
      ·cases e;obtain⟨h1,⟨a1,a2,a3,a4⟩,_⟩:=Yl hp;simp only[qd1 hel h1];rw[if_pos a1,if_neg a2,if_pos ⟨a3,a4⟩]
     ·rename_i r k off len c ex;split at e
      ·rename_i k' es ro hg;split at e
       ·cases e;obtain⟨h1,⟨a1,a2⟩,_⟩:=Yl hp;simp only[qd1 hel h1,hg];rw[if_pos a1,if_pos (Nat.le_zero.1 a2)]
       split at e
       ·split at e
        ·cases e
        ·cases e;obtain⟨h1,⟨a1,a2,a3,a4,a5,a6⟩,_⟩:=Yl hp;simp only[qd1 hel h1,hg];rw[if_pos a1,if_neg a2,if_pos ⟨a3,a4,a5⟩,if_pos a6];rfl
       ·split at e
        ·cases e;obtain⟨h1,⟨a1,a2,a3,a4,a5,a6,a7,a8⟩,_⟩:=Yl hp;simp only[qd1 hel h1,hg];rw[if_pos a1,if_neg a2,if_pos ⟨a3,a4,a5⟩,if_neg a6,if_pos ⟨a7,a8⟩];rfl
        ·cases e;obtain⟨h1,⟨a1,a2,a3,a4,a5,a6,a7,a8⟩,_⟩:=Yl hp;simp only[qd1 hel h1,hg];rw[if_pos a1,if_neg a2,if_pos ⟨a3,a4,a5⟩,if_neg a6,if_pos ⟨a7,a8⟩];rfl
        ·cases e
      ·cases e
     ·cases e
    ·cases e
   ·cases e
  ·cases e
 ·cases e
def qql (T:TypeId->Option Ty) (g:qq) (t:TypeId) (d s:V):Option (List Prop×Res) :=
 match T t with
 | some y=>match y.desc with
  | .slice e=>match T e with
   | some z=>match d,qk5 g z.size s with
    | .sl r k off len _ _,some (p,ds)=>match g r with
     | some (.dat k' es false)=>some (p++[k=z.size/\k'=k/\off+len<=es.length],
       {v:=.d (.int .i64 (min ds.length len:Nat)),ups:=[(r,.live (.dat k' (es.take off++ds.take (min ds.length len)++es.drop (off+min ds.length len)) false))]})
     | some (.box cs false)=>some (p++[k=z.size/\z.size=1/\off+len<=cs.length],
       {v:=.d (.int .i64 (min ds.length len:Nat)),ups:=[(r,.live (.box (Yi cs off ((qn (ds.take (min ds.length len))).map V.d)) false))]})
     | _=>none
    | _,_=>none
   | none=>none
  | _=>none
 | none=>none
def qE2 {T:TypeId->Option Ty} {g:qq} {t:TypeId} {d s:V} {ps:List Prop} {res:Res} (e:qql T g t d s=some (ps,res)) (hp:qh ps):qhT T g t d s=some res:=by
 unfold qql at e;unfold qhT;split at e
 ·rename_i y hy;simp only[hy];split at e
  ·rename_i el hd;simp only[hd];split at e
   ·rename_i z hz;simp only[hz];split at e
    ·rename_i r k off len c ex p ds hel;split at e
     ·rename_i k' es hg;cases e;obtain⟨h1,h2,_⟩:=Yl hp;simp only[qd1 hel h1,hg];rw[if_pos h2]
     ·rename_i cs hg;cases e;obtain⟨h1,h2,_⟩:=Yl hp;simp only[qd1 hel h1,hg];rw[if_pos h2]
     ·cases e
    ·cases e
   ·cases e
  ·cases e
 ·cases e
def qqm (T:TypeId->Option Ty) (g:qq) (t:TypeId) (d:V):Option (List Prop×Res) :=
 match T t with
 | some y=>match y.desc with
  | .slice e=>match T e with
   | some z=>match d with
    | .sl r k off len _ _=>match g r,Js z.zero.cells.toList with
     | some (.dat k' es false),some zs=>match YS (fun _=>none) zs with
      | some (ds,_)=>some ([k=z.size/\k'=k/\0<k/\off+len<=es.length/\zs.length=z.size],
        {v:=V.undef,ups:=[(r,.live (.dat k' (es.take off++List.replicate len (JK z.agg ds)++es.drop (off+len)) false))]})
      | none=>none
     | _,_=>none
    | _=>none
   | none=>none
  | _=>none
 | none=>none
def qE3 {T:TypeId->Option Ty} {g:qq} {t:TypeId} {d:V} {ps:List Prop} {res:Res} (e:qqm T g t d=some (ps,res)) (hp:qh ps):qhU T g t d=some res:=by
 unfold qqm at e;unfold qhU;split at e
 ·rename_i y hy;simp only[hy];split at e
  ·rename_i el hd;simp only[hd];split at e
   ·rename_i z hz;simp only[hz];split at e
    ·rename_i r k off len c ex;split at e
     ·rename_i k' es zs hg hzs;split at e
      ·rename_i ds us hds;cases e;simp only[hg,hzs,hds];rw[if_pos hp.1]
      ·cases e
     ·cases e
    ·cases e
   ·cases e
  ·cases e
 ·cases e
def qqn (T:TypeId->Option Ty) (h:qw) (g:qq) (t:TypeId) (a x:V):Option (List Prop×Res) :=
 match a,T t with
 | .pt r k i f,some y=>match g r with
  | some (.dat k' es false)=>match YS g x.cells with
   | some (ds,us)=>match (if f=0/\y.size=k then none else h.row r)with
    | some fh=>some ([x.cells.length=y.size/\0<y.size/\x.cells.all V.one=true,es[i]?=some (fh i),k=k'/\f+y.size<=k/\us.all (fun u=>u.1 != r)=true],
      {v:=V.undef,ups:=us++[(r,.live (.dat k' (es.set i (if f=0/\y.size=k then JK y.agg ds else D.agg (Yi (fh i).cells f ds))) false))]})
    | none=>some ([x.cells.length=y.size/\0<y.size/\x.cells.all V.one=true,i<es.length,k=k'/\f=0/\y.size=k/\us.all (fun u=>u.1 != r)=true],
      {v:=V.undef,ups:=us++[(r,.live (.dat k' (es.set i (JK y.agg ds)) false))]})
   | none=>none
  | _=>none
 | _,_=>none
def qE4 {T:TypeId->Option Ty} {h:qw} {g:qq} {t:TypeId} {a x:V} {ps:List Prop} {res:Res} (e:qqn T h g t a x=some (ps,res)) (hp:qh ps):qaM T g t a x=some res:=by
 unfold qqn at e;unfold qaM;split at e
 ·rename_i r k i f y hy;simp only[hy];split at e
  ·rename_i k' es hg;split at e
   ·rename_i ds us hds;split at e
    ·rename_i fh hfh;cases e;obtain⟨a1,a2,a3,_⟩:=hp;rw[if_pos a1];simp only[hg,hds,a2];rw[if_pos a3]
    ·cases e;obtain⟨a1,a2,⟨b1,b2,b3,b4⟩,_⟩:=hp;rw[if_pos a1];simp only[hg,hds,qTE a2];rw[if_pos ⟨b1,by omega,b4⟩,if_pos ⟨b2,b3⟩]
   ·cases e
  ·cases e
 ·cases e
def qqo (T:TypeId->Option Ty) (op:BinOp) (t:TypeId) (x y:V):Option (List Prop×V) :=
 match x,y with
 | .sl _ _ _ _ c _,.nil=>match T t with
  | some z=>match z.desc,op with
   | .slice _,.eql=>some ([0<c],.d (.bool false))|.slice _,.neq=>some ([0<c],.d (.bool true))|_,_=>none
  | none=>none
 | .d (.list es),.nil=>match T t with
  | some z=>match z.desc,op with
   | .slice _,.eql=>some ([es≠[]],.d (.bool false))|.slice _,.neq=>some ([es≠[]],.d (.bool true))|_,_=>none
  | none=>none
 | _,_=>none
def qE5 {T:TypeId->Option Ty} {op:BinOp} {t:TypeId} {x y v:V} {ps:List Prop} (e:qqo T op t x y=some (ps,v)) (hp:qh ps):Jt T op t x y=some v:=by
 unfold qqo at e;split at e
 ·rename_i r k off len c ex;split at e
  ·rename_i z hz;split at e
   ·rename_i el hd;cases e;obtain⟨c',rfl⟩:∃c',c=c'+1:=⟨c - 1,by have:=hp.1; omega⟩
    simp only[Jt,eqA,hz,qdN,hd]
   ·rename_i el hd;cases e;obtain⟨c',rfl⟩:∃c',c=c'+1:=⟨c - 1,by have:=hp.1; omega⟩
    simp only[Jt,eqA,hz,qdN,hd];rfl
   ·cases e
  ·cases e
 ·rename_i es;split at e
  ·rename_i z hz;split at e
   ·rename_i el hd;cases e
    cases es with
    | nil=>exact absurd rfl hp.1|cons x es =>
     simp only[Jt,eqA,hz,qdN,hd]
   ·rename_i el hd;cases e
    cases es with
    | nil=>exact absurd rfl hp.1|cons x es =>
     simp only[Jt,eqA,hz,qdN,hd];rfl
   ·cases e
  ·cases e
 ·cases e
def qi (n:Int):Prop:=-9223372036854775808<=n/\n<=9223372036854775807
def qib {n:Int} (h:qi n):IntKind.wrap .i64 n=n:=by
 unfold qi at h;simp[IntKind.wrap,IntKind.bits,IntKind.signed];omega
def qqp (op:BinOp) (x y:V):Option (List Prop×V) :=
 match x,y with
 | .d (.int .i64 a),.d (.int .i64 b)=>match op with
  | .add=>some ([qi (a+b)],.d (.int .i64 (a+b)))|.sub=>some ([qi (a - b)],.d (.int .i64 (a - b)))|.mul=>some ([qi (a*b)],.d (.int .i64 (a*b)))|_=>none
 | _,_=>none
def qE6 {T:TypeId->Option Ty} {op:BinOp} {t:TypeId} {x y v:V} {ps:List Prop} (e:qqp op x y=some (ps,v)) (hp:qh ps):Jt T op t x y=some v:=by
 unfold qqp at e;split at e
 ·split at e
  ·cases e; simp only[Jt,if_true,qc3,qUj,qib hp.1]
  ·cases e; simp only[Jt,if_true,qc3,qUj,qib hp.1]
  ·cases e; simp only[Jt,if_true,qc3,qUj,qib hp.1]
  ·cases e
 ·cases e
def one (r:Option (List Prop×V)):Option (List Prop×Res):=r.map fun p=>(p.1,{v:=p.2})
def qbc:List D->List D->Bool
 | [],[]=>true|.int _ a::xs,.int _ b::ys=>(a==b)&&qbc xs ys|_,_=>false
def qcF (k:IntKind):D->Bool
 | .int k' _=>decide (k'=k)|_=>false
def qe6 (T:TypeId->Option Ty) (op:BinOp) (t:TypeId) (x y:V):Option (List Prop×V) :=
 match x,y with
 | .d (.agg xs),.d (.agg ys)=>match eqG T 16 t with
  | true=>match T t with
   | some z=>match z.desc with
    | .array n e=>match T e with
     | some ze=>match ze.desc,Nat.beq ze.size 1,op with
      | .int k,true,.eql=>some ([xs.all (qcF k)=true,ys.all (qcF k)=true,xs.length=n,ys.length=n],.d (.bool (qbc xs ys)))|.int k,true,.neq=>some ([xs.all (qcF k)=true,ys.all (qcF k)=true,xs.length=n,ys.length=n],.d (.bool (!qbc xs ys)))|_,_,_=>none
     | none=>none
    | _=>none
   | none=>none
  | false=>none
 | _,_=>none
def qE7 {T:TypeId->Option Ty} {e:TypeId} {ze:Ty} {k:IntKind} {N:Nat} (he:T e=some ze) (hd:ze.desc=.int k) (h1:ze.size=1) {X Y:List D} :
  ∀(m i:Nat) (xs ys:List D),X.drop i=xs->Y.drop i=ys->xs.length=m->ys.length=m->xs.all (qcF k)=true->ys.all (qcF k)=true->qeP (eqD T (N+1) e) ze X Y (List.range' i m)=some (qbc xs ys):=by
 intro m
 induction m with
 | zero =>
  intro i xs ys _ _ hx hy _ _;rw[qVS.1 hx,qVS.1 hy]; rfl
 | succ m ih =>
  intro i xs ys hX hY hx hy ax ay
  match xs,ys,hx,hy with
  | a::xs,b::ys,hx,hy =>
   have gx:X[i]?=some a:=by
    have:=congrArg (fun l=>l[0]?) hX;simpa using this
   have gy:Y[i]?=some b:=by
    have:=congrArg (fun l=>l[0]?) hY;simpa using this
   rw[qUZ,qTC]at ax ay;have tx:X.drop (i+1)=xs:=by have:=congrArg List.tail hX; simpa using this
   have ty:Y.drop (i+1)=ys:=by have:=congrArg List.tail hY; simpa using this
   have hi:=ih (i+1) xs ys tx ty (by simpa using hx) (by simpa using hy) ax.2 ay.2;obtain⟨a1,a2⟩:=ax;obtain⟨b1,b2⟩:=ay;cases a<;>simp only[qcF]at a1<;>try (cases a1; done)
   cases b<;>simp only[qcF]at b1<;>try (cases b1; done)
   rename_i k1 z1 k2 z2;have e1:=of_decide_eq_true a1;have e2:=of_decide_eq_true b1;subst e1; subst e2;have hag:ze.agg=false:=by unfold Ty.agg; rw[hd]
   have p1:qcr ze X (i*ze.size)=some (.int k2 z1):=by unfold qcr; rw[hag,h1,qUA]; exact gx
   have p2:qcr ze Y (i*ze.size)=some (.int k2 z2):=by unfold qcr; rw[hag,h1,qUA]; exact gy
   have q:eqD T (N+1) e (.int k2 z1) (.int k2 z2)=some (z1==z2):=by
    unfold eqD;simp only[he,hd,Y2,if_true,qa3]
   rw[qVU];simp only[qeP,p1,p2,q];show _=some ((z1==z2)&&qbc xs ys)
   cases hz:(z1==z2)with
   | true=>simp only[hi,Bool.true_and]|false=>simp only[Bool.false_and]
def qE8 {T:TypeId->Option Ty} {op:BinOp} {t:TypeId} {x y v:V} {ps:List Prop} (e:qe6 T op t x y=some (ps,v)) (hp:qh ps):qdI T op t x y=some v:=by
 unfold qe6 at e;split at e
 ·rename_i xs ys;split at e
  ·rename_i hg;split at e
   ·rename_i z hz;split at e
    ·rename_i n el hd;split at e
     ·rename_i ze hze;have key:∀(k:IntKind),ze.desc=.int k->Nat.beq ze.size 1=true->xs.all (qcF k)=true->ys.all (qcF k)=true->xs.length=n->ys.length=n->eqD T 16 t (.agg xs) (.agg ys)=some (qbc xs ys):=by
       intro k hk h1 a1 a2 a3 a4;have:=qE7 (N:=14) (X:=xs) (Y:=ys) hze hk (qTO h1) n 0 xs ys (by simp) (by simp) a3 a4 a1 a2;unfold eqD;have hk2:Y2 (.array n el) (.agg xs)=false:=rfl;simp only[hz,hd,hze,hk2];rw[<-qVV]at this;simpa using this
      split at e
      ·rename_i k hk h1;cases e;obtain⟨a1,a2,a3,a4,_⟩:=hp;simp only[qdI,hg,if_true,key k hk h1 a1 a2 a3 a4]
      ·rename_i k hk h1;cases e;obtain⟨a1,a2,a3,a4,_⟩:=hp;simp only[qdI,hg,if_true,key k hk h1 a1 a2 a3 a4]
      ·cases e
     ·cases e
    ·cases e
   ·cases e
  ·cases e
 ·cases e
def qE9 {T:TypeId->Option Ty} {op:BinOp} {t:TypeId} {x y v:V} {ps:List Prop} (e:qe6 T op t x y=some (ps,v)):Jt T op t x y=none:=by
 unfold qe6 at e;split at e
 ·rename_i xs ys;split at e
  ·split at e
   ·rename_i z hz;split at e
    ·rename_i n el hd;simp only[Jt,eqA,hz,hd,qdN]
    ·cases e
   ·cases e
  ·cases e
 ·cases e
def qFa {T:TypeId->Option Ty} {op:BinOp} {t:TypeId} {x y:V} (ps:List Prop) (res:Res) (e:one (qe6 T op t x y)=some (ps,res)) (hp:qh ps):orD (Jt T op t x y) ((qdI T op t x y).map fun v=>{v})=some res:=by
 unfold one at e
 cases hq:qe6 T op t x y with
 | none=>rw[hq]at e; cases e
 | some p =>
  rw[hq]at e;cases e;rw[qE9 hq,qE8 hq hp]; rfl
def qqq (op:BinOp) (x y:V):Option (List Prop×V) :=
 match x,y with
 | .d (.int k a),.d (.int k' b)=>match op with
  | .shl=>some ([0<=b],.d (.int k (k.wrap (a*2 ^ (min b.toNat k.bits)))))|.shr=>some ([0<=b],.d (.int k (a.fdiv (2 ^ (min b.toNat k.bits)))))|.quo=>some ([k=k',b≠0],.d (.int k (k.wrap (a.tdiv b))))|.rem=>some ([k=k',b≠0],.d (.int k (a.tmod b)))|_=>none
 | _,_=>none
def qFb {T:TypeId->Option Ty} {op:BinOp} {t:TypeId} {x y v:V} {ps:List Prop} (e:qqq op x y=some (ps,v)) (hp:qh ps):Jt T op t x y=some v:=by
 unfold qqq at e;split at e
 ·split at e
  ·cases e; simp only[Jt]; rw[if_neg (by have:=hp.1; omega)]
  ·cases e; simp only[Jt]; rw[if_neg (by have:=hp.1; omega)]
  ·cases e;obtain⟨h1,h2,_⟩:=hp;simp only[Jt];rw[if_pos h1];simp only[qc3];rw[if_neg h2];rfl
  ·cases e;obtain⟨h1,h2,_⟩:=hp;simp only[Jt];rw[if_pos h1];simp only[qc3];rw[if_neg h2];rfl
  ·cases e
 ·cases e
def qk6 (h:qw) (c:Operand) (b:Bool) (x y:V):Option (List Prop×V) :=
 match c with
 | .tmp t=>match h.gd t with
  | some v=>some ([b=v],match v with|true=>x|false=>y)
  | none=>none
 | _=>none
def qFc {h:qw} {c:Operand} {b:Bool} {x y v:V} {ps:List Prop} (e:qk6 h c b x y=some (ps,v)) (hp:qh ps):(if b then x else y)=v:=by
 unfold qk6 at e;split at e
 ·split at e
  ·rename_i bv _;cases e;have:=hp.1;subst this;cases b<;>rfl
  ·cases e
 ·cases e
def unB:D->UInt8
 | .int _ n=>UInt8.ofNat n.toNat|_=>0
def qFd (c:UInt8):unB (Yq c)=c:=by simp[unB,Yq]
def qwE (l:List UInt8):(qe l).map unB=l:=by
 unfold qe; rw[qUs];have:unB∘Yq=id:=by funext c; exact qFd c
 rw[this,List.map_id]
def qk7 (T:TypeId->Option Ty) (s d:TypeId) (x:V):Option (List Prop×V) :=
 match T s,T d with
 | some y,some z=>match y.desc,z.desc with
  | .slice e,.string=>match qcW T e,x with
   | true,.d (.list ds)=>some ([ds=qe (ds.map unB)],.d (.str ⟨(ds.map unB).toArray⟩))|_,_=>none
  | _,_=>none
 | _,_=>none
def qk8 (T:TypeId->Option Ty) (h:qw) (g:qq) (s d:TypeId) (x:V):Option (List Prop×V) :=
 match x with
 | .sl r k off len _ _=>match T s,T d with
  | some y,some z=>match y.desc,z.desc with
   | .slice e,.string=>match qcW T e with
    | true=>match g r with
     | some (.dat k' es _)=>some ([k=1,k'=1,off+len<=es.length,(es.drop off).take len=qe (((es.drop off).take len).map unB)],.d (.str ⟨(((es.drop off).take len).map unB).toArray⟩))|some (.box cs _)=>match h.arr r with
      | some (_,ds,_)=>some ([k=1,cs=ds.map V.d,off+len<=ds.length,(ds.drop off).take len=qe (((ds.drop off).take len).map unB)],.d (.str ⟨(((ds.drop off).take len).map unB).toArray⟩))|none=>none
     | _=>none
    | false=>none
   | _,_=>none
  | _,_=>none
 | _=>none
def qqr (T:TypeId->Option Ty) (slot:Nat) (t:TypeId) (l c:V):Option (List Prop×Res) :=
  match T t,l,c with
  | some y,.d (.int _ l),.d (.int _ c)=>match y.desc with
    | .slice e=>match T e with
      | some z=>match Js z.zero.cells.toList with
        | some zs=>match Glob.mkb t with
         | true=>none|false=>match YS (fun _=>none) zs with
          | some (ds,_)=>some ([0<=l/\l<=c/\c<2 ^ 62/\(z.bytes:Int)*c<=2 ^ 48/\zs.length=z.size/\0<z.size],
              {v:=.sl slot z.size 0 l.toNat c.toNat true,fresh:=some (.dat z.size (List.replicate l.toNat (JK z.agg ds)) false)})
          | none=>none
        | none=>none
      | none=>none
    | _=>none
  | _,_,_=>none
def qFe {T:TypeId->Option Ty} {slot:Nat} {t:TypeId} {l c:V} {ps:List Prop} {res:Res} (e:qqr T slot t l c=some (ps,res)) (hp:qh ps):qeW T slot t l c=some res:=by
 unfold qqr at e;unfold qeW;split at e
 ·rename_i y _ l _ c hy;rw[hy];simp only at e ⊢;split at e
  ·rename_i el hd;simp only[hd];split at e
   ·rename_i z hz;simp only[hz];split at e
    ·rename_i zs hzs;simp only[hzs];split at e
     ·cases e
     ·rename_i hm;simp only[hm];split at e
      ·rename_i ds us hds;simp only[hds];cases e;rw[if_pos hp.1]
      ·cases e
    ·cases e
   ·cases e
  ·cases e
 ·cases e
def qqs (T:TypeId->Option Ty) (lt:Option Int) (slot:Nat) (t:TypeId) (l c:V):Option (List Prop×Res) :=
 match lt with
 | some q=>match Glob.mkb t with
  | true=>match T t,l,c with
   | some y,.d (.int _ l),.d (.int _ c)=>match y.desc with
    | .slice e=>match T e with
     | some z=>match Js z.zero.cells.toList with
      | some [.nil]=>some ([l=q,c=q,0<=q/\q<2 ^ 62/\(z.bytes:Int)*q<=2 ^ 48/\z.size=1],
        {v:=.sl slot 1 0 q.toNat q.toNat true,fresh:=some (.box (List.replicate q.toNat .nil) false)})
      | _=>none
     | none=>none
    | _=>none
   | _,_,_=>none
  | false=>none
 | none=>none
def qFf {T:TypeId->Option Ty} {lt:Option Int} {slot:Nat} {t:TypeId} {l c:V} {ps:List Prop} {res:Res} (e:qqs T lt slot t l c=some (ps,res)) (hp:qh ps):qeW T slot t l c=some res:=by
 unfold qqs at e;split at e
 ·rename_i q;split at e
  ·rename_i hm;split at e
   ·rename_i y _ l _ c hy;split at e
    ·rename_i el hd;split at e
     ·rename_i z hz;split at e
      ·rename_i hzs;cases e;obtain⟨a1,a2,⟨b1,b2,b3,b4⟩,_⟩:=hp;subst a1; subst a2;unfold qeW;rw[hy];simp only[hd,hz,hzs,hm];rw[if_pos ⟨b1,trivial,b2,b3,b4⟩]
      ·cases e
     ·cases e
    ·cases e
   ·cases e
  ·cases e
 ·cases e
def J7 (r:Option Res):Option (List Prop×Res):=r.map fun x=>([],x)
def Yt (a b:Option (List Prop×Res)):Option (List Prop×Res) :=
 match a with
 | some x=>some x|none=>b
def qqt (es:List (D×V)) (c:Nat) (kd:D) (v:V):Option (List (D×V)×Nat):=match qas kd es 0 with
 | some (some (i,_))=>some (es.set i (kd,v),c)|some none=>some (es++[(kd,v)],c+1)|none=>none
def qqu (es:List (D×V)) (kd:D) (z:V) (ok:Bool):Option V:=match qas kd es 0 with
 | some (some (_,v))=>some (if ok then .tup [v,.d (.bool true)]else v)
 | some none=>some (if ok then .tup [z,.d (.bool false)]else z)
 | none=>none
def qic (es:List (D×V)) (c:Nat) (kd:D) (v:V) (es':List (D×V)):Prop:=qqt es c kd v=some (es',es'.length)
def qid (es:List (D×V)) (kd:D) (z:V) (ok:Bool) (v:V):Prop:=qqu es kd z ok=some v
def qqv (T:TypeId->Option Ty) (es':Option (List (D×V))) (g:qq) (t:TypeId) (x k v:V):Option (List Prop×Res):=match es' with
 | none=>none|some es'=>match T t,x,k with
  | some y,.mp r,.d kd=>match y.desc,g r with
   | .map kt _,some (.map es c false)=>match T kt with
    | some kz=>match qf3 T kz.desc kd&&qvf v with
     | true=>some ([qic es c kd v es'],{v:=V.undef,ups:=[(r,.live (.map es' es'.length false))]})|false=>none
    | none=>none
   | _,_=>none
  | _,_,_=>none
def qFg {T:TypeId->Option Ty} {es':Option (List (D×V))} {g:qq} {t:TypeId} {x k v:V} {ps:List Prop} {res:Res} (e:qqv T es' g t x k v=some (ps,res)) (hp:qh ps):qf5 T g t x k v=some res:=by
 unfold qqv at e;split at e
 ·cases e
 ·split at e
  ·rename_i y r kd hy;split at e
   ·rename_i kt et es c hd hg;split at e
    ·rename_i kz hkz;split at e
     ·rename_i hk;cases e;have h:=hp.1;unfold qic at h;unfold qf5;simp only[hy,hd,hg,hkz,hk,if_true];unfold qqt at h;split at h
      ·rename_i i v' hf;rw[hf];obtain⟨h1,h2⟩:=Prod.mk.inj (Option.some.inj h);show some _=some _;rw[h1,h2]
      ·rename_i hf;rw[hf];obtain⟨h1,h2⟩:=Prod.mk.inj (Option.some.inj h);show some _=some _;rw[h1,h2]
      ·cases h
     ·cases e
    ·cases e
   ·cases e
  ·cases e
def qqw (T:TypeId->Option Ty) (v':Option V) (g:qq) (t:TypeId) (x k:V) (ok:Bool):Option (List Prop×V):=match v' with
 | none=>none|some v'=>match T t,k with
  | some y,.d kd=>match y.desc with
   | .map kt et=>match T kt,T et,qkb g x with
    | some kz,some ez,some es=>match qf3 T kz.desc kd,qhQ ez.zero with
     | true,some z=>some ([qid es kd z ok v'],v')|_,_=>none
    | _,_,_=>none
   | _=>none
  | _,_=>none
def qFh {T:TypeId->Option Ty} {v':Option V} {g:qq} {t:TypeId} {x k v:V} {ok:Bool} {ps:List Prop} (e:qqw T v' g t x k ok=some (ps,v)) (hp:qh ps):qf4 T g t x k ok=some v:=by
 unfold qqw at e;split at e
 ·cases e
 ·split at e
  ·rename_i y kd hy;split at e
   ·rename_i kt et hd;split at e
    ·rename_i kz ez es hkz hez hes;split at e
     ·rename_i z hk hz;cases e;have h:=hp.1;unfold qid at h;unfold qf4;simp only[hy,hd,hkz,hez,hes,hk,hz,if_true];unfold qqu at h;split at h
      ·rename_i i u hf;rw[hf]; exact h
      ·rename_i hf;rw[hf]; exact h
      ·cases h
     ·cases e
    ·cases e
   ·cases e
  ·cases e
def qk9 (T:TypeId->Option Ty) (h:qw) (g:qq) (slot:Nat) (o:Op) (vs:List V):Option (List Prop×Res) :=
 match o with
 | .indexAddr t a b=>match vs with
  | [x,i]=>Yt (one (qp4 T (h.litO b) (h.at a) t x i))<|Yt (one (qqc T h t x i)) (Yt (one (qqd T (h.at' a) t x i)) (Yt (one (qk3 T (h.at a) t x i)) (Yt (one (qp6 T h t x i)) (J7 (act T g slot o vs)))))
  | _=>none
 | .load t pl=>match vs with
  | [a]=>Yt (one (qqe T (h.atm pl) g t a))<|Yt (one (qp5 T h g t a)) (Yt (one (qp7 T h g t a)) (J7 (act T g slot o vs)))
  | _=>none
 | .store t pl _=>match vs with
  | [a,x]=>Yt (qqf T (h.atm pl) g t a x)<|Yt (qqg T h g t a x)<|Yt (qqn T h g t a x) (Yt (qqa T h g t a x) (J7 (act T g slot o vs)))
  | _=>none
 | .index t a _=>match vs with
  | [x,i]=>Yt (match h.sx with
    | true=>one (qp9 T t x i)|false=>none) (Yt (one (qp8 T (h.at a) t x i)) (J7 (act T g slot o vs)))
  | _=>none
 | .slice t _ l hh mx=>match vs with
  | x::vs'=>Yt (one (qqi T h g t x (Yx l vs').1 (Yx hh (Yx l vs').2).1 (Yx mx (Yx hh (Yx l vs').2).2).1))<|Yt (match Nat.ble 2 h.md&&Nat.ble h.md 3 with
    | true=>one (qqj T g t x (Yx l vs').1 (Yx hh (Yx l vs').2).1 (Yx mx (Yx hh (Yx l vs').2).2).1)|false=>none) (Yt (one (qqh T t x (Yx l vs').1 (Yx hh (Yx l vs').2).1 (Yx mx (Yx hh (Yx l vs').2).2).1)) (J7 (act T g slot o vs)))
  | _=>none
 | .binOp op t _ _ _=>match vs with
  | [x,y]=>Yt (one (qe6 T op t x y))<|Yt (match h.wr with
    | true=>none|false=>one (qqp op x y)) (Yt (one (qqo T op t x y)) (Yt (match h.sh with
    | true=>one (qqq op x y)|false=>none) (J7 (act T g slot o vs))))
  | _=>none
 | .pick c _ _=>match vs with
  | [.d (.bool b),x,y]=>Yt (one (qk6 h c b x y)) (J7 (act T g slot o vs))|_=>none
 | .convert a b _=>match vs with
  | [x]=>Yt (one (qk7 T a b x)) (Yt (one (qk8 T h g a b x)) (J7 (act T g slot o vs)))|_=>none
 | .makeSlice t a _=>match vs with
  | [l,c]=>Yt (qqs T (h.litO a) slot t l c)<|Yt (qqr T slot t l c) (J7 (act T g slot o vs))
  | _=>none
 | .call c=>match c.callee with
  | .builtin .append=>match h.mdOf c.args.toList with
   | 0=>J7 (act T g slot o vs)|md=>match c.argTypes.toList,vs with
    | [t,u],[s,x]=>qqk T md g slot t u s x|_,_=>none
  | .builtin .copy=>match c.argTypes.toList,vs with
   | [t,_],[d,s]=>qql T g t d s|_,_=>none
  | .builtin .clear=>match c.argTypes.toList,vs with
   | [t],[d]=>Yt (qqm T g t d) (J7 (act T g slot o vs))|_,_=>none
  | _=>J7 (act T g slot o vs)
 | .mapUpdate t a _ _=>match vs with
  | [x,k,v]=>Yt (qqv T (h.mputO a) g t x k v) (J7 (act T g slot o vs))|_=>none
 | .lookup t _ b ok=>match vs with
  | [x,k]=>Yt (one (qqw T (h.mgetO b) g t x k ok)) (J7 (act T g slot o vs))|_=>none
 | _=>J7 (act T g slot o vs)
def qqx:∀l:List UInt8,qcq (qe l)=some l
 | []=>rfl|c::l=>by
  have e:qhB (Yq c)=some c:=by
   unfold qhB Yq;simp[c.toNat_lt]
  show qcq (Yq c::qe l)=_;simp only[qcq,e,qqx l]
def qFi {T:TypeId->Option Ty} {g:qq} {s d:TypeId} {x v:V} {ps:List Prop} (e:qk7 T s d x=some (ps,v)) (hp:qh ps):qdH T g s d x=some {v:=v}:=by
 unfold qk7 at e;split at e
 ·rename_i y z hy hz;split at e
  ·rename_i el h1 h2;split at e
   ·rename_i ds h8;cases e;have he:ds=qe (ds.map unB):=hp.1;have hb:qcq ds=some (ds.map unB):=by
     have:=qqx (ds.map unB);rw[<-he]at this;exact this
    have hall:ds.all (fun e=>e.cells.length==1)=true:=by
     rw[qTI];intro e hm;rw[he]at hm;obtain⟨u,_,rfl⟩:=qTV.1 hm;rfl
    simp only[qdH,hy,hz,h1,h2,h8,if_true,qdP,hall,hb]
   ·cases e
  ·cases e
 ·cases e
def qwF:∀l:List UInt8,JL ((qe l).map V.d)=some (qe l)
 | []=>rfl|c::l=>by
  show JL (V.d (Yq c)::(qe l).map V.d)=_;unfold JL;rw[qwF l]; rfl
def qFj {T:TypeId->Option Ty} {h:qw} {g:qq} {s d:TypeId} {x v:V} {ps:List Prop} (e:qk8 T h g s d x=some (ps,v)) (hp:qh ps):qdH T g s d x=some {v:=v}:=by
 have key:∀{ds:List D},ds=qe (ds.map unB)->qcq ds=some (ds.map unB):=by
  intro ds he;have:=qqx (ds.map unB);rw[<-he]at this;exact this
 unfold qk8 at e;split at e
 ·rename_i r k off len c ex;split at e
  ·rename_i y z hy hz;split at e
   ·rename_i el h1 h2;split at e
    ·rename_i h8;split at e
     ·rename_i k' es ro hg;cases e;obtain⟨a1,a2,a3,a4,_⟩:=hp;simp only[qdH,hy,hz,h1,h2,h8,if_true,qdP,hg];rw[if_pos ⟨a1.symm,by omega,a3⟩];simp only[key a4]
     ·rename_i cs ro hg;split at e
      ·rename_i N ds fh hfh;cases e;obtain⟨a1,a2,a3,a4,_⟩:=hp;simp only[qdH,hy,hz,h1,h2,h8,if_true,qdP,hg];have hb:JL ((cs.drop off).take len)=some ((ds.drop off).take len):=by
        rw[a2,<-qV5,<-qUL,a4];exact qwF _
       rw[if_pos ⟨trivial,a1,by rw[a2,qTS]; exact a3⟩,hb];simp only[key a4]
      ·cases e
     ·cases e
    ·cases e
   ·cases e
  ·cases e
 ·cases e
def YE {a b:Option (List Prop×Res)} {r:Option Res} (ha:∀ps res,a=some (ps,res)->qh ps->r=some res) (hb:∀ps res,b=some (ps,res)->qh ps->r=some res) {ps:List Prop} {res:Res}
  (e:Yt a b=some (ps,res)) (hp:qh ps):r=some res:=by
 unfold Yt at e;split at e
 ·cases e; exact ha _ _ rfl hp
 ·exact hb _ _ e hp
def qay {r:Option Res} (ps:List Prop) (res:Res) (e:J7 r=some (ps,res)) (_:qh ps):r=some res:=by
 unfold J7 at e
 cases r with
 | none=>cases e
 | some x=>cases e; rfl
def qaP {a:Option (List Prop×V)} {r:Option V} (h:∀ps v,a=some (ps,v)->qh ps->r=some v) (ps:List Prop) (res:Res) (e:one a=some (ps,res)) (hp:qh ps):(r.map fun v=>({v}:Res))=some res:=by
 unfold one at e
 cases a with
 | none=>cases e
 | some p=>cases e; rw[h _ _ rfl hp]; rfl
def qqy {a:Option (List Prop×V)} {r:Option V} {d:Option Res} (h:∀ps v,a=some (ps,v)->qh ps->r=some v) (ps:List Prop) (res:Res) (e:one a=some (ps,res)) (hp:qh ps):orD r d=some res:=by
 unfold one at e
 cases a with
 | none=>cases e
 | some p=>cases e; rw[h _ _ rfl hp]; rfl
def qwG {T:TypeId->Option Ty} {h:qw} {g:qq} {slot:Nat} {o:Op} {vs:List V} {ps:List Prop} {res:Res} (e:qk9 T h g slot o vs=some (ps,res)) (hp:qh ps):act T g slot o vs=some res:=by
 unfold qk9 at e;split at e
 ·split at e
  ·refine YE (qaP fun ps v e hp=>qEJ e hp) (fun ps res e hp=>?_) e hp;exact YE (qaP fun ps v e hp=>qES e hp) (fun ps res e hp=>YE (qaP fun ps v e hp=>qET e hp) (fun ps res e hp=>YE (qaP fun ps v e hp=>qwC e hp) (fun ps res e hp=>YE (qaP fun ps v e hp=>qEM e hp) qay e hp) e hp) e hp) e hp
  ·cases e
 ·split at e
  ·refine YE (qaP fun ps v e hp=>qEV e hp) (fun ps res e hp=>?_) e hp;exact YE (qaP fun ps v e hp=>qEL e hp) (fun ps res e hp=>YE (qaP fun ps v e hp=>qEN e hp) qay e hp) e hp
  ·cases e
 ·split at e
  ·refine YE (fun ps v e hp=>qEW e hp) (fun ps res e hp=>?_) e hp;refine YE (fun ps v e hp=>qEX e hp) (fun ps res e hp=>?_) e hp;exact YE (fun ps v e hp=>qE4 e hp) (fun ps res e hp=>YE (fun ps v e hp=>qEQ e hp) qay e hp) e hp
  ·cases e
 ·split at e
  ·exact YE (fun ps res e hp=>by
    split at e
    ·exact qaP (fun ps v e hp=>qEO e hp) ps res e hp
    ·cases e) (fun ps res e hp=>YE (qaP fun ps v e hp=>qEP e hp) qay e hp) e hp
  ·cases e
 ·split at e
  ·refine YE (qaP fun ps v e hp=>qEZ (g:=g) e hp) (fun ps res e hp=>?_) e hp;refine YE (fun ps res e hp=>?_) (fun ps res e hp=>YE (qaP fun ps v e hp=>qEY (g:=g) e hp) qay e hp) e hp;split at e
   ·exact qaP (fun ps v e hp=>qE0 (g:=g) e hp) ps res e hp
   ·cases e
  ·cases e
 ·split at e
  ·refine YE (fun ps res e hp=>qFa ps res e hp) (fun ps res e hp=>?_) e hp;exact YE (fun ps res e hp=>by
    split at e
    ·cases e
    ·exact qqy (fun ps v e hp=>qE6 e hp) ps res e hp) (fun ps res e hp=>YE (qqy fun ps v e hp=>qE5 e hp) (fun ps res e hp=>YE (fun ps res e hp=>by
    split at e
    ·exact qqy (fun ps v e hp=>qFb e hp) ps res e hp
    ·cases e) qay e hp) e hp) e hp
  ·cases e
 ·rename_i cnd _ _;split at e
  ·rename_i b x y;refine YE (fun ps res e hp=>?_) qay e hp;unfold one at e
   cases hq:qk6 h cnd b x y with
   | none=>rw[hq]at e; cases e
   | some p =>
    rw[hq]at e;cases e;have:=qFc (v:=p.2) (ps:=p.1) hq hp;simp only[act];rw[this]
  ·cases e
 ·split at e
  ·rename_i x;refine YE (fun ps res e hp=>?_) (fun ps res e hp=>YE (fun ps res e hp=>?_) qay e hp) e hp
   ·unfold one at e
    cases hq:qk7 T _ _ x with
    | none=>rw[hq]at e; cases e
    | some p =>
     rw[hq]at e;cases e;simp only[act];exact qFi (v:=p.2) (ps:=p.1) hq hp
   ·unfold one at e
    cases hq:qk8 T h g _ _ x with
    | none=>rw[hq]at e; cases e
    | some p =>
     rw[hq]at e;cases e;simp only[act];exact qFj (v:=p.2) (ps:=p.1) hq hp
  ·cases e
 ·split at e
  ·refine YE (fun ps res e hp=>by simp only[act]; exact qFf e hp) (fun ps res e hp=>?_) e hp;exact YE (fun ps res e hp=>by simp only[act]; exact qFe e hp) qay e hp
  ·cases e
 ·rename_i c;split at e
  ·rename_i hc;split at e
   ·exact qay _ _ e hp
   ·split at e
    ·rename_i t u s x hts;simp only[act,hc,hts];rw[qE1 e hp]
    ·cases e
  ·rename_i hc;split at e
   ·rename_i t u d s hts;simp only[act,hc,hts];exact qE2 e hp
   ·cases e
  ·rename_i hc;split at e
   ·rename_i t d hts;refine YE (fun ps v e hp=>?_) qay e hp;simp only[act,hc,hts];exact qE3 e hp
   ·cases e
  ·exact qay _ _ e hp
 ·split at e
  ·refine YE (fun ps v e hp=>?_) qay e hp;simp only[act];exact qFg e hp
  ·cases e
 ·split at e
  ·exact YE (qaP fun ps v e hp=>qFh e hp) qay e hp
  ·cases e
 ·exact qay _ _ e hp
end Go.Aev
namespace Go.Aev
variable [Glob]
open Go.RowKit (Below)
def qoZ (c:Cfg) (s:AS):Out :=
 match s.fr.todo with
 | .it (.code (.region _ ops true))::k=>match qgh c ops (qbz ops) {env:=s.fr.env,rows:=s.rows}with
  | some st=>.next {s with fr:={s.fr with env:=st.env,todo:=.it (.inRegion ops (qbz ops::List.range' (qbz ops+1) (ops.size - (qbz ops+1))))::k},rows:=st.rows}
  | none=>.fail
 | _=>.fail
def qCB {w0:World} {own:Own} {c:Cfg} (hc:COK c) {cs0:Bot} {f:FuncId} {s:AS} {M:Machine} (hs:qba c.P w0 own cs0 f s M):qai c.P w0 own cs0 f (qoZ c s) M:=by
 obtain⟨hb,m,S,w,tmps,todo,ds,ro,cs,rfl,inv,hfr,hst⟩:=hs;have hself:∀fr':AF,fr'.fn=s.fr.fn->Jj fr' s.stack=f:=by
  intro fr' e;rw[J5]at hb ⊢;rw[e]; exact hb
 have ht:=hfr.todo;unfold qoZ;split
 ·rename_i id ops k htodo;rw[htodo]at ht
  cases ht with
  | cons hi tl =>
  rename_i kr;cases hi;split
  ·rename_i st hcut;obtain⟨m',S',w',tmps',h1,h2,h3,h4⟩:=quR (fn:=s.fr.fn) (id:=id) (k:=kr) (ds:=ds) (ro:=ro) (cs:=cs) hc hcut inv hfr.env;exact⟨_,h1,hself _ rfl,m',S',w',tmps',_,ds,ro,cs,rfl,h2,⟨h3,.cons rfl (tl.mono h4.map),hfr.ds.ext h4,hfr.ro.mono h4.map⟩,hst.ext h4⟩
  ·trivial
 ·trivial
section
structure qt where
 P:Program
 T:TypeId->Option Ty
 F:FuncId->Option Func
 rc:FuncId->Bool
 po:FuncId->Bool
 sRC:FuncId->List V->Rows->Option (List Prop×V)
 sWC:FuncId->List V->Rows->Option (List Prop×V×Rows):=fun _ _ _=>none
def qt.cfg (c:qt):Cfg :=
 {P:=c.P,T:=c.T,F:=c.F,rc:=c.rc,po:=c.po,RC:=fun g args rows=>match c.sRC g args rows with
  | some (ps,v)=>@ite _ (qh ps) (Classical.propDecidable _) (some v) none|none=>none,
  WC:=fun g args rows=>match c.sWC g args rows with
  | some (ps,v,rows2)=>@ite _ (qh ps) (Classical.propDecidable _) (some (v,rows2)) none|none=>none}
def qt.rc_eq {c:qt} {g:FuncId} {args:List V} {rows:Rows} {ps:List Prop} {v:V} (h:c.sRC g args rows=some (ps,v)) (hp:qh ps):c.cfg.RC g args rows=some v:=by
 simp only[qt.cfg,h];rw[if_pos hp]
def qie (c:qt) (g:FuncId) (args:List V) (rows:Rows):Option (List Prop×Res) :=
 match qeZ (qp rows) (qaN rows args) args with
 | some (args',rows')=>match c.sRC g args' rows' with
  | some (ps,v)=>some (ps,if v.plain then{v}else{v,ups:=JM rows (qaN rows args)})
  | none=>none
 | none=>none
def qFk {c:qt} {g:FuncId} {args:List V} {rows:Rows} {ps:List Prop} {res:Res} (e:qie c g args rows=some (ps,res)) (hp:qh ps):qbw c.cfg g args rows=some res:=by
 unfold qie at e;unfold qbw;simp only;split at e
 ·rename_i a r hc;rw[hc];simp only;split at e
  ·rename_i ps' v hv;cases e;rw[qt.rc_eq hv hp];simp only;split<;>rfl
  ·cases e
 ·cases e
def qFl {c:qt} {g:FuncId} {args:List V} {rows:Rows} (e:qie c g args rows=none):qbw c.cfg g args rows=none:=by
 unfold qie at e;unfold qbw;simp only;split at e
 ·rename_i a r hc;rw[hc];simp only;split at e
  ·cases e
  ·rename_i hv;simp only[qt.cfg,hv]
 ·rename_i hc;rw[hc]
def qwH (c:qt) (look:Nat->Option Row) (rs:List Nat) (slot:Nat) (g:FuncId) (args:List V):Option (List Prop×Res) :=
 match qkD look rs args with
 | some (args',rows')=>match c.sWC g args' rows' with
  | some (ps,v,rows2)=>(qpF rs slot v rows2).map fun r=>(ps,r)
  | none=>none
 | none=>none
def qla (c:qt) (slot:Nat) (g:FuncId) (args:List V) (rows:Rows):Option (List Prop×Res) :=
 match qie c g args rows with
 | some r=>some r|none=>qwH c (qp rows) (qaN rows args) slot g args
def qwI {c:qt} {slot:Nat} {g:FuncId} {args:List V} {rows:Rows} {ps:List Prop} {res:Res} (e:qla c slot g args rows=some (ps,res)) (hp:qh ps):qcx c.cfg slot g args rows=some res:=by
 unfold qla at e;unfold qcx;split at e
 ·rename_i r hr;cases e;rw[qFk hr hp]
 ·rename_i hr;rw[qFl hr];simp only;unfold qwH at e;unfold qc6;split at e
  ·rename_i a r hpre;rw[hpre];simp only;split at e
   ·rename_i ps' v rows2 hs;rw[qTP]at e;obtain⟨r',h1,h2⟩:=e;cases h2;have:c.cfg.WC g a r=some (v,rows2):=by
     simp only[qt.cfg,hs];rw[if_pos hp]
    rw[this];exact h1
   ·cases e
  ·cases e
def qqz (c:qt) (h:qw) (env:List V) (rows:Rows) (slot:Nat) (o:Op):Option (List Prop×Res) :=
 match qa6 o with
 | some (f,args)=>match YX env f,YR env args with
  | some fv,some vs=>match qcy fv vs with
   | some (g,as)=>if c.rc g then qla c slot g as rows else none
   | none=>none
  | _,_=>none
 | none=>match YR env (qO o)with
  | some vs=>qk9 c.T h (qah rows vs) slot o vs|none=>none
def qFm {c:qt} {h:qw} {env:List V} {rows:Rows} {slot:Nat} {o:Op} {ps:List Prop} {res:Res} (e:qqz c h env rows slot o=some (ps,res)) (hp:qh ps):qe0 c.cfg env rows slot o=some res:=by
 unfold qqz at e;unfold qe0;split at e
 ·rename_i f args hcv;rw[hcv];simp only;split at e
  ·rename_i fv vs hf hvs;rw[hf,hvs];simp only;split at e
   ·rename_i g as hfa;rw[hfa];simp only;split at e
    ·rename_i hrc;rw[if_pos (show c.cfg.rc g=true from hrc)];exact qwI e hp
    ·cases e
   ·cases e
  ·cases e
 ·rename_i hcv;rw[hcv];simp only;split at e
  ·rename_i vs hvs;rw[hvs];exact qwG e hp
  ·cases e
def qlb (h:qw) (ops:Array Oper) (env:List V) (o:Oper):Option (List Prop×Bool) :=
 match o.guard with
 | none=>some ([],true)|some (j,want)=>match ((ops[j]?).bind (·.dst))with
  | some d=>match env[d]? with
   | some (.d (.bool b))=>match h.gd d with
    | some v=>some ([b=v],v==want)|none=>some ([],b==want)
   | some (.tup _)=>some ([],false)|_=>none
  | none=>none
def qlc {h:qw} {ops:Array Oper} {env:List V} {o:Oper} {ps:List Prop} {b:Bool} (e:qlb h ops env o=some (ps,b)) (hp:qh ps):qaO ops env o=some b:=by
 unfold qlb at e;unfold qaO;split at e
 ·rename_i hg; cases e; rw[hg]
 ·rename_i j want hg;rw[hg];simp only;split at e
  ·rename_i d hd;rw[hd];simp only;split at e
   ·rename_i b' hb;rw[hb];simp only;split at e
    ·rename_i v hv;cases e;have:=hp.1;subst this;rfl
    ·cases e; rfl
   ·rename_i vs hb;rw[hb]; cases e; rfl
   ·cases e
  ·cases e
def qqA (c:qt) (h:qw) (ops:Array Oper) (slot0:Nat) (i:Nat) (s:St):Option (List Prop×Rec) :=
 match ops[i]? with
 | none=>none|some o=>match qlb h ops s.env o with
  | none=>none|some (qs,false)=>some (qs,{dst:=o.dst,v:=V.undef,slot:=slot0+i,rdT:=qcz ops o,rdR:=some []})|some (qs,true)=>match qqz c h s.env s.rows (slot0+i) o.op with
   | none=>none|some (ps,res) =>
    let a:Rec:={dst:=o.dst,v:=res.v,ups:=res.ups,fresh:=res.fresh,slot:=slot0+i,rdT:=qcz ops o,rdR:=qdT s.env s.rows o.op}
    if a.wr.all (fun r=>decide (r<s.rows.length))then some (qs++ps,a)else none
def qFn {c:qt} {h:qw} {ops:Array Oper} {slot0 i:Nat} {s:St} {ps:List Prop} {a:Rec} (e:qqA c h ops slot0 i s=some (ps,a)) (hp:qh ps):qc7 c.cfg ops slot0 i s=some a:=by
 unfold qqA at e;unfold qc7;split at e
 ·cases e
 ·rename_i o ho;rw[ho];simp only;split at e
  ·cases e
  ·rename_i hw; cases e; rw[qlc hw hp]
  ·rename_i qs hw;split at e
   ·cases e
   ·rename_i ps' res hres;simp only at e;split at e
    ·rename_i hall;cases e;obtain⟨h1,h2⟩:=Yl hp;rw[qlc hw h1];simp only;rw[qFm hres h2];simp only;rw[if_pos hall]
    ·cases e
def qif (c:qt) (h:qw) (ops:Array Oper) (slot0:Nat):List Nat->St->Option (List Prop×List Rec×St)
 | [],s=>some ([],[],s)|i::l,s=>match qqA c h ops slot0 i s with
  | some (ps,a)=>match qif c h ops slot0 l (a.exec s)with
   | some (qs,rs,s')=>some (ps++qs,a::rs,s')|none=>none
  | none=>none
def qqB {c:qt} {h:qw} {ops:Array Oper} {slot0:Nat}:∀{l:List Nat} {s:St} {ps:List Prop} {rs:List Rec} {s':St},qif c h ops slot0 l s=some (ps,rs,s')->qh ps->qbx c.cfg ops slot0 l s=some (rs,s')
 | [],s,ps,rs,s',e,_=>by cases e; rfl
 | i::l,s,ps,rs,s',e,hp=>by
  simp only[qif]at e;split at e
  ·rename_i ps1 a ha;split at e
   ·rename_i qs rs' s2 hr;cases e;obtain⟨h1,h2⟩:=Yl hp;simp only[qbx,qFn ha h1,qqB hr h2]
   ·cases e
  ·cases e
def qqC (c:qt) (h:qw) (ops:Array Oper) (s:St):Option (List Prop×St) :=
 if qe2 ops then
  match qif c h ops s.rows.length (List.range ops.size) {s with rows:=s.rows++List.replicate ops.size .free}with
  | some (ps,rs,s')=>if qge (qbZ ops ops.size) s.rows.length rs then some (ps,{s' with rows:=qgl s'.rows})else none
  | none=>none
 else none
def qFo {c:qt} {h:qw} {ops:Array Oper} {s st:St} {ps:List Prop} (e:qqC c h ops s=some (ps,st)) (hp:qh ps):qgm c.cfg ops s=some st:=by
 unfold qqC at e;unfold qgm;split at e
 ·rename_i hed;rw[if_pos hed];split at e
  ·rename_i ps' rs s' hr;split at e
   ·rename_i hpr;cases e;rw[qqB hr hp];simp only;rw[if_pos hpr]
   ·cases e
  ·cases e
 ·cases e
def qqD (c:qt) (h:qw) (ops:Array Oper) (k:Nat) (s:St):Option (List Prop×St) :=
 if qe2 ops&&decide (k<ops.size)&&decide (ops.size<=k+2)&&(List.range k).all (fun i=>((qbZ ops ops.size).getD k []).contains i) &&
   (List.range' (k+1) (ops.size - (k+1))).all (fun i=>((qbZ ops ops.size).getD i []).contains k)then
  match qif c h ops s.rows.length (List.range k) {s with rows:=s.rows++List.replicate ops.size .free}with
  | some (ps,rs,s')=>if qge (qbZ ops k) s.rows.length rs then some (ps,s')else none
  | none=>none
 else none
def qFp {c:qt} {h:qw} {ops:Array Oper} {k:Nat} {s st:St} {ps:List Prop} (e:qqD c h ops k s=some (ps,st)) (hp:qh ps):qgh c.cfg ops k s=some st:=by
 unfold qqD at e;unfold qgh;split at e
 ·rename_i hed;rw[if_pos hed];split at e
  ·rename_i ps' rs s' hr;split at e
   ·rename_i hpr;cases e;rw[qqB hr hp];simp only;rw[if_pos hpr]
   ·cases e
  ·cases e
 ·cases e
def qwJ (qs:List Prop) (o:List Prop×Out):List Prop×Out:=(qs++o.1,o.2)
def qld (c:qt) (h:qw) (s:AS) (ops:Array Oper) (i:Nat) (rest:List Nat) (k:List qL) (o:Oper):List Prop×Out :=
 match qa6 o.op with
 | some (f,args)=>match YX s.fr.env f,YR s.fr.env args with
  | some (.yl r),some vs=>([],qb0 c.cfg s ops i rest k)|some fv,some vs=>match qcy fv vs with
   | some (g,as) =>
    if c.po g&&c.rc g then
     match qla c s.rows.length g as s.rows with
     | some (ps,res)=>(ps,.next {s with fr:={s.fr with env:=JN s.fr.env o.dst res.v,todo:=.it (.inRegion ops rest)::k},rows:=qag s.rows.length res s.rows})
     | none=>([],.fail)
    else match Y9 c.cfg g as with
     | some fr=>([],.next {fr,stack:=s.fr::s.stack,rows:=s.rows})|none=>([],.fail)
   | none=>([],.fail)
  | _,_=>([],.fail)
 | none=>match YR s.fr.env (qO o.op)with
  | some vs=>match qk9 c.T h (qah s.rows vs) s.rows.length o.op vs with
   | some (ps,res)=>(ps,.next {s with fr:={s.fr with env:=JN s.fr.env o.dst res.v,todo:=.it (.inRegion ops rest)::k},rows:=qag s.rows.length res s.rows})
   | none=>([],.fail)
  | none=>([],.fail)
def qFq {c:qt} {h:qw} {s:AS} {ops:Array Oper} {i:Nat} {rest:List Nat} {k:List qL} {op:Oper} {ps:List Prop} {o:Out} (hop:ops[i]?=some op) (hwa:qaO ops s.fr.env op=some true)
  (e:qld c h s ops i rest k op=(ps,o)) (hp:qh ps) (hn:o≠.fail):qb0 c.cfg s ops i rest k=o:=by
 unfold qld at e;split at e
 ·rename_i f args hcv;split at e
  ·cases e; rfl
  ·rename_i fv vs hy hf hvs;split at e
   ·rename_i g as hfa;have hopst:qb0 c.cfg s ops i rest k=(if c.po g&&c.rc g then
      match qcx c.cfg s.rows.length g as s.rows with
      | some res=>.next {s with fr:={s.fr with env:=JN s.fr.env op.dst res.v,todo:=.it (.inRegion ops rest)::k},rows:=qag s.rows.length res s.rows}
      | none=>.fail
     else match Y9 c.cfg g as with
      | some fr=>.next {fr,stack:=s.fr::s.stack,rows:=s.rows}|none=>.fail):=by
     unfold qb0;rw[hop];simp only;rw[hwa];simp only;rw[hcv];simp only;rw[hf,hvs];cases fv<;>first
      | (cases hfa; done)
      | (simp only; rw[hfa]; rfl)
    rw[hopst];split at e
    ·rename_i hpo;rw[if_pos hpo];split at e
     ·rename_i ps' res hres;cases e;rw[qwI hres hp]
     ·cases e; exact absurd rfl hn
    ·rename_i hpo;rw[if_neg hpo];split at e
     ·rename_i fr hen;cases e;rfl
     ·cases e; exact absurd rfl hn
   ·cases e; exact absurd rfl hn
  ·cases e; exact absurd rfl hn
 ·rename_i hcv;split at e
  ·rename_i vs hvs;split at e
   ·rename_i ps' res hres;cases e;unfold qb0;rw[hop];simp only;rw[hwa];simp only;rw[hcv];simp only;rw[hvs];simp only;have:=qwG hres hp;have e2:act c.cfg.T (qah s.rows vs) s.rows.length op.op vs=some res:=this;rw[e2]
   ·cases e; exact absurd rfl hn
  ·cases e; exact absurd rfl hn
def qqE (c:qt) (h:qw) (s:AS) (ops:Array Oper) (i:Nat) (rest:List Nat) (k:List qL):List Prop×Out :=
 match ops[i]? with
 | none=>([],.fail)|some o=>match qlb h ops s.fr.env o with
  | some (qs,false)=>(qs,.next {s with fr:={s.fr with env:=JN s.fr.env o.dst V.undef,todo:=.it (.inRegion ops rest)::k}})
  | some (qs,true)=>qwJ qs (qld c h s ops i rest k o)|none=>([],.fail)
def qFr {c:qt} {h:qw} {s:AS} {ops:Array Oper} {i:Nat} {rest:List Nat} {k:List qL} {ps:List Prop} {o:Out} (e:qqE c h s ops i rest k=(ps,o)) (hp:qh ps) (hn:o≠.fail):qb0 c.cfg s ops i rest k=o:=by
 unfold qqE at e;split at e
 ·cases e; exact absurd rfl hn
 ·rename_i op hop;split at e
  ·rename_i qs hw;cases e;have hwa:=qlc hw hp;unfold qb0;rw[hop];simp only;rw[hwa]
  ·rename_i qs hw
   cases hd:qld c h s ops i rest k op with
   | mk ps' o' =>
   rw[hd]at e;unfold qwJ at e;injection e with e1 e2
   subst e1; subst e2;obtain⟨hq,hp⟩:=Yl hp;exact qFq hop (qlc hw hq) hd hp hn
  ·cases e; exact absurd rfl hn
def qqF (c:qt) (h:qw) (s:AS):List Prop×Out :=
 match s.fr.todo with
 | .it (.inRegion ops (i::rest))::k=>qqE c h s ops i rest k|.it (.code (.region _ ops true))::k=>match qqC c h ops {env:=s.fr.env,rows:=s.rows}with
  | some (ps,st)=>(ps,.next {s with fr:={s.fr with env:=st.env,todo:=k},rows:=st.rows})
  | none=>match qqD c h ops (qbz ops) {env:=s.fr.env,rows:=s.rows}with
   | some (ps,st)=>(ps,.next {s with fr:={s.fr with env:=st.env,todo:=.it (.inRegion ops (qbz ops::List.range' (qbz ops+1) (ops.size - (qbz ops+1))))::k},rows:=st.rows})
   | none=>([],.fail)
 | .it (.code (.cond (.tmp t) x y))::k=>match s.fr.env[t]?,h.gd t with
  | some (.d (.bool b)),some v=>([b=v],toA s (.it (.code (match v with|true=>x|false=>y))::k))
  | _,_=>([],qcE c.cfg s)
 | _=>([],qcE c.cfg s)
def qqG {w0:World} {own:Own} {c:qt} (hc:COK c.cfg) {bt:Bot} {f:FuncId} {h:qw} {s:AS} {M:Machine} {ps:List Prop} {o:Out} (hs:qba c.P w0 own bt f s M) (e:qqF c h s=(ps,o)) (hp:qh ps) :
  qai c.P w0 own bt f o M:=by
 by_cases hn:o=.fail
 ·subst hn; trivial
 ·unfold qqF at e;split at e
  ·rename_i ops i rest k ht;have h1:=qFr e hp hn;have h2:qcE c.cfg s=qb0 c.cfg s ops i rest k:=by unfold qcE; rw[ht]
   rw[<-h1,<-h2];exact qe4 (c:=c.cfg) hc hs
  ·rename_i id ops k ht;split at e
   ·rename_i ps' st hr;injection e with e1 e2
    subst e1; subst e2;have h1:=qFo hr hp;have:=qe4 (c:=c.cfg) hc hs;unfold qcE at this;rw[ht]at this;simp only at this;rw[h1]at this;exact this
   ·split at e
    ·rename_i ps' st hr;injection e with e1 e2
     subst e1; subst e2;have h1:=qFp hr hp;have:=qCB (c:=c.cfg) hc hs;unfold qoZ at this;rw[ht]at this;simp only at this;rw[h1]at this;exact this
    ·injection e with e1 e2
     exact absurd e2.symm hn
  ·rename_i t x y k ht;split at e
   ·rename_i b v hb hv;injection e with e1 e2
    subst e1; subst e2;have hbv:=hp.1;subst hbv;have:=qe4 (c:=c.cfg) hc hs;unfold qcE at this;rw[ht]at this;simp only[YX,zzG,hb,qTT,qeK]at this;cases b<;>exact this
   ·injection e with e1 e2
    subst e2;exact qe4 (c:=c.cfg) hc hs
  ·injection e with e1 e2
   subst e2;exact qe4 (c:=c.cfg) hc hs
def qb (c:qt) (k:Nat) (s:AS) (Q:V->Rows->Prop):Prop :=
 ∀(w0:World) (own:Own) (bt:Bot) (f:FuncId) (M:Machine),bt.k<=k->qba c.P w0 own bt f s M->∃v rows,Q v rows/\qai c.P w0 own bt f (.done v rows) M
variable {c:qt} {k:Nat} {s s':AS} {Q:V->Rows->Prop}
def qb.mono {Q':V->Rows->Prop} (h:qb c k s Q) (hq:∀v rows,Q v rows->Q' v rows):qb c k s Q':=by
 intro w0 own bt f M hb hs;obtain⟨v,rows,h1,h2⟩:=h w0 own bt f M hb hs;exact⟨v,rows,hq v rows h1,h2⟩
def sTo (c:qt) (h:qw) (stop:AS->Bool):Nat->AS->List Prop×Out
 | 0,_=>([],.fail)|n+1,s=>match qqF c h s with
  | (ps,.next s')=>if stop s then(ps,.next s')else match sTo c h stop n s' with
   | (qs,o)=>(ps++qs,o)
  | (ps,o)=>(ps,o)
def qqH {w0:World} {own:Own} {c:qt} (hc:COK c.cfg) {bt:Bot} {f:FuncId} {h:qw} {stop:AS->Bool}:∀{n:Nat} {s:AS} {M:Machine} {ps:List Prop} {o:Out},qba c.P w0 own bt f s M->sTo c h stop n s=(ps,o)->qh ps->qai c.P w0 own bt f o M
 | 0,s,M,ps,o,hs,e,_=>by cases e; trivial
 | n+1,s,M,ps,o,hs,e,hp=>by
  simp only[sTo]at e;split at e
  ·rename_i ps1 s1 h1;split at e
   ·cases e;exact qqG hc hs h1 hp
   ·cases hr:sTo c h stop n s1 with
    | mk qs o1 =>
    rw[hr]at e;cases e;obtain⟨k1,k2⟩:=Yl hp;obtain⟨M',st,hs'⟩:=qqG hc hs h1 k1;exact(qqH hc hs' hr k2).of_steps st
  ·rename_i ps1 o1 hno h1;cases e;exact qqG hc hs h1 hp
def qb.to (hc:COK c.cfg) (h:qw) (stop:AS->Bool) (n:Nat) {ps:List Prop} (e:sTo c h stop n s=(ps,.next s')) (hp:qh ps) (hk:qb c k s' Q):qb c k s Q:=by
 intro w0 own bt f M hb hs;obtain⟨M',st,hs'⟩:=qqH hc hs e hp;obtain⟨v,rows,hq,hf⟩:=hk w0 own bt f M' hb hs';exact⟨v,rows,hq,hf.of_steps st⟩
def qb.toFin (hc:COK c.cfg) (h:qw) (stop:AS->Bool) (n:Nat) {ps:List Prop} {v:V} {rows:Rows} (e:sTo c h stop n s=(ps,.done v rows)) (hp:qh ps) (hq:Q v rows):qb c k s Q:=by
 intro w0 own bt f M hb hs;exact⟨v,rows,hq,qqH hc hs e hp⟩
end
section
def qig:qL->Bool
 | .it _=>true|.rf _=>false
def qe7 (f:Nat->Option Nat) (keep:List Nat):Nat->List V->Option (List V)
 | _,[]=>some []|i,v::r=>match (if keep.contains i then qA f 8 v else some .any),qe7 f keep (i+1) r with
  | some x,some l=>some (x::l)|_,_=>none
def qih (k:Nat) (rs:List Nat) (keep:List Nat) (s:AS):Option AS :=
 if s.fr.todo.all qig&&s.fr.round.isNone&&s.fr.marks.isEmpty&&s.fr.dcl.isEmpty&&s.stack.isEmpty&&(rs.take k==List.range k)&&rs.all (fun r=>decide (r<s.rows.length))&&decide (rs.eraseDups.length=rs.length)then
  match qe7 (fun r=>q9 r rs 0) keep 0 s.fr.env,qz (fun r=>qP (fun r=>q9 r rs 0) (qp s.rows r)) rs with
  | some env,some rows=>some {fr:={s.fr with env},stack:=[],rows}
  | _,_=>none
 else none
variable {m:Mp} {S:Nat->Prop} {w:World}
def qwK {rs keep:List Nat}:∀{xs:List V} {i:Nat} {ys:List V} {arr:Array Value},qe7 (fun r=>q9 r rs 0) keep i xs=some ys->REs m S w xs arr->REs (qT m rs) S w ys arr:=by
 intro xs i ys arr h hr;have key:∀{xs:List V} {i:Nat} {ys:List V},qe7 (fun r=>q9 r rs 0) keep i xs=some ys->ys.length=xs.length/\∀(j:Nat) (y:V),ys[j]?=some y->∃x,xs[j]?=some x/\(y=.any\/qA (fun r=>q9 r rs 0) 8 x=some y):=by
  intro xs
  induction xs with
  | nil=>intro i ys h; cases h; exact⟨rfl,fun j y hy=>by simp at hy⟩
  | cons x xs ih =>
   intro i ys h;simp only[qe7]at h;split at h
   ·rename_i y l h1 h2;cases h;obtain⟨k1,k2⟩:=ih h2;refine⟨by simp[k1],fun j z hz=>?_⟩
    cases j with
    | zero =>
     simp at hz; subst hz;refine⟨x,rfl,?_⟩;split at h1
     ·exact .inr h1
     ·cases h1; exact .inl rfl
    | succ j=>simp only[qUx]at hz ⊢; exact k2 j z hz
   ·cases h
 obtain⟨k1,k2⟩:=key h;refine⟨by rw[hr.1,k1],fun j y v hy hv=>?_⟩;obtain⟨x,hx,ho⟩:=k2 j y hy;rcases ho with ho|ho
 ·exact .inl ho
 ·rcases hr.2 j x v hx hv with h1|h1
  ·subst h1; simp only[qA]at ho; cases ho
  ·exact .inr (qdG ho h1)
def JB.its {m':Mp} {a:List qL} {l:List Item} (h:JB m a l) (hi:a.all qig=true):JB m' a l:=by
 induction h with
 | nil=>exact .nil|@cons a i k l h1 _ ih =>
  simp only[qUZ,qTC]at hi
  cases a with
  | it j=>exact .cons h1 (ih hi.2)|rf r=>simp[qig]at hi
def qb.move {c:qt} {k:Nat} {s s':AS} {Q:V->Rows->Prop} (rs keep:List Nat) (e:qih k rs keep s=some s') (hk:qb c k s' Q):qb c k s Q:=by
 intro w0 own bt f M hb hs;refine hk w0 own bt f M hb ?_;unfold qih at e;split at e
 ·rename_i hc;simp only[qTC,decide_eq_true_eq,qWF,qVe,beq_iff_eq]at hc;obtain⟨⟨⟨⟨⟨⟨⟨c1,c2⟩,c3⟩,c3d⟩,c4⟩,c5⟩,c6⟩,c7⟩:=hc;split at e
  ·rename_i env rows h1 h2;cases e;obtain⟨hbf,m,S,w,tmps,todo,ds,ro,cs,rfl,inv,hfr,hst⟩:=hs;rw[c4]at hst
   cases hst with
   | nil hB =>
    have hro:=hfr.ro;rw[c2]at hro;have hds:=hfr.ds;rw[c3,c3d,c4]at hds;refine⟨?_,qT m rs,S,w,tmps,todo,ds,ro,bt.cs,rfl,qhO inv c7 h2,⟨qwK h1 hfr.env,hfr.todo.its c1,?_,?_⟩,.nil ?_⟩
    ·rw[c4]at hbf; exact hbf
    ·show FDs (qT m rs) S w (qau bt []) s.fr.dcl s.fr.marks ds;rw[c3,c3d]; obtain⟨dd,q1,q2⟩:=hds; cases q1; cases q2; exact FDs.none
    ·show qc9 (qT m rs) s.fr.round ro;rw[c2]; exact hro
    ·refine bt.mono m w _ w (fun r hr p hp=>?_) (fun b=>qTF _) hB;have hrk:r<k:=qUn hr hb;have:rs[r]?=some r:=by
      have h3:(rs.take k)[r]?=some r:=by rw[c5]; simp[hrk]
      rwa[qWg hrk]at h3
     simp[qT,this,hp]
  ·cases e
 ·cases e
def qqI {c:qt} (hc:COK c.cfg) {g:FuncId} {k:Nat} {args:List V} {rows:Rows} {R:V->Rows->Prop} {fr:AF} (he:Y9 c.cfg g args=some fr) (h:qb c k ⟨fr,[],rows⟩ R):qM c.P g k args rows R:=by
 intro w0 own m S w vs inv ha cs;obtain⟨gf,h1,h2,h3,tmps,todo,h4,hfr⟩:=qe3 hc he ha;have hg:fr.fn=g:=by
  unfold Y9 at he;split at he
  ·split at he
   ·cases he; rfl
   ·cases he
  ·cases he
 have hsim:qba c.P w0 own (qdY cs m w k) g {fr,stack:=[],rows} (lone (Frame.enter c.P g vs .normal) cs w):=by
  refine⟨hg,m,S,w,tmps,todo,[],none,cs,?_,inv,hfr,.nil (cs0:=qdY cs m w k) (qpT cs m w k)⟩;show lone (Frame.enter c.cfg.P g vs .normal) cs w=_;rw[h4]
 obtain⟨v,rows',hq,frR,w',m',S',u,s1,s2,s3,s4,s5,s6⟩:=h w0 own (qdY cs m w k) g _ (qTF _) hsim;exact⟨.returned u,w',frR,⟨u,v,rows',rfl,hq,m',S',s4,s5,s6.1,s6.2⟩,s1,s2.1,qpS s2.2 s3⟩
def RCs (P:Program) (g:FuncId) (args:List V) (rows:Rows) (v:V):Prop :=
 ∀(w0:World) (own:Own) (m:Mp) (S:Nat->Prop) (w:World) (vs:Array Value),Inv w0 own m S w rows->(∀(r:Nat) (row:Row),rows[r]?=some (qc.live row)->row.rw=false)->RVs m S w args vs ->
  Calls P g vs w fun e w'=>∃u,e=.returned u/\∃S':Nat->Prop,(∀c,S c->S' c)/\(∀c,S' c->S c\/(w.heap.size<=c/\c<w'.heap.size))/\(∀m2:Mp,RV m2 S' w' v u) /\
   (∀c,c<w.heap.size->w'.heap[c]?=w.heap[c]?)/\w.heap.size<=w'.heap.size/\w'.os=w.os/\w'.tape=w.tape/\w'.output=w.output
def qwL {P:Program} {g:FuncId} {k:Nat} {args:List V} {rows:Rows} {x:V} (h:qM P g k args rows fun v rows'=>qcB (qp rows') v=some x):RCs P g args rows x:=by
 intro w0 own m S w vs inv hro ha;refine(h w ⟨fun _=>False,S⟩ m S w vs (inv.rebase hro) ha).mono fun e w' ⟨u,v,rows',he,hq,m',S',i1,r1,_,_⟩=>⟨u,he,?_⟩
 obtain⟨S2,rows2,i2,r2⟩:=qv7 i1 hq r1;refine⟨S2,fun c hc=>i2.stb c hc,fun c hc=>?_,r2,fun c hc=>i2.kept c hc (fun h=>h),i2.grow,i2.os,i2.tape,i2.output⟩;rcases i2.base c hc with h1|h1|h1
 ·exact .inl h1
 ·exact .inr ⟨h1,i2.sbnd c hc⟩
 ·exact h1.elim
def qii (c:qt):Prop:=∀g args rows ps v,c.sRC g args rows=some (ps,v)->qh ps->RCs c.P g args rows v
def qwM (c:qt):Prop:=∀g args rows ps v rows2,c.sWC g args rows=some (ps,v,rows2)->qh ps->qM c.P g rows.length args rows (fun x y=>x=v/\y=rows2)
def qwN {c:qt} (hT:TOK c.P c.T) (hF:∀g gf,c.F g=some gf->c.P.funcs[g]?=some gf/\(gf.name == "runtime.NumGoroutine")=false)
  (hrc:∀g,c.rc g=true->∃gf,c.P.funcs[g]?=some gf/\gf.body.isSome=true/\(gf.name == "runtime.NumGoroutine")=false) (hm:c.P.follows .mixedOrders=true) (ht:qii c) (hw:qwM c):COK c.cfg:=by
 refine⟨hT,hF,fun g args rows v h=>?_,fun g args rows v rows2 h=>?_,hrc,hm⟩
 ·simp only[qt.cfg]at h;split at h
  ·rename_i ps v' hs
   by_cases hp:qh ps
   ·rw[if_pos hp]at h;cases h;exact ht g args rows ps v hs hp
   ·rw[if_neg hp]at h; cases h
  ·cases h
 ·simp only[qt.cfg]at h;split at h
  ·rename_i ps v' rows2' hs
   by_cases hp:qh ps
   ·rw[if_pos hp]at h;cases h;exact hw g args rows ps v rows2 hs hp
   ·rw[if_neg hp]at h; cases h
  ·cases h
def qFs {c:qt} (hT:TOK c.P c.T) (hF:∀g gf,c.F g=some gf->c.P.funcs[g]?=some gf/\(gf.name == "runtime.NumGoroutine")=false)
  (hrc:∀g,c.rc g=true->∃gf,c.P.funcs[g]?=some gf/\gf.body.isSome=true/\(gf.name == "runtime.NumGoroutine")=false) (hm:c.P.follows .mixedOrders=true) (ht:qii c)
  (hw:c.sWC=fun _ _ _=>none:=by rfl):COK c.cfg :=
 qwN hT hF hrc hm ht (fun g args rows ps v rows2 h=>by simp only[hw]at h; cases h)
end
end Go.Aev
namespace Go.Aev
variable [Glob]
section
def qij (c:Cfg) (s:AS):Option (FuncId×List V×Rows×List Nat) :=
 match s.fr.todo with
 | .it (.inRegion ops (i::_))::_=>match ops[i]? with
  | some o=>match qaO ops s.fr.env o,qa6 o.op with
   | some true,some (f,args)=>match YX s.fr.env f,YR s.fr.env args with
    | some fv,some vs=>match qcy fv vs with
     | some (g,as) =>
      let rs:=qaN s.rows as
      if c.rc g&&decide (rs.eraseDups.length=rs.length)then
       match qz (qA (fun r=>q9 r rs 0) 8) as,qz (fun r=>qP (fun r=>q9 r rs 0) (qp s.rows r)) rs with
       | some as',some rows'=>if rows'.all qkB then some (g,as',rows',rs)else none
       | _,_=>none
      else none
     | none=>none
    | _,_=>none
   | _,_=>none
  | none=>none
 | _=>none
variable {w0:World} {own:Own} {m:Mp} {S:Nat->Prop} {w:World} {rows:Rows}
end
end Go.Aev
namespace Go.Aev
variable [Glob]
variable {w0:World} {own:Own} {m:Mp} {S:Nat->Prop} {w:World} {rows:Rows}
def qFt (inv:Inv w0 own m S w rows) {r k off len c:Nat} {ex:Bool} {es:List D} {u:Value} (hr:rows[r]?=some (qc.live (.dat k es true))) (hle:off+len<=es.length) (hv:RV m S w (.sl r k off len c ex) u) :
  RD S w (.list ((es.drop off).take len)) u:=by
 cases hv with
 | sl r k off len c ex b o c' p hm hl hc he hp hb =>
 have hrel:=Y8 inv hr hm;have h3:S b:=inv.rost r _ b o hr rfl hm
 by_cases hz:len=0
 ·subst hz; simp; exact .emp _ _
 ·have hp':p=some ⟨b,o+off*k,none⟩:=by
   rcases hp with hp|hp
   ·omega
   ·exact hp
  subst hp';obtain⟨cs,t,e1,e2,en,e3⟩:=hrel;have key:∀(j:Nat) (d:D),(qn ((es.drop off).take len))[j]?=some d->∃v,cl w b (o+off*k+j)=some v/\RD S w d v:=by
   intro j d hj;obtain⟨v,hv,hrd⟩:=e3 _ d (qeM e2 off len j d hj);exact⟨v,by rw[qaw e1,<-hv]; congr 1; omega,hrd⟩
  refine .row _ b (o+off*k) c' k len (fun j=>(cl w b (o+off*k+j)).getD undef) (by simp; omega) hl h3 (fun e he=>e2 e (qcp he)) (fun d hd=>en d (qeN (fun e he=>qcp he) hd)) (fun j d hj=>?_) (fun j d hj=>?_)
  ·obtain⟨v,hv,_⟩:=key j d hj;simp only[hv,qTT]
  ·obtain⟨v,hv,hrd⟩:=key j d hj;simp only[hv,qTT];exact hrd
def qle (rows:Rows):V->Option (List Prop×List D)
 | .nil=>some ([],[])|.d (.list es)=>some ([],es)|.sl r k off len _ _=>match qp rows r with
  | some (.dat k' es true)=>some ([k=k'/\off+len<=es.length],(es.drop off).take len)|_=>none
 | _=>none
def qwO (inv:Inv w0 own m S w rows) {v:V} {ps:List Prop} {es:List D} {u:Value} (h:qle rows v=some (ps,es)) (hp:qh ps) (hv:RV m S w v u):RD S w (.list es) u:=by
 unfold qle at h;split at h
 ·cases h; cases hv; exact .emp _ _
 ·cases h; exact Yh hv
 ·split at h
  ·rename_i k' es' hl;cases h;obtain⟨⟨rfl,hle⟩,_⟩:=hp;exact qFt inv (J4 rows _ _ hl) hle hv
  ·cases h
 ·cases h
def Inv.nothing (inv:Inv w0 own m S w rows):Inv w0 own (fun _=>Option.none) S w [] :=
 ⟨fun _ _=>rfl,fun r h=>(by simp at h),fun r row h=>(by simp at h),fun r b o h=>(by cases h),fun r row b o h=>(by simp at h),fun r r' row row' b o b' o' _ h=>(by simp at h),fun r row b o h=>(by simp at h),
  fun r row b o h=>(by simp at h),inv.sbnd,inv.base,inv.stb,inv.os,inv.tape,inv.output,inv.grow,inv.kept,inv.glb⟩
inductive qik (rows:Rows):V->V->Prop
 | data (x:D):qik rows (.d x) (.d x)
 | fn (f:FuncId):qik rows (.fn f []) (.fn f [])
 | list {v:V} {ps:List Prop} {es:List D} (h:qle rows v=some (ps,es)) (hp:qh ps):qik rows v (.d (.list es))
inductive qd2 (rows:Rows):List V->List V->Prop
 | nil:qd2 rows [] []
 | cons {a b l r} (h:qik rows a b) (t:qd2 rows l r):qd2 rows (a::l) (b::r)
def qd2.rel (inv:Inv w0 own m S w rows) {m':Mp} {a b:List V} (h:qd2 rows a b):∀{vs:Array Value},RVs m S w a vs->RVs m' S w b vs:=by
  intro vs hv;have hl:a.length=b.length:=by
    induction h with
    | nil=>rfl|cons _ _ ih=>rename_i x y l r hx ht; simp only[qT9]; exact congrArg (·+1) (by
        clear hv;have:∀{l r:List V},qd2 rows l r->l.length=r.length:=by
          intro l r h
          induction h with
          | nil=>rfl|cons _ _ ih=>simp[ih]
        exact this ht)
  have key:∀{a b:List V},qd2 rows a b->∀(j:Nat) (y:V),b[j]?=some y->∃x,a[j]?=some x/\qik rows x y:=by
    intro a b h
    induction h with
    | nil=>intro j y hy; simp at hy
    | cons h1 _ ih =>
      intro j y hy
      cases j with
      | zero=>simp at hy; subst hy; exact⟨_,rfl,h1⟩|succ j=>simp only[qUx]at hy ⊢; exact ih j y hy
  refine⟨by rw[<-hl]; exact hv.1,fun j y u hy hu=>?_⟩;obtain⟨x,hx,hr⟩:=key h j y hy;have:=hv.2 j x u hx hu
  cases hr with
  | data x=>exact .d _ _ (Yh this)|fn f =>
    cases this with
    | fn _ _ arr hlen hd=>exact .fn _ _ arr hlen (fun j x v hx=>by simp at hx)
  | list h hp=>exact .d _ _ (qwO inv h hp this)
def RCs.of_lists {P:Program} {g:FuncId} {args args':List V} {v:V} (h:RCs P g args' [] v) (ha:qd2 rows args args'):RCs P g args rows v:=by
 intro w0 own m S w vs inv hro hv;exact h w0 own (fun _=>none) S w vs inv.nothing (fun r row h=>(by simp at h)) (ha.rel inv hv)
def qwP (c:qt) (h:qw) (stop:AS->Bool) (n k:Nat) (rs keep:List Nat) (s:AS):List Prop×Option AS :=
 match sTo c h stop n s with
 | (ps,.next s1)=>(ps,qih k rs keep s1)|(ps,_)=>(ps,none)
def qb.turn {c:qt} {k:Nat} {s s':AS} {Q:V->Rows->Prop} (hc:COK c.cfg) (h:qw) (stop:AS->Bool) (n:Nat) (rs keep:List Nat) {ps:List Prop} (e:qwP c h stop n k rs keep s=(ps,some s')) (hp:qh ps) (hk:qb c k s' Q):qb c k s Q:=by
 unfold qwP at e;split at e
 ·rename_i ps1 s1 h1;injection e with e1 e2
  subst e1;exact qb.to hc h stop n h1 hp (qb.move rs keep e2 hk)
 ·injection e with _ e2
  cases e2
def qqJ (am:Option (List D)) (f:Nat->Option Nat) (row:Option Row):Option (List Prop×qc):=match row with
 | some (.box cs ro)=>match am with
  | some ds=>some ([cs=ds.map V.d],.live (.box (ds.map V.d) ro))|none=>match qP f (some (.box cs ro))with
   | some s=>some ([],s)|none=>none
 | some (.map es c ro)=>match am with
  | some ds=>some ([es.map Prod.snd=ds.map V.d],.live (.map es c ro))|none=>match qP f (some (.map es c ro))with
   | some s=>some ([],s)|none=>none
 | row=>match qP f row with
  | some s=>some ([],s)|none=>none
def qil (am:Nat->Option (List D)) (f:Nat->Option Nat) (g:Nat->Option Row):List Nat->Option (List Prop×List qc)
 | []=>some ([],[])|r::rs=>match qqJ (am r) f (g r),qil am f g rs with
  | some (ps,x),some (qs,l)=>some (ps++qs,x::l)|_,_=>none
def qqK (am:Nat->Option (List D)) (k:Nat) (rs:List Nat) (keep:List Nat) (s:AS):Option (List Prop×AS) :=
 if s.fr.todo.all qig&&s.fr.round.isNone&&s.fr.marks.isEmpty&&s.fr.dcl.isEmpty&&s.stack.isEmpty&&(rs.take k==List.range k)&&rs.all (fun r=>decide (r<s.rows.length))&&decide (rs.eraseDups.length=rs.length)then
  match qe7 (fun r=>q9 r rs 0) keep 0 s.fr.env,qil am (fun r=>q9 r rs 0) (qp s.rows) rs with
  | some env,some (ps,rows)=>some (ps,{fr:={s.fr with env},stack:=[],rows})
  | _,_=>none
 else none
def qwQ (f:Nat->Option Nat) (n:Nat):∀ds:List D,qz (qA f n) (ds.map V.d)=some (ds.map V.d)
 | []=>rfl|d::r=>by
  have h:qA f n (V.d d)=some (V.d d):=by unfold qA; rfl
  simp only[qUa,qz,h,qwQ f n r]
def qqL {f:Nat->Option Nat}:∀{es:List (D×V)} {ds:List D},es.map Prod.snd=ds.map V.d->qz (fun e=>(qA f 8 e.2).map fun v=>(e.1,v)) es=some es
 | [],_,_=>rfl|(k,v)::es,[],h=>by cases h
 | (k,v)::es,d::ds,h=>by
  simp only[qUa,qUN]at h;obtain⟨h1,h2⟩:=h;have h1:v=V.d d:=h1;subst h1;have:=qqL (f:=f) h2;unfold qz;simp only[qA,qUj,this]
def qFu {am:Option (List D)} {f:Nat->Option Nat} {row:Option Row} {ps:List Prop} {s:qc} (h:qqJ am f row=some (ps,s)) (hp:qh ps):qP f row=some s:=by
 unfold qqJ at h;split at h
 ·rename_i cs ro;split at h
  ·rename_i ds;cases h;rw[hp.1];simp only[qP,qwQ,qUj]
  ·split at h
   ·rename_i hm; cases h; exact hm
   ·cases h
 ·rename_i es c ro;split at h
  ·rename_i ds;cases h;simp only[qP];rw[qqL hp.1]; rfl
  ·split at h
   ·rename_i hm; cases h; exact hm
   ·cases h
 ·split at h
  ·rename_i hm; cases h; exact hm
  ·cases h
def qqM {am:Nat->Option (List D)} {f:Nat->Option Nat} {g:Nat->Option Row}:∀{rs:List Nat} {ps:List Prop} {l:List qc},qil am f g rs=some (ps,l)->qh ps->qz (fun r=>qP f (g r)) rs=some l
 | [],ps,l,h,_=>by cases h; rfl
 | r::rs,ps,l,h,hp=>by
  unfold qil at h;split at h
  ·rename_i p1 x q1 l1 h1 h2;cases h;obtain⟨k1,k2⟩:=Yl hp;simp only[qz,qFu h1 k1,qqM h2 k2]
  ·cases h
def qFv {am:Nat->Option (List D)} {k:Nat} {rs keep:List Nat} {s s':AS} {ps:List Prop} (h:qqK am k rs keep s=some (ps,s')) (hp:qh ps):qih k rs keep s=some s':=by
 unfold qqK at h;unfold qih;split at h
 ·rename_i hc;rw[if_pos hc];split at h
  ·rename_i env ps' rows h1 h2;cases h;rw[h1,qqM h2 hp]
  ·cases h
 ·cases h
def qqN (c:qt) (h:qw) (stop:AS->Bool) (n k:Nat) (rs keep:List Nat) (s:AS):List Prop×Option AS :=
 match sTo c h stop n s with
 | (ps,.next s1)=>match qqK h.mv k rs keep s1 with
  | some (qs,s2)=>(ps++qs,some s2)|none=>(ps,none)
 | (ps,_)=>(ps,none)
def qb.turnA {c:qt} {k:Nat} {s s':AS} {Q:V->Rows->Prop} (hc:COK c.cfg) (h:qw) (stop:AS->Bool) (n:Nat) (rs keep:List Nat) {ps:List Prop} (e:qqN c h stop n k rs keep s=(ps,some s')) (hp:qh ps) (hk:qb c k s' Q):qb c k s Q:=by
 unfold qqN at e;split at e
 ·rename_i ps1 s1 h1;split at e
  ·rename_i qs s2 h2;injection e with e1 e2
   subst e1;injection e2 with e2
   subst e2;obtain⟨k1,k2⟩:=Yl hp;exact qb.to hc h stop n h1 k1 (qb.move rs keep (qFv h2 k2) hk)
  ·injection e with _ e2
   cases e2
 ·injection e with _ e2
  cases e2
def YN (l:List Int):List D:=l.map (D.int .i64)
def qd3 (l:List Int):(YN l).length=l.length:=by simp[YN]
def qwR {l:List Int} {i:Nat} (h:i<l.length):(YN l)[i]?=some (.int .i64 (l.getD i 0)):=by
 simp[YN,h]
end Go.Aev
namespace Go.Aev
variable [Glob]
open Go.RowKit (Below)
variable {w0:World} {own:Own} {m:Mp} {S:Nat->Prop} {w:World} {rows:Rows}

end Go.Aev
namespace Go.Aev
variable [Glob]
open Go.RowKit (Below)
variable {P:Program} {w0:World} {own:Own} {m:Mp} {S:Nat->Prop} {w:World} {rows:Rows}
def Inv.trans {own':Own} {m':Mp} {S':Nat->Prop} {w':World} {rows2:Rows} (inv:Inv w0 own m S w rows) (hwr:∀b,own' b->w0.heap.size<=b\/own b) (hst:∀b,own'.st b↔S b) (i2:Inv w own' m' S' w' rows2):Inv w0 own m' S' w' rows2:=by
 refine⟨i2.none,i2.fre,i2.row,i2.bnd,fun r row b o h1 h2 h3=>?_,i2.apart,i2.stab,i2.rost,i2.sbnd,fun b hb=>?_,fun b hb=>i2.stb b ((hst b).2 (inv.stb b hb)),i2.os.trans inv.os,i2.tape.trans inv.tape,i2.output.trans inv.output,qT2 inv.grow i2.grow,fun b hb hn=>?_,i2.glb⟩
 ·rcases i2.new r row b o h1 h2 h3 with h|h
  ·exact .inl (qT2 inv.grow h)
  ·exact hwr b h
 ·rcases i2.base b hb with h|h|h
  ·exact inv.base b ((hst b).1 h)
  ·exact .inr (.inl (qT2 inv.grow h))
  ·exact .inr (hwr b h)
 ·rw[i2.kept b (qUn hb inv.grow) (fun h=>by
   rcases hwr b h with h|h
   ·omega
   ·exact hn h)]
  exact inv.kept b hb hn
end Go.Aev
namespace Go.Aev
variable [Glob]
variable {w0:World} {own:Own} {m:Mp} {S:Nat->Prop} {w:World} {rows:Rows}
def anyNil (c:Cfg) (s:AS) (b:Bool):Option AS :=
 match s.fr.todo with
 | .it (.inRegion ops (i::rest))::kk=>match ops[i]? with
  | some o=>match o.op with
   | .binOp .eql t x y _=>match qaO ops s.fr.env o,c.T t,YX s.fr.env x,YX s.fr.env y with
    | some true,some ty,some (.d (.list [])),some .nil=>match ty.desc with
     | .slice _=>some {s with fr:={s.fr with env:=JN s.fr.env o.dst (.d (.bool b)),todo:=.it (.inRegion ops rest)::kk}}
     | _=>none
    | _,_,_,_=>none
   | _=>none
  | none=>none
 | _=>none
def qb.anyNil {c:qt} (hc:COK c.cfg) {k:Nat} {s:AS} {Q:V->Rows->Prop} (h:∀b:Bool,∃s',Aev.anyNil c.cfg s b=some s'/\qb c k s' Q):qb c k s Q:=by
 intro w0 own bt f M hb hs;obtain⟨hbf,m,S,w,tmps,todo,ds,ro,cs,rfl,inv,hfr,hst⟩:=hs;have ht:=hfr.todo;have key:∃b:Bool,∀s',Aev.anyNil c.cfg s b=some s'->∃M',Steps c.P (lone (rfr s.fr.fn tmps todo ds ro) cs w) M'/\qba c.P w0 own bt f s' M':=by
  obtain⟨s1,e1,_⟩:=h true;unfold Aev.anyNil at e1;split at e1
  ·rename_i ops i rest kk htodo;rw[htodo]at ht
   cases ht with
   | cons hi tl =>
   rename_i kr;cases hi;split at e1
   ·rename_i o ho;split at e1
    ·rename_i t x y z hop;split at e1
     ·rename_i ty hw hT hx hy;split at e1
      ·rename_i el hd;have hU:=qdX (fn:=s.fr.fn) (todo:=.inRegion ops (i::rest)::kr) (ds:=ds) (ro:=ro) inv.glb hfr.env;have hxr:=Yh (hU x _ hx);have hyr:=hU y _ hy;have hw':=qda hfr.env hw;have hyr':(rfr s.fr.fn tmps (.inRegion ops (i::rest)::kr) ds ro).eval y=.slice none 0 0:=by
        generalize (rfr s.fr.fn tmps (.inRegion ops (i::rest)::kr) ds ro).eval y=yv at hyr;cases hyr; rfl
       have hxr':∃p n cap,(rfr s.fr.fn tmps (.inRegion ops (i::rest)::kr) ds ro).eval x=.slice p n cap:=by
        generalize (rfr s.fr.fn tmps (.inRegion ops (i::rest)::kr) ds ro).eval x=xv at hxr
        cases hxr with
        | emp p cap=>exact⟨_,_,_,rfl⟩|row es b o cap k n vs=>exact⟨_,_,_,rfl⟩
       obtain⟨p,n,cap,hxe⟩:=hxr';have hpair:qby ty.desc (.slice p n cap) (.slice none 0 0) p.isNone:=by
        rw[hd]
        cases p with
        | none=>exact .s0 ..
        | some q=>exact .s1 ..
       obtain⟨h1,h2,h3,h4⟩:=qpY (P:=c.P) (w:=w) (show q8 c.P t=some ty from hc.T t ty hT) hpair;refine⟨p.isNone,fun s' he=>?_⟩;unfold Aev.anyNil at he;simp only[htodo,ho,hop,hw,hT,hx,hy,hd]at he;cases he;have hnd:∀cc,o.op≠.defer cc:=by rw[hop]; intro cc hcc; cases hcc
       have hrun:(execOp (rfr s.fr.fn tmps (.inRegion ops (i::rest)::kr) ds ro).eval o).run c.P w=.ok (.value (.bool p.isNone)) w:=by
        obtain⟨dst,op,type,pos,after,guard⟩:=o;simp only at hop;subst hop;have h0:(do eqGuard .eql t x y ((rfr s.fr.fn tmps (.inRegion ops (i::rest)::kr) ds ro).eval x) ((rfr s.fr.fn tmps (.inRegion ops (i::rest)::kr) ds ro).eval y); binOp .eql t ((rfr s.fr.fn tmps (.inRegion ops (i::rest)::kr) ds ro).eval x) ((rfr s.fr.fn tmps (.inRegion ops (i::rest)::kr) ds ro).eval y):Sem Value).run c.P w=.ok (.bool p.isNone) w:=by
         rw[hxe,hyr'];simp only[Sem.run_bind,h2,Result.andThen_ok,h3,h1,Sem.run_pure]
        have h5:∀(sv:Sem Value) (u:Value),sv.run c.P w=.ok u w->(do pure (Next.value (<-sv)):Sem Next).run c.P w=.ok (.value u) w:=fun sv u hh=>by simp[hh]
        exact h5 _ _ h0
       refine⟨_,.one (qhH ho hw' hnd hrun (.inl rfl)),?_,m,S,w,_,_,ds,ro,cs,rfl,inv,⟨qa9 hfr.env (.d _ _ (.bool _)) o.dst,.cons rfl tl,hfr.ds,hfr.ro⟩,hst⟩;show Jj _ s.stack=f;rw[J5]at hbf ⊢;exact hbf
      ·cases e1
     ·cases e1
    ·cases e1
   ·cases e1
  ·cases e1
 obtain⟨b,hk⟩:=key;obtain⟨s',e1,e2⟩:=h b;obtain⟨M',st,hs'⟩:=hk s' e1;obtain⟨v,rows',hq,hf⟩:=e2 w0 own bt f M' hb hs';exact⟨v,rows',hq,hf.of_steps st⟩
end Go.Aev
namespace Go.Aev
variable [Glob]
def qqO:Int->Int->Bool
 | .ofNat a,.ofNat b=>Nat.beq a b|.negSucc a,.negSucc b=>Nat.beq a b|_,_=>false
def qFx {a b:Int} (h:qqO a b=true):a=b:=by
 unfold qqO at h;split at h
 ·rw[qUt]at h; rw[h]
 ·rw[qUt]at h; rw[h]
 ·cases h
def qlf:List UInt8->List UInt8->Bool
 | [],[]=>true|a::l,b::r=>match Nat.beq a.toNat b.toNat with
  | true=>qlf l r|false=>false
 | _,_=>false
def qwT:∀{l r:List UInt8},qlf l r=true->l=r
 | [],[],_=>rfl|a::l,b::r,h=>by
  simp only[qlf]at h;split at h
  ·rename_i h1;rw[qUt]at h1;rw[UInt8.toNat_inj.1 h1,qwT h]
  ·cases h
 | [],_::_,h=>by cases h
 | _::_,[],h=>by cases h
def qwU (a b:ByteArray):Bool:=qlf a.data.toList b.data.toList
def qFy {a b:ByteArray} (h:qwU a b=true):a=b:=by
 have:=qwT h;cases a; cases b;simp only[ByteArray.mk.injEq];exact Array.toList_inj.1 this
mutual
def D.same:D->D->Bool
 | .int k n,.int k' n'=>match decide (k=k')with
  | true=>qqO n n'|false=>false
 | .bool b,.bool b'=>b==b'|.str s,.str s'=>qwU s s'|.list l,.list r=>D.sames l r|.agg l,.agg r=>D.sames l r|.nilp,.nilp=>true|.nilf,.nilf=>true|.nilm,.nilm=>true|.nili,.nili=>true|_,_=>false
def D.sames:List D->List D->Bool
 | [],[]=>true|a::l,b::r=>match D.same a b with
  | true=>D.sames l r|false=>false
 | _,_=>false
end
mutual
def D.same_eq:∀{a b:D},D.same a b=true->a=b
 | .int k n,b,h=>by
  cases b<;>simp only[D.same]at h<;>try cases h
  split at h
  ·rename_i hk; rw[of_decide_eq_true hk,qFx h]
  ·cases h
 | .bool x,b,h=>by cases b<;>simp only[D.same]at h<;>first | (cases h; done) | (have:=beq_iff_eq.1 h; rw[this])
 | .str x,b,h=>by cases b<;>simp only[D.same]at h<;>first | (cases h; done) | rw[qFy h]
 | .list l,b,h=>by cases b<;>simp only[D.same]at h<;>first | (cases h; done) | rw[D.sames_eq h]
 | .agg l,b,h=>by cases b<;>simp only[D.same]at h<;>first | (cases h; done) | rw[D.sames_eq h]
 | .nilp,b,h=>by cases b<;>simp only[D.same]at h<;>first | (cases h; done) | rfl
 | .nilf,b,h=>by cases b<;>simp only[D.same]at h<;>first | (cases h; done) | rfl
 | .nilm,b,h=>by cases b<;>simp only[D.same]at h<;>first | (cases h; done) | rfl
 | .nili,b,h=>by cases b<;>simp only[D.same]at h<;>first | (cases h; done) | rfl
def D.sames_eq:∀{l r:List D},D.sames l r=true->l=r
 | [],[],_=>rfl|a::l,b::r,h=>by
  simp only[D.sames]at h;split at h
  ·rename_i h1; rw[D.same_eq h1,D.sames_eq h]
  ·cases h
 | [],_::_,h=>by simp[D.sames]at h
 | _::_,[],h=>by simp[D.sames]at h
end
mutual
def V.same:V->V->Bool
 | .d x,.d y=>D.same x y|.nil,.nil=>true|.sl r k o l c e,.sl r' k' o' l' c' e'=>Nat.beq r r'&&Nat.beq k k'&&Nat.beq o o'&&Nat.beq l l'&&Nat.beq c c'&&(e==e')|.pt r k i f,.pt r' k' i' f'=>Nat.beq r r'&&Nat.beq k k'&&Nat.beq i i'&&Nat.beq f f'|.dp x,.dp y=>D.same x y|.fn f cs,.fn f' cs'=>Nat.beq f f'&&V.sames cs cs'|.agg l,.agg r=>V.sames l r|.tup l,.tup r=>V.sames l r|.bf f cs,.bf f' cs'=>Nat.beq f f'&&V.sames cs cs'|.mp r,.mp r'=>Nat.beq r r'|.fp l,.fp r=>V.sames l r|.ifc t x,.ifc t' y=>Nat.beq t t'&&V.same x y|_,_=>false
def V.sames:List V->List V->Bool
 | [],[]=>true|a::l,b::r=>match V.same a b with
  | true=>V.sames l r|false=>false
 | _,_=>false
end
mutual
def V.same_eq:∀{a b:V},V.same a b=true->a=b
 | .d x,b,h=>by cases b<;>simp only[V.same]at h<;>first | (cases h; done) | rw[D.same_eq h]
 | .nil,b,h=>by cases b<;>simp only[V.same]at h<;>first | (cases h; done) | rfl
 | .sl r k o l c e,b,h=>by
  cases b<;>simp only[V.same]at h<;>try (cases h; done)
  simp only[qTC,qUt,beq_iff_eq]at h;obtain⟨⟨⟨⟨⟨h1,h2⟩,h3⟩,h4⟩,h5⟩,h6⟩:=h;rw[h1,h2,h3,h4,h5,h6]
 | .pt r k i f,b,h=>by
  cases b<;>simp only[V.same]at h<;>try (cases h; done)
  simp only[qTC,qUt]at h;obtain⟨⟨⟨h1,h2⟩,h3⟩,h4⟩:=h;rw[h1,h2,h3,h4]
 | .dp x,b,h=>by cases b<;>simp only[V.same]at h<;>first | (cases h; done) | rw[D.same_eq h]
 | .fn f cs,b,h=>by
  cases b<;>simp only[V.same]at h<;>try (cases h; done)
  simp only[qTC,qUt]at h;rw[h.1,V.sames_eq h.2]
 | .agg l,b,h=>by cases b<;>simp only[V.same]at h<;>first | (cases h; done) | rw[V.sames_eq h]
 | .tup l,b,h=>by cases b<;>simp only[V.same]at h<;>first | (cases h; done) | rw[V.sames_eq h]
 | .bf f cs,b,h=>by
  cases b<;>simp only[V.same]at h<;>try (cases h; done)
  simp only[qTC,qUt]at h;rw[h.1,V.sames_eq h.2]
 | .yl r,b,h=>by cases b<;>simp[V.same]at h
 | .mp r,b,h=>by
  cases b<;>simp only[V.same]at h<;>try (cases h; done)
  rw[qUt]at h; rw[h]
 | .top,b,h=>by cases b<;>simp[V.same]at h
 | .ifc t x,b,h=>by
  cases b<;>simp only[V.same]at h<;>try (cases h; done)
  simp only[qTC,qUt]at h;rw[h.1,V.same_eq h.2]
 | .fp l,b,h=>by cases b<;>simp only[V.same]at h<;>first | (cases h; done) | rw[V.sames_eq h]
 | .fm _ _,b,h=>by cases b<;>simp[V.same]at h
 | .any,b,h=>by cases b<;>simp[V.same]at h
def V.sames_eq:∀{l r:List V},V.sames l r=true->l=r
 | [],[],_=>rfl|a::l,b::r,h=>by
  simp only[V.sames]at h;split at h
  ·rename_i h1; rw[V.same_eq h1,V.sames_eq h]
  ·cases h
 | [],_::_,h=>by simp[V.sames]at h
 | _::_,[],h=>by simp[V.sames]at h
end
def qgn:List (D×V)->List (D×V)->Bool
 | [],[]=>true|a::l,b::r=>D.same a.1 b.1&&V.same a.2 b.2&&qgn l r|_,_=>false
def qwV:∀{l r:List (D×V)},qgn l r=true->l=r
 | [],[],_=>rfl|(a,x)::l,(b,y)::r,h=>by
  simp only[qgn,qTC]at h;rw[D.same_eq h.1.1,V.same_eq h.1.2,qwV h.2]
 | [],_::_,h=>by simp[qgn]at h
 | _::_,[],h=>by simp[qgn]at h
def qc.same:qc->qc->Bool
 | .live (.dat k es ro),.live (.dat k' es' ro')=>Nat.beq k k'&&D.sames es es'&&(ro==ro')|.live (.box cs ro),.live (.box cs' ro')=>V.sames cs cs'&&(ro==ro')|.live (.map es k ro),.live (.map es' k' ro')=>Nat.beq k k'&&qgn es es'&&(ro==ro')|.dead,.dead=>true|.free,.free=>true|_,_=>false
def qc.same_eq {a b:qc} (h:qc.same a b=true):a=b:=by
 unfold qc.same at h;split at h
 ·simp only[qTC,qUt,beq_iff_eq]at h;obtain⟨⟨h1,h2⟩,h3⟩:=h;rw[h1,D.sames_eq h2,h3]
 ·simp only[qTC,beq_iff_eq]at h;rw[V.sames_eq h.1,h.2]
 ·simp only[qTC,qUt,beq_iff_eq]at h;rw[h.1.1,qwV h.1.2,h.2]
 ·rfl
 ·rfl
 ·cases h
def qgo:Rows->Rows->Bool
 | [],[]=>true|a::l,b::r=>match qc.same a b with
  | true=>qgo l r|false=>false
 | _,_=>false
def qwW:∀{l r:Rows},qgo l r=true->l=r
 | [],[],_=>rfl|a::l,b::r,h=>by
  simp only[qgo]at h;split at h
  ·rename_i h1; rw[qc.same_eq h1,qwW h]
  ·cases h
 | [],_::_,h=>by simp[qgo]at h
 | _::_,[],h=>by simp[qgo]at h
structure Ent where
 g:FuncId
 args:List V
 rows:Rows
 v:V
def qlg:List Ent->FuncId->List V->Rows->Option V
 | [],_,_,_=>none|e::t,g,args,rows=>match Nat.beq e.g g&&V.sames e.args args&&qgo e.rows rows with
  | true=>some e.v|false=>qlg t g args rows
def qwX:∀{t:List Ent} {g:FuncId} {args:List V} {rows:Rows} {v:V},qlg t g args rows=some v->(⟨g,args,rows,v⟩:Ent)∈t
 | e::t,g,args,rows,v,h=>by
  simp only[qlg]at h;split at h
  ·rename_i hh;cases h;simp only[qTC,qUt]at hh;obtain⟨⟨h1,h2⟩,h3⟩:=hh;have e1:=V.sames_eq h2;have e2:=qwW h3;cases e;simp only at h1 e1 e2;subst h1 e1 e2;exact qTR
  ·exact qTG _ (qwX h)
end Go.Aev
namespace Go.Aev
variable [Glob]
def qip (P:Program) (g:FuncId):Bool:=match P.funcs[g]? with
 | some gf=>gf.body.isSome|none=>false
def qqS (P:Program) (po:FuncId->Bool) (sRC:FuncId->List V->Aev.Rows->Option (List Prop×V)):qt:={P:=P,T:=q8 P,F:=fun g=>P.funcs[g]?,rc:=qip P,po,sRC}
def qli {P:Program} (Yz:(P.funcs.toList.all fun f=>!(f.name == "runtime.NumGoroutine"))=true) {g:FuncId} {gf:Func} (h:P.funcs[g]?=some gf):(gf.name == "runtime.NumGoroutine")=false:=by
 have:=(qTI.1 Yz) gf (by rw[Array.mem_toList_iff]; exact qVR h);simpa using this
def qqT {P:Program} (Yz:(P.funcs.toList.all fun f=>!(f.name == "runtime.NumGoroutine"))=true) (g:FuncId) (h:qip P g=true):∃gf,P.funcs[g]?=some gf/\gf.body.isSome=true/\(gf.name == "runtime.NumGoroutine")=false:=by
 unfold qip at h;split at h
 ·rename_i gf hg; exact⟨gf,hg,h,qli Yz hg⟩
 ·cases h
def mkW (P:Program) (po:FuncId->Bool) (sRC:FuncId->List V->Aev.Rows->Option (List Prop×V)) (sWC:FuncId->List V->Aev.Rows->Option (List Prop×V×Aev.Rows)):qt:={P:=P,T:=q8 P,F:=fun g=>P.funcs[g]?,rc:=qip P,po,sRC,sWC}
def qFz {P:Program} (Yz:(P.funcs.toList.all fun f=>!(f.name == "runtime.NumGoroutine"))=true) (mixed:P.follows .mixedOrders=true)
  {po:FuncId->Bool} {sRC:FuncId->List V->Aev.Rows->Option (List Prop×V)} {sWC:FuncId->List V->Aev.Rows->Option (List Prop×V×Aev.Rows)} (ht:qii (mkW P po sRC sWC)) (hw:qwM (mkW P po sRC sWC)):COK (mkW P po sRC sWC).cfg :=
 qwN (fun _ _ h=>h) (fun _ _ h=>⟨h,qli Yz h⟩) (qqT Yz) mixed ht hw
def qFA {P:Program} (Yz:(P.funcs.toList.all fun f=>!(f.name == "runtime.NumGoroutine"))=true) (mixed:P.follows .mixedOrders=true)
  {po:FuncId->Bool} {sRC:FuncId->List V->Aev.Rows->Option (List Prop×V)} (ht:qii (qqS P po sRC)):COK (qqS P po sRC).cfg :=
 qFs (fun _ _ h=>h) (fun _ _ h=>⟨h,qli Yz h⟩) (qqT Yz) mixed ht
def JC (o:List Prop×Out):AS:=match o.2 with
 | .next s=>s|_=>⟨⟨0,[],[],none,[],[]⟩,[],[]⟩
def start (c:qt) (g:FuncId) (args:List V) (rows:Aev.Rows):AS:=match Y9 c.cfg g args with
 | some fr=>⟨fr,[],rows⟩|none=>⟨⟨0,[],[],none,[],[]⟩,[],[]⟩
abbrev I (n:Int):V:=.d (.int .i64 n)
abbrev U64 (n:Int):V:=.d (.int .u64 n)
abbrev B (b:Bool):V:=.d (.bool b)
abbrev L (l:List Int):V:=.d (.list (YN l))
abbrev LB (l:List UInt8):V:=.d (.list (qe l))
def qFB (n:Nat) (l:List (Nat×V)):List V:=(List.range n).map fun i=>match l.find? (fun p=>Nat.beq p.1 i)with
 | some p=>p.2|none=>.any
def hd (g:FuncId) (td:List qL) (n:Nat) (l:List (Nat×V)) (rows:Aev.Rows):AS:=⟨⟨g,qFB n l,td,none,[],[]⟩,[],rows⟩
def qlj {c:qt} {g:FuncId} {args:List V} {rows:Aev.Rows} {fr:AF} (h:Y9 c.cfg g args=some fr):start c g args rows=⟨fr,[],rows⟩:=by unfold start; rw[h]
def qd4 {c:qt} (hc:COK c.cfg) {g:FuncId} {args:List V} {rows:Aev.Rows} {x:V} (he:(Y9 c.cfg g args).isSome=true) (h:qb c 0 (start c g args rows) fun v rows'=>qcB (qp rows') v=some x):RCs c.P g args rows x:=by
 obtain⟨fr,hf⟩:=qVx.1 he;rw[qlj hf]at h;exact qwL (qqI hc hf h)
def qb1 {c:qt} (hc:COK c.cfg) {g:FuncId} {k:Nat} {args:List V} {rows:Aev.Rows} {R:V->Aev.Rows->Prop} (he:(Y9 c.cfg g args).isSome=true) (h:qb c k (start c g args rows) R):qM c.P g k args rows R:=by
 obtain⟨fr,hf⟩:=qVx.1 he;rw[qlj hf]at h;exact qqI hc hf h
def ql (gd:List (Nat×Bool)) (lst:List (Nat×(Nat->D)):=[]) (row:List (Nat×(Nat->D)):=[]) (md:Nat:=0) (ar:Bool:=false) (sh:Bool:=false) (wr:Bool:=false) (sx:Bool:=false) (mz:List Nat:=[]) (nz:List Nat:=[]):qw :=
 {gd:=fun i=>match gd.find? (fun p=>Nat.beq p.1 i)with|some p=>some p.2|none=>none,lst:=fun t=>lst.find? (fun p=>Nat.beq p.1 t) |>.map (·.2),row:=fun t=>row.find? (fun p=>Nat.beq p.1 t) |>.map (·.2),md,ar,sh,wr,sx,mz:=fun t=>mz.any (Nat.beq t),nz:=fun t=>nz.any (Nat.beq t)}
def elI (l:List Int):Nat->D:=fun i=>.int .i64 (l.getD i 0)
end Go.Aev
namespace Go.Aev
variable [Glob]
def qr (s:AS):Bool :=
 match s.fr.todo,s.stack with
 | .it (.inLoop _)::_,[]=>true|.it (.code (.loop _))::_,[]=>true|_,_=>false
end Go.Aev
namespace Go.Aev
variable [Glob]
variable {w0:World} {own:Own} {m:Mp} {S:Nat->Prop} {w:World} {rows:Rows}
def qim (rows:Rows) (v:V):Option (List Prop×D):=match v with
 | .d x=>some ([],x)|v=>match qle rows v with
  | some (ps,es)=>some (ps,.list es)|none=>none
def qin (rows:Rows):List V->Option (List Prop×List D)
 | []=>some ([],[])|v::r=>match qim rows v,qin rows r with
  | some (ps,x),some (qs,l)=>some (ps++qs,x::l)|_,_=>none
def qgp (rows:Rows) (v:V):Option (List Prop×V):=match v with
 | .fn f []=>some ([],.fn f [])|.agg cs=>match qin rows cs with
  | some (ps,l)=>some (ps,.d (.agg l))|none=>none
 | v=>match qim rows v with
  | some (ps,x)=>some (ps,.d x)|none=>none
def qde (rows:Rows):List V->Option (List Prop×List V)
 | []=>some ([],[])|v::r=>match qgp rows v,qde rows r with
  | some (ps,x),some (qs,l)=>some (ps++qs,x::l)|_,_=>none
def qqP (inv:Inv w0 own m S w rows) {v:V} {ps:List Prop} {x:D} {u:Value} (h:qim rows v=some (ps,x)) (hp:qh ps) (hv:RV m S w v u):RD S w x u:=by
 unfold qim at h;split at h
 ·cases h; exact Yh hv
 ·split at h
  ·rename_i qs es hl;cases h;exact qwO inv hl hp hv
  ·cases h
def qwY {l:List V} {ps:List Prop} {ds:List D} (h:qin rows l=some (ps,ds)) (hp:qh ps):l.length=ds.length/\∀(j:Nat) (x:D),ds[j]?=some x->∃v qs,l[j]?=some v/\qim rows v=some (qs,x)/\qh qs:=by
 induction l generalizing ps ds with
 | nil=>cases h; exact⟨rfl,fun j x hx=>by simp at hx⟩
 | cons v r ih =>
  unfold qin at h;split at h
  ·rename_i qs x rs l' h1 h2;cases h;obtain⟨p1,p2⟩:=Yl hp;obtain⟨e,k⟩:=ih h2 p2;refine⟨by simp[e],fun j y hy=>?_⟩
   cases j with
   | zero=>simp at hy; subst hy; exact⟨v,qs,rfl,h1,p1⟩|succ j=>simp only[qUx]at hy ⊢; exact k j y hy
  ·cases h
def qqQ (inv:Inv w0 own m S w rows) {m':Mp} {v x:V} {ps:List Prop} {u:Value} (h:qgp rows v=some (ps,x)) (hp:qh ps) (hv:RV m S w v u):RV m' S w x u:=by
 unfold qgp at h;split at h
 ·cases h
  cases hv with
  | fn _ _ arr hlen hd=>exact .fn _ _ arr hlen (fun j x v hx=>by simp at hx)
 ·split at h
  ·rename_i cs qs l hc;cases h
   cases hv with
   | agg _ arr hlen hd =>
    obtain⟨e,k⟩:=qwY hc hp;refine .d _ _ (.agg _ arr (by rw[hlen,e]) (fun j d y hd' hy=>?_));obtain⟨v',qs,h1,h2,h3⟩:=k j d hd';exact qqP inv h2 h3 (hd j v' y h1 hy)
  ·cases h
 ·split at h
  ·rename_i qs y hc;cases h;exact .d _ _ (qqP inv hc hp hv)
  ·cases h
def qqR (inv:Inv w0 own m S w rows) {m':Mp} {l l':List V} {ps:List Prop} (h:qde rows l=some (ps,l')) (hp:qh ps) {vs:Array Value} (hv:RVs m S w l vs):RVs m' S w l' vs:=by
 have key:∀{l l':List V} {ps:List Prop},qde rows l=some (ps,l')->qh ps->l.length=l'.length/\∀(j:Nat) (y:V),l'[j]?=some y->∃x qs,l[j]?=some x/\qgp rows x=some (qs,y)/\qh qs:=by
  intro l
  induction l with
  | nil=>intro l' ps h hp; cases h; exact⟨rfl,fun j x hx=>by simp at hx⟩
  | cons v r ih =>
   intro l' ps h hp;unfold qde at h;split at h
   ·rename_i qs x rs l'' h1 h2;cases h;obtain⟨p1,p2⟩:=Yl hp;obtain⟨e,k⟩:=ih h2 p2;refine⟨by simp[e],fun j y hy=>?_⟩
    cases j with
    | zero=>simp at hy; subst hy; exact⟨v,qs,rfl,h1,p1⟩|succ j=>simp only[qUx]at hy ⊢; exact k j y hy
   ·cases h
 obtain⟨e,k⟩:=key h hp;refine⟨by rw[<-e]; exact hv.1,fun j y u hy hu=>?_⟩;obtain⟨x,qs,hx,ha,hq⟩:=k j y hy;exact qqQ inv ha hq (hv.2 j x u hx hu)
def RCs.of_argsU {P:Program} {g:FuncId} {args args':List V} {ps:List Prop} {v:V} (h:RCs P g args' [] v) (ha:qde rows args=some (ps,args')) (hp:qh ps):RCs P g args rows v:=by
 intro w0 own m S w vs inv hro hv;exact h w0 own (fun _=>none) S w vs inv.nothing (fun r row h=>(by simp at h)) (qqR inv ha hp hv)
def qio (P:Program) (f:FuncId->Option (List V->V)) (g:FuncId) (args:List V) (rows:Rows):Option (List Prop×V) :=
 match f g with
 | some a=>match qde rows args with
  | some (ps,args')=>some (ps++[RCs P g args' [] (a args')],a args')|none=>none
 | none=>none
def qwZ {P:Program} {f:FuncId->Option (List V->V)} {g:FuncId} {args:List V} {rows:Rows} {ps:List Prop} {v:V} (h:qio P f g args rows=some (ps,v)) (hp:qh ps):RCs P g args rows v:=by
 unfold qio at h;split at h
 ·split at h
  ·rename_i a ha qs args' hx;cases h;obtain⟨p1,p2,_⟩:=Yl hp;exact p2.of_argsU hx p1
  ·cases h
 ·cases h
def qlh {α:Type} [Inhabited α] (p:α->Prop):α:=@dite α (∃x,p x) (Classical.propDecidable _) (fun h=>Classical.choose h) (fun _=>default)
def qw0 {α:Type} [Inhabited α] {p:α->Prop} (h:∃x,p x):p (qlh p):=by
 unfold qlh; rw[dif_pos h]; exact Classical.choose_spec h
def toI:D->Int
 | .int _ n=>n|_=>0
def toB:D->Bool
 | .bool b=>b|_=>false
def toS:D->List UInt8
 | .str s=>s.data.toList|_=>[]
def toL:D->List D
 | .list l=>l|_=>[]
def cel (d:D) (i:Nat):D:=d.cells.getD i .nilp
def qhE:qc->qc
 | .live (.dat k es _)=>.live (.dat k es true)|.live (.box cs _)=>.live (.box cs true)|s=>s
def frN (rows:Rows):Nat->Rows
 | 0=>rows|n+1=>match (frN rows n)[n]? with
  | some s=>qv (frN rows n) n (qhE s)|none=>frN rows n
def qCO (inv:Inv w0 own m S w rows) (n:Nat):∃S',Inv w0 own m S' w (frN rows n)/\Ext m S w m S' w:=by
 induction n with
 | zero=>exact⟨S,inv,Ext.refl ..⟩|succ n ih =>
  obtain⟨S1,i1,e1⟩:=ih;unfold frN
  cases hs:(frN rows n)[n]? with
  | none=>exact⟨S1,i1,e1⟩|some s =>
   have key:∀row:Row,s=.live row->row.freeze.rw=false->qhE s=.live row.freeze->∃S',Inv w0 own m S' w (qv (frN rows n) n (qhE s))/\Ext m S w m S' w:=by
    intro row h1 hf h2;subst h1;rw[h2]
    cases hw:row.rw with
    | true =>
     obtain⟨b,o,hm,_⟩:=i1.row n row hs;obtain⟨k1,k2⟩:=i1.freeze n row b o hs hf hw hm;exact⟨_,k1,e1.trans k2⟩
    | false =>
     rw[qv1 hf hw,qdJ hs];exact⟨S1,i1,e1⟩
   have same:qhE s=s->∃S',Inv w0 own m S' w (qv (frN rows n) n (qhE s))/\Ext m S w m S' w:=by
    intro h;rw[h,qdJ hs];exact⟨S1,i1,e1⟩
   cases s with
   | free=>exact same rfl|dead=>exact same rfl|live row =>
    cases row with
    | dat k es ro=>exact key _ rfl rfl rfl|box cs ro=>exact key _ rfl rfl rfl|map es c ro=>exact same rfl|loop=>exact same rfl|dfr=>exact same rfl|iter=>exact same rfl
def qj3 (rows:Rows) (v:V):Option (List Prop×V):=match v with
 | .sl r k off len _ _=>match qp rows r with
  | some (.box cs true)=>match qin rows ((cs.drop off).take len)with
   | some (ps,ds)=>match Nat.beq k 1&&(Nat.ble (off+len) cs.length&&ds.all (fun d=>!d.isAgg))with
    | true=>some (ps,.d (.list ds))|false=>none
   | none=>none
  | _=>none
 | _=>none
def quY (inv:Inv w0 own m S w rows) {m':Mp} {v x:V} {ps:List Prop} {u:Value} (h:qj3 rows v=some (ps,x)) (hp:qh ps) (hv:RV m S w v u):RV m' S w x u:=by
 unfold qj3 at h;split at h
 ·rename_i r k off len c ex;split at h
  ·rename_i cs hr0;have hr:=J4 rows _ _ hr0;split at h
   ·rename_i qs ds hc;split at h
    ·rename_i hb;cases h;rw[qTC,qTC]at hb;have hk:=qTO hb.1;have hle:=qT5 hb.2.1;have hsc:=hb.2.2;subst hk;obtain⟨hlen,hget⟩:=qwY hc hp;have hdl:ds.length=len:=by rw[<-hlen,qTU,qT8]; omega
     refine .d _ _ ?_
     cases hv with
     | sl r k off len c ex b o c' p hm hl hc' he hp' hb' =>
     have hrel:=Y8 inv hr hm;have h3:S b:=inv.rost r _ b o hr rfl hm
     by_cases hz:len=0
     ·subst hz;rw[qVS.1 hdl]; exact .emp _ _
     ·have hp2:p=some ⟨b,o+off*1,none⟩:=by
       rcases hp' with hp' | hp'
       ·omega
       ·exact hp'
      subst hp2;obtain⟨ca,t,e1,e3⟩:=hrel;have hone:∀d∈ds,d.isAgg=false:=fun d hd=>by have:=qTI.1 hsc d hd; simpa using this
      have hcell:∀d∈ds,d.cells=[d]:=fun d hd=>by
       have:=hone d hd;cases d<;>first|rfl|cases this
      have hflat:qn ds=ds:=by
       unfold qn;have:∀l:List D,(∀d∈l,d.cells=[d])->l.flatMap D.cells=l:=by
        intro l
        induction l with
        | nil=>intro _; rfl
        | cons a l ih=>intro h; rw[qUq,h a (by simp),ih fun d hd=>h d (qTG _ hd)]; rfl
       exact this ds hcell
      have key:∀(j:Nat) (d:D),ds[j]?=some d->∃v,cl w b (o+off*1+j)=some v/\RD S w d v:=by
       intro j d hj;obtain⟨x,rs,h1,h2,h3⟩:=hget j d hj;have hjl:j<len:=by have:=q7 hj; omega
       have hx:cs[off+j]?=some x:=by
        rw[qUh,if_pos hjl,qUk]at h1; exact h1
       obtain⟨v,hv,hrv⟩:=e3 _ x hx;exact⟨v,by rw[qaw e1,<-hv]; congr 1; omega,qqP inv h2 h3 hrv⟩
      refine .row _ b (o+off*1) c' 1 len (fun j=>(cl w b (o+off*1+j)).getD undef) hdl.symm hl h3 (fun e he=>by rw[hcell e he]; rfl) (fun d hd=>hone d (by rw[hflat]at hd; exact hd)) (fun j d hj=>?_) (fun j d hj=>?_)
      ·rw[hflat]at hj;obtain⟨v,hv,_⟩:=key j d hj;simp only[hv,qTT]
      ·rw[hflat]at hj;obtain⟨v,hv,hrd⟩:=key j d hj;simp only[hv,qTT];exact hrd
    ·cases h
   ·cases h
  ·cases h
 ·cases h
def qj4 (rows:Rows) (v:V):Option (List Prop×V):=match v with
 | .tup vs=>match qde (frN rows rows.length) vs with
  | some (ps,l)=>some (ps,.tup l)|none=>none
 | v=>match qj3 (frN rows rows.length) v with
  | some x=>some x|none=>qgp (frN rows rows.length) v
def qCP (inv:Inv w0 own m S w rows) {v x:V} {ps:List Prop} {u:Value} (h:qj4 rows v=some (ps,x)) (hp:qh ps) (hv:RV m S w v u) :
  ∃S' rows',Inv w0 own m S' w rows'/\∀m2:Mp,RV m2 S' w x u:=by
 obtain⟨S1,i1,e1⟩:=qCO inv rows.length;have hv1:=hv.ext e1;unfold qj4 at h;split at h
 ·split at h
  ·rename_i vs qs l hl;cases h
   cases hv1 with
   | tup _ arr hlen hd =>
    refine⟨S1,_,i1,fun m2=>?_⟩;obtain⟨h1,h2⟩:=qqR i1 (m':=m2) hl hp ⟨hlen,hd⟩;exact .tup _ _ h1 h2
  ·cases h
 ·split at h
  ·rename_i hb;cases h;exact⟨S1,_,i1,fun m2=>quY i1 hb hp hv1⟩
  ·exact⟨S1,_,i1,fun m2=>qqQ i1 h hp hv1⟩
def Fin (x:V) (v:V) (rows:Rows):Prop:=∃ps,qj4 rows v=some (ps,x)/\qh ps
def qCQ {P:Program} {g:FuncId} {k:Nat} {args:List V} {rows:Rows} {x:V} (h:qM P g k args rows (Fin x)):RCs P g args rows x:=by
 intro w0 own m S w vs inv hro ha;refine(h w ⟨fun _=>False,S⟩ m S w vs (inv.rebase hro) ha).mono fun e w' ⟨u,v,rows',he,⟨ps,hq,hp⟩,m',S',i1,r1,_,_⟩=>⟨u,he,?_⟩
 obtain⟨S2,rows2,i2,r2⟩:=qCP i1 hq hp r1;refine⟨S2,fun c hc=>i2.stb c hc,fun c hc=>?_,r2,fun c hc=>i2.kept c hc (fun h=>h),i2.grow,i2.os,i2.tape,i2.output⟩;rcases i2.base c hc with h1|h1|h1
 ·exact .inl h1
 ·exact .inr ⟨h1,i2.sbnd c hc⟩
 ·exact h1.elim
def qE {c:qt} (hc:COK c.cfg) {g:FuncId} {args:List V} {rows:Aev.Rows} {x:V} (he:(Y9 c.cfg g args).isSome=true) (h:qb c 0 (start c g args rows) (Fin x)):RCs c.P g args rows x:=by
 obtain⟨fr,hf⟩:=qVx.1 he;rw[qlj hf]at h;exact qCQ (qqI hc hf h)
def qo1 (c:qt) (h:qw) (stop:AS->Bool) (n:Nat) (s:AS):Option (List Prop×List Prop×V):=match sTo c h stop n s with
 | (ps,.done v rows)=>match qj4 rows v with
  | some (qs,x)=>some (ps,qs,x)|none=>none
 | _=>none
def qb.fin' {c:qt} {k:Nat} {s:AS} {x:V} (hc:COK c.cfg) (h:qw) (stop:AS->Bool) (n:Nat) {ps qs:List Prop} (e:qo1 c h stop n s=some (ps,qs,x)) (hp:qh ps) (hq:qh qs):qb c k s (Fin x):=by
 unfold qo1 at e;split at e
 ·rename_i v rows h1;split at e
  ·rename_i h2;cases e;exact qb.toFin hc h stop n h1 hp ⟨_,h2,hq⟩
  ·cases e
 ·cases e
end Go.Aev
namespace Go.Aev
open Go
variable [Glob]
variable {w0:World} {own:Own} {m:Mp} {S:Nat->Prop} {w:World} {rows:Rows}
def qjW (rows:Rows) (v:V):Option (List Prop×V):=match qj3 rows v with
 | some x=>some x|none=>qgp rows v
def qeO (rows:Rows):List V->Option (List Prop×List V)
 | []=>some ([],[])|v::r=>match qjW rows v,qeO rows r with
  | some (ps,x),some (qs,l)=>some (ps++qs,x::l)|_,_=>none
def qCq (inv:Inv w0 own m S w rows) {m':Mp} {v x:V} {ps:List Prop} {u:Value} (h:qjW rows v=some (ps,x)) (hp:qh ps) (hv:RV m S w v u):RV m' S w x u:=by
 unfold qjW at h;split at h
 ·rename_i y hy;cases h;exact quY inv hy hp hv
 ·exact qqQ inv h hp hv
def qCr (inv:Inv w0 own m S w rows) {m':Mp} {l l':List V} {ps:List Prop} (h:qeO rows l=some (ps,l')) (hp:qh ps) {vs:Array Value} (hv:RVs m S w l vs):RVs m' S w l' vs:=by
 have key:∀{l l':List V} {ps:List Prop},qeO rows l=some (ps,l')->qh ps->l.length=l'.length/\∀(j:Nat) (y:V),l'[j]?=some y->∃x qs,l[j]?=some x/\qjW rows x=some (qs,y)/\qh qs:=by
  intro l
  induction l with
  | nil=>intro l' ps h hp; cases h; exact⟨rfl,fun j x hx=>by simp at hx⟩
  | cons v r ih =>
   intro l' ps h hp;unfold qeO at h;split at h
   ·rename_i qs x rs l'' h1 h2;cases h;obtain⟨p1,p2⟩:=Yl hp;obtain⟨e,k⟩:=ih h2 p2;refine⟨by simp[e],fun j y hy=>?_⟩
    cases j with
    | zero=>simp at hy; subst hy; exact⟨v,qs,rfl,h1,p1⟩|succ j=>simp only[qUx]at hy ⊢; exact k j y hy
   ·cases h
 obtain⟨e,k⟩:=key h hp;refine⟨by rw[<-e]; exact hv.1,fun j y u hy hu=>?_⟩;obtain⟨x,qs,hx,ha,hq⟩:=k j y hy;exact qCq inv ha hq (hv.2 j x u hx hu)
def RCs.of_argsB {P:Program} {g:FuncId} {args args':List V} {ps:List Prop} {v:V} (h:RCs P g args' [] v) (ha:qeO rows args=some (ps,args')) (hp:qh ps):RCs P g args rows v:=by
 intro w0 own m S w vs inv hro hv;exact h w0 own (fun _=>none) S w vs inv.nothing (fun r row h=>(by simp at h)) (qCr inv ha hp hv)
def qjX (P:Program) (f:FuncId->Option (List V->V)) (g:FuncId) (args:List V) (rows:Rows):Option (List Prop×V) :=
 match f g with
 | some a=>match qeO rows args with
  | some (ps,args')=>some (ps++[RCs P g args' [] (a args')],a args')|none=>none
 | none=>none
def quK {P:Program} {f:FuncId->Option (List V->V)} {g:FuncId} {args:List V} {rows:Rows} {ps:List Prop} {v:V} (h:qjX P f g args rows=some (ps,v)) (hp:qh ps):RCs P g args rows v:=by
 unfold qjX at h;split at h
 ·split at h
  ·rename_i a ha qs args' hx;cases h;obtain⟨p1,p2,_⟩:=Yl hp;exact p2.of_argsB hx p1
  ·cases h
 ·cases h
end Go.Aev
namespace Go.Aev
variable [Glob]
def qj5 (s:AS):Option (Oper×Operand×Array Oper×List Nat×List qL×Nat×List (D×V)×List Nat) :=
 match s.fr.todo with
 | .it (.inRegion ops (i::rest))::kk=>match ops[i]? with
  | some o=>match o.op with
   | .next x false=>match qaO ops s.fr.env o,(YX s.fr.env x).bind (qhF (qp s.rows))with
    | some true,some (r,es,seen)=>some (o,x,ops,rest,kk,r,es,seen)|_,_=>none
   | _=>none
  | none=>none
 | _=>none
def qj6 (s:AS) (j:Nat):Option AS :=
 match qj5 s with
 | some (o,_,ops,rest,kk,r,es,seen)=>match qj8 es seen r j with
  | some res=>some {s with fr:={s.fr with env:=JN s.fr.env o.dst res.v,todo:=.it (.inRegion ops rest)::kk},rows:=YJ res.ups s.rows}
  | none=>none
 | none=>none
def qeQ (s:AS):List Nat :=
 match qj5 s with
 | some (_,_,_,_,_,_,es,seen)=>qcs es.length seen|none=>[]
def qb.next {c:qt} {k:Nat} {s:AS} {Q:V->Rows->Prop} (hne:qeQ s≠[]) (h:∀j∈qeQ s,∃s',qj6 s j=some s'/\qb c k s' Q):qb c k s Q:=by
 intro w0 own bt f M hb hs;obtain⟨hbf,m,S,w,tmps,todo,ds,ro,cs,rfl,inv,hfr,hst⟩:=hs;have ht:=hfr.todo;have key:∃j,j∈qeQ s/\∀s',qj6 s j=some s'->∃M',Steps c.P (lone (rfr s.fr.fn tmps todo ds ro) cs w) M'/\qba c.P w0 own bt f s' M':=by
  unfold qeQ at hne ⊢;unfold qj6
  cases hra:qj5 s with
  | none=>rw[hra]at hne; exact absurd rfl hne|some p =>
   obtain⟨o,x,ops,rest,kk,r,es,seen⟩:=p;rw[hra]at hne;simp only at hne ⊢;unfold qj5 at hra;split at hra
   ·rename_i ops' i rest' kk' htodo;rw[htodo]at ht
    cases ht with
    | cons hi tl =>
    rename_i kr;cases hi;split at hra
    ·rename_i o' ho;split at hra
     ·rename_i x' hop;split at hra
      ·rename_i r' es' seen' hw hit;simp only[qT4,qUe]at hra;obtain⟨rfl,rfl,rfl,rfl,rfl,rfl,rfl,rfl⟩:=hra;obtain⟨xv,hxv,hit'⟩:=qVT.1 hit;have hU:=qdX (fn:=s.fr.fn) (todo:=.inRegion ops' (i::rest')::kr) (ds:=ds) (ro:=ro) inv.glb hfr.env;have hxr:=hU _ _ hxv;have hw':=qda hfr.env hw;obtain⟨b,hm,hrow,hxe,hrel⟩:=qo7 (J4 s.rows) inv hit' hxr;obtain⟨_,mb,ents,hS,h1,h2,hbn,h3,h4⟩:=hrel;obtain⟨n1,n2⟩:=qu0 (P:=c.P) (ty:=o'.type) h4 h1 h2 hbn;obtain⟨j,e,wd,hj,he,hwd,hrun⟩:=n2 hne;refine⟨j,hj,fun s' hs'=>?_⟩;unfold qj8 at hs';split at hs'
       ·rename_i res hres;split at hres
        ·rename_i e' he';cases hres;cases hs';obtain⟨k1,k2⟩:=qu1 inv hm hrow hS h1 h2 hbn h3 h4 hwd j;obtain⟨r1,r2⟩:=h3 j e' e he' he;have hnd:∀cc,o'.op≠.defer cc:=by rw[hop]; intro cc hcc; cases hcc
         have hrun':(execOp (rfr s.fr.fn tmps (.inRegion ops' (i::rest')::kr) ds ro).eval o').run c.P w=.ok (.value (.tuple #[.bool true,e.key,e.val])) {wd with heap:=wd.heap.setIfInBounds b (.mapIter (some mb) es'.length (seen'++[j]).toArray es'.length)}:=by
          obtain⟨dst,op,type,pos,after,guard⟩:=o';simp only at hop;subst hop;have h5:∀(sv:Sem Value) (u:Value) (w':World),sv.run c.P w=.ok u w'->(do pure (Next.value (<-sv)):Sem Next).run c.P w=.ok (.value u) w':=fun sv u w' hh=>by simp[hh]
          refine h5 _ _ _ ?_;rw[hxe];exact hrun
         refine⟨_,.one (qhH ho hw' hnd hrun' (.inl rfl)),?_,m,S,_,_,_,ds,ro,cs,rfl,k1,⟨qa9 (hfr.env.ext k2) (qu2 (.d _ _ (.bool _)) (.d _ _ (r1.ext k2)) (r2.ext k2)) o'.dst,.cons rfl tl,hfr.ds.ext k2,hfr.ro⟩,hst.ext k2⟩;show Jj _ s.stack=f;rw[J5]at hbf ⊢;exact hbf
        ·cases hres
       ·cases hs'
      ·cases hra
     ·cases hra
    ·cases hra
   ·cases hra
 obtain⟨j,hj,hk⟩:=key;obtain⟨s',e1,e2⟩:=h j hj;obtain⟨M',st,hs'⟩:=hk s' e1;obtain⟨v,rows',hq,hf⟩:=e2 w0 own bt f M' hb hs';exact⟨v,rows',hq,hf.of_steps st⟩
def qj7 (c:Cfg) (stop:AS->Bool):Nat->AS->Option AS
 | 0,_=>none|n+1,s=>match stop s with
  | true=>some s|false=>match qcE c s with
   | .next s'=>qj7 c stop n s'|_=>none
def qb.arunTo {c:qt} {d:Cfg} (hc:COK d) (hP:d.P=c.P) {k:Nat} {Q:V->Rows->Prop} (stop:AS->Bool):∀(n:Nat) {s s':AS},qj7 d stop n s=some s'->qb c k s' Q->qb c k s Q
 | 0,s,s',e,_=>by cases e
 | n+1,s,s',e,hk=>by
  simp only[qj7]at e;split at e
  ·cases e; exact hk
  ·split at e
   ·rename_i s1 h1;have ih:=qb.arunTo hc hP stop n e hk;intro w0 own bt f M hb hs;have h:=qe4 hc (by rw[hP]; exact hs);rw[h1,hP]at h;obtain⟨M',st,hs'⟩:=h;obtain⟨v,rows',hq,hf⟩:=ih w0 own bt f M' hb hs';exact⟨v,rows',hq,hf.of_steps st⟩
   ·cases e
def qb.adone {c:qt} {d:Cfg} (hc:COK d) (hP:d.P=c.P) {k:Nat} {Q:V->Rows->Prop} (n:Nat) {s:AS} {v:V} {rows:Rows} (e:qdd d n s=.done v rows) (hq:Q v rows):qb c k s Q:=by
 intro w0 own bt f M hb hs;have h:=qkS hc (n:=n) (by rw[hP]; exact hs);rw[e,hP]at h;exact⟨v,rows,hq,h⟩
def quZ (s:AS):Bool:=decide (2<=(qeQ s).length)
def qo2 (d:Cfg) (fuel:Nat) (v:V):Nat->AS->Bool
 | 0,_=>false|m+1,s=>match qj7 d quZ fuel s with
  | some s'=>(match qeQ s' with | []=>false|_=>true)&&(qeQ s').all fun j=>match qj6 s' j with
   | some s2=>qo2 d fuel v m s2|none=>false
  | none=>match qdd d fuel s with
   | .done u rows=>match qcB (qp rows) u with
    | some x=>V.same x v|none=>false
   | _=>false
def qo3 {c:qt} {d:Cfg} (hc:COK d) (hP:d.P=c.P) {fuel:Nat} {v:V}:∀{m:Nat} {s:AS},qo2 d fuel v m s=true->qb c 0 s (fun u rows=>qcB (qp rows) u=some v)
 | 0,s,h=>by cases h
 | m+1,s,h=>by
  simp only[qo2]at h;split at h
  ·rename_i s' h1;rw[qTC]at h;refine qb.arunTo hc hP quZ fuel h1 ?_;refine qb.next (fun e=>by rw[e]at h; cases h.1) fun j hj=>?_
   have:=qTI.1 h.2 j hj;split at this
   ·rename_i s2 h2;exact⟨s2,h2,qo3 hc hP this⟩
   ·cases this
  ·split at h
   ·rename_i u rows h1;refine qb.adone hc hP fuel h1 ?_;split at h
    ·rename_i x hx;rw[hx,V.same_eq h]
    ·cases h
   ·cases h
end Go.Aev
namespace Go.Aev
variable [Glob]
variable {m:Mp} {S:Nat->Prop} {w:World}
def qpu (f:Nat->Option Nat):qL->Option qL
 | .it i=>some (.it i)|.rf r=>(f r).map .rf
def qkn (f:Nat->Option Nat) (a:AF):Option AF:=match a.round,a.dcl,qz (qpu f) a.todo,qz f a.marks with
 | none,[],some todo,some marks=>some {a with env:=a.env.map (qkA f),todo,marks}
 | _,_,_,_=>none
def qpv (am:Nat->Option (List D)) (k:Nat) (rs keep:List Nat) (s:AS):Option (List Prop×AS) :=
 if s.fr.todo.all qig&&s.fr.round.isNone&&s.fr.marks.isEmpty&&s.fr.dcl.isEmpty&&(rs.take k==List.range k)&&rs.all (fun r=>decide (r<s.rows.length))&&decide (rs.eraseDups.length=rs.length)then
  match qe7 (fun r=>q9 r rs 0) keep 0 s.fr.env,qil am (fun r=>q9 r rs 0) (qp s.rows) rs,qz (qkn fun r=>q9 r rs 0) s.stack with
  | some env,some (ps,rows),some stack=>some (ps,{fr:={s.fr with env},stack,rows})
  | _,_,_=>none
 else none
def qpw {rs:List Nat} {r j:Nat} (h:q9 r rs 0=some j):qT m rs j=m r:=by
 have:=(qoY h).2;rw[qUO]at this;simp[qT,this]
def qvN {rs:List Nat}:∀{a a':List qL} {l:List Item},qz (qpu fun r=>q9 r rs 0) a=some a'->JB m a l->JB (qT m rs) a' l
 | [],a',l,h,hr=>by
  cases hr;simp only[qz]at h;cases h;exact .nil
 | x::a,a',l,h,hr=>by
  cases hr with
  | cons h1 t =>
  unfold qz at h;split at h
  ·rename_i y ys hy hys;cases h;refine .cons ?_ (qvN hys t)
   cases x with
   | it i=>cases hy; exact h1
   | rf r =>
    obtain⟨l0,o,e1,e2⟩:=h1;simp only[qpu,qTP]at hy;obtain⟨j,hj,rfl⟩:=hy;exact⟨l0,o,by rw[qpw hj]; exact e1,e2⟩
  ·cases h
def qvO {rs:List Nat} {hid:List Deferred}:∀{a a':List Nat} {l:List Deferred},qz (fun r=>q9 r rs 0) a=some a'->qcC m hid a l->qcC (qT m rs) hid a' l
 | [],a',l,h,hr=>by
  cases hr;simp only[qz]at h;cases h;exact .nil
 | x::a,a',l,h,hr=>by
  cases hr with
  | cons h1 t =>
  unfold qz at h;split at h
  ·rename_i y ys hy hys;cases h;exact .cons (by rw[qpw hy]; exact h1) (qvO hys t)
  ·cases h
def qDP {rs:List Nat} {hid:List Deferred} {a a':AF} {tmps:Array Value} {todo:List Item} {ds:List Deferred} {ro:Option Nat} (h:qkn (fun r=>q9 r rs 0) a=some a') (hr:FR m S w hid a tmps todo ds ro):FR (qT m rs) S w hid a' tmps todo ds ro/\a'.fn=a.fn:=by
 unfold qkn at h;split at h
 ·rename_i td mk h1 h2 h3 h4;cases h;refine⟨⟨?_,qvN h3 hr.todo,?_,?_⟩,rfl⟩
  ·refine⟨by rw[qTS]; exact hr.env.1,fun j x v hx hv=>?_⟩;rw[qT3,qTP]at hx;obtain⟨y,hy,rfl⟩:=hx;exact qvG (fun r j hj=>qpw hj) (hr.env.2 j y v hy hv)
  ·obtain⟨dd,q1,q2⟩:=hr.ds;rw[h2]at q1;cases q1;show FDs _ _ _ _ a.dcl _ _;rw[h2];exact⟨_,.nil,qvO h4 q2⟩
  ·have:=hr.ro;rw[h1]at this;show qc9 _ a.round _;rw[h1]; exact this
 ·cases h
def qvP {rs:List Nat} {bt bt':Bot} (hh:bt'.hid=bt.hid) (hc:bt'.cs=bt.cs) (hB:bt.B m w->bt'.B (qT m rs) w):∀{st st':List AF} {cs:List Frame},qz (qkn fun r=>q9 r rs 0) st=some st'->qa8 m S w bt st cs->qa8 (qT m rs) S w bt' st' cs/\st'.length=st.length/\st'.map (·.fn)=st.map (·.fn)
 | [],st',cs,h,hr=>by
  simp only[qz]at h;cases h
  cases hr with
  | nil hb=>exact⟨hc ▸ .nil (hB hb),rfl,rfl⟩
 | a::st,st',cs,h,hr=>by
  cases hr with
  | cons h1 t =>
  unfold qz at h;split at h
  ·rename_i y ys hy hys;cases h;obtain⟨k1,k2,k3⟩:=qvP hh hc hB hys t;obtain⟨f1,f2⟩:=qDP hy h1;refine⟨?_,by simp[k2],by simp[f2,k3]⟩;rw[<-f2];refine .cons (a:=y) ?_ k1;have e:qau bt' ys=qau bt st:=by
    cases st<;>cases ys<;>simp at k2<;>first|exact hh|rfl
   rw[e]; exact f1
  ·cases h
def qvQ:∀{st st':List AF} {fn:FuncId},st'.map (·.fn)=st.map (·.fn)->qh2 fn st'=qh2 fn st
 | [],[],_,_=>rfl|[],_::_,_,h=>by cases h
 | _::_,[],_,h=>by cases h
 | a::st,a'::st',fn,h=>by
  simp only[qUa,qUN]at h;show Jj a' st'=Jj a st;rw[J5,J5,h.1];exact qvQ h.2
def qb.moveS {c:qt} {k:Nat} {s s':AS} {Q:V->Rows->Prop} (am:Nat->Option (List D)) (rs keep:List Nat) {ps:List Prop} (e:qpv am k rs keep s=some (ps,s')) (hp:qh ps) (hk:qb c k s' Q):qb c k s Q:=by
 intro w0 own bt f M hb hs;refine hk w0 own bt f M hb ?_;unfold qpv at e;split at e
 ·rename_i hc;simp only[qTC,decide_eq_true_eq,qWF,qVe,beq_iff_eq]at hc;obtain⟨⟨⟨⟨⟨⟨c1,c2⟩,c3⟩,c3d⟩,c5⟩,c6⟩,c7⟩:=hc;split at e
  ·rename_i env qs rows stack h1 h2 h3;cases e;obtain⟨hbf,m,S,w,tmps,todo,ds,ro,cs,rfl,inv,hfr,hst⟩:=hs;have hB:bt.B m w->bt.B (qT m rs) w:=fun hB=>bt.mono m w _ w (fun r hr p hp=>by
    have hrk:r<k:=qUn hr hb;have:rs[r]?=some r:=by
     have h3:(rs.take k)[r]?=some r:=by rw[c5]; simp[hrk]
     rwa[qWg hrk]at h3
    simp[qT,this,hp]) (fun b=>qTF _) hB
   obtain⟨k1,k2,k3⟩:=qvP (bt':=bt) rfl rfl hB h3 hst;have hro:=hfr.ro;rw[c2]at hro;have hds:=hfr.ds;rw[c3,c3d]at hds;refine⟨?_,qT m rs,S,w,tmps,todo,ds,ro,cs,rfl,qhO inv c7 (qqM h2 hp),⟨qwK h1 hfr.env,hfr.todo.its c1,?_,?_⟩,k1⟩
   ·show Jj _ stack=f;rw[J5]at hbf ⊢;rw[qvQ k3]; exact hbf
   ·show FDs (qT m rs) S w (qau bt stack) s.fr.dcl s.fr.marks ds;have eh:qau bt stack=qau bt s.stack:=by
     cases hs1:s.stack<;>cases stack<;>rw[hs1]at k2<;>simp at k2<;>rfl
    rw[c3,c3d,eh];obtain⟨dd,q1,q2⟩:=hds;cases q1; cases q2;exact FDs.none
   ·show qc9 (qT m rs) s.fr.round ro;rw[c2]; exact hro
  ·cases e
 ·cases e
def qpx (c:qt) (h:qw) (stop:AS->Bool) (n k:Nat) (rs keep:List Nat) (s:AS):List Prop×Option AS :=
 match sTo c h stop n s with
 | (ps,.next s1)=>match qpv h.mv k rs keep s1 with
  | some (qs,s2)=>(ps++qs,some s2)|none=>(ps,none)
 | (ps,_)=>(ps,none)
def qb.turnS {c:qt} {k:Nat} {s s':AS} {Q:V->Rows->Prop} (hc:COK c.cfg) (h:qw) (stop:AS->Bool) (n:Nat) (rs keep:List Nat) {ps:List Prop} (e:qpx c h stop n k rs keep s=(ps,some s')) (hp:qh ps) (hk:qb c k s' Q):qb c k s Q:=by
 unfold qpx at e;split at e
 ·rename_i ps1 s1 h1;split at e
  ·rename_i qs s2 h2;injection e with e1 e2
   subst e1;injection e2 with e2
   subst e2;obtain⟨k1,k2⟩:=Yl hp;exact qb.to hc h stop n h1 k1 (qb.moveS h.mv rs keep h2 k2 hk)
  ·injection e with _ e2
   cases e2
 ·injection e with _ e2
  cases e2
end Go.Aev
namespace Go.Aev
variable [Glob]
variable {w0:World} {own:Own} {m:Mp} {S:Nat->Prop} {w:World} {rows:Rows}
def qcG (n:Nat) (m m':Mp):Mp:=fun r=>if r<n then m r else m' (r - n)
def qbA {n r:Nat} {m m':Mp} (h:r<n):qcG n m m' r=m r:=if_pos h
def qbd {n r:Nat} {m m':Mp} (h:n<=r):qcG n m m' r=m' (r - n):=if_neg (by omega)
def qe8 (n:Nat):qc->Option qc
 | .live row=>match qP (fun j=>some (n+j)) (some row)with
  | some (.live row')=>some (.live row')|_=>none
 | _=>some .dead
def qcH (s:AS) (v:V) (rows2:Rows):Option AS :=
 match s.fr.todo with
 | .it (.inRegion ops (i::rest))::k=>match ops[i]? with
  | some o=>match qA (fun j=>some (s.rows.length+j)) 8 v,qz (qe8 s.rows.length) rows2 with
   | some v',some rows'=>some {s with fr:={s.fr with env:=JN s.fr.env o.dst v',todo:=.it (.inRegion ops rest)::k},rows:=s.rows++rows'}
   | _,_=>none
  | none=>none
 | _=>none
def qFw {n:Nat} {x y:qc} (h:qe8 n x=some y):(∃row row',x=.live row/\y=.live row'/\qP (fun j=>some (n+j)) (some row)=some (.live row'))\/y=.dead:=by
 unfold qe8 at h;split at h
 ·split at h
  ·rename_i row _ row' hm;cases h;exact .inl ⟨_,_,rfl,rfl,hm⟩
  ·cases h
 ·cases h; exact .inr rfl
def qwS (inv:Inv w0 own m S w rows) {ow:Own} (ho:∀b,¬ow b) (hst:∀b,ow.st b->S b) (hst2:∀b,S b->ow.st b) {rows2 rows3:Rows} {m':Mp} {S':Nat->Prop} {w':World}
  (i2:Inv w ow m' S' w' rows2) (hsz:∀b,Yf w b<=Yf w' b) (hb:qz (qe8 rows.length) rows2=some rows3) :
  Inv w0 own (qcG rows.length m m') S' w' (rows++rows3)/\Ext m S w (qcG rows.length m m') S' w':=by
 have hlen:=qar hb;have heapS:∀b,b<w.heap.size->w'.heap[b]?=w.heap[b]?:=fun b h=>i2.kept b h (ho b)
 have mlt:∀{r p},m r=some p->r<rows.length:=fun{r p} h=>by
  rcases qTQ r rows.length with h1|h1
  ·exact h1
  ·rw[inv.none r h1]at h; cases h
 have ext:Ext m S w (qcG rows.length m m') S' w' :=
  ⟨fun r p e=>by rw[qbA (mlt e)]; exact e,fun b hb=>i2.stb b (hst2 b hb),fun b hb=>heapS b (inv.sbnd b hb),hsz⟩
 have at3:∀(r:Nat) (x:qc),(rows++rows3)[r]?=some x->(r<rows.length/\rows[r]?=some x)\/(rows.length<=r/\((∃row row',rows2[r - rows.length]?=some (qc.live row)/\x=.live row'/\qP (fun j=>some (rows.length+j)) (some row)=some (.live row'))\/x=.dead)):=by
  intro r x hx;rcases qTQ r rows.length with h1|h1
  ·left; rw[qTZ h1]at hx; exact⟨h1,hx⟩
  ·right;rw[qT1 h1]at hx;obtain⟨y,hy,hs⟩:=JA hb hx;refine⟨h1,?_⟩;rcases qFw hs with⟨row,row',e1,e2,e3⟩|e
   ·exact .inl ⟨row,row',by rw[hy,e1],e2,e3⟩
   ·exact .inr e
 have hmv:∀r j,(fun j=>some (rows.length+j)) r=some j->(qcG rows.length m m') j=m' r:=by
  intro r j e;cases e;rw[qbd (by omega)]; congr 1; omega
 have hmove:∀(b o:Nat) (row row':Row),qP (fun j=>some (rows.length+j)) (some row)=some (.live row')->YF m' S' w' b o row->YF (qcG rows.length m m') S' w' b o row'/\row'.rw=row.rw :=
  fun b o row row' h1 h2=>qpq hmv h1 h2
 have rwEq:∀{r:Nat} {row row':Row},rows2[r - rows.length]?=some (qc.live row)->qP (fun j=>some (rows.length+j)) (some row)=some (.live row')->row'.rw=row.rw:=fun{r row row'} h1 h2=>by
  obtain⟨b1,o1,_,hrel⟩:=i2.row _ row h1;exact(hmove b1 o1 row row' h2 hrel).2
 have oldS:∀b,S' b->b<w.heap.size->S b:=fun b hb hl=>by
  rcases i2.base b hb with h3|h3|h3
  ·exact hst b h3
  ·omega
  ·exact absurd h3 (ho b)
 refine⟨⟨fun r hr=>?_,fun r hr=>?_,fun r row hr=>?_,fun r b o hm=>?_,fun r row b o hr hw hm=>?_,
  fun r r' row row' b o b' o' hne hr hr' hw hm hmm=>?_,fun r row b o hr hw hm=>?_,fun r row b o hr hw hm=>?_,i2.sbnd,fun b hb=>?_,fun b hb=>i2.stb b (hst2 b (inv.stb b hb)),i2.os.trans inv.os,i2.tape.trans inv.tape,
  i2.output.trans inv.output,qT2 inv.grow i2.grow,fun b hb hn=>?_,i2.glb⟩,ext⟩
 ·rw[qTN]at hr;rw[qbd (by omega)];exact i2.none _ (by omega)
 ·rcases at3 r _ hr with⟨h1,h2⟩|⟨h1,⟨_,_,_,h5,_⟩|h5⟩
  ·rw[qbA h1]; exact inv.fre r h2
  ·cases h5
  ·cases h5
 ·rcases at3 r _ hr with⟨h1,h2⟩|⟨h1,⟨row0,row',e1,e2,e3⟩|h5⟩
  ·obtain⟨b,o,hm,hrel⟩:=inv.row r row h2;exact⟨b,o,by rw[qbA h1]; exact hm,hrel.ext ext (heapS b (inv.bnd r b o hm))⟩
  ·cases e2;obtain⟨b,o,hm,hrel⟩:=i2.row _ row0 e1;exact⟨b,o,by rw[qbd h1]; exact hm,(hmove b o row0 row e3 hrel).1⟩
  ·cases h5
 ·rcases qTQ r rows.length with h1|h1
  ·rw[qbA h1]at hm; exact qUn (inv.bnd r b o hm) i2.grow
  ·rw[qbd h1]at hm; exact i2.bnd _ b o hm
 ·rcases at3 r _ hr with⟨h1,h2⟩|⟨h1,⟨row0,row',e1,e2,e3⟩|h5⟩
  ·rw[qbA h1]at hm; exact inv.new r row b o h2 hw hm
  ·cases e2;rw[qbd h1]at hm;rcases i2.new _ row0 b o e1 (by rw[<-rwEq e1 e3]; exact hw) hm with h3|h3
   ·exact .inl (qT2 inv.grow h3)
   ·exact absurd h3 (ho b)
  ·cases h5
 ·rcases at3 r _ hr with⟨a1,a2⟩|⟨a1,⟨row0,row1,e1,e2,e3⟩|h5⟩<;>rcases at3 r' _ hr' with⟨c1,c2⟩|⟨c1,⟨row2,row3,f1,f2,f3⟩|g5⟩
  ·rw[qbA a1]at hm; rw[qbA c1]at hmm;exact inv.apart r r' row row' b o b' o' hne a2 c2 hw hm hmm
  ·cases f2;rw[qbA a1]at hm; rw[qbd c1]at hmm;intro e;subst e;have hlt:=inv.bnd r b o hm
   cases hrw:row'.rw with
   | true =>
    rcases i2.new _ row2 b o' f1 (by rw[<-rwEq f1 f3]; exact hrw) hmm with h3|h3
    ·omega
    ·exact ho b h3
   | false =>
    have hs:=i2.rost _ row2 b o' f1 (by rw[<-rwEq f1 f3]; exact hrw) hmm;exact inv.stab r row b o a2 hw hm (oldS b hs hlt)
  ·cases g5
  ·cases e2;rw[qbd a1]at hm; rw[qbA c1]at hmm;intro e;subst e;have hlt:=inv.bnd r' b o' hmm;rcases i2.new _ row0 b o e1 (by rw[<-rwEq e1 e3]; exact hw) hm with h3|h3
   ·omega
   ·exact ho b h3
  ·cases e2; cases f2;rw[qbd a1]at hm; rw[qbd c1]at hmm;exact i2.apart _ _ row0 row2 b o b' o' (by omega) e1 f1 (by rw[<-rwEq e1 e3]; exact hw) hm hmm
  ·cases g5
  ·cases h5
  ·cases h5
  ·cases h5
 ·rcases at3 r _ hr with⟨h1,h2⟩|⟨h1,⟨row0,row',e1,e2,e3⟩|h5⟩
  ·rw[qbA h1]at hm;intro hs;exact inv.stab r row b o h2 hw hm (oldS b hs (inv.bnd r b o hm))
  ·cases e2;rw[qbd h1]at hm;exact i2.stab _ row0 b o e1 (by rw[<-rwEq e1 e3]; exact hw) hm
  ·cases h5
 ·rcases at3 r _ hr with⟨h1,h2⟩|⟨h1,⟨row0,row',e1,e2,e3⟩|h5⟩
  ·rw[qbA h1]at hm; exact ext.sub b (inv.rost r row b o h2 hw hm)
  ·cases e2;rw[qbd h1]at hm;exact i2.rost _ row0 b o e1 (by rw[<-rwEq e1 e3]; exact hw) hm
  ·cases h5
 ·rcases i2.base b hb with h3|h3|h3
  ·exact inv.base b (hst b h3)
  ·exact .inr (.inl (qT2 inv.grow h3))
  ·exact absurd h3 (ho b)
 ·have hbw:b<w.heap.size:=qUn hb inv.grow;rw[heapS b hbw];exact inv.kept b hb hn
def qb.callN {c:qt} (hc:COK c.cfg) {k:Nat} {s:AS} {Q:V->Rows->Prop} {g:FuncId} {aZ:List V} (hat:qij c.cfg s=some (g,aZ,[],[])) {R:V->Rows->Prop}
  (hd:qM c.P g 0 aZ [] R) (hk:∀v rows',R v rows'->∃s',qcH s v rows'=some s'/\qb c k s' Q):qb c k s Q:=by
 intro w0 own bt f M hb hs;obtain⟨hbf,m,S,w,tmps,todo,ds,ro,cs,rfl,inv,hfr,hst⟩:=hs;have ht:=hfr.todo;unfold qij at hat;split at hat
 ·rename_i ops i rest kk htodo;rw[htodo]at ht
  cases ht with
  | cons hi tl =>
  rename_i kr;cases hi;split at hat
  ·rename_i o ho;split at hat
   ·rename_i fo args hw hcv;split at hat
    ·rename_i fv vs hf hvs;split at hat
     ·rename_i g' aZ' hfa;simp only at hat;split at hat
      ·rename_i hcond;simp only[qTC,decide_eq_true_eq]at hcond;split at hat
       ·rename_i asC rowsC' has hrows;split at hat
        ·rename_i hlive;injection hat with hat
         injection hat with hg hat
         injection hat with ha hat
         injection hat with hr hrs
         subst hg; subst ha; subst hr;rw[hrs]at hrows has;obtain⟨asO,ats,hop,rfl⟩:=qkP hcv;have hU:=qdX (fn:=s.fr.fn) (todo:=.inRegion ops (i::rest)::kr) (ds:=ds) (ro:=ro) inv.glb hfr.env;have hw':=qda hfr.env hw;obtain⟨fs,cs',hfe,hargs⟩:=qkR hfa (hU fo _ hf) (qgf hU hvs);obtain⟨gf,h1,h2,h3⟩:=hc.rc _ hcond.1;have hrun:=qkQ (P:=c.P) (w:=w) hop hfe h1 h2 h3;have hargs':RVs (qT m []) S w asC (fs++(asO.map (rfr s.fr.fn tmps (.inRegion ops (i::rest)::kr) ds ro).eval)++cs'):=by
          refine⟨by rw[qar has]; exact hargs.1,fun j x v hx hv=>?_⟩;obtain⟨y,hy,hren⟩:=JA has hx;exact qdG hren (hargs.2 j y v hy hv)
         obtain⟨e,w',fr,⟨u,v,rows2,rfl,hR,m',S',i2,r2,_,hsz⟩,hcomes,hfn,hlv⟩:=hd w (qc1 m S s.rows []) _ S w _ (qvJ inv (rs:=[]) rfl hrows) hargs' (rfr s.fr.fn tmps (.inRegion ops (i::rest)::kr) ds ro::cs);obtain⟨s',hs',hE⟩:=hk v rows2 hR;have hleave:=step_leave_returned (P:=c.P) (c:=rfr s.fr.fn tmps (.inRegion ops (i::rest)::kr) ds ro) (cs:=cs) hlv;rw[qeR ho]at hleave;unfold qcH at hs';rw[htodo]at hs';simp only at hs';rw[ho]at hs';simp only at hs';split at hs'
         ·rename_i v' rows3 hv' hrows3;cases hs';obtain⟨i3,e3⟩:=qwS inv (ow:=qc1 m S s.rows []) (fun b ⟨r,row,o,h,_⟩=>by cases h) (fun b h=>h) (fun b h=>h) i2 hsz hrows3;have r3:RV (qcG s.rows.length m m') S' w' v' u:=qdF (fun r j e=>by
           cases e;rw[qbd (by omega)]; congr 1; omega) hv' r2
          have hsim:qba c.P w0 own bt f {s with fr:={s.fr with env:=JN s.fr.env o.dst v',todo:=.it (.inRegion ops rest)::kk},rows:=s.rows++rows3} (lone (rfr s.fr.fn (qcZ tmps o.dst u) (.inRegion ops rest::kr) ds ro) cs w'):=by
           refine⟨?_,_,S',w',_,_,ds,ro,cs,rfl,i3,⟨qa9 (hfr.env.ext e3) r3 o.dst,.cons rfl (tl.mono e3.map),hfr.ds.ext e3,hfr.ro.mono e3.map⟩,hst.ext e3⟩;show Jj _ s.stack=f;rw[J5]at hbf ⊢;exact hbf
          obtain⟨vE,rowsE,hQ,hF⟩:=hE w0 own bt f _ hb hsim;exact⟨vE,rowsE,hQ,hF.of_steps (Steps.head (qhI ho hw' (qh1 hcv) hrun) (Steps.trans hcomes (.one hleave)))⟩
         ·cases hs'
        ·cases hat
       ·cases hat
      ·cases hat
     ·cases hat
    ·cases hat
   ·cases hat
  ·cases hat
 ·cases hat
end Go.Aev
namespace Go.Aev
variable [Glob]
def qM.sel {P:Program} {g:FuncId} {args:List V} {rows:Rows} {R R0:V->Rows->Prop} (h:qM P g 0 args rows R)
  (hs:∀v rows',R v rows'->∃rs v0 rows0,rs.eraseDups.length=rs.length/\qz (fun r=>qP (fun r=>q9 r rs 0) (qp rows' r)) rs=some rows0/\qA (fun r=>q9 r rs 0) 8 v=some v0/\R0 v0 rows0):qM P g 0 args rows R0:=by
 intro w0 own m S w vs inv ha cs;obtain⟨e,w',fr,⟨u,v,rows2,rfl,hR,m',S',i2,r2,hm',hsz⟩,h3⟩:=h w0 own m S w vs inv ha cs;obtain⟨rs,v0,rows0,k1,k2,k3,k4⟩:=hs v rows2 hR;exact⟨_,w',fr,⟨u,v0,rows0,rfl,k4,qT m' rs,S',qhO i2 k1 k2,qdG k3 r2,fun r hr=>absurd hr (qWn _),hsz⟩,h3⟩
end Go.Aev
namespace Go.Aev
variable [Glob]
variable {w0:World} {own:Own} {m:Mp} {S:Nat->Prop} {w:World} {rows:Rows}

end Go.Aev
namespace Go.Aev
open Go Go.Aev
variable [Glob]
def qgT (l:List D) (v:V) (rows:Aev.Rows):Prop:=v=.sl 0 1 0 l.length l.length false/\rows=[.live (.dat 1 l false)]
def qM.ofSlL {P:Program} {g:FuncId} {es b:List D} {n c:Nat} {ex ro:Bool} (hn:n=es.length) (h:qM P g 0 [.d (.list es)] [] (qgT b)) :
  qM P g 1 [.sl 0 1 0 n c ex] [.live (.dat 1 es ro)] (fun x y=>x=.sl 1 1 0 b.length b.length false/\y=[.live (.dat 1 es true),.live (.dat 1 b false)]):=by
 subst hn;intro w0 own m S w vs inv ha cs;have htd:qbY (qp [.live (.dat 1 es ro)]) (.sl 0 1 0 es.length c ex)=some (.list es,[(0,.live (.dat 1 es true))]):=by
  simp only[qbY];show(match (some (.dat 1 es ro):Option Row)with|some (.dat k' es _)=>_|_=>none)=_;simp
 have hg:GD (qp [.live (.dat 1 es ro)]) [.live (.dat 1 es ro)]:=(J4 _).gd;obtain⟨v0,rfl,hv0⟩:=Jh ha;obtain⟨S1,i1,e1,r1,_⟩:=qpd inv hg htd hv0;have i1:Inv w0 own m S1 w [.live (.dat 1 es true)]:=i1;have i2:Inv w ⟨fun _=>False,S1⟩ (fun _=>Option.none) S1 w []:=Inv.start w (fun b hb=>i1.sbnd b hb) i1.glb;obtain⟨e,w',fr,⟨u,v,rows2,rfl,⟨rfl,rfl⟩,m',S',i3,r3,_,hsz⟩,h3⟩:=h w ⟨fun _=>False,S1⟩ (fun _=>Option.none) S1 w #[v0] i2 (Y1 (.d _ _ r1)) cs;obtain⟨i4,e4⟩:=qwS i1 (ow:=⟨fun _=>False,S1⟩) (fun b h=>h) (fun b h=>h) (fun b h=>h) (rows2:=[.live (.dat 1 b false)]) (rows3:=[.live (.dat 1 b false)]) i3 hsz rfl;refine⟨_,w',fr,⟨u,_,_,rfl,⟨rfl,rfl⟩,_,S',i4,?_,fun r hr p hp=>?_,hsz⟩,h3⟩
 ·exact qdF (f:=fun j=>some (1+j)) (n:=8) (v:=.sl 0 1 0 b.length b.length false) (fun r j hj=>by
   cases hj;show qcG 1 m m' (1+r)=m' r;rw[qbd (by omega)]; congr 1; omega) rfl r3
 ·show qcG 1 m m' r=some p;rw[qbA (by omega)];exact hp
def qM.ofArgs {P:Program} {g:FuncId} {args args':List V} {ps:List Prop} {R:V->Aev.Rows->Prop} (h:qde [] args=some (ps,args')) (hp:qh ps) (hd:qM P g 0 args' [] R):qM P g 0 args [] R:=by
 intro w0 own m S w vs inv ha;exact hd w0 own m S w vs inv (qqR inv h hp ha)
end Go.Aev
namespace Go.Aev.R
open Go Go.Aev
section
inductive K where
 | i (k:IntKind)
 | b
 | s
 | l
 | o
 deriving Inhabited
inductive T where
 | v (n:Nat)
 | i (z:Int)
 | t (b:Bool)
 | z
 | s (l:List UInt8)
 | p
 | mk (k:K) (x:T)
 | u (o k:Nat) (x:T)
 | w (o:Nat) (x y:T)
 deriving Inhabited
inductive Y where
 | i (k:IntKind)
 | b
 | s (n:Nat)
 | l (n:Nat) (e:Y)
 | g (r:Y)
 | e0
 | ec (c r:Y)
 | nm (n:Nat)
 | rg (a b:Int)
 | y8
 | gq (r:Y) (ps:List (Bool×T×T))
 deriving Inhabited
def toN (d:D):Nat:=(toI d).toNat
def K.den:K->D->D
 | .i k,d=>.int k (toI d)|.b,d=>.bool (toB d)|.s,d=>.str ⟨⟨toS d⟩⟩|.l,d=>.list (toL d)|.o,d=>d
def N64 (n:Nat):D:=.int .i64 (n:Int)
def I64 (n:Int):D:=.int .i64 n
def qsp:Nat->IntKind
 | 0=>.i64|1=>.u8|2=>.u32|3=>.u64|_=>.i32
def qaD (k:Nat):List D->Nat
 | []=>0|x::r=>max (toL (cel x k)).length (qaD k r)
def qiW:Nat->D->Nat
 | 0,_=>0|n+1,d=>1+(toL (cel d 11)).length+((toL (cel d 10)).map (qiW n)).sum
def nsz (d:D):Nat:=qiW (SizeOf.sizeOf d) d
def qce:Nat->D->Nat
 | 0,x=>(toL x).length|k+1,x=>match Nat.beq k 999 with
  | true=>nsz x|false=>toN (cel x k)
def Yo (k:Nat):List D->Nat
 | []=>0|x::r=>qce k x+Yo k r
def qiX:Nat->D->Nat
 | 0,_=>0|n+1,d=>1+((toL (cel d 10)).map (qiX n)).foldr max 0
def qaa (d:D):Nat:=qiX (SizeOf.sizeOf d) d
def Jd (l:List D):Nat:=(l.map qaa).foldr max 0
def Jw:Nat:=1000000
def T.un (wf:Nat->List D->D):Nat->Nat->D->D
 | 0,_,d=>N64 (toL d).length|1,k,d=>cel d k|2,_,d=>.agg (toL d)|3,k,d=>wf k (toL d)|4,_,d=>N64 (toN d)|5,k,d=>I64 ((qsp k).wrap (toI d))|6,_,d=>.bool (!toB d)|7,_,d=>N64 (toS d).length|8,k,d=>N64 (k*toN d)|9,_,d=>I64 (0 - toI d)|10,k,d=>N64 (toN d*k)|11,k,d=>N64 (qaD k (toL d))|12,k,d=>N64 (Yo k (toL d))|13,_,d=>N64 (qaa d)|14,_,d=>N64 (Jd (toL d))|15,_,d=>N64 (nsz d)|16,_,d=>.str ⟨⟨(toL d).map unB⟩⟩|_,_,_=>.nilp
def T.bk (o:Nat) (k:IntKind) (a b:Int):D:=match o with
 | 0=>I64 (k.wrap (a.tdiv b))|1=>I64 (a.tmod b)|2=>I64 (k.wrap (a*2 ^ (min b.toNat k.bits)))|3=>I64 (a.fdiv (2 ^ (min b.toNat k.bits)))|4=>I64 (k.wrap (BitVec.ofInt k.bits a&&&BitVec.ofInt k.bits b).toNat)|5=>I64 (k.wrap (BitVec.ofInt k.bits a|||BitVec.ofInt k.bits b).toNat)|6=>I64 (k.wrap (BitVec.ofInt k.bits a^^^BitVec.ofInt k.bits b).toNat)|_=>I64 (k.wrap (BitVec.ofInt k.bits a&&&~~~ BitVec.ofInt k.bits b).toNat)
def T.bi:Nat->D->D->D
 | 0,x,y=>I64 (toI x+toI y)|1,x,y=>I64 (toI x - toI y)|2,x,y=>I64 (toI x*toI y)|3,x,y=>(toL x).getD (toN y) .nilp|4,x,y=>.list (x::toL y)|5,x,y=>.list (toL x++toL y)|6,x,y=>.list ((toL y).take (toN x))|7,x,y=>.list ((toL y).drop (toN x))|8,x,y=>N64 (toN x+toN y)|9,x,y=>N64 (toN x - toN y)|10,x,y=>.bool (decide (toI x<toI y))|11,x,y=>.bool (decide (toI x<=toI y))|12,x,y=>.bool (decide (toI x>toI y))|13,x,y=>.bool (decide (toI x>=toI y))|14,x,y=>.bool (toI x==toI y)|15,x,y=>.bool (toI x != toI y)|16,x,y=>.bool ((⟨⟨toS x⟩⟩:ByteArray).toList==(⟨⟨toS y⟩⟩:ByteArray).toList)|17,x,y=>.bool (!((⟨⟨toS x⟩⟩:ByteArray).toList==(⟨⟨toS y⟩⟩:ByteArray).toList))|18,x,y=>.bool (Go.Op.bytesLess (⟨⟨toS x⟩⟩:ByteArray).toList (⟨⟨toS y⟩⟩:ByteArray).toList)|19,x,y=>.bool (toB x==toB y)|20,x,y=>.bool (!(toB x==toB y))|21,x,y=>.list ((toL x).set (toN (cel y 0)) (cel y 1))|22,x,y=>I64 ((toI x).tdiv (toI y))|23,x,y=>I64 ((toI x).tmod (toI y))|26,x,y=>I64 (if toI y>toI x then toI y else toI x)
 | 27,x,y=>I64 (if toI y<toI x then toI y else toI x)
 | 32,x,y=>.list (List.replicate (toN x) y)|33,x,y=>.bool (qbc (toL x) (toL y))|28,x,y=>.bool (Go.Op.bytesLess (⟨⟨toS x⟩⟩:ByteArray).toList (⟨⟨toS y⟩⟩:ByteArray).toList||(⟨⟨toS x⟩⟩:ByteArray).toList==(⟨⟨toS y⟩⟩:ByteArray).toList)|29,x,y=>.bool (!(Go.Op.bytesLess (⟨⟨toS x⟩⟩:ByteArray).toList (⟨⟨toS y⟩⟩:ByteArray).toList||(⟨⟨toS x⟩⟩:ByteArray).toList==(⟨⟨toS y⟩⟩:ByteArray).toList))|30,x,y=>.bool (!Go.Op.bytesLess (⟨⟨toS x⟩⟩:ByteArray).toList (⟨⟨toS y⟩⟩:ByteArray).toList)|24,x,y=>.int .u8 (((toS x).getD (toN y) 0).toNat:Nat)|o,x,y=>match Nat.ble 100 o with
  | true=>T.bk ((o - 100) / 10) (qsp ((o - 100) % 10)) (toI x) (toI y)|false=>.nilp
section
variable (wf:Nat->List D->D) (U:Nat->D)
def T.den:T->D
 | .v n=>U n|.i n=>I64 n|.t b=>.bool b|.z=>.list []|.s l=>.str ⟨⟨l⟩⟩|.p=>.nilp|.mk k x=>k.den x.den|.u o k x=>T.un wf o k x.den|.w o x y=>T.bi o x.den y.den
def qgZ (c:K×T):D:=c.1.den (c.2.den wf U)
end
def qab (ks:List K) (ag:Bool) (d:D):D:=match ag with
 | true=>.agg (formC ks 0 d)|false=>match ks with
  | [k]=>k.den d|_=>.nilp
where formC:List K->Nat->D->List D
 | [],_,_=>[]|k::r,n,d=>k.den (cel d n)::formC r (n+1) d
def cellsOf (x:T):List K->Nat->List (K×T)
 | [],_=>[]|k::r,n=>(k,.u 1 n x)::cellsOf x r (n+1)
def qX:List T->T
 | []=>.z|x::r=>.w 4 x (qX r)
inductive R1 where
 | c (k:K) (t:T)
 | ag (l:List (K×T))
 | nil
 | any
 | und
 | sl (r k:Nat) (on n cn:T) (ex:Bool)
 | pt (r k:Nat) (i:T) (f:Nat)
 | pe (r k:Nat) (i:T) (f:Nat) (ks:List K) (ag:Bool)
 | dp (l:List (K×T)) (ag:Bool)
 | fn (g:Nat)
 | pa (r k:Nat) (f:T)
 | av (n:Nat) (k:K) (t:T)
 deriving Inhabited
inductive RV where
 | o (x:R1)
 | vag (l:List R1)
 | tup (l:List R1)
 deriving Inhabited
inductive qu where
 | free
 | dead
 | dat (k:Nat) (t:T) (ro:Bool)
 | box (l:List R1) (ro:Bool)
 | arr (n:Nat) (k:K) (t:T) (ro:Bool)
 deriving Inhabited
section
variable (wf:Nat->List D->D) (U:Nat->D)
def R1.den:R1->V
 | .c k t=>.d (k.den (t.den wf U))|.ag l=>.d (.agg (l.map (qgZ wf U)))|.nil=>.nil|.any=>.any|.und=>.tup []|.sl r k on n cn ex=>.sl r k (toN (on.den wf U)) (toN (n.den wf U)) (toN (cn.den wf U)) ex|.pt r k i f=>.pt r k (toN (i.den wf U)) f|.pe r k i f _ _=>.pt r k (toN (i.den wf U)) f|.dp l a=>.dp (match a with|true=>.agg (l.map (qgZ wf U)) | false=>match l with | [q]=>qgZ wf U q|_=>.nilp)
 | .fn g=>.fn g []|.pa r k f=>.pt r k 0 (toN (f.den wf U))|.av _ _ t=>.d (.agg (toL (t.den wf U)))
def RV.den:RV->V
 | .o x=>x.den wf U|.vag l=>.agg (l.map (R1.den wf U))|.tup l=>.tup (l.map (R1.den wf U))
def qu.den:qu->qc
 | .free=>.free|.dead=>.dead|.dat k t ro=>.live (.dat k (toL (t.den wf U)) ro)|.box l ro=>.live (.box (l.map (R1.den wf U)) ro)|.arr _ _ t ro=>.live (.box ((toL (t.den wf U)).map V.d) ro)
end
inductive F where
 | num (a b:Nat)
 | le (a b:T)
 | lt (a b:T)
 | nle (a b:T)
 | nnle (a b:T)
 | nlt (a b:T)
 | nne (a b:T)
 | aw (l i:T) (ks:List K) (ag:Bool)
 | bool (t:T) (v:Bool)
 | inI (t:T)
 | rc (g:Nat) (x:List T)
 | all (l:T) (k:Nat)
 | and (f g:F)
 | has (t:T) (y:Y)
 | pre (l i:T) (y:Y)
 | imp (t:T) (f:F)
 | tt (b:Bool)
 | keq (a b:IntKind)
 | ine (t:T)
 | rows (e:Nat) (l i t:T)
 | ifF (f g:F)
 | eqD (a b:T)
 | byt (l:T)
 | ar (l:T)
 | sca (l:T)
 | sp (l:T) (k:K) (n:Nat)
 | iz (t:T) (z:Int)
 deriving Inhabited
def w0:Nat->List D->D:=fun _ _=>.nilp
def qiY (x:D) (v:Nat):Nat->D
 | 0=>x|1=>N64 v|_=>.nilp
def qaE (x:D) (v:Nat) (p:Bool×T×T):Prop:=match p.1 with
 | true=>toN (p.2.1.den w0 (qiY x v))<=toN (p.2.2.den w0 (qiY x v))|false=>toI (p.2.1.den w0 (qiY x v))<=toI (p.2.2.den w0 (qiY x v))
def qcf (R:Nat->D->Prop):Y->D->Prop
 | .i k,d=>∃n,d=.int k n|.b,d=>∃x,d=.bool x|.s n,d=>∃l:List UInt8,d=.str ⟨⟨l⟩⟩/\l.length<=n|.l n e,d=>∃es,d=.list es/\es.length<=n/\∀x∈es,qcf R e x|.g r,d=>∃cs,d=.agg cs/\qcf R r (.list cs)|.e0,d=>d=.list []|.ec c r,d=>∃x xs,d=.list (x::xs)/\qcf R c x/\qcf R r (.list xs)|.nm n,d=>R n d|.rg a b,d=>∃n:Int,d=.int .i64 n/\a<=n/\n<=b|.y8,d=>∃c:UInt8,d=Yq c|.gq r ps,d=>(∃cs,d=.agg cs/\qcf R r (.list cs))/\∀p∈ps,qaE d 0 p
class RT where
 body:Nat->Y
 tm:Nat->List (Bool×T×T):=fun _=>[]
 gl:Nat->List (K×T):=fun _=>[]
 mkb:Nat->Bool:=fun _=>false
def qsq {R R':Nat->D->Prop} (h:∀n d,R n d->R' n d):∀{y:Y} {d:D},qcf R y d->qcf R' y d:=by
 intro y
 induction y with
 | l n e ih=>intro d ⟨es,h1,h2,h3⟩; exact⟨es,h1,h2,fun x hx=>ih (h3 x hx)⟩
 | g r ih=>intro d ⟨cs,h1,h2⟩; exact⟨cs,h1,ih h2⟩
 | gq r ps ih=>intro d ⟨⟨cs,h1,h2⟩,h3⟩; exact⟨⟨cs,h1,ih h2⟩,h3⟩
 | ec c r ih1 ih2=>intro d ⟨x,xs,h1,h2,h3⟩; exact⟨x,xs,h1,ih1 h2,ih2 h3⟩
 | nm n=>intro d hd; exact h n d hd
 | _=>intro d hd; exact hd
variable [RT]
def JR (n:Nat) (d:D):Prop:=∃R:Nat->D->Prop,(∀m e,R m e->qcf R (RT.body m) e)/\R n d
abbrev qd:Y->D->Prop:=qcf JR
def JR.un {n:Nat} {d:D} (h:JR n d):qd (RT.body n) d:=by
 obtain⟨R,h1,h2⟩:=h;exact qsq (fun m e hm=>⟨R,h1,hm⟩) (h1 _ _ h2)
def JR.fold {n:Nat} {d:D} (h:qd (RT.body n) d):JR n d:=by
 refine⟨fun m e=>qd (RT.body m) e,fun m e hm=>?_,h⟩;exact qsq (fun m e h=>JR.un h) hm
def unQ:Y->Y
 | .gq r _=>.g r|y=>y
def qKF {y:Y} {d:D} (h:qd y d):qd (unQ y) d:=by
 cases y<;>first|exact h|exact h.1
def unN:Y->Y
 | .nm n=>RT.body n|y=>y
def qmA {y:Y} {d:D} (h:qd y d):qd (unN y) d:=by
 cases y<;>first|exact h|exact JR.un h
def unY (y:Y):Y:=unQ (unN y)
def qeo {y:Y} {d:D} (h:qd y d):qd (unY y) d:=qKF (qmA h)
class PW where
 wV:Nat->List D->D
variable [PW]
def qiZ (x v:D):Nat->D
 | 0=>x|1=>v|_=>.nilp
def qfu (x v:D) (p:Bool×T×T):Prop:=match p.1 with
 | true=>toN (p.2.1.den PW.wV (qiZ x v))<=toN (p.2.2.den PW.wV (qiZ x v))|false=>toI (p.2.1.den PW.wV (qiZ x v))<=toI (p.2.2.den PW.wV (qiZ x v))
def Yk (e:Nat) (v x:D):Prop:=match e with
 | 0=>(toL x).length=toN v|1=>(toL x).length<=toN v|2=>0<=toI x/\toI x<(toN v:Int)|k+3=>match Nat.blt k 900 with
  | true=>(toL (cel x k)).length<=toN v|false=>match Nat.blt k 917 with
   | true=>∀p∈RT.tm (k - 900),qaE x (toN v) p|false=>match Nat.blt k 937 with
    | true=>∀p∈RT.tm (k - 900),qfu x v p|false=>match Nat.beq k 937 with
     | true=>x∈toL v|false=>∀y∈toL x,y∈toL v
section
variable (wf:Nat->List D->D) (rcP:Nat->List D->Prop) (U:Nat->D)
def F.den:F->Prop
 | .num a b=>a=b|.le a b=>toI (a.den wf U)<=toI (b.den wf U)|.lt a b=>toI (a.den wf U)<toI (b.den wf U)|.nle a b=>toN (a.den wf U)<=toN (b.den wf U)|.nnle a b=>¬toN (a.den wf U)<=toN (b.den wf U)|.nlt a b=>toN (a.den wf U)<toN (b.den wf U)|.nne a b=>toN (a.den wf U)≠toN (b.den wf U)|.aw l i ks ag=>(toL (l.den wf U))[toN (i.den wf U)]?=some (qab ks ag ((toL (l.den wf U)).getD (toN (i.den wf U)) .nilp))|.bool t v=>toB (t.den wf U)=v|.inI t=>qi (toI (t.den wf U))|.rc g x=>rcP g (x.map (T.den wf U))|.all l k=>(toL (l.den wf U)).all (fun e=>e.cells.length==k)=true
 | .and f g=>f.den/\g.den|.has t y=>qd y (t.den wf U)|.pre l i y=>∀j:Nat,j<toN (i.den wf U)->qd y ((toL (l.den wf U)).getD j .nilp)|.imp t f=>toB (t.den wf U)=true->f.den|.tt b=>b=true|.keq a b=>a=b|.ine t=>toI (t.den wf U)≠0|.ifF f g=>f.den->g.den|.eqD a b=>a.den wf U=b.den wf U|.byt l=>toL (l.den wf U)=qe ((toL (l.den wf U)).map unB)|.iz t z=>toI (t.den wf U)=z|.ar l=>(toL (l.den wf U)).map V.d=(toL (l.den wf U)).map V.d|.sca l=>(toL (l.den wf U)).all (fun d=>!d.isAgg)=true
 | .sp l k n=>toL (l.den wf U)=(List.range n).map fun j=>qab [k] false ((toL (l.den wf U)).getD j .nilp)
 | .rows e l i t=>∀j:Nat,j<toN (i.den wf U)->j<(toL (l.den wf U)).length->Yk e (t.den wf U) ((toL (l.den wf U)).getD j .nilp)
end
def Y.kind:Y->K
 | .i k=>.i k|.b=>.b|.s _=>.s|.l _ _=>.l|.rg _ _=>.i .i64|.y8=>.i .u8|_=>.o
def Y.kinds:Y->List K
 | .ec c r=>c.kind::r.kinds|_=>[]
def Y.form:Y->D->D
 | .g r,d=>qab r.kinds true d|.gq r _,d=>qab r.kinds true d|y,d=>y.kind.den d
structure Con where
 pts:List Y
 pre:List F
 rts:List Y
 post:List F
 nw:Bool:=false
 fact:List D->D->Prop:=fun _ _=>True
 deriving Inhabited
def qzu:List Y->Y
 | []=>.e0|y::r=>.ec y (qzu r)
def Con.rt (c:Con):Y:=match c.rts with
 | [y]=>y|ys=>.g (qzu ys)
def qzv:List Y->Nat->D->List V
 | [],_,_=>[]|y::r,n,d=>.d (y.form (cel d n))::qzv r (n+1) d
def qan (rts:List Y) (d:D):V:=match rts with
 | [y]=>.d (y.form d)|ys=>.tup (qzv ys 0 d)
def rc0:Nat->List D->Prop:=fun _ _=>False
def qa (ds:List D) (n:Nat):D:=ds.getD n .nilp
def qKG (ds:List D) (ys:List Y):Prop:=ds.length=ys.length/\∀(i:Nat) (y:Y),ys[i]?=some y->qd y (qa ds i)
def qG (c:Con) (ds:List D):Prop:=qKG ds c.pts/\∀f∈c.pre,f.den PW.wV rc0 (qa ds)
def qg0 (c:Con) (ds:List D) (d:D):Prop:=qd c.rt d/\∀f∈c.post,f.den PW.wV rc0 (qa (ds++[d]))
def JZ (c:Con) (ds:List D) (d:D):Prop:=qg0 c ds d/\c.fact ds d
variable [Glob]
def JS (P:Program) (g:FuncId) (c:Con) (ds:List D) (d:D):Prop:=match c.nw with
 | false=>RCs P g (ds.map V.d) [] (qan c.rts d)|true=>qM P g 0 (ds.map V.d) [] (qgT (toL d))
def qm (P:Program) (g:FuncId) (c:Con):Prop:=∀ds,qG c ds->∃d,JZ c ds d/\JS P g c ds d
abbrev Tab:=List (Nat×Con)
def Tab.get (t:Tab) (g:Nat):Option Con:=(t.find? fun p=>Nat.beq p.1 g).map (·.2)
def wOf (P:Program) (tab:Tab) (g:Nat) (ds:List D):D:=match Nat.ble Jw g with
 | true=>PW.wV g ds|false=>match tab.get g with
  | some c=>qlh fun d=>JZ c ds d/\JS P g c ds d
  | none=>.nilp
def JT (P:Program) (tab:Tab) (g:Nat) (ds:List D):Prop:=match tab.get g with
 | some c=>JS P g c ds (wOf P tab g ds)|none=>False
def unD:V->D
 | .d x=>x|_=>.nilp
def qat:List V->Option (List D)
 | []=>some []|.d x::r=>match qat r with
  | some l=>some (x::l)|none=>none
 | _=>none
def qzw:∀{as:List V} {ds:List D},qat as=some ds->as=ds.map V.d
 | [],ds,h=>by cases h; rfl
 | .d x::r,ds,h=>by
  unfold qat at h;split at h
  ·rename_i l hl;cases h;rw[qzw hl]; rfl
  ·cases h
 | .nil::_,ds,h=>by cases h
 | .any::_,ds,h=>by cases h
 | .top::_,ds,h=>by cases h
 | .tup _::_,ds,h=>by cases h
 | .agg _::_,ds,h=>by cases h
 | .sl ..::_,ds,h=>by cases h
 | .pt ..::_,ds,h=>by cases h
 | .dp _::_,ds,h=>by cases h
 | .fn ..::_,ds,h=>by cases h
 | .fp ..::_,ds,h=>by cases h
 | .bf ..::_,ds,h=>by cases h
 | .mp ..::_,ds,h=>by cases h
 | .fm ..::_,ds,h=>by cases h
 | .ifc ..::_,ds,h=>by cases h
def qmB (P:Program) (tab:Tab) (g:FuncId) (args:List V) (rows:Aev.Rows):Option (List Prop×V×Aev.Rows):=match tab.get g with
 | some c=>match c.nw with
  | true=>match rows with
   | []=>match qde [] args with
    | some (ps,as)=>match qat as with
     | some ds=>some (ps++[JS P g c ds (wOf P tab g ds)],.sl 0 1 0 (toL (wOf P tab g ds)).length (toL (wOf P tab g ds)).length false,[.live (.dat 1 (toL (wOf P tab g ds)) false)])|none=>none
    | none=>none
   | [.live (.dat 1 es _)]=>match args with
    | [.sl 0 1 0 n _ _]=>some ([n<=es.length,es.length<=n,JS P g c [.list es] (wOf P tab g [.list es])],.sl 1 1 0 (toL (wOf P tab g [.list es])).length (toL (wOf P tab g [.list es])).length false,
      [.live (.dat 1 es true),.live (.dat 1 (toL (wOf P tab g [.list es])) false)])
    | _=>none
   | _=>none
  | false=>none
 | none=>none
def qKH {P:Program} {tab:Tab} {g:FuncId} {args:List V} {rows:Aev.Rows} {ps:List Prop} {v:V} {rows2:Aev.Rows} (h:qmB P tab g args rows=some (ps,v,rows2)) (hp:qh ps):qM P g rows.length args rows (fun x y=>x=v/\y=rows2):=by
 unfold qmB at h;split at h
 ·rename_i c hc;split at h
  ·rename_i hn;split at h
   ·split at h
    ·rename_i qs as ha;split at h
     ·rename_i ds hd;cases h;obtain⟨p1,p2,_⟩:=Yl hp;unfold JS at p2;rw[hn]at p2;simp only at p2;rw[<-qzw hd]at p2;exact qM.ofArgs ha p1 p2
     ·cases h
    ·cases h
   ·split at h
    ·rename_i es ro n cn ex;cases h;obtain⟨p1,p2,p3,_⟩:=hp;unfold JS at p3;rw[hn]at p3;exact qM.ofSlL (Nat.le_antisymm p1 p2) p3
    ·cases h
   ·cases h
  ·cases h
 ·cases h
def cfR (P:Program) (tab:Tab):qt:=mkW P (fun _=>true) (qio P fun g=>match tab.get g with
 | some c=>match c.nw with
  | false=>some fun args=>qan c.rts (wOf P tab g (args.map unD))
  | true=>none
 | none=>none) (qmB P tab)
end
end Go.Aev.R
namespace Go.Aev.R
open Go Go.Aev
variable [RT]
def IntKind.eq (a b:IntKind):Bool:=match a,b with
 | .i8,.i8 | .i16,.i16 | .i32,.i32 | .i64,.i64 | .u8,.u8 | .u16,.u16 | .u32,.u32 | .u64,.u64=>true|_,_=>false
def K.eq:K->K->Bool
 | .i x,.i y=>IntKind.eq x y|.b,.b | .s,.s | .l,.l | .o,.o=>true|_,_=>false
def qbK:Int->Int->Bool
 | .ofNat a,.ofNat b=>Nat.beq a b|.negSucc a,.negSucc b=>Nat.beq a b|_,_=>false
def bEq:Bool->Bool->Bool
 | true,true|false,false=>true|_,_=>false
def qmo:List UInt8->List UInt8->Bool
 | [],[]=>true|a::r,b::s=>Nat.beq a.toNat b.toNat&&qmo r s|_,_=>false
def T.eq:T->T->Bool
 | .v x,.v y=>Nat.beq x y|.i x,.i y=>qbK x y|.t x,.t y=>bEq x y|.z,.z=>true|.p,.p=>true|.s x,.s y=>qmo x y|.mk k x,.mk k' y=>K.eq k k'&&x.eq y|.u o k x,.u o' k' y=>Nat.beq o o'&&(Nat.beq k k'&&x.eq y)|.w o x y,.w o' x' y'=>Nat.beq o o'&&(x.eq x'&&y.eq y')|_,_=>false
def kOf:Value->Option K
 | .int k _=>some (.i k)|.bool _=>some .b|.string _=>some .s|.slice none 0 0=>some .l|_=>some .o
def qel (y:Ty):List K:=y.zero.cells.toList.filterMap kOf
def qy5:Value->Option R1
 | .int k n=>some (.c (.i k) (.i n))|.bool b=>some (.c .b (.t b))|.string s=>some (.c .s (.s s.data.toList))|.pointer none=>some (.c .o .p)|.slice none 0 0=>some .nil|.tuple ⟨[]⟩=>some .und|_=>none
def qmp:List R1->Option (List (K×T))
 | []=>some []|.c k t::r=>match qmp r with
  | some l=>some ((k,t)::l)|none=>none
 | _=>none
def qmq (l:List R1):RV:=match qmp l with
 | some l=>.o (.ag l)|none=>.vag l
def RV.cells:RV->List R1
 | .o (.ag l)=>l.map fun p=>.c p.1 p.2
 | .o x=>[x]|.vag l=>l|.tup _=>[]
structure H where
 arr:List (Nat×(Nat×K×T)):=[]
 glb:List (Nat×(List K×Bool×T)):=[]
 spl:List (Nat×(Nat×K×T)):=[]
 mv:List (Nat×T):=[]
 lit:List (Nat×Int):=[]
 lst:List (Nat×(List K×Bool×T)):=[]
 row:List (Nat×(List K×Bool×T)):=[]
 nz:List Nat:=[]
 mz:List Nat:=[]
structure RS where
 env:List RV
 rows:List qu
 todo:List qL
inductive RO where
 | ok (fs:List F) (h:H) (v:RV) (ups:List (Nat×qu)) (fresh:Option qu)
 | fork (t:T) (tmp:Nat)
 | fail (why:Nat)
def val (v:RV):RO:=.ok [] {} v [] none
def RO.atm (r:RO) (o:Operand):RO:=match r,o with
 | .ok fs h v ups fresh,.tmp k=>.ok fs {h with arr:=h.arr++h.arr.map fun p=>(1000000+k,p.2)} v ups fresh
 | r,_=>r
def qam (fs:List F) (v:RV):RO:=.ok fs {} v [] none
def i0:T:=.i 0
def nn (n:Nat):T:=.i (n:Int)
def qem:List F->F
 | []=>.tt true|[f]=>f|f::r=>.and f (qem r)
def qmr (env:List RV):Operand->Option RV
 | .tmp t=>match env.getD t (.o .und)with
  | .o .any=>none|v=>some v
 | .const v=>match qy5 v with
  | some x=>some (.o x)|none=>none
 | .global g=>match RT.gl g with
  | []=>none|l=>some (.o (.dp l true))
 | .func f=>some (.o (.fn f))
def qsi (env:List RV):List Operand->Option (List RV)
 | []=>some []|x::r=>match qmr env x,qsi env r with
  | some v,some l=>some (v::l)|_,_=>none
def qaC:T->Option Nat
 | .i (.ofNat n)=>some n|_=>none
def qgU:T->Option Nat
 | .i (.ofNat n)=>some n|.w 8 a b=>match qgU a,qgU b with
  | some m,some n=>some (m+n)|_,_=>none
 | .w 9 a b=>match qgU a,qgU b with
  | some m,some n=>some (m - n)|_,_=>none
 | _=>none
def qms:T->Option Nat
 | .z=>some 0|.w 4 _ r=>match qms r with
  | some n=>some (n+1)|none=>none
 | _=>none
def qfs (on n t:T):T:=match qaC on,qaC n,qms t with
 | some 0,some k,some m=>match Nat.beq k m with
  | true=>t|false=>.w 6 n (.w 7 on t)
 | _,_,_=>.w 6 n (.w 7 on t)
def qKb (a b:T):T:=match a with
 | .z=>b|a=>.w 5 a b
def r1D (rows:List qu):R1->Option (List F×T)
 | .c k t=>some ([],.mk k t)|.nil=>some ([],.z)|.sl r k on n _ _=>match rows[r]? with
  | some (.dat k' t _)=>some ([.and (.num k k') (.nle (.w 8 on n) (.u 0 0 t))],qfs on n t)|_=>none
 | .ag l=>some ([],.u 2 0 (qX (l.map fun p=>.mk p.1 p.2)))
 | .av _ _ t=>some ([],.u 2 0 t)|_=>none
def qmt (rows:List qu):List R1->Option (List F×List T)
 | []=>some ([],[])|x::r=>match r1D rows x,qmt rows r with
  | some (fs,t),some (gs,l)=>some (fs++gs,t::l)|_,_=>none
def rvD (rows:List qu):RV->Option (List F×T)
 | .o x=>r1D rows x|.vag l=>match qmt rows l with
  | some (fs,ts)=>some (fs,.u 2 0 (qX ts))|none=>none
 | .tup _=>none
def JL (rows:List qu):RV->Option (List F×T)
 | .o (.sl r _ on n _ _)=>match rows[r]?,qaC on,qaC n with
  | some (.box cs _),some o,some m=>match qmt rows ((cs.drop o).take m)with
   | some (fs,ts)=>some (fs,qX ts)|none=>none
  | _,_,_=>none
 | _=>none
def qmu (rows:List qu):List RV->Option (List F×List T)
 | []=>some ([],[])|x::r=>match rvD rows x,qmu rows r with
  | some (fs,t),some (gs,l)=>some (fs++gs,t::l)|_,_=>none
def qiT (y:Y) (t:T):R1:=match y with
 | .g r=>.ag (cellsOf t r.kinds 0)|.gq r _=>.ag (cellsOf t r.kinds 0)|y=>.c y.kind t
def qy6:List Y->Nat->T->List R1
 | [],_,_=>[]|y::r,n,t=>qiT y (.u 1 n t)::qy6 r (n+1) t
def qKc (rts:List Y) (t:T):RV:=match rts with
 | [y]=>.o (qiT y t)|ys=>.tup (qy6 ys 0 t)
def Y.plain:Y->Bool
 | .l _ _=>false|.g r=>r.plain|.gq r _=>r.plain|.ec c r=>c.plain&&r.plain|_=>true
def qmv:R1->List Nat
 | .sl r _ _ _ _ _=>[r]|.pt r _ _ _=>[r]|.pe r _ _ _ _ _=>[r]|.pa r _ _=>[r]|_=>[]
def qy7:RV->List Nat
 | .o x=>qmv x|.vag l=>l.flatMap qmv|.tup l=>l.flatMap qmv
def qy8 (rows:List qu) (r:Nat):List Nat:=match rows[r]? with
 | some (.box l _)=>l.flatMap qmv|_=>[]
def qy9 (rows:List qu) (l:List Nat):List Nat :=
 let a:=l++l.flatMap (qy8 rows)
 a++a.flatMap (qy8 rows)
def qmw (rows:List qu):List Nat->List (Nat×qu)
 | []=>[]|r::rs=>match rows[r]? with
  | some (.dat k t false)=>(r,.dat k t true)::qmw rows rs|some (.box l false)=>(r,.box l true)::qmw rows rs|_=>qmw rows rs
def qcd:IntKind->Nat
 | .i64=>0 | .u8=>1 | .u32=>2 | .u64=>3 | .i32=>4|_=>9
def qKd (wr:Bool) (op:BinOp) (x y:RV):RO:=match x,y with
 | .o (.c (.i k) a),.o (.c (.i k') b) =>
  let ar (o:Nat):RO:=match (match k with | .i64=>!wr|_=>false)with
   | true=>qam [.inI (.w o a b)] (.o (.c (.i k) (.w o a b)))|false=>val (.o (.c (.i k) (.u 5 (qcd k) (.w o a b))))
  match op with
  | .add=>ar 0|.sub=>ar 1|.mul=>ar 2|.lss=>val (.o (.c .b (.w 10 a b)))|.leq=>val (.o (.c .b (.w 11 a b)))|.gtr=>val (.o (.c .b (.w 12 a b)))|.geq=>val (.o (.c .b (.w 13 a b)))|.eql=>val (.o (.c .b (.w 14 a b)))|.neq=>val (.o (.c .b (.w 15 a b)))|.quo=>qam [.keq k k',.ine b] (.o (.c (.i k) (.w (100+qcd k) a b)))|.rem=>qam [.keq k k',.ine b] (.o (.c (.i k) (.w (110+qcd k) a b)))|.shl=>qam [.le i0 b] (.o (.c (.i k) (.w (120+qcd k) a b)))|.shr=>qam [.le i0 b] (.o (.c (.i k) (.w (130+qcd k) a b)))|.and=>val (.o (.c (.i k) (.w (140+qcd k) a b)))|.or=>val (.o (.c (.i k) (.w (150+qcd k) a b)))|.xor=>val (.o (.c (.i k) (.w (160+qcd k) a b)))|.andNot=>val (.o (.c (.i k) (.w (170+qcd k) a b)))
 | .o (.c .s a),.o (.c .s b)=>match op with
  | .eql=>val (.o (.c .b (.w 16 a b)))|.neq=>val (.o (.c .b (.w 17 a b)))|.lss=>val (.o (.c .b (.w 18 a b)))|.leq=>val (.o (.c .b (.w 28 a b)))|.gtr=>val (.o (.c .b (.w 29 a b)))|.geq=>val (.o (.c .b (.w 30 a b)))|_=>.fail 21
 | .o (.c .b a),.o (.c .b b)=>match op with
  | .eql=>val (.o (.c .b (.w 19 a b)))|.neq=>val (.o (.c .b (.w 20 a b)))|_=>.fail 22
 | .o (.ag l),.o (.ag l')=>match op with
  | .eql=>qam [.tt true,.tt true,.num l.length l.length,.num l'.length l.length] (.o (.c .b (.w 33 (qX (l.map fun p=>.mk p.1 p.2)) (qX (l'.map fun p=>.mk p.1 p.2)))))
  | .neq=>qam [.tt true,.tt true,.num l.length l.length,.num l'.length l.length] (.o (.c .b (.u 6 0 (.w 33 (qX (l.map fun p=>.mk p.1 p.2)) (qX (l'.map fun p=>.mk p.1 p.2))))))
  | _=>.fail 24
 | .o .nil,.o .nil=>match op with
  | .eql=>val (.o (.c .b (.t true)))|.neq=>val (.o (.c .b (.t false)))|_=>.fail 23
 | _,_=>.fail 24
def qmx (ks:List K) (ag:Bool) (e:T):List (K×T):=match ag,ks with
 | true,ks=>cellsOf e ks 0|false,[k]=>[(k,e)]|false,_=>[]
def qsj (cs:List R1) (f:Nat) (new:List R1):List R1:=cs.take f++(new++cs.drop (f+new.length))
def qmy (place:Nat->Option (Nat×Nat)):List R1->List (Nat×RV)->Option (List R1)
 | cs,[]=>some cs|cs,(i,v)::rest=>match place i with
  | some (off,_)=>qmy place (qsj cs off v.cells) rest|none=>none
def qiU:List Value->Option (List R1)
 | []=>some []|v::r=>match qy5 v,qiU r with
  | some x,some l=>some (x::l)|_,_=>none
def qza (zs:List R1):Nat->List R1
 | 0=>[]|n+1=>zs++qza zs n
def qzb (ag:Bool) (k:Nat):Nat->List T->List T
 | 0,_=>[]|n+1,ds=>(match ag,ds.take k with
  | false,[d]=>d|_,l=>.u 2 0 (qX l))::qzb ag k n (ds.drop k)
def qzc (o:Nat) (k:IntKind) (x:T):List RV->RO
 | []=>val (.o (.c (.i k) x))|.o (.c (.i _) y)::r=>qzc o k (.w o x y) r|_=>.fail 47
def mmR (o:Nat):List RV->RO
 | .o (.c (.i k) x)::r=>qzc o k x r|_=>.fail 47
def qen (o:Option RV) (d:T):Option (List F×T):=match o with
 | none=>some ([],d)|some (.o (.c (.i _) t))=>some ([.le i0 t],t)|_=>none
def qgV (o:Option Operand) (vs:List RV):Option RV×List RV:=match o,vs with
 | some _,v::r=>(some v,r)|_,vs=>(none,vs)
section
variable (Ty':TypeId->Option Ty) (tab:Tab) (wr:Bool)
def qKe (rows:List qu) (t:TypeId) (x:RV) (lo hi mx:Option RV):RO:=match Ty' t with
 | some y=>match y.desc,x with
  | .slice e,.o (.sl r k on n cn ex)=>match Ty' e,qen lo i0,qen hi n,mx with
   | some z,some (p1,l),some (p2,h),none=>qam (p1++(p2++[qem [.num k z.size,.nle l h,.nle h n]])) (.o (.sl r k (.w 8 on l) (.w 9 h l) (.w 9 cn l) ex))|_,_,_,_=>.fail 48
  | .slice e,.o (.c .l es)=>match Ty' e,qen lo i0,qen hi (.u 0 0 es),mx with
   | some z,some (p1,l),some (p2,h),none=>qam (p1++(p2++[qem [.nle l h,.nle h (.u 0 0 es)],.all es z.size])) (.o (.c .l (.w 6 (.w 9 h l) (.w 7 l es))))|_,_,_,_=>.fail 48
  | .array m e,.o (.pt r _ (.i (.ofNat 0)) f)=>match rows[r]?,Ty' e,qen lo i0,qen hi (nn m),mx with
   | some (.arr N kd t _),some z,some (p1,l),some (p2,h),none=>match Nat.beq z.size 1 with
    | true=>.ok (p1++(p2++[.ar t,.nle l h,.nle h (nn m),.nle (nn (f+m)) (.u 0 0 t),.nlt i0 (nn m)])) {arr:=[(r,N,kd,t)]} (.o (.sl r 1 (.w 8 (nn f) l) (.w 9 h l) (.w 9 (nn m) l) true)) [] none|false=>.fail 48
   | _,_,_,_,_=>.fail 48
  | .slice _,.o .nil=>match qen lo i0,qen hi i0,mx with
   | some (_,.i (.ofNat 0)),some (_,.i (.ofNat 0)),none=>val (.o .nil)|_,_,_=>.fail 48
  | _,_=>.fail 48
 | none=>.fail 48
def qKf (slot:Nat) (t:TypeId) (l c:RV):RO:=match Ty' t,l,c with
 | some y,.o (.c (.i _) a),.o (.c (.i _) b)=>match y.desc with
  | .slice e=>match Ty' e with
   | some z=>match qiU z.zero.cells.toList with
    | some zs=>match qmp (zs.map fun c=>match c with | .nil=>.c .l .z|c=>c)with
     | some ds =>
      let el:T:=match z.agg,ds with|false,[d]=>.mk d.1 d.2|_,l=>.u 2 0 (qX (l.map fun p=>.mk p.1 p.2))
      .ok [qem [.le i0 a,.le a b,.lt b (.i 4611686018427387904),.le (.w 2 (nn z.bytes) b) (.i 281474976710656),.num zs.length z.size,.nlt i0 (nn z.size)]] {}
       (.o (.sl slot z.size i0 a b true)) [] (some (.dat z.size (.w 32 a el) false))
     | none=>.fail 49
    | none=>.fail 49
   | none=>.fail 49
  | _=>.fail 49
 | _,_,_=>.fail 49
def qzd (rows:List qu) (t:TypeId) (a:Operand) (x ix:RV):RO:=match Ty' t,ix with
 | some y,.o (.c (.i _) n)=>match y.desc with
  | .array len e=>match Ty' e with
   | some z=>match x with
    | .o (.pt r k (.i (.ofNat 0)) f)=>match rows[r]? with
     | some (.arr N kd l _)=>.ok [.and (.le i0 n) (.lt n (nn len))] {arr:=[(r,N,kd,l)]} (.o (.pa r k (match f with|0=>n|f=>.w 8 (nn f) n))) [] none
     | some (.box _ _)=>match n with
      | .i (.ofNat m)=>match Nat.blt m len with
       | true=>val (.o (.pt r k i0 (f+m*z.size)))|false=>.fail 4
      | _=>.fail 4
     | _=>.fail 4
    | .o (.dp l true)=>match l,a with
     | (kd,_)::_,.global g=>.ok [.and (.le i0 n) (.lt n (nn len)),.aw (qX (l.map fun p=>.mk p.1 p.2)) n [kd] false,.num 1 1,.tt true] {glb:=[(g,[kd],false,qX (l.map fun p=>.mk p.1 p.2))]}
       (.o (.dp [(kd,.w 3 (qX (l.map fun p=>.mk p.1 p.2)) n)] false)) [] none
     | _,_=>.fail 4
    | _=>.fail 4
   | none=>.fail 3
  | .slice e=>match Ty' e with
   | some z=>match x with
    | .o (.c .l l)=>match a with
     | .tmp tm=>.ok [.and (.le i0 n) (.lt n (.u 0 0 l)),.aw l n (qel z) z.agg,.num (qel z).length z.size]
       {lst:=[(tm,qel z,z.agg,l)]} (.o (.dp (qmx (qel z) z.agg (.w 3 l n)) z.agg)) [] none
     | _=>.fail 1
    | .o (.sl r k on m _ _)=>qam [.and (.num k z.size) (.and (.le i0 n) (.lt n (.u 4 0 m)))] (.o (.pe r k (.w 8 on n) 0 (qel z) z.agg))|_=>.fail 2
   | none=>.fail 3
  | _=>.fail 4
 | _,_=>.fail 5
def qze (rows:List qu) (t:TypeId) (x:RV):RO:=match Ty' t,x with
 | some y,.o (.pa r _ j)=>match rows[r]? with
  | some (.arr N kd l _)=>match y.agg with
   | false=>.ok [.ar l,.aw l j [kd] false] {arr:=[(r,N,kd,l)]} (.o (.c kd (.w 3 l j))) [] none|true=>.fail 6
  | _=>.fail 6
 | some y,.o (.dp l _)=>match y.agg with
  | true=>val (.o (.ag l))|false=>match l with
   | (k,e)::_=>val (.o (.c k e))|[]=>.fail 6
 | some y,.o (.pe r k i f ks a)=>match rows[r]? with
  | some (.dat k' es _)=>match y.agg with
   | true=>.ok [.and (.num k k') (.aw es i ks a)] {row:=[(r,ks,a,es)]} (.o (.ag (((qmx ks a (.w 3 es i)).drop f).take y.size))) [] none|false=>match (qmx ks a (.w 3 es i))[f]? with
    | some (kk,e)=>.ok [.and (.num k k') (.aw es i ks a)] {row:=[(r,ks,a,es)]} (.o (.c kk e)) [] none|none=>.fail 7
  | _=>.fail 9
 | some y,.o (.pt r k i f)=>match rows[r]? with
  | some (.dat k' es _)=>match Nat.beq f 0&&Nat.beq y.size k with
   | true =>
    let cs:=qmx (qel y) y.agg (.w 3 es i)
    .ok [.and (.num k k') (.aw es i (qel y) y.agg)] {row:=[(r,qel y,y.agg,es)]} (match y.agg,cs with
     | false,(kk,e)::_=>.o (.c kk e)|_,cs=>.o (.ag cs)) [] none
   | false=>.fail 7
  | some (.box l _)=>match y.agg with
   | true=>val (qmq ((l.drop f).take y.size))|false=>match (qaC i).bind fun n=>l[n*k+f]? with
    | some v=>val (.o v)|none=>.fail 8
  | some (.arr N kd l _)=>match y.agg,Nat.beq f 0&&Nat.beq y.size N with
   | true,true=>.ok [.ar l,.nle (.u 0 0 l) (nn N),.nle (nn N) (.u 0 0 l)] {arr:=[(r,N,kd,l)]} (.o (.av N kd l)) [] none|true,false=>match (qaC i).map fun n=>n*k+f with
    | some j=>.ok [.ar l,.nle (nn (j+y.size)) (.u 0 0 l)] {arr:=[(r,N,kd,l)]} (.o (.av y.size kd (.w 6 (nn y.size) (.w 7 (nn j) l)))) [] none|none=>.fail 9
   | _,_=>.fail 9
  | _=>.fail 9
 | _,_=>.fail 10
def qKg (z:Ty) (x:RV) (off:Nat):RO:=match x with
 | .o (.ag l)=>match z.agg with
  | true=>val (.o (.ag ((l.drop off).take z.size)))|false=>match l[off]? with
   | some (k,t)=>val (.o (.c k t))|none=>.fail 11
 | .vag l=>match z.agg with
  | true=>val (qmq ((l.drop off).take z.size))|false=>match l[off]? with
   | some v=>val (.o v)|none=>.fail 12
 | _=>.fail 13
def qKh (t:TypeId) (f:Nat) (x:RV):RO:=match Ty' t with
 | some y=>match y.desc with
  | .struct fs=>match fs[f]? with
   | some fl=>match Ty' fl.type with
    | some z=>qKg z x fl.offset|none=>.fail 14
   | none=>.fail 14
  | _=>.fail 14
 | none=>.fail 14
def qKi (t:TypeId) (f:Nat) (x:RV):RO:=match Ty' t with
 | some y=>match y.desc with
  | .struct fs=>match fs[f]? with
   | some fl=>match Ty' fl.type with
    | some z=>match x with
     | .o (.pt r k i f0)=>val (.o (.pt r k i (f0+fl.offset)))|.o (.pe r k i f0 ks a)=>val (.o (.pe r k i (f0+fl.offset) ks a))|.o (.dp l _)=>val (.o (.dp ((l.drop fl.offset).take z.size) true))|_=>.fail 15
    | none=>.fail 15
   | none=>.fail 15
  | _=>.fail 15
 | none=>.fail 15
def qzf:List Field->Option (List (Nat×Nat))
 | []=>some []|f::r=>match Ty' f.type,qzf r with
  | some z,some l=>some ((f.offset,z.size)::l)|_,_=>none
def qKj (t:TypeId) (idx:List Nat) (vs:List RV):RO:=match Ty' t with
 | some y=>match qiU y.zero.cells.toList with
  | some zs=>match y.desc with
   | .struct fs=>match qzf Ty' fs.toList with
    | some pl=>match qmy (fun i=>pl[i]?) zs (idx.zip vs)with
     | some cs=>val (qmq cs)|none=>.fail 16
    | none=>.fail 16
   | .array _ e=>match Ty' e with
    | some z=>match qmy (fun i=>some (i*z.size,z.size)) zs (idx.zip vs)with
     | some cs=>val (qmq cs)|none=>.fail 16
    | none=>.fail 16
   | _=>.fail 16
  | none=>.fail 16
 | none=>.fail 16
def qKk (rows:List qu):R1->Option ((K×T)×List (Nat×qu))
 | .c k t=>some ((k,t),[])|.nil=>some ((.l,.z),[])|.sl r k on n _ _=>match rows[r]? with
  | some (.dat k' t ro)=>match qaC on,qaC n,qms t with
   | some a,some b,some m=>match Nat.beq k k'&&Nat.ble (a+b) m with
    | true=>some ((.l,qfs on n t),match ro with|true=>[] | false=>[(r,.dat k' t true)])
    | false=>none
   | _,_,_=>none
  | _=>none
 | _=>none
def qzg (rows:List qu):List R1->Option (List (K×T)×List (Nat×qu))
 | []=>some ([],[])|c::r=>match qKk rows c,qzg rows r with
  | some (x,us),some (l,vs)=>some (x::l,us++vs)|_,_=>none
def qKl (rows:List qu) (slot:Nat) (t:TypeId) (len:Nat) (idx:List Nat) (vs:List RV):RO:=match Ty' t with
 | some y=>match y.desc with
  | .slice e=>match Ty' e with
   | some z=>match qiU z.zero.cells.toList with
    | some zs=>match qmy (fun i=>some (i*z.size,z.size)) (qza zs len) (idx.zip vs)with
     | some cs=>match qzg rows cs with
      | some (l,us)=>.ok [] {} (.o (.sl slot z.size i0 (nn len) (nn len) true)) us (some (.dat z.size (qX (qzb z.agg z.size len (l.map fun p=>.mk p.1 p.2))) false))
      | none=>.ok [] {} (.o (.sl slot z.size i0 (nn len) (nn len) true)) [] (some (.box cs false))
     | none=>.fail 17
    | none=>.fail 17
   | none=>.fail 17
  | _=>.fail 17
 | none=>.fail 17
def qKm (rows:List qu) (k:Nat):RV->Option (List F×T×T)
 | .o .nil=>some ([],.z,i0)|.o (.c .l l)=>some ([.all l k],l,.u 0 0 l)|.o (.sl r k' on n _ _)=>match rows[r]? with
  | some (.dat k'' t _)=>some ([.and (.num k k') (.and (.num k' k'') (.nle (.w 8 on n) (.u 0 0 t)))],qfs on n t,.u 0 0 (qfs on n t))|_=>none
 | _=>none
def qKn (gd:List (Nat×Bool)) (tm:Nat) (ds:T):Option Bool:=match qms ds with
 | some 0=>some true|some _=>some false|none=>match gd.find? (fun p=>Nat.beq p.1 (1000000+tm))with
  | some (_,v)=>some v|none=>none
def qKo (gd:List (Nat×Bool)) (tm:Nat) (rows:List qu) (slot:Nat) (t:TypeId) (s x:RV):RO:=match Ty' t with
  | some y=>match y.desc with
    | .slice e=>match Ty' e with
      | some z=>match qKm rows z.size x with
        | some (p,ds,dl)=>match qKn gd tm ds with
         | none=>.fork (.w 11 dl i0) (1000000+tm)|some true=>match s with
          | .o .nil=>.ok (p++[qem [.nlt i0 (nn z.size),.nle dl i0]]) {mz:=[tm]} (.o .nil) [] none|.o (.sl r k on n cn ex)=>.ok (p++[qem [.nlt i0 (nn z.size),.nle dl i0]]) {mz:=[tm]} (.o (.sl r k on n cn ex)) [] none|_=>.fail 18
         | some false=>match s with
          | .o .nil=>.ok (p++[qem [.nlt i0 (nn z.size),.nne dl i0,.nle (.u 10 z.bytes (.u 8 2 dl)) (nn (2 ^ 48)),.nle dl (nn (2 ^ 62))]]) {nz:=[tm]} (.o (.sl slot z.size i0 dl dl false)) [] (some (.dat z.size ds false))|.o (.sl r k on n cn ex)=>match rows[r]? with
            | some (.dat k' es _) =>
              .ok (p++[qem [.nlt i0 (nn z.size),.nne dl i0,.num k z.size,.num k' k,.nle (.w 8 on n) (.u 0 0 es),.nnle (.w 8 n dl) cn,.nle (.u 10 z.bytes (.u 8 2 (.w 8 n dl))) (nn (2 ^ 48)),.nle (.w 8 n dl) (nn (2 ^ 62))]]) {nz:=[tm]}
                (.o (.sl slot k i0 (.w 8 n dl) (.w 8 n dl) false)) (match ex with|true=>[] | false=>[(r,.dead)]) (some (.dat k' (qKb (qfs on n es) ds) false))
            | _=>.fail 18
          | _=>.fail 18
        | none=>.fail 19
      | none=>.fail 19
    | _=>.fail 19
  | none=>.fail 19
def callN (slot:Nat) (rows:List qu) (g:Nat) (as:List RV):RO:=match as with
 | [.o (.sl r 1 (.i (.ofNat 0)) n _ _)]=>match rows[r]? with
  | some (.dat 1 t _)=>.ok [.nle n (.u 0 0 t),.nle (.u 0 0 t) n,.rc g [.mk .l t]] {} (.o (.sl slot 1 i0 (.u 0 0 (.u 3 g (qX [.mk .l t]))) (.u 0 0 (.u 3 g (qX [.mk .l t]))) false))
    [(r,.dat 1 t true)] (some (.dat 1 (.u 3 g (qX [.mk .l t])) false))
  | _=>.fail 32
 | as=>match qmu rows as with
  | some (fs,ts)=>match qy9 rows (as.flatMap qy7)with
   | []=>.ok (fs++[.rc g ts]) {} (.o (.sl slot 1 i0 (.u 0 0 (.u 3 g (qX ts))) (.u 0 0 (.u 3 g (qX ts))) false)) [] (some (.dat 1 (.u 3 g (qX ts)) false))|_=>.fail 34
  | none=>.fail 35
def qKp (slot:Nat) (rows:List qu) (g:Nat) (as:List RV):RO:=match tab.get g with
 | some c=>match c.nw with
  | true=>callN slot rows g as|false=>match qmu rows as with
   | some (fs,ts)=>.ok (fs++[.rc g ts]) {} (qKc c.rts (.u 3 g (qX ts))) (match c.rt.plain with
    | true=>[]|false=>qmw rows (qy9 rows (as.flatMap qy7))) none
   | none=>.fail 30
 | none=>.fail 31
inductive LZ where
 | ok (z:Nat)
 | fork (t:T) (k:Nat)
 | no
def qzh (gd:List (Nat×Bool)) (tm:Nat) (t:T):Nat->Nat->LZ
 | 0,z=>.ok z|n+1,z=>match gd.find? (fun p=>Nat.beq p.1 (3000000+100*tm+z))with
  | some (_,true)=>.ok z|some (_,false)=>qzh gd tm t n (z+1)|none=>.fork (.w 10 t (nn (z+1))) (3000000+100*tm+z)
def qzi (gd:List (Nat×Bool)) (tm m:Nat) (t:T):LZ:=match qaC t with
 | some z=>.ok z|none=>qzh gd tm t m 0
def qKq (gd:List (Nat×Bool)) (slot:Nat) (t:TypeId) (a:Operand) (l c:RV):RO:=match Ty' t,l,c,a with
 | some y,.o (.c (.i _) lt),.o (.c (.i _) ct),.tmp tm=>match y.desc with
  | .slice e=>match Ty' e with
   | some z=>match qzi gd tm 4 lt with
    | .ok q=>.ok [.iz lt q,.iz ct q,.and (.le i0 (nn q)) (.and (.lt (nn q) (.i 4611686018427387904)) (.and (.le (.w 2 (nn z.bytes) (nn q)) (.i 281474976710656)) (.num z.size 1)))] {lit:=[(tm,q)]}
      (.o (.sl slot 1 i0 (nn q) (nn q) true)) [] (some (.box (List.replicate q .nil) false))
    | .fork t k=>.fork t k|.no=>.fail 49
   | none=>.fail 49
  | _=>.fail 49
 | _,_,_,_=>.fail 49
def qKr (gd:List (Nat×Bool)) (t:TypeId) (b:Operand) (r k:Nat) (on m it:T):RO:=match Ty' t,b,qaC on with
 | some y,.tmp tm,some o=>match y.desc with
  | .slice e=>match Ty' e with
   | some z=>match qzi gd (500+r) (match qaC m with|some q=>q - 1|none=>4) it with
    | .ok q=>.ok [.iz it q,.and (.num k z.size) (.and (.le i0 (nn q)) (.lt (nn q) (.u 4 0 m)))] {lit:=[(tm,q)]} (.o (.pt r k (nn (o+q)) 0)) [] none|.fork t k=>.fork t k|.no=>.fail 2
   | none=>.fail 2
  | _=>.fail 2
 | _,_,_=>.fail 2
def qKs (rows:List qu) (t:TypeId) (a0 x:RV):RO:=match Ty' t,(match a0 with | .o (.pe r k i f _ _)=>RV.o (.pt r k i f) | q=>q)with
 | some y,.o (.pt r k i f)=>match rows[r]? with
  | some (.dat k' es false)=>match qmt [] x.cells,Nat.beq f 0&&Nat.beq y.size k with
   | some (_,ds),true=>.ok [.and (.num x.cells.length y.size) (.and (.nlt i0 (nn y.size)) (.tt true)),.nlt i (.u 0 0 es),.and (.num k k') (.and (.num f 0) (.and (.num y.size k) (.tt true)))] {} (.o .und)
     [(r,.dat k' (.w 21 es (.u 2 0 (qX [.mk (.i .i64) i,(match y.agg,ds with|false,[d]=>d|_,l=>.u 2 0 (qX l))]))) false)] none
   | _,_=>.fail 32
  | some (.box cs false)=>match qaC i,x with
   | some n,.o (.av N kd l)=>match Nat.beq y.size N with
    | true=>.ok [.sp l kd N,.nlt i0 (nn y.size),.tt true,.nle (nn (n*k+f+N)) (nn cs.length)] {spl:=[(r,N,kd,l)]} (.o .und) [(r,.box (qsj cs (n*k+f) ((List.range N).map fun j=>.c kd (.w 3 l (nn j)))) false)] none
    | false=>.fail 33
   | some n,_=>.ok [] {} (.o .und) [(r,.box (qsj cs (n*k+f) x.cells) false)] none|none,_=>.fail 33
  | some (.arr N kd l false)=>match Nat.beq f 0&&Nat.beq y.size N,qaC i with
   | true,some 0=>match (match x with
     | .o (.av M _ q)=>match Nat.beq M N with
      | true=>some q|false=>none
     | .o (.ag cs)=>match Nat.beq cs.length N with
      | true=>some (qX (cs.map fun p=>.mk p.1 p.2))
      | false=>none
     | _=>none)with
    | some q=>.ok [.ar l,.nle (.u 0 0 l) (nn N),.nle (nn N) (.u 0 0 l),.nle (.u 0 0 q) (nn N),.nle (nn N) (.u 0 0 q),.nlt i0 (nn y.size),.sca q] {arr:=[(r,N,kd,l)]} (.o .und) [(r,.arr N kd q false)] none|none=>.fail 34
   | _,_=>.fail 34
  | _=>.fail 34
 | some y,.o (.pa r _ j)=>match rows[r]?,x with
  | some (.arr N kd l false),.o (.c kd' v)=>match K.eq kd kd'&&!y.agg with
   | true=>.ok [.ar l,.nlt j (.u 0 0 l),.and (.num 1 1) (.and (.num y.size 1) (.tt true))] {arr:=[(r,N,kd,l)]} (.o .und) [(r,.arr N kd (.w 21 l (.u 2 0 (qX [.mk (.i .i64) j,.mk kd v]))) false)] none|false=>.fail 35
  | _,_=>.fail 35
 | _,_=>.fail 35
def qzj (gd:List (Nat×Bool)) (dst:Option Nat) (y:Ty) (zs:List R1):Option (Nat×K×T):=match y.desc with
 | .array _ e=>match Ty' e,dst with
  | some z,some d=>match z.agg||gd.any (fun p=>Nat.beq p.1 (2000000+d)),zs with
   | false,.c (.i k) _::_=>match qmp zs with
    | some l=>some (l.length,.i k,qX (l.map fun p=>.mk p.1 p.2))
    | none=>none
   | _,_=>none
  | _,_=>none
 | _=>none
def opR (gd:List (Nat×Bool)) (rows:List qu) (slot:Nat) (env:List RV) (dst:Option Nat) (o:Op):RO :=
 match qa6 o with
 | some (f,args)=>match qmr env f,qsi env args with
  | some (.o (.fn g)),some vs=>qKp tab slot rows g vs|_,_=>.fail 36
 | none=>match qsi env (qO o)with
  | none=>.fail 37|some vs=>match o,vs with
   | .move _,[v]=>val v|.assign _,[v]=>val v|.nilCheck _,[v]=>val v|.pick c _ _,[.o (.c .b t),x,y]=>match t with
    | .t true=>val x|.t false=>val y|t=>match c with
     | .tmp tm=>match gd.find? (fun p=>Nat.beq p.1 tm)with
      | some (_,true)=>qam [.bool t true] x|some (_,false)=>qam [.bool t false] y|none=>.fork t tm
     | _=>.fail 38
   | .alloc e,[]=>match Ty' e with
    | some y=>match qiU y.zero.cells.toList with
     | some zs=>.ok [] {} (.o (.pt slot 0 i0 0)) [] (some (match qzj Ty' gd dst y zs with
      | some (N,kd,l)=>.arr N kd l false|none=>.box zs false))
     | none=>.fail 39
    | none=>.fail 39
   | .box e _,[v]=>.ok [] {} (.o (.pt slot 0 i0 0)) [] (some (match v with
    | .o (.av N kd l)=>.arr N kd l false|.o (.ag l)=>match (Ty' e).bind fun y=>qzj Ty' gd (some 0) y (l.map fun p=>.c p.1 p.2)with
     | some (N,kd,l)=>.arr N kd l false|none=>.box v.cells false
    | v=>.box v.cells false))
   | .build t ps,vs=>qKj Ty' t (ps.toList.map (·.1)) vs|.buildSlice t len ps,vs=>qKl Ty' rows slot t len (ps.toList.map (·.1)) vs|.load t o,[a]=>(qze Ty' rows t a).atm o|.store t o _,[a,x]=>(qKs Ty' rows t a x).atm o|.binOp op _ _ _ _,[x,y]=>qKd wr op x y|.unOp op _ _,[x]=>match op,x with
    | .not,.o (.c .b t)=>val (.o (.c .b (.u 6 0 t)))|.neg,.o (.c (.i k) t)=>val (.o (.c (.i k) (.u 5 (qcd k) (.u 9 0 t))))|.xor,.o (.c (.i k) t)=>match k with
     | .u32=>val (.o (.c (.i k) (.w 162 (.i 4294967295) t)))|_=>.fail 40
    | _,_=>.fail 40
   | .sliceToArrayPointer t _,[.o (.sl r k on n _ _)]=>match Ty' t,rows[r]? with
    | some y,some (.box _ _)=>match y.desc,qaC on,qaC n with
     | .array N _,some o,some m=>match Nat.blt 0 N&&Nat.ble N m with
      | true=>val (.o (.pt r k (nn o) 0))|false=>.fail 47
     | _,_,_=>.fail 47
    | some y,some (.arr ..)=>match y.desc,qgU on,qgU n with
     | .array N _,some o,some m=>match Nat.blt 0 N&&Nat.ble N m with
      | true=>val (.o (.pt r k (nn o) 0))|false=>.fail 48
     | _,_,_=>.fail 49
    | _,_=>.fail 47
   | .convert s d _,[.o (.c (.i _) t)]=>match Ty' s,Ty' d with
    | some y,some z=>match y.desc,z.desc with
     | .int _,.int k=>val (.o (.c (.i k) (.u 5 (qcd k) t)))|_,_=>.fail 41
    | _,_=>.fail 41
   | .convert s d _,[.o (.sl r k on n cn ex)]=>match Ty' s,Ty' d with
    | some y,some z=>match y.desc,z.desc,rows[r]? with
     | .slice e,.string,some (.arr N kd l _)=>match qcW Ty' e with
      | true=>.ok [.num k 1,.ar l,.nle (.w 8 on n) (.u 0 0 l),.byt (.w 6 n (.w 7 on l))] {arr:=[(r,N,kd,l)]} (.o (.c .s (.u 16 0 (.w 6 n (.w 7 on l))))) [] none|false=>.fail 41
     | .slice e,.string,some (.dat k' l _)=>match qcW Ty' e with
      | true=>qam [.num k 1,.num k' 1,.nle (.w 8 on n) (.u 0 0 l),.byt (qfs on n l)] (.o (.c .s (.u 16 0 (qfs on n l))))|false=>.fail 41
     | _,_,_=>.fail 41
    | _,_=>.fail 41
   | .convert s d _,[.o x]=>match Ty' s,Ty' d with
    | some y,some z=>match y.desc,z.desc,r1D rows x with
     | .slice e,.string,some (fs,t)=>match qcW Ty' e,x with
      | true,.c .l _=>qam [.byt t] (.o (.c .s (.u 16 0 t)))|true,.sl r k on n _ _=>match rows[r]? with
       | some (.dat k' l _)=>qam [.num k 1,.num k' 1,.nle (.w 8 on n) (.u 0 0 l),.byt t] (.o (.c .s (.u 16 0 t)))|_=>.fail 41
      | _,_=>.fail 41
     | _,_,_=>.fail 41
    | _,_=>.fail 41
   | .fieldAddr s _ f,[x]=>qKi Ty' s f x|.field t _ f,[x]=>qKh Ty' t f x|.indexAddr t a b,[x,i]=>match x,i with
    | .o (.sl r k on m _ _),.o (.c (.i _) it)=>match rows[r]? with
     | some (.box _ _)=>qKr Ty' gd t b r k on m it|_=>qzd Ty' rows t a x i
    | _,_=>qzd Ty' rows t a x i
   | .slice t _ l hh mx,x::vs'=>qKe Ty' rows t x (qgV l vs').1 (qgV hh (qgV l vs').2).1 (qgV mx (qgV hh (qgV l vs').2).2).1|.makeSlice t a _,[l,c]=>match RT.mkb t with
    | true=>qKq Ty' gd slot t a l c|false=>qKf Ty' slot t l c
   | .index t (.tmp tm) _,[.o (.ag l),.o (.c (.i _) i)]=>match Ty' t,l with
    | some y,(kd,_)::_=>match y.desc with
     | .array len e=>match Ty' e with
      | some z=>match Nat.beq z.size 1&&(!z.agg&&l.all fun p=>K.eq p.1 kd)with
       | true=>.ok [.and (.le i0 i) (.lt i (nn len)),.aw (qX (l.map fun p=>.mk p.1 p.2)) i [kd] false] {lst:=[(tm,[kd],false,qX (l.map fun p=>.mk p.1 p.2))]}
         (.o (.c kd (.w 3 (qX (l.map fun p=>.mk p.1 p.2)) i))) [] none
       | false=>.fail 48
      | none=>.fail 48
     | _=>.fail 48
    | _,_=>.fail 48
   | .index _ _ _,[.o (.c .s x),.o (.c (.i _) i)]=>qam [.and (.le i0 i) (.lt i (.u 7 0 x))] (.o (.c (.i .u8) (.w 24 x i)))|.extract _ i,[.tup l]=>match l[i]? with
    | some v=>val (.o v)|none=>.fail 42
   | .call c,vs=>match c.callee with
    | .builtin .len=>match vs with
     | [.o (.c .l t)]=>val (.o (.c (.i .i64) (.u 0 0 t)))|[.o (.c .s t)]=>val (.o (.c (.i .i64) (.u 7 0 t)))|[.o (.sl _ _ _ n _ _)]=>val (.o (.c (.i .i64) (.u 4 0 n)))|[.o .nil]=>val (.o (.c (.i .i64) i0))|_=>.fail 43
    | .builtin .append=>match c.argTypes.toList,vs,c.args.toList with
     | [t,_],[s,x],[_,.tmp tm]=>qKo Ty' gd tm rows slot t s x|_,_,_=>.fail 44
    | .builtin .max=>mmR 26 vs|.builtin .min=>mmR 27 vs|_=>.fail 45
   | _,_=>.fail 46
def qzk (env:List RV) (dst:Option Nat) (v:RV):List RV:=match dst with
 | some d=>env.set d v|none=>env
def qzl (us:List (Nat×qu)) (rows:List qu):List qu:=us.foldl (fun rs u=>rs.set u.1 u.2) rows
def qKt (slot:Nat) (x:qu) (rows:List qu):List qu:=match Nat.blt slot rows.length with
 | true=>rows.set slot x|false=>rows++[x]
inductive RW where
 | yes (fs:List F)
 | no (fs:List F)
 | fork (t:T) (tmp:Nat)
 | fail
def qKu (gd:List (Nat×Bool)) (ops:Array Oper) (env:List RV) (o:Oper):RW:=match o.guard with
 | none=>.yes []|some (j,want)=>match ((ops[j]?).bind (·.dst))with
  | some d=>match env[d]? with
   | some (.o (.c .b (.t b)))=>match bEq b want with|true=>.yes [] | false=>.no []
   | some (.o (.c .b t))=>match gd.find? (fun p=>Nat.beq p.1 d)with
    | some (_,v)=>match bEq v want with|true=>.yes [.bool t v] | false=>.no [.bool t v]
    | none=>.fork t d
   | some (.o .und)=>.no []|_=>.fail
  | none=>.fail
inductive qgW where
 | next (fs:List F) (h:H) (s:RS)
 | done (fs:List F) (h:H) (v:List RV) (rows:List qu)
 | fork (t:T) (tmp:Nat)
 | fail (why at_:Nat)
def H.app (a b:H):H:={arr:=a.arr++b.arr,glb:=a.glb++b.glb,spl:=a.spl++b.spl,mv:=a.mv++b.mv,lit:=a.lit++b.lit,lst:=a.lst++b.lst,row:=a.row++b.row,nz:=a.nz++b.nz,mz:=a.mz++b.mz}
def qzm (gd:List (Nat×Bool)) (ops:Array Oper) (i:Nat) (slot:Nat) (env:List RV) (rows:List qu):qgW:=match ops[i]? with
 | none=>.fail 50 i|some o=>match qKu gd ops env o with
  | .fail=>.fail 51 i|.fork t tm=>.fork t tm|.no fs=>.next fs {} ⟨qzk env o.dst (.o .und),rows,[]⟩|.yes fs=>match opR Ty' tab wr gd rows slot env o.dst o.op with
   | .fail w=>.fail w i|.fork t tm=>.fork t tm|.ok gs h v ups fresh=>.next (fs++gs) h ⟨qzk env o.dst v,match fresh with
    | some x=>qKt slot x (qzl ups rows)|none=>qzl ups rows,[]⟩
def qzn (gd:List (Nat×Bool)) (ops:Array Oper) (slot0:Nat):List Nat->List F->H->List RV->List qu->qgW
 | [],fs,h,env,rows=>.next fs h ⟨env,rows,[]⟩|i::l,fs,h,env,rows=>match qzm Ty' tab wr gd ops i (slot0+i) env rows with
  | .next gs h' s=>qzn gd ops slot0 l (fs++gs) (h.app h') s.env s.rows|o=>o
def qKv:qu->Bool
 | .free=>true|_=>false
def qKw (rows:List qu):List qu:=(rows.reverse.dropWhile qKv).reverse
def qmz (rows:List qu) (env:List RV):List ResultVar->Option (List RV)
 | []=>some []|.tmp t::r=>match qmr env (.tmp t),qmz rows env r with
  | some v,some l=>some (v::l)|_,_=>none
 | .cell a t::r=>match qmr env (.tmp a),qmz rows env r with
  | some x,some l=>match qze Ty' rows t x with
   | .ok [] _ v _ _=>some (v::l)|_=>none
  | _,_=>none
def qsk (id:Nat):List qL->Option (List qL)
 | .it (.inBlock id')::k=>match Nat.beq id' id with
  | true=>some k|false=>qsk id k
 | _::k=>qsk id k|[]=>none
def qKx (res:List ResultVar) (gd:List (Nat×Bool)) (s:RS):qgW:=match s.todo with
 | []=>match qmz Ty' s.rows s.env res with
  | some vs=>.done [] {} vs s.rows|none=>.fail 60 0
 | .rf _::_=>.fail 61 0|.it i::k=>match i with
  | .code cd=>match cd with
   | .ret=>match qmz Ty' s.rows s.env res with
    | some vs=>.done [] {} vs s.rows|none=>.fail 60 0
   | .skip=>.next [] {} {s with todo:=k}
   | .label _=>.next [] {} {s with todo:=k}
   | .seq a b=>.next [] {} {s with todo:=.it (.code a)::.it (.code b)::k}
   | .cond (.tmp t) x y=>match s.env[t]? with
    | some (.o (.c .b (.t b)))=>.next [] {} {s with todo:=.it (.code (match b with|true=>x|false=>y))::k}
    | some (.o (.c .b c))=>match gd.find? (fun p=>Nat.beq p.1 t)with
     | some (_,v)=>.next [.bool c v] {} {s with todo:=.it (.code (match v with|true=>x|false=>y))::k}
     | none=>.fork c t
    | _=>.fail 62 t
   | .block id b=>.next [] {} {s with todo:=.it (.code b)::.it (.inBlock id)::k}
   | .loop b=>.next [] {} {s with todo:=.it (.code b)::.it (.inLoop b)::k}
   | .scope b=>.next [] {} {s with todo:=.it (.code b)::.it (.inScope b)::k}
   | .exit id=>match qsk id k with
    | some k'=>.next [] {} {s with todo:=k'}
    | none=>.fail 63 0
   | .region _ ops false=>.next [] {} {s with todo:=.it (.inRegion ops (List.range ops.size))::k}
   | .region id ops true=>match qzn Ty' tab wr gd ops s.rows.length (List.range ops.size) [] {} s.env (s.rows++List.replicate ops.size .free)with
    | .next fs h s'=>.next fs h ⟨s'.env,qKw s'.rows,k⟩|.fail w a=>.fail w (1000*id+a)|o=>o
   | _=>.fail 64 0
  | .inBlock _=>.next [] {} {s with todo:=k}
  | .inScope _=>.next [] {} {s with todo:=k}
  | .inLoop b=>.next [] {} {s with todo:=.it (.code b)::.it (.inLoop b)::k}
  | .inRegion ops []=>.next [] {} {s with todo:=k}
  | .inRegion ops (i::rest)=>match qzm Ty' tab wr gd ops i s.rows.length s.env s.rows with
   | .next fs h s'=>.next fs h ⟨s'.env,s'.rows,.it (.inRegion ops rest)::k⟩|o=>o
  | _=>.fail 65 0
def qKy (s:RS):Bool:=match s.todo with
 | .it (.inLoop _)::_=>true|.it (.code (.loop _))::_=>true|_=>false
def qzo (res:List ResultVar) (gd:List (Nat×Bool)):Nat->RS->List F->H->qgW
 | 0,_,_,_=>.fail 66 0|n+1,s,fs,h=>match qKx Ty' tab wr res gd s with
  | .next gs h' s'=>match qKy s with
   | true=>.next (fs++gs) (h.app h') s'|false=>qzo res gd n s' (fs++gs) (h.app h')
  | .done gs h' vs rows=>.done (fs++gs) (h.app h') vs rows|o=>o
end
end Go.Aev.R
namespace Go.Aev.R
open Go Go.Aev
def qyG {a b:Int} (h:qbK a b=true):a=b:=by
 cases a<;>cases b<;>simp only[qbK]at h<;>first | (cases qTO h; rfl) | cases h
def qgO {a b:Bool} (h:bEq a b=true):a=b:=by cases a<;>cases b<;>simp_all [bEq]
def IntKind.eq_eq {a b:IntKind} (h:IntKind.eq a b=true):a=b:=by cases a<;>cases b<;>simp_all [IntKind.eq]
def K.eq_eq {a b:K} (h:K.eq a b=true):a=b:=by
 cases a<;>cases b<;>simp only[K.eq]at h<;>first | (rw[IntKind.eq_eq h]) | rfl|cases h
def qyH:∀{a b:List UInt8},qmo a b=true->a=b
 | [],[],_=>rfl|[],_::_,h=>by cases h
 | _::_,[],h=>by cases h
 | a::r,b::s,h=>by
  simp only[qmo,qTC]at h;rw[qyH h.2];have:=qTO h.1;rw[UInt8.toNat_inj.1 this]
def T.eq_eq:∀{a b:T},a.eq b=true->a=b:=by
 intro a
 induction a with
 | v n=>intro b h; cases b<;>simp only[T.eq]at h<;>first | (rw[qTO h]) | cases h
 | i n=>intro b h; cases b<;>simp only[T.eq]at h<;>first | (rw[qyG h]) | cases h
 | t x=>intro b h; cases b<;>simp only[T.eq]at h<;>first | (rw[qgO h]) | cases h
 | z=>intro b h; cases b<;>simp only[T.eq]at h<;>first|rfl|cases h
 | p=>intro b h; cases b<;>simp only[T.eq]at h<;>first|rfl|cases h
 | s l=>intro b h; cases b<;>simp only[T.eq]at h<;>first | (rw[qyH h]) | cases h
 | mk k x ih =>
  intro b h; cases b<;>simp only[T.eq,qTC]at h<;>first | (rw[K.eq_eq h.1,ih h.2]) | cases h
 | u o k x ih =>
  intro b h; cases b<;>simp only[T.eq,qTC]at h<;>first | (rw[qTO h.1,qTO h.2.1,ih h.2.2]) | cases h
 | w o x y ih1 ih2 =>
  intro b h; cases b<;>simp only[T.eq,qTC]at h<;>first | (rw[qTO h.1,ih1 h.2.1,ih2 h.2.2]) | cases h
structure Lin where
 c:Int
 ts:List (Int×T)
section
variable (wf:Nat->List D->D) (U:Nat->D)
def YB:List (Int×T)->Int
 | []=>0|p::r=>p.1*toI (p.2.den wf U)+YB r
def Lin.val (l:Lin):Int:=l.c+YB wf U l.ts
end
def Lin.add (a b:Lin):Lin:=⟨a.c+b.c,a.ts++b.ts⟩
def Lin.smul (k:Int) (a:Lin):Lin:=⟨k*a.c,a.ts.map fun p=>(k*p.1,p.2)⟩
def Lin.sub (a b:Lin):Lin:=a.add (b.smul (-1))
def Lin.plus (a:Lin) (n:Int):Lin:=⟨a.c+n,a.ts⟩
def Lin.cst (n:Int):Lin:=⟨n,[]⟩
def Lin.aw (t:T):Lin:=⟨0,[(1,t)]⟩
section
variable {wf:Nat->List D->D} {U:Nat->D}
def qyI (a b:List (Int×T)):YB wf U (a++b)=YB wf U a+YB wf U b:=by
 induction a with
 | nil=>simp[YB]|cons p a ih=>simp only[qUR,YB,ih]; omega
def qyJ (k:Int) (a:List (Int×T)):YB wf U (a.map fun p=>(k*p.1,p.2))=k*YB wf U a:=by
 induction a with
 | nil=>simp[YB]|cons p a ih=>simp only[qUa,YB,ih,qUU,qWu]
def Lin.val_add (a b:Lin):(a.add b).val wf U=a.val wf U+b.val wf U:=by
 simp only[Lin.add,Lin.val,qyI]; omega
def Lin.val_smul (k:Int) (a:Lin):(a.smul k).val wf U=k*a.val wf U:=by
 simp only[Lin.smul,Lin.val,qyJ,qUU]
def Lin.val_sub (a b:Lin):(a.sub b).val wf U=a.val wf U - b.val wf U:=by
 simp only[Lin.sub,Lin.val_add,Lin.val_smul]; omega
def Lin.val_plus (a:Lin) (n:Int):(a.plus n).val wf U=a.val wf U+n:=by
 simp only[Lin.plus,Lin.val]; omega
def Lin.val_cst (n:Int):(Lin.cst n).val wf U=n:=by simp[Lin.cst,Lin.val,YB]
def Lin.val_at (t:T):(Lin.aw t).val wf U=toI (t.den wf U):=by simp[Lin.aw,Lin.val,YB]
end
mutual
def lnI:T->Lin
 | .i n=>.cst n|.w 0 a b=>(lnI a).add (lnI b)|.w 1 a b=>(lnI a).sub (lnI b)|.w 2 (.i n) b=>(lnI b).smul n|.u 0 _ x=>lnL x|.u 4 _ x=>lnN x|.u 9 _ x=>(lnI x).smul (-1)|.u 8 k x=>(lnN x).smul k|.u 10 k x=>(lnN x).smul k|.w 8 a b=>(lnN a).add (lnN b)|.mk (.i _) x=>lnI x|t=>.aw t
def lnN:T->Lin
 | .i (.ofNat n)=>.cst n|.u 0 _ x=>lnL x|.u 4 _ x=>lnN x|.u 8 k x=>(lnN x).smul k|.u 10 k x=>(lnN x).smul k|.w 8 a b=>(lnN a).add (lnN b)|.mk (.i _) x=>lnN x|.w 9 a b=>.aw (.w 9 a b)|t=>.aw (.u 4 0 t)
def lnL:T->Lin
 | .z=>.cst 0|.w 4 _ r=>(lnL r).plus 1|.w 5 a b=>(lnL a).add (lnL b)|.w 21 a _=>lnL a|.w 32 n _=>lnN n|.mk .l x=>lnL x|t=>.aw (.u 0 0 t)
end
section
variable {wf:Nat->List D->D} {U:Nat->D}
def Yw (n:Nat):toI (N64 n)=(n:Int):=rfl
def qdn (n:Nat):toN (N64 n)=n:=by simp[toN,Yw]
def qJV (wf:Nat->List D->D) (U:Nat->D) (t:T):Prop :=
 (lnI t).val wf U=toI (t.den wf U)/\(lnN t).val wf U=(toN (t.den wf U):Int)/\(lnL t).val wf U=((toL (t.den wf U)).length:Int)
def qf:∀t:T,qJV wf U t:=by
 intro t
 induction t with
 | v n=>exact⟨by simp only[lnI,Lin.val_at],by simp only[lnN,Lin.val_at]; rfl,by simp only[lnL,Lin.val_at]; rfl⟩
 | i n =>
  refine⟨by simp only[lnI,Lin.val_cst]; rfl,?_,by simp only[lnL,Lin.val_at]; rfl⟩
  cases n with
  | ofNat n=>simp only[lnN,Lin.val_cst]; rfl|negSucc n=>simp only[lnN,Lin.val_at]; rfl
 | t b=>exact⟨by simp only[lnI,Lin.val_at],by simp only[lnN,Lin.val_at]; rfl,by simp only[lnL,Lin.val_at]; rfl⟩
 | z=>exact⟨by simp only[lnI,Lin.val_at],by simp only[lnN,Lin.val_at]; rfl,by simp only[lnL,Lin.val_cst]; rfl⟩
 | s l=>exact⟨by simp only[lnI,Lin.val_at],by simp only[lnN,Lin.val_at]; rfl,by simp only[lnL,Lin.val_at]; rfl⟩
 | p=>exact⟨by simp only[lnI,Lin.val_at],by simp only[lnN,Lin.val_at]; rfl,by simp only[lnL,Lin.val_at]; rfl⟩
 | mk k x ih =>
  obtain⟨h1,h2,h3⟩:=ih;refine⟨?_,?_,?_⟩
  rotate_left
  ·cases k with
   | i k=>simp only[lnN,h2]; rfl|b=>simp only[lnN,Lin.val_at]; rfl|s=>simp only[lnN,Lin.val_at]; rfl|l=>simp only[lnN,Lin.val_at]; rfl|o=>simp only[lnN,Lin.val_at]; rfl
  rotate_left
  ·cases k with
   | i k=>simp only[lnI,h1]; rfl|b=>simp only[lnI,Lin.val_at]|s=>simp only[lnI,Lin.val_at]|l=>simp only[lnI,Lin.val_at]|o=>simp only[lnI,Lin.val_at]
  ·cases k with
   | l=>simp only[lnL,h3]; rfl|i k=>simp only[lnL,Lin.val_at]; rfl|b=>simp only[lnL,Lin.val_at]; rfl|s=>simp only[lnL,Lin.val_at]; rfl|o=>simp only[lnL,Lin.val_at]; rfl
 | u o k x ih =>
  obtain⟨h1,h2,h3⟩:=ih;have hN0:(lnL x).val wf U=(toN ((T.u 0 k x).den wf U):Int):=by
   simp only[h3]; show _=(toN (N64 _):Int); rw[qdn]
  have hN4:(lnN x).val wf U=(toN ((T.u 4 k x).den wf U):Int):=by
   simp only[h2]; show _=(toN (N64 _):Int); rw[qdn]
  have hN8:((lnN x).smul k).val wf U=(toN ((T.u 8 k x).den wf U):Int):=by
   simp only[Lin.val_smul,h2]; show _=(toN (N64 _):Int); rw[qdn]; simp
  have hN10:((lnN x).smul k).val wf U=(toN ((T.u 10 k x).den wf U):Int):=by
   simp only[Lin.val_smul,h2]; show _=(toN (N64 _):Int); rw[qdn]; simp[Int.mul_comm]
  refine⟨?_,?_,by simp only[lnL,Lin.val_at]; rfl⟩
  ·by_cases e9:o=9
   ·subst e9; simp only[lnI,Lin.val_smul,h1]; show _=(0 - toI (x.den wf U):Int); omega
   by_cases e10:o=10
   ·subst e10; simp only[lnI,Lin.val_smul,h2]; show _=((toN _*k:Nat):Int); simp[Int.mul_comm]
   by_cases e0:o=0
   ·subst e0; simp only[lnI,h3]; rfl
   ·by_cases e4:o=4
    ·subst e4; simp only[lnI,h2]; rfl
    ·by_cases e8:o=8
     ·subst e8; simp only[lnI,Lin.val_smul,h2]; show _=((k*toN _:Nat):Int); simp
     ·have:lnI (.u o k x)=.aw (.u o k x):=by unfold lnI; split<;>simp_all
      rw[this,Lin.val_at]
  ·by_cases e10:o=10
   ·subst e10; simp only[lnN]; exact hN10
   by_cases e0:o=0
   ·subst e0; simp only[lnN]; exact hN0
   ·by_cases e4:o=4
    ·subst e4; simp only[lnN]; exact hN4
    ·by_cases e8:o=8
     ·subst e8; simp only[lnN]; exact hN8
     ·have:lnN (.u o k x)=.aw (.u 4 0 (.u o k x)):=by unfold lnN; split<;>simp_all
      rw[this,Lin.val_at]; rfl
 | w o x y ih1 ih2 =>
  obtain⟨a1,a2,a3⟩:=ih1;obtain⟨b1,b2,b3⟩:=ih2;have hN8:((lnN x).add (lnN y)).val wf U=(toN ((T.w 8 x y).den wf U):Int):=by
   simp only[Lin.val_add,a2,b2]; show _=(toN (N64 _):Int); rw[qdn]; simp
  refine⟨?_,?_,?_⟩
  ·unfold lnI;split<;>first
    | (rename_i heq; cases heq; done)
    | (rename_i heq; injection heq; subst_vars; simp only[Lin.val_add,a1,b1]; rfl)
    | (rename_i heq; injection heq; subst_vars; simp only[Lin.val_sub,a1,b1]; rfl)
    | (rename_i heq; injection heq; subst_vars; simp only[Lin.val_smul,b1]; rfl)
    | (rename_i heq; injection heq; subst_vars; rw[hN8]; show(toN (N64 _):Int)=toI (N64 _); rw[qdn,Yw])
    | (simp only[Lin.val_at])
  ·unfold lnN;split<;>first
    | (rename_i heq; cases heq; done)
    | (rename_i heq; injection heq; subst_vars; exact hN8)
    | (rename_i heq; rw[heq,Lin.val_at]; show toI (N64 _)=(toN (N64 _):Int); rw[qdn,Yw])
    | (simp only[Lin.val_at]; rfl)
  ·unfold lnL;split<;>first
    | (rename_i heq; cases heq; done)
    | (rename_i heq; injection heq; subst_vars; simp only[Lin.val_plus,b3]; show _=((_::_:List D).length:Int); simp)
    | (rename_i heq; injection heq; subst_vars; simp only[Lin.val_add,a3,b3]; show _=((_++_:List D).length:Int); simp)
    | (rename_i heq; injection heq; subst_vars; simp only[a3]; show _=(((toL _).set _ _:List D).length:Int); simp)
    | (rename_i heq; injection heq; subst_vars; simp only[a2]; show _=((List.replicate _ _:List D).length:Int); simp)
    | (simp only[Lin.val_at]; rfl)
end
abbrev Sp:=List (Nat×Int)
def spv (x:Nat->Int):Sp->Int
 | []=>0|p::r=>p.2*x p.1+spv x r
abbrev Rw:=Int×Sp
def Rw.ok (x:Nat->Int) (r:Rw):Prop:=0<=r.1+spv x r.2
def qaB {α:Type} (z:Int) (f:Int->α):α:=match z with
 | .ofNat n=>match n with
  | 0=>f (.ofNat 0)|m+1=>f (.ofNat (m+1))
 | .negSucc n=>match n with
  | 0=>f (.negSucc 0)|m+1=>f (.negSucc (m+1))
def qaY {α:Type} (z:Int) (f:Int->α):qaB z f=f z:=by
 unfold qaB;split
 ·split<;>rfl
 ·split<;>rfl
def qal:Int->Bool
 | .negSucc _=>true|_=>false
def qdo:Int->Bool
 | .ofNat (_+1)=>true|_=>false
def isZ:Int->Bool
 | .ofNat 0=>true|_=>false
def qJW {a:Int} (h:isZ a=true):a=0:=by
 cases a with
 | ofNat n=>cases n with|zero=>rfl|succ n=>cases h
 | negSucc n=>cases h
def qgP (i:Nat) (k:Int):Sp->Sp
 | []=>[(i,k)]|q::r=>match Nat.beq q.1 i with
  | true=>qaB (k+q.2) fun z=>match isZ z with
   | true=>r|false=>(i,z)::r
  | false=>match Nat.blt i q.1 with
   | true=>(i,k)::q::r|false=>q::qgP i k r
def qgQ (k:Int):Sp->Sp->Sp
 | [],s=>s|p::r,s=>qaB (k*p.2) fun z=>qgP p.1 z (qgQ k r s)
def qr8 (x:Nat->Int) (i:Nat) (k:Int):∀s:Sp,spv x (qgP i k s)=k*x i+spv x s
 | []=>by simp[qgP,spv]
 | q::r=>by
  simp only[qgP];split
  ·rename_i h;have e:=qTO h;rw[qaY];split
   ·rename_i hz;have h0:=qJW hz;have h1:k*x i+q.2*x i=0:=by rw[<-Int.add_mul,h0,Int.zero_mul]
    simp only[spv,e]; omega
   ·simp only[spv,e,Int.add_mul]; omega
  ·split
   ·simp only[spv]
   ·simp only[spv,qr8 x i k r]; omega
def qyK (x:Nat->Int) (k:Int):∀a s:Sp,spv x (qgQ k a s)=k*spv x a+spv x s
 | [],s=>by simp[qgQ,spv]
 | p::r,s=>by
  simp only[qgQ,qaY,qr8,qyK x k r s,spv,qUU,qWu]; omega
def JX (j:Nat):Sp->Int
 | []=>0|q::r=>match Nat.beq q.1 j with
  | true=>q.2|false=>match Nat.blt j q.1 with
   | true=>0|false=>JX j r
def qyL:Sp->Nat->Nat
 | [],g=>g|p::r,g=>match Nat.beq g 1 with
  | true=>1|false=>qyL r (Nat.gcd p.2.natAbs g)
def qr9 (r:Rw):Rw:=match qyL r.2 0 with
 | 0=>r|1=>r|g+2=>match r.2.all fun p=>qbK (((g+2:Nat):Int)*(p.2 / ((g+2:Nat):Int))) p.2 with
  | true=>qaB (r.1 / ((g+2:Nat):Int)) fun c=>(c,r.2.map fun p=>(p.1,qaB (p.2 / ((g+2:Nat):Int)) fun z=>z))
  | false=>r
def qJX {a b:Int} (h:qbK a b=true):a=b:=by
 cases a<;>cases b<;>first | (have:=qTO h; subst this; rfl) | cases h
def qJY {r:Rw} {x:Nat->Int} (h:r.ok x):(qr9 r).ok x:=by
 unfold qr9;split
 ·exact h
 ·exact h
 ·rename_i g _;split
  ·rename_i hd;rw[qaY];have key:∀s:Sp,(s.all fun p=>qbK (((g+2:Nat):Int)*(p.2 / ((g+2:Nat):Int))) p.2)=true->spv x s=((g+2:Nat):Int)*spv x (s.map fun p=>(p.1,qaB (p.2 / ((g+2:Nat):Int)) fun z=>z)):=by
    intro s
    induction s with
    | nil=>intro _; simp[spv]
    | cons p r ih =>
     intro hs;rw[qUZ,qTC]at hs;simp only[spv,qUa,qaY];rw[ih hs.2,qUU,<-qWu,qJX hs.1];simp only[qaY]
   have h2:0<=r.1+spv x r.2:=h;rw[key _ hd]at h2;show 0<=r.1 / ((g+2:Nat):Int)+_;have h3:=Int.ediv_nonneg h2 (show(0:Int)<=((g+2:Nat):Int) by omega);rw[Int.add_mul_ediv_left _ _ (show((g+2:Nat):Int)≠0 by omega)]at h3;exact h3
  ·exact h
def qiQ (j:Nat) (p n:Rw):Rw :=
 qr9 (qaB (- JX j n.2) fun a=>qaB (JX j p.2) fun b=>qaB (a*p.1+b*n.1) fun c=>(c,qgQ a p.2 (qgQ b n.2 [])))
def elim (j:Nat) (rows:List Rw):List Rw :=
 let ps:=rows.filter fun r=>qdo (JX j r.2)
 let ns:=rows.filter fun r=>qal (JX j r.2)
 let zs:=rows.filter fun r=>isZ (JX j r.2)
 zs++ps.flatMap fun p=>ns.map fun n=>qiQ j p n
def qme (k:Int):Bool:=match k with
 | .ofNat n=>Nat.beq n 1|.negSucc n=>Nat.beq n 0
def qyM (j:Nat) (k:Int):List (Nat×Nat×Nat×Nat)->List (Nat×Nat×Nat×Nat)
 | []=>[(j,match qdo k with|true=>(1,0,match qme k with|true=>0|false=>24) | false=>(0,1,match qme k with|true=>0|false=>24))]
 | c::cs=>match Nat.beq c.1 j with
  | true=>(j,match qdo k with|true=>(Nat.succ c.2.1,c.2.2.1,match qme k with|true=>c.2.2.2|false=>24) | false=>(c.2.1,Nat.succ c.2.2.1,match qme k with|true=>c.2.2.2|false=>24))::cs
  | false=>c::qyM j k cs
def qJZ (cs:List (Nat×Nat×Nat×Nat)) (r:Sp):List (Nat×Nat×Nat×Nat):=r.foldl (fun cs p=>qyM p.1 p.2 cs) cs
def qmf:List (Nat×Nat×Nat×Nat)->Option (Nat×Nat×Nat)->Option (Nat×Nat×Nat)
 | [],b=>b|c::cs,b=>match b with
  | none=>qmf cs (some (c.1,c.2.1*c.2.2.1,c.2.1*c.2.2.1+c.2.2.2))|some q=>match Nat.blt (c.2.1*c.2.2.1+c.2.2.2) q.2.2 with
   | true=>qmf cs (some (c.1,c.2.1*c.2.2.1,c.2.1*c.2.2.1+c.2.2.2))|false=>qmf cs b
def eqL:Sp->Sp->Bool
 | [],[]=>true|a::r,b::s=>match Nat.beq a.1 b.1 with
  | true=>match qbK a.2 b.2 with
   | true=>eqL r s|false=>false
  | false=>false
 | _,_=>false
def leI (a b:Int):Bool:=match qal (b - a)with|true=>false|false=>true
def qfq:Sp->Bool
 | []=>true|_=>false
def qyN (r:Rw) (rows:List Rw):List Rw:=match rows.any (fun s=>eqL s.2 r.2&&leI s.1 r.1)with
 | true=>rows|false=>r::rows
def qmg (rows:List Rw):List Rw:=rows.foldr (fun r acc=>match qfq r.2&&!(qal r.1)with
 | true=>acc|false=>qyN r acc) []
def qJ0:Nat:=40
def qsa (rows:List Rw):Bool:=rows.any fun r=>qfq r.2&&qal r.1
def fm:Nat->List Rw->Bool
 | 0,rows=>qsa rows|n+1,rows=>qsa rows||match qmf (rows.foldl (fun cs r=>qJZ cs r.2) []) none with
  | none=>false|some q=>match Nat.ble q.2.1 qJ0 with
   | true=>fm n (qmg (elim q.1 rows))|false=>false
def qyO {a:Int} (h:qal a=true):a<0:=by
 cases a with
 | ofNat n=>cases h
 | negSucc n=>omega
def qJ1 {a:Int} (h:qdo a=true):0<a:=by
 cases a with
 | ofNat n =>
  cases n with
  | zero=>cases h
  | succ n=>show(0:Int)<((n+1:Nat):Int); omega
 | negSucc n=>cases h
def qsb {j:Nat} {p n:Rw} {x:Nat->Int} (hp:qdo (JX j p.2)=true) (hn:qal (JX j n.2)=true) (h1:p.ok x) (h2:n.ok x):(qiQ j p n).ok x:=by
 unfold qiQ;refine qJY ?_;rw[qaY,qaY,qaY];have a1:=qyO hn; have a2:=qJ1 hp;simp only[Rw.ok,qyK,spv]at *;have k1:=qVG (a:=- JX j n.2) (by omega) h1;have k2:=qVG (a:=JX j p.2) (by omega) h2;rw[qUU]at k1 k2;omega
def qJ2 {j:Nat} {rows:List Rw} {x:Nat->Int} (h:∀r∈rows,r.ok x):∀r∈elim j rows,r.ok x:=by
 intro r hr;simp only[elim,qTH,qTV,qUT,qUd]at hr;rcases hr with⟨hq,_⟩|⟨p,⟨hp,hp'⟩,n,⟨hn,hn'⟩,rfl⟩
 ·exact h r hq
 ·exact qsb hp' hn' (h p hp) (h n hn)
def qyP {rows:List Rw} {r:Rw} (h:r∈qmg rows):r∈rows:=by
 induction rows with
 | nil=>cases h
 | cons q rows ih =>
  simp only[qmg,List.foldr_cons]at h;split at h
  ·exact qTG _ (ih h)
  ·unfold qyN at h;split at h
   ·exact qTG _ (ih h)
   ·rcases qTD.1 h with rfl|h
    ·simp
    ·exact qTG _ (ih h)
def qyQ {s:Sp} (h:qfq s=true) (x:Nat->Int):spv x s=0:=by
 cases s with
 | nil=>rfl|cons _ _=>cases h
def qJ3:∀{n:Nat} {rows:List Rw} {x:Nat->Int},fm n rows=true->(∀r∈rows,r.ok x)->False:=by
 have base:∀{rows:List Rw} {x:Nat->Int},qsa rows=true->(∀r∈rows,r.ok x)->False:=by
  intro rows x h hr;obtain⟨r,hm,hb⟩:=qUb.1 h;simp only[qTC]at hb;have:=hr r hm;simp only[Rw.ok,qyQ hb.1]at this;have:=qyO hb.2;omega
 intro n
 induction n with
 | zero=>intro rows x h hr; exact base h hr
 | succ n ih =>
  intro rows x h hr;simp only[fm,qTM]at h;rcases h with h|h
  ·exact base h hr
  ·split at h
   ·cases h
   ·rename_i q _;split at h
    ·exact ih h fun r hm=>qJ2 hr r (qyP hm)
    ·cases h
def qsc:Sp->Sp->Bool
 | [],[]=>true|a::r,b::s=>match Nat.beq a.1 b.1 with
  | true=>match qbK a.2 (- b.2)with
   | true=>qsc r s|false=>false
  | false=>false
 | _,_=>false
def qyR:Sp->Option (Nat×Int)
 | []=>none|[p]=>some p|_::r=>qyR r
def qyS:Sp->Option (Nat×Int)
 | []=>none|p::r=>match qyS r with
  | some q=>some q|none=>match qbK p.2 1||qbK p.2 (-1)with
   | true=>some p|false=>none
def qJ4 (s:Sp):Option (Nat×Int):=match qyS s with
 | some q=>some q|none=>qyR s
def qmh:List Rw->Option (Rw×Rw×List Rw)
 | r::s::rest=>match qsc r.2 s.2&&(qbK r.1 (- s.1)&&!(qfq r.2))with
  | true=>some (r,s,rest)|false=>match qmh (s::rest)with
   | some (p,q,rs)=>some (p,q,r::rs)|none=>none
 | _=>none
def qmi (j:Nat) (p n r:Rw):Rw:=match qdo (JX j r.2)with
 | true=>qiQ j r n|false=>match qal (JX j r.2)with
  | true=>qiQ j p r|false=>r
def qiR:Nat->List Rw->List Rw
 | 0,rows=>rows|k+1,rows=>match qmh rows with
  | none=>rows|some (p,q,rest)=>match qJ4 p.2 with
   | none=>rows|some c=>match qdo (JX c.1 p.2)&&qal (JX c.1 q.2)with
    | true=>qiR k (rest.map (qmi c.1 p q))|false=>match qdo (JX c.1 q.2)&&qal (JX c.1 p.2)with
     | true=>qiR k (rest.map (qmi c.1 q p))|false=>rows
def qyT:∀{rows:List Rw} {p q:Rw} {rs:List Rw},qmh rows=some (p,q,rs)->p∈rows/\q∈rows/\∀r∈rs,r∈rows
 | [],p,q,rs,h=>by cases h
 | [r],p,q,rs,h=>by cases h
 | r::s::rest,p,q,rs,h=>by
  unfold qmh at h;split at h
  ·cases h;exact⟨by simp,by simp,fun r hr=>by simp[hr]⟩
  ·split at h
   ·rename_i p' q' rs' hp;cases h;obtain⟨h1,h2,h3⟩:=qyT hp;refine⟨qTG _ h1,qTG _ h2,fun x hx=>?_⟩;rcases qTD.1 hx with rfl|hx
    ·simp
    ·exact qTG _ (h3 x hx)
   ·cases h
def qyU {j:Nat} {p n r:Rw} {x:Nat->Int} (hp:qdo (JX j p.2)=true) (hn:qal (JX j n.2)=true) (h1:p.ok x) (h2:n.ok x) (h3:r.ok x):(qmi j p n r).ok x:=by
 unfold qmi;split
 ·rename_i h; exact qsb h hn h3 h2
 ·split
  ·rename_i h; exact qsb hp h h1 h3
  ·exact h3
def qsd:∀{k:Nat} {rows:List Rw} {x:Nat->Int},(∀r∈rows,r.ok x)->∀r∈qiR k rows,r.ok x
 | 0,rows,x,h=>h|k+1,rows,x,h=>by
  unfold qiR;split
  ·exact h
  ·rename_i p q rest hp;obtain⟨m1,m2,m3⟩:=qyT hp;split
   ·exact h
   ·split
    ·rename_i hc;rw[qTC]at hc;refine qsd fun r hr=>?_
     obtain⟨s,hs,rfl⟩:=qTV.1 hr;exact qyU hc.1 hc.2 (h _ m1) (h _ m2) (h _ (m3 s hs))
    ·split
     ·rename_i hc;rw[qTC]at hc;refine qsd fun r hr=>?_
      obtain⟨s,hs,rfl⟩:=qTV.1 hr;exact qyU hc.1 hc.2 (h _ m2) (h _ m1) (h _ (m3 s hs))
     ·exact h
def qse:T->Bool
 | .u 0 _ _=>true|.u 4 _ _=>true|.u 7 _ _=>true|.u 11 _ _=>true|.u 12 _ _=>true|.u 13 _ _=>true|.u 14 _ _=>true|.u 15 _ _=>true|.w 9 _ _=>true|_=>false
structure Bs where
 as:List T
 rw:List (Nat×Rw)
def qcN (t:T):List T->Nat->Nat×Bool×List T
 | [],n=>(n,true,[t])|a::as,n=>match a.eq t with
  | true=>(n,false,a::as)|false=>match qcN t as (n+1)with
   | (i,b,as')=>(i,b,a::as')
def qfr (t:T) (B:Bs):Nat×Bs:=match qcN t B.as 0 with
 | (i,true,as')=>match qse t with
  | true=>(i,⟨as',(Nat.pow 2 i,(0,[(i,1)]))::B.rw⟩)|false=>(i,⟨as',B.rw⟩)
 | (i,false,_)=>(i,B)
def qca:List (Int×T)->Bs->Sp×Nat×Bs
 | [],B=>([],0,B)|p::r,B=>match qca r B with
  | (v,m,B1)=>match qfr p.2 B1 with
   | (i,B2)=>qaB p.1 fun z=>(qgP i z v,Nat.lor m (Nat.pow 2 i),B2)
def qbI (l:Lin) (B:Bs):(Nat×Rw)×Bs:=match qca l.ts B with
 | (v,m,B1)=>qaB l.c fun z=>((m,(z,v)),B1)
def qyV (r:Rw) (rows:List (Nat×Rw)):Bool:=rows.any fun s=>eqL s.2.2 r.2&&leI s.2.1 r.1
def qmj (r:Nat×Rw):List (Nat×Rw)->Option (List (Nat×Rw))
 | []=>none|s::rest=>match qsc s.2.2 r.2.2&&qbK s.2.1 (- r.2.1)with
  | true=>some (r::s::rest)|false=>match qmj r rest with
   | some l=>some (s::l)|none=>none
def qgR (l:Lin) (B:Bs):Bs:=match qbI l B with
 | (r,B1)=>match qyV r.2 B1.rw||qfq r.2.2&&!(qal r.2.1)with
  | true=>B1|false=>match qmj r B1.rw with
   | some l=>⟨B1.as,l⟩|none=>⟨B1.as,r::B1.rw⟩
def qcb:List Lin->Bs->Bs
 | [],B=>B|l::r,B=>qgR l (qcb r B)
section
variable {wf:Nat->List D->D} {U:Nat->D}
def qcc (wf:Nat->List D->D) (U:Nat->D) (as:List T) (i:Nat):Int:=toI ((as.getD i .p).den wf U)
def Bs.OK (wf:Nat->List D->D) (U:Nat->D) (B:Bs):Prop:=∀e,∀r∈B.rw,r.2.ok (qcc wf U (B.as++e))
def qmk {t:T}:∀{as:List T} {n i:Nat} {b:Bool} {as':List T},qcN t as n=(i,b,as')->n<=i/\(∃e,as'=as++e)/\∀e,(as'++e).getD (i - n) .p=t
 | [],n,i,b,as',h=>by
  simp only[qcN,qUe]at h;obtain⟨rfl,_,rfl⟩:=h;exact⟨qTF _,⟨[t],rfl⟩,fun e=>by simp⟩
 | a::as,n,i,b,as',h=>by
  simp only[qcN]at h;split at h
  ·rename_i he;simp only[qUe]at h;obtain⟨rfl,_,rfl⟩:=h;exact⟨qTF _,⟨[],by simp⟩,fun e=>by simp[T.eq_eq he]⟩
  ·generalize hq:qcN t as (n+1)=q at h;obtain⟨j,c,bs⟩:=q;simp only[qUe]at h;obtain⟨rfl,_,rfl⟩:=h;obtain⟨h1,⟨e,h2⟩,h3⟩:=qmk hq;refine⟨by omega,⟨e,by rw[h2]; rfl⟩,fun e'=>?_⟩;have:=h3 e';rw[show j - n=(j - (n+1))+1 by omega];exact this
def qyW {t:T}:∀{as:List T} {n i:Nat} {as':List T},qcN t as n=(i,false,as')->as'=as
 | [],n,i,as',h=>by simp[qcN]at h
 | a::as,n,i,as',h=>by
  simp only[qcN]at h;split at h
  ·simp only[qUe]at h; exact h.2.2.symm
  ·generalize hp:qcN t as (n+1)=q at h;obtain⟨j',c,bs⟩:=q;simp only[qUe]at h;obtain⟨_,rfl,rfl⟩:=h;rw[qyW hp]
def Ext (B B':Bs):Prop:=∃e,B'.as=B.as++e
def Ext.rfl' {B:Bs}:Ext B B:=⟨[],by simp⟩
def Ext.trans {A B C:Bs} (h:Ext A B) (k:Ext B C):Ext A C:=by
 obtain⟨e,h⟩:=h;obtain⟨f,k⟩:=k;exact⟨e++f,by rw[k,h,qTW]⟩
def qJ5 {t:T} (h:qse t=true):0<=toI (t.den wf U):=by
 unfold qse at h;split at h<;>first
  | (show(0:Int)<=toI (N64 _); rw[Yw]; exact Int.natCast_nonneg _)
  | cases h
def qJ6 {t:T} {B B':Bs} {i:Nat} (hB:B.OK wf U) (h:qfr t B=(i,B')):B'.OK wf U/\Ext B B'/\∀e,qcc wf U (B'.as++e) i=toI (t.den wf U):=by
 unfold qfr at h;split at h
 ·rename_i j as' hq;obtain⟨_,⟨e,h2⟩,h3⟩:=qmk hq;have old:∀f,∀r∈B.rw,r.2.ok (qcc wf U (as'++f)):=fun f r hr=>by
   rw[h2,qTW]; exact hB _ r hr
  split at h
  ·rename_i hn;simp only[qUe]at h;obtain⟨rfl,rfl⟩:=h;refine⟨fun f r hr=>?_,⟨e,h2⟩,fun f=>by simp only[qcc]; have:=h3 f; simp only[qUO]at this; rw[this]⟩;rcases qTD.1 hr with rfl|hr
   ·have:=h3 f;simp only[qUO]at this;simp only[Rw.ok,spv,qcc,this];have:=qJ5 (wf:=wf) (U:=U) hn;omega
   ·exact old f r hr
  ·simp only[qUe]at h;obtain⟨rfl,rfl⟩:=h;exact⟨fun f r hr=>old f r hr,⟨e,h2⟩,fun f=>by simp only[qcc]; have:=h3 f; simp only[qUO]at this; rw[this]⟩
 ·rename_i j as' hq;simp only[qUe]at h;obtain⟨rfl,rfl⟩:=h;obtain⟨_,⟨e,h2⟩,h3⟩:=qmk hq;refine⟨hB,Ext.rfl',fun f=>?_⟩;have hs:as'=B.as:=qyW hq;have:=h3 f;simp only[qUO]at this;simp only[qcc]; rw[<-hs,this]
def qyX:∀{ts:List (Int×T)} {B B':Bs} {v:Sp} {m:Nat},B.OK wf U->qca ts B=(v,m,B')->B'.OK wf U/\Ext B B'/\∀e,spv (qcc wf U (B'.as++e)) v=YB wf U ts
 | [],B,B',v,m,hB,h=>by
  simp only[qca,qUe]at h;obtain⟨rfl,_,rfl⟩:=h;exact⟨hB,Ext.rfl',fun e=>rfl⟩
 | p::r,B,B',v,m,hB,h=>by
  simp only[qca]at h;generalize hq:qca r B=q at h;obtain⟨v1,m1,B1⟩:=q;obtain⟨a1,a2,a3⟩:=qyX hB hq;simp only at h;generalize hp:qfr p.2 B1=s at h;obtain⟨i,B2⟩:=s;obtain⟨b1,b2,b3⟩:=qJ6 a1 hp;simp only[qaY,qUe]at h;obtain⟨rfl,_,rfl⟩:=h;refine⟨b1,a2.trans b2,fun e=>?_⟩;rw[qr8,b3];obtain⟨f,hf⟩:=b2;rw[hf,qTW,a3]; rfl
def qsf {l:Lin} {B B':Bs} {r:Nat×Rw} (hB:B.OK wf U) (h:qbI l B=(r,B')):B'.OK wf U/\Ext B B'/\∀e,r.2.1+spv (qcc wf U (B'.as++e)) r.2.2=l.val wf U:=by
 unfold qbI at h;generalize hq:qca l.ts B=q at h;obtain⟨v,m,B1⟩:=q;obtain⟨a1,a2,a3⟩:=qyX hB hq;simp only[qaY,qUe]at h;obtain⟨rfl,rfl⟩:=h;exact⟨a1,a2,fun e=>by simp only[a3]; rfl⟩
def qyY {r:Nat×Rw}:∀{rows l:List (Nat×Rw)},qmj r rows=some l->∀{s:Nat×Rw},s∈l->s=r\/s∈rows
 | [],l,h,s,hs=>by cases h
 | q::rest,l,h,s,hs=>by
  unfold qmj at h;split at h
  ·cases h;rcases qTD.1 hs with rfl|hs
   ·exact .inl rfl
   ·exact .inr hs
  ·split at h
   ·rename_i l' hl';cases h;rcases qTD.1 hs with rfl|hs
    ·exact .inr (by simp)
    ·rcases qyY hl' hs with h|h
     ·exact .inl h
     ·exact .inr (qTG _ h)
   ·cases h
def qyZ {l:Lin} {B:Bs} (hB:B.OK wf U) (hl:0<=l.val wf U):(qgR l B).OK wf U:=by
 unfold qgR;generalize hq:qbI l B=q;obtain⟨r,B1⟩:=q;obtain⟨a1,a2,a3⟩:=qsf hB hq;simp only;split
 ·exact a1
 ·split
  ·rename_i l' hl';intro e s hs;rcases qyY hl' hs with rfl|hs
   ·simp only[Rw.ok,a3]; exact hl
   ·exact a1 e s hs
  ·intro e s hs;rcases qTD.1 hs with rfl|hs
   ·simp only[Rw.ok,a3]; exact hl
   ·exact a1 e s hs
def qgS:∀{ls:List Lin} {B:Bs},B.OK wf U->(∀l∈ls,0<=l.val wf U)->(qcb ls B).OK wf U
 | [],B,hB,_=>hB|l::r,B,hB,h=>qyZ (qgS hB fun q hq=>h q (qTG _ hq)) (h l (by simp))
end
def qJ7 (t:T) (B:Bs):Ext B (qfr t B).2:=by
 unfold qfr;split
 ·rename_i j as' hq;obtain⟨_,⟨e,h2⟩,_⟩:=qmk hq;split<;>exact⟨e,h2⟩
 ·exact Ext.rfl'
def qy0:∀(ts:List (Int×T)) (B:Bs),Ext B (qca ts B).2.2
 | [],B=>Ext.rfl'|p::r,B=>by
  have h:=qy0 r B;simp only[qca];generalize hq:qca r B=q at h;obtain⟨v,m,B1⟩:=q;have h2:=qJ7 p.2 B1;simp only;generalize hp:qfr p.2 B1=s at h2;obtain⟨i,B2⟩:=s;simp only[qaY];exact h.trans h2
def qJ8 (l:Lin) (B:Bs):Ext B (qgR l B):=by
 have h:=qy0 l.ts B;unfold qgR qbI;generalize hq:qca l.ts B=q at h;obtain⟨v,m,B1⟩:=q;simp only[qaY];split
 ·exact h
 ·split<;>exact h
def qy1:∀(ls:List Lin) (B:Bs),Ext B (qcb ls B)
 | [],B=>Ext.rfl'|l::r,B=>(qy1 r B).trans (qJ8 l _)
def qbJ:Nat->List (Nat×Rw)->Nat->Nat
 | 0,_,m=>m|k+1,rows,m =>
  let m':=rows.foldl (fun m p=>match Nat.beq (Nat.land p.1 m) 0 with
   | true=>m|false=>Nat.lor m p.1) m
  match Nat.beq m' m with
  | true=>m|false=>qbJ k rows m'
def qsg (m:Nat) (rows:List (Nat×Rw)):Nat:=match Nat.beq m 0 with
 | true=>(rows.take 6).foldl (fun m p=>Nat.lor m p.1) 0
 | false=>m
def within (m:Nat):List (Nat×Rw)->List Rw
 | []=>[]|p::r=>match Nat.beq (Nat.land p.1 m) p.1 with
  | true=>p.2::within m r|false=>within m r
def qml (r:Rw):Rw:=qaB (-1 - r.1) fun z=>(z,r.2.map fun p=>(p.1,qaB (- p.2) fun z=>z))
def qiS (m:Nat) (rows:List (Nat×Rw)) (g:Rw):Bool:=fm 60 (qmg (qiR 40 (qml g::within m rows)))
def qmm (rows:List (Nat×Rw)) (g:Rw):Bool:=qfq g.2&&!(qal g.1)||qyV g rows
def qsh (rounds:Nat) (B:Bs) (goal:Lin):Bool:=match qbI goal B with
 | (g,B1)=>qmm B1.rw g.2||qiS (qbJ rounds B1.rw (qsg g.1 B1.rw)) B1.rw g.2
section
variable {wf:Nat->List D->D} {U:Nat->D}
def qJ9 (x:Nat->Int) (r:Rw):(qml r).1+spv x (qml r).2=-1 - (r.1+spv x r.2):=by
 unfold qml;rw[qaY];have:spv x (r.2.map fun p=>(p.1,qaB (- p.2) fun z=>z))=- spv x r.2:=by
  simp only[qaY];generalize r.2=l
  induction l with
  | nil=>rfl|cons p l ih=>simp only[qUa,spv,ih,Int.neg_mul]; omega
 simp only[this]; omega
def qy2 {m:Nat} {x:Nat->Int}:∀{rows:List (Nat×Rw)},(∀r∈rows,r.2.ok x)->∀r∈within m rows,r.ok x
 | [],_,r,hr=>by cases hr
 | p::rows,h,r,hr=>by
  have ih:=qy2 (m:=m) fun q hq=>h q (qTG _ hq)
  simp only[within]at hr;split at hr
  ·rcases qTD.1 hr with rfl|hr
   ·exact h p (by simp)
   ·exact ih r hr
  ·exact ih r hr
def qmn {m:Nat} {rows:List (Nat×Rw)} {g:Rw} {x:Nat->Int} (h:qiS m rows g=true) (hr:∀r∈rows,r.2.ok x):g.ok x:=by
 rcases Int.lt_or_le (g.1+spv x g.2) 0 with hn|hn
 ·exfalso;refine qJ3 h (x:=x) fun q hq=>qsd (fun q hq=>?_) q (qyP hq)
  rcases qTD.1 hq with rfl|hq
  ·simp only[Rw.ok,qJ9]; omega
  ·exact qy2 hr q hq
 ·exact hn
def qy3:∀{a b:Sp},eqL a b=true->a=b
 | [],[],_=>rfl|[],_::_,h=>by simp[eqL]at h
 | _::_,[],h=>by simp[eqL]at h
 | a::r,b::s,h=>by
  unfold eqL at h;split at h
  ·rename_i h1;split at h
   ·rename_i h2;obtain⟨a1,a2⟩:=a;obtain⟨b1,b2⟩:=b;have e1:=qTO h1;have e2:=qyG h2;simp only at e1 e2;rw[e1,e2,qy3 h]
   ·cases h
  ·cases h
def qy4 {rows : List (Nat×Rw)} {g : Rw} {x : Nat -> Int} (h : qmm rows g=true) (hr : ∀r∈rows, r.2.ok x) : g.ok x := by
  unfold qmm at h;rw[qTM, qTC]at h;rcases h with⟨h1, h2⟩|h
  · simp only[Rw.ok, qyQ h1]
    cases hc : g.1 with
    | ofNat n => have : (0 : Int)<=(n : Int) := by omega
                 exact this
    | negSucc n => rw[hc]at h2; simp[qal]at h2
  · obtain⟨s, hs, hb⟩ := qUb.1 h
    rw[qTC]at hb;have h1 := hr s hs;have h2 := qy3 hb.1;have h3 : s.2.1<=g.1 := by
      have hb2 := hb.2;unfold leI at hb2;split at hb2
      · cases hb2
      · rename_i hn
        cases hz : g.1 - s.2.1 with
        | ofNat n => have : g.1 - s.2.1=(n : Int) := hz; omega
        | negSucc n => rw[hz]at hn; simp[qal]at hn
    simp only[Rw.ok]at h1 ⊢;rw[<-h2]; omega
def qKa {n:Nat} {B:Bs} {goal:Lin} (h:qsh n B goal=true) (hB:B.OK wf U):0<=goal.val wf U:=by
 unfold qsh at h;generalize hq:qbI goal B=q at h;obtain⟨g,B1⟩:=q;obtain⟨a1,a2,a3⟩:=qsf hB hq;simp only[qTM]at h;rw[<-a3 []];rcases h with h|h
 ·exact qy4 h (a1 [])
 ·exact qmn h (a1 [])
end
end Go.Aev.R
namespace Go.Aev.R
open Go Go.Aev
def Jc:T->T
 | .mk .l x=>x|x=>x
def qiV:T->Nat->Option T
 | .w 4 a _,0=>some a|.w 4 _ r,n+1=>qiV r n|_,_=>none
def JY (k:Nat) (x:T):T:=match x with
 | .u 2 _ l=>match qiV l k with
  | some y=>y|none=>.u 1 k x
 | x=>.u 1 k x
def mkU (o k:Nat) (x:T):T:=match o with
 | 0=>.u 0 k (Jc x)|1=>JY k x|11=>.u 11 k (Jc x)|o=>.u o k x
def mkW (o:Nat) (x y:T):T:=match o with
 | 3=>.w 3 (Jc x) y|o=>.w o x y
def mkK (k:K) (x:T):T:=match x with
 | .mk k' y=>match K.eq k k' with
  | true=>.mk k y|false=>.mk k (.mk k' y)
 | x=>.mk k x
def T.sub (J:List T):T->T
 | .v n=>J.getD n .p|.mk k x=>mkK k (x.sub J)|.u o k x=>mkU o k (x.sub J)|.w o x y=>mkW o (x.sub J) (y.sub J)|q=>q
def T.pure (n:Nat):T->Bool
 | .v k=>Nat.blt k n|.mk _ x=>x.pure n|.u o k x=>(match o with|3=>Nat.ble Jw k|_=>true)&&x.pure n
 | .w _ x y=>x.pure n&&y.pure n|_=>true
def T.pure0 (n:Nat):T->Bool
 | .v k=>Nat.blt k n|.mk _ x=>x.pure0 n|.u o _ x=>(match o with|3=>false|_=>true)&&x.pure0 n
 | .w _ x y=>x.pure0 n&&y.pure0 n|_=>true
def Ym (wf:Nat->List D->D) (U:Nat->D) (J:List T) (k:Nat):D:=(J.getD k .p).den wf U
section
variable {wf:Nat->List D->D} {rcP:Nat->List D->Prop} {U:Nat->D}
def qgX (x:T):toL ((Jc x).den wf U)=toL (x.den wf U):=by
 unfold Jc;split<;>rfl
def qKz:∀{l:T} {k:Nat} {y:T},qiV l k=some y->(toL (l.den wf U))[k]?=some (y.den wf U):=by
 intro l
 induction l with
 | w o a c _ ih =>
  intro k y h;unfold qiV at h;split at h
  ·rename_i heq; injection heq with e1 e2 e3; subst e1; subst e2; cases h; rfl
  ·rename_i n heq;injection heq with e1 e2 e3
   subst e1; subst e3;have:=ih h;show(a.den wf U::toL (c.den wf U))[n+1]?=_;simpa using this
  ·cases h
 | _=>intro k y h; cases k<;>(simp[qiV]at h; done)
def qgY (k:Nat) (x:T):(JY k x).den wf U=cel (x.den wf U) k:=by
 unfold JY;split
 ·rename_i q l;split
  ·rename_i y hy;have:=qKz (wf:=wf) (U:=U) hy;show _=(D.agg (toL (l.den wf U))).cells.getD k .nilp;simp[D.cells,zzG,this]
  ·rfl
 ·rfl
def qKA (o k:Nat) (x:T):(mkU o k x).den wf U=(T.u o k x).den wf U:=by
 unfold mkU;split
 ·show N64 (toL ((Jc x).den wf U)).length=N64 (toL (x.den wf U)).length;rw[qgX]
 ·exact qgY k x
 ·show N64 (qaD k (toL ((Jc x).den wf U)))=N64 (qaD k (toL (x.den wf U)));rw[qgX]
 ·rfl
def qKB (o:Nat) (x y:T):(mkW o x y).den wf U=(T.w o x y).den wf U:=by
 unfold mkW;split
 ·show(toL ((Jc x).den wf U)).getD _ _=(toL (x.den wf U)).getD _ _;rw[qgX]
 ·rfl
def qKC (k:K) (x:T):(mkK k x).den wf U=(T.mk k x).den wf U:=by
 unfold mkK;split
 ·rename_i k' y;split
  ·rename_i h;rw[<-K.eq_eq h];show k.den _=k.den (k.den _);cases k<;>rfl
  ·rfl
 ·rfl
def T.den_sub (J:List T):∀t:T,(t.sub J).den wf U=t.den wf (Ym wf U J):=by
 intro t
 induction t with
 | v n=>rfl|mk k x ih=>simp only[T.sub,qKC,T.den,ih]|u o k x ih=>simp only[T.sub,qKA,T.den,ih]|w o x y ih1 ih2=>simp only[T.sub,qKB,T.den,ih1,ih2]|_=>rfl
def T.den_pure {n:Nat} {wf':Nat->List D->D} {U':Nat->D} (hw:∀g,Jw<=g->wf g=wf' g) (h:∀k,k<n->U k=U' k):∀t:T,t.pure n=true->t.den wf U=t.den wf' U':=by
 intro t
 induction t with
 | v k=>intro hp; simp only[T.pure,qT0]at hp; exact h k hp
 | mk k x ih=>intro hp; simp only[T.den,ih hp]
 | u o k x ih =>
  intro hp;simp only[T.pure,qTC]at hp;simp only[T.den,ih hp.2]
  by_cases e:o=3
  ·subst e;have:=hw k (qT5 hp.1);show wf k _=wf' k _;rw[this]
  ·unfold T.un; split<;>simp_all
 | w o x y ih1 ih2 =>
  intro hp;simp only[T.pure,qTC]at hp;simp only[T.den,ih1 hp.1,ih2 hp.2]
 | _=>intro _; rfl
def T.den_pure0 {n:Nat} {wf':Nat->List D->D} {U':Nat->D} (h:∀k,k<n->U k=U' k):∀t:T,t.pure0 n=true->t.den wf U=t.den wf' U':=by
 intro t
 induction t with
 | v k=>intro hp; simp only[T.pure0,qT0]at hp; exact h k hp
 | mk k x ih=>intro hp; simp only[T.den,ih hp]
 | u o k x ih =>
  intro hp;simp only[T.pure0,qTC]at hp;simp only[T.den,ih hp.2]
  by_cases e:o=3
  ·subst e; simp at hp
  ·unfold T.un; split<;>simp_all
 | w o x y ih1 ih2 =>
  intro hp;simp only[T.pure0,qTC]at hp;simp only[T.den,ih1 hp.1,ih2 hp.2]
 | _=>intro _; rfl
end
def qft {d x:D} {k:Nat} (h:x∈toL (cel d k)):SizeOf.sizeOf x<SizeOf.sizeOf d:=by
 unfold cel at h
 cases hc:d.cells[k]? with
 | none=>rw[zzG,hc]at h; cases h
 | some c =>
  rw[zzG,hc]at h;have hm:=qUi hc;have h1:SizeOf.sizeOf x<SizeOf.sizeOf c:=by
   cases c with
   | list l=>have:=List.sizeOf_lt_of_mem (show x∈l from h); simp; omega
   | _=>cases h
  cases d with
  | agg l=>have:=List.sizeOf_lt_of_mem (show c∈l from hm); simp; omega
  | _ =>
   have:=qUJ.1 hm;rw[this]at h1; exact h1
def qzp:∀(n m:Nat) (d:D),SizeOf.sizeOf d<=n->SizeOf.sizeOf d<=m->qiX n d=qiX m d
 | 0,m,d,h,_=>by cases d<;>simp at h<;>omega
 | n+1,0,d,_,h=>by cases d<;>simp at h<;>omega
 | n+1,m+1,d,h1,h2=>by
  unfold qiX
  congr 2
  refine qUv fun x hx=>?_
  have:=qft hx;exact qzp n m x (by omega) (by omega)
def qKD (d:D):qaa d=1+Jd (toL (cel d 10)):=by
 unfold qaa Jd
 cases hn:SizeOf.sizeOf d with
 | zero=>cases d<;>simp at hn
 | succ n =>
  show 1+_=_
  congr 2
  refine qUv fun x hx=>?_
  have:=qft hx;exact qzp n _ x (by omega) (qTF _)
def qsl:∀{l:List D} {x:D},x∈l->qaa x<=Jd l
 | y::r,x,h=>by
  show _<=max (qaa y) (Jd r);rcases qTD.1 h with rfl|h
  ·exact Nat.le_max_left _ _
  ·exact qT2 (qsl h) (Nat.le_max_right _ _)
def qzq {n:Nat}:∀{l:List D},(∀x∈l,qaa x<=n)->Jd l<=n
 | [],_=>qVB _|y::r,h=>Nat.max_le.2 ⟨h y (by simp),qzq fun x hx=>h x (qTG _ hx)⟩
def qzr:∀(n m:Nat) (d:D),SizeOf.sizeOf d<=n->SizeOf.sizeOf d<=m->qiW n d=qiW m d
 | 0,m,d,h,_=>by cases d<;>simp at h<;>omega
 | n+1,0,d,_,h=>by cases d<;>simp at h<;>omega
 | n+1,m+1,d,h1,h2=>by
  unfold qiW
  congr 2
  refine qUv fun x hx=>?_
  have:=qft hx;exact qzr n m x (by omega) (by omega)
def qKE (l:List D):Yo 1000 l=(l.map nsz).sum:=by
 induction l with
 | nil=>rfl|cons x l ih =>
  show qce 1000 x+Yo 1000 l=_;rw[ih]; rfl
def qzs (d:D):nsz d=1+(toL (cel d 11)).length+Yo 1000 (toL (cel d 10)):=by
 rw[qKE];unfold nsz
 cases hn:SizeOf.sizeOf d with
 | zero=>cases d<;>simp at hn
 | succ n =>
  show 1+_+_=_
  congr 2
  refine qUv fun x hx=>?_
  have:=qft hx;exact qzr n _ x (by omega) (qTF _)
def qsm (k:Nat) (a b:List D):Yo k (a++b)=Yo k a+Yo k b:=by
 induction a with
 | nil=>simp[Yo]|cons x a ih=>simp only[qUR,Yo,ih]; omega
def qzt (k n:Nat) (l:List D):Yo k (l.take n)<=Yo k l:=by
 have:=qsm k (l.take n) (l.drop n);rw[qUw]at this; omega
def qsn {k n:Nat} {l:List D} (h:n<l.length):Yo k (l.take (n+1))=Yo k (l.take n)+qce k (l.getD n .nilp):=by
 have e:l.take (n+1)=l.take n++[l[n]]:=by simp[List.take_append_getElem]
 rw[e,qsm,zzG,qTE h];rfl
def qso (k:Nat):∀{l:List D} {x:D},x∈l->qce k x<=Yo k l
 | y::r,x,h=>by
  show _<=qce k y+Yo k r;rcases qTD.1 h with rfl|h
  ·omega
  ·have:=qso k h; omega
end Go.Aev.R
end
