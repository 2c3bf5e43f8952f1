/- Lemmas for the statements of this seat: an abstract machine that the model follows, and contracts of functions. Conditions: none. -/
import Derived.Test.YtakpdahnlpjooaaGreatDoorA09
import Derived.KernelRfl
set_option linter.all false
set_option maxRecDepth 1000000
set_option maxHeartbeats 0
noncomputable section
namespace Go.Aev
variable [Glob]
open Go.RowKit (Below)
variable {w0:World} {own:Own} {m:Mp} {S:Nat→Prop} {w:World} {rows:Rows}
def qfT (g:qv):V→Option V
 | .d x=>some (.d x)|.nil=>some .nil|.fn f []=>some (.fn f [])|.sl r k off len c ex=>match qbX g (.sl r k off len c ex)with
  | some (x,_)=>some (.d x)|none=>none
 | _=>none
def qdP (f:V→Option V):List V→Option (List V)
 | []=>some []|v::r=>match f v,qdP f r with
  | some x,some l=>some (x::l)|_,_=>none
def qfU (g:qv):V→Option V
 | .agg cs=>match YY g cs with
  | some (ds,_)=>some (.d (.agg ds))|none=>(qdP (qfT g) cs).map V.agg
 | v=>qfT g v
def frz (g:qv):Nat→V→Option V
 | 0,_=>none|n+1,v=>match v with
  | .d x=>some (.d x)|.nil=>some .nil|.fp cs=>some (.fp cs)|.fm ks xs=>some (.fm ks xs)|.fn f cs=>(qQ (frz g n) cs).map (V.fn f)|.pt r k i f=>match g r with
   | some (.box cs _)=>if i*k+f=0 then(qQ (frz g n) cs).map V.fp else none
   | _=>none
  | .mp r=>match g r with
   | some (.map es _ _)=>(qQ (frz g n) (es.map (·.2))).map (V.fm (es.map (·.1)))|_=>none
  | _=>none
def qcw (g:qv):V→Option V
 | .tup vs=>(qdP (qfU g) vs).map V.tup|v=>match qfU g v with
  | some x=>some x|none=>frz g 6 v
def GE (g:qv) (rows:Rows):Prop:=∀r row,g r=some row→∃row',rows[r]?=some (qd.live row')∧row'.freeze=row.freeze
theorem qtX {row:Row} (h:row.freeze.rw=false):row.rw=false→row.freeze=row:=by
 cases row<;>simp[Row.freeze,Row.rw]at h ⊢
theorem qtY (inv:Inv w0 own m S w rows) {g:qv} (hg:GE g rows) {r:Nat} {row:Row} {b o:Nat} (hr:g r=some row) (hf:row.freeze.rw=false) (hm:m r=some (b,o)) :
  ∃S',Inv w0 own m S' w (qz rows r (qd.live row.freeze))∧Ext m S w m S' w∧S' b∧GE g (qz rows r (qd.live row.freeze))∧∃row',rows[r]?=some (qd.live row')∧row'.freeze=row.freeze:=by
 obtain⟨row',h1,h2⟩:=hg r row hr;have hl:=qbT h1;have hge:GE g (qz rows r (qd.live row.freeze)):=by
  intro q row2 hq;rw[JF (qUo hl)]
  by_cases e:q=r
  ·subst e;rw[hr]at hq; cases hq;rw[if_pos rfl];exact⟨_,rfl,by cases row<;>rfl⟩
  ·rw[if_neg e]; exact hg q row2 hq
 rw[←h2]at hf
 cases hw:row'.rw with
 | true =>
  obtain⟨k1,k2⟩:=inv.freeze r row' b o h1 hf hw hm;rw[h2]at k1;exact⟨_,k1,k2,.inr rfl,hge,row',h1,h2⟩
 | false =>
  have e:=qtX hf hw;have hsame:qz rows r (qd.live row.freeze)=rows:=by rw[←h2,e]; exact qdF h1
  rw[hsame];rw[hsame]at hge;exact⟨S,inv,Ext.refl ..,inv.rost r row' b o h1 hw hm,hge,row',h1,h2⟩
def qtZ (f:V→Option V) (g:qv):Prop:=∀{w0:World} {own:Own} {m:Mp} {S:Nat→Prop} {w:World} {rows:Rows},Inv w0 own m S w rows→GE g rows→∀{v x:V} {u:Value},f v=some x→RV m S w v u →
  ∃S' rows',Inv w0 own m S' w rows'∧Ext m S w m S' w∧RF S' w x u∧GE g rows'
theorem qjP {f:V→Option V} {g:qv} (hf:qtZ f g):∀{cs xs:List V} {us:Nat→Value} {S:Nat→Prop} {rows:Rows},Inv w0 own m S w rows→GE g rows→qQ f cs=some xs→(∀(j:Nat) (x:V),cs[j]?=some x→RV m S w x (us j)) →
  ∃S' rows',Inv w0 own m S' w rows'∧Ext m S w m S' w∧(∀(j:Nat) (x:V),xs[j]?=some x→RF S' w x (us j))∧GE g rows'∧xs.length=cs.length
 | [],xs,us,S,rows,inv,hg,h,hv=>by
  cases h;exact⟨S,rows,inv,Ext.refl ..,fun j x h=>by simp at h,hg,rfl⟩
 | v::cs,xs,us,S,rows,inv,hg,h,hv=>by
  simp only[qQ]at h;split at h
  ·rename_i x l h1 h2;cases h;obtain⟨S1,rows1,i1,e1,r1,g1⟩:=hf inv hg h1 (hv 0 v rfl);obtain⟨S2,rows2,i2,e2,r2,g2,l2⟩:=qjP hf (us:=fun j=>us (j+1)) i1 g1 h2 (fun j x hx=>(hv (j+1) x (by simpa using hx)).ext e1);refine⟨S2,rows2,i2,e1.trans e2,fun j y hy=>?_,g2,by simp[l2]⟩
   cases j with
   | zero=>simp at hy; subst hy; exact r1.ext e2|succ j=>simp at hy; exact r2 j y hy
  ·cases h
theorem qBB (g:qv) (n:Nat):qtZ (frz g n) g:=by
 induction n with
 | zero=>intro w0 own m S w rows inv hg v x u h hv; cases h
 | succ n ih =>
  intro w0 own m S w rows inv hg v x u h hv
  cases v with
  | d y=>simp only[frz]at h; cases h; exact⟨S,rows,inv,Ext.refl ..,.d _ _ (Ya hv),hg⟩
  | nil=>simp only[frz]at h; cases h; cases hv; exact⟨S,rows,inv,Ext.refl ..,.nil,hg⟩
  | fp cs=>simp only[frz]at h; cases h; cases hv with|fp _ b o hf=>exact⟨S,rows,inv,Ext.refl ..,hf,hg⟩
  | fm ks xs=>simp only[frz]at h; cases h; cases hv with|fm _ _ b hf=>exact⟨S,rows,inv,Ext.refl ..,hf,hg⟩
  | fn f cs =>
   simp only[frz,qTP]at h;obtain⟨xs,hx,rfl⟩:=h
   cases hv with
   | fn _ _ arr hlen hd =>
   have get:∀(j:Nat),j<cs.length→arr[j]?=some (arr.getD j Go.undef):=fun j hj=>by
    have:j<arr.size:=by omega
    simp[Array.getD,this]
   obtain⟨S1,rows1,i1,e1,r1,g1,l1⟩:=qjP ih (us:=fun j=>arr.getD j Go.undef) inv hg hx (fun j x hx=>hd j x _ hx (get j (qL hx)));refine⟨S1,rows1,i1,e1,.fn _ _ arr (by omega) (fun j x v hx hv=>?_),g1⟩;have hj:=qL hx;rw[get j (by omega)]at hv;cases hv;exact r1 j x hx
  | pt r k i f =>
   simp only[frz]at h;split at h
   ·rename_i cs ro hgr;split at h
    ·rename_i h0;rw[qTP]at h;obtain⟨xs,hx,rfl⟩:=h
     cases hv with
     | pt r k i f b o hm =>
     obtain⟨S1,i1,e1,s1,g1,row',h1,h2⟩:=qtY inv hg hgr rfl hm;obtain⟨c,e,hb,hcs⟩:Yv m S w b o (.box cs ro):=by
      have:=Jc inv h1 hm;have h3:=this.freeze;rw[h2]at h3;exact h3
     obtain⟨S2,rows2,i2,e2,r2,g2,l2⟩:=qjP ih (us:=fun j=>(cl w b (o+j)).getD Go.undef) i1 g1 hx (fun j x hj=>by
      obtain⟨v,hv,hr⟩:=hcs j x hj;have:cl w b (o+j)=some v:=by rw[qat hb]; exact hv
      simp only[this,qTT];exact hr.ext e1)
     have ea:o+i*k+f=o:=by omega
     rw[ea];refine⟨S2,rows2,i2,e1.trans e2,.fp xs b o (fun j=>(cl w b (o+j)).getD Go.undef) (e2.sub b s1) (fun j x hj=>?_) r2,g2⟩;have hjl:=qL hj;obtain⟨v,hv,_⟩:=hcs j (cs[j]'(by omega)) (by simp[show j<cs.length by omega]);have:cl w b (o+j)=some v:=by rw[qat hb]; exact hv
     simp[this]
    ·cases h
   ·cases h
  | mp r =>
   simp only[frz]at h;split at h
   ·rename_i es clock ro hgr;rw[qTP]at h;obtain⟨xs,hx,rfl⟩:=h
    cases hv with
    | mp r b o hm =>
    obtain⟨S1,i1,e1,s1,g1,row',h1,h2⟩:=qtY inv hg hgr rfl hm;obtain⟨ents,hb,hsz,_,hcs⟩:Yv m S w b o (.map es clock ro):=by
     have:=Jc inv h1 hm;have h3:=this.freeze;rw[h2]at h3;exact h3
    have get:∀(j:Nat),j<es.length→∃e,ents[j]?=some e:=fun j hj=>⟨ents[j]'(by omega),by simp[show j<ents.size by omega]⟩
    obtain⟨S2,rows2,i2,e2,r2,g2,l2⟩:=qjP ih (us:=fun j=>match ents[j]? with|some e=>e.val|none=>Go.undef) i1 g1 hx (fun j x hj=>by
     rw[qT3,qTP]at hj;obtain⟨e,he,rfl⟩:=hj;obtain⟨t,ht⟩:=get j (qL he);simp only[ht];exact((hcs j e t he ht).2).ext e1)
    refine⟨S2,rows2,i2,e1.trans e2,.fm _ xs b ents clock (e2.sub b s1) hb (by simp[hsz]) (by rw[l2]; simp) (fun j k e hk he=>?_) (fun j x e hj he=>?_),g2⟩
    ·rw[qT3,qTP]at hk;obtain⟨q,hq,rfl⟩:=hk;exact((hcs j q e hq he).1).ext (e1.trans e2)
    ·have:=r2 j x hj;simp only[he]at this;exact this
   ·cases h
  | _=>simp only[frz]at h; cases h
structure qdQ where
 P:Program
 T:TypeId→Option Ty
 F:FuncId→Option Func
 rc:FuncId→Bool
 po:FuncId→Bool
 fuel:Nat
 wc:FuncId→Bool:=fun _=>false
 tab:FuncId→List V→Rows→Option V:=fun _ _ _=>none
def qhm (g:qv):V→Option (V×List (Nat×qd))
 | .agg cs=>match YY g cs with
  | some (ds,us)=>some (.d (.agg ds),us)|none=>none
 | .tup vs=>match YY g vs with
  | some (ds,us)=>some (.tup (ds.map V.d),us)|none=>none
 | _=>none
def cvN (g:qv) (k:Nat) (v:V):V×List (Nat×qd):=(qhm (fun r=>if r<k then none else g r) v).getD (v,[])
def qjQ (g:qv) (k:Nat) (v:V):Option (V×Rows) :=
 let v1:=(cvN g k v).1
 let rs:=List.range k++((V.deepRefs 4 v1).eraseDups).filter (fun r=>decide (k≤r))
 if rs.eraseDups.length=rs.length then
  match qQ (fun r=>qJ (fun r=>Yk r rs 0) (g r)) rs,qC (fun r=>Yk r rs 0) 8 v1 with
  | some rows0,some v0=>some (v0,rows0)|_,_=>none
 else none
def qdQ.cfg (b:qdQ):Nat→Cfg
 | 0=>{P:=b.P,T:=b.T,F:=b.F,rc:=b.rc,po:=b.po,RC:=b.tab,WC:=fun _ _ _=>none}
 | n+1 =>
  let c:=b.cfg n
  {P:=b.P,T:=b.T,F:=b.F,rc:=b.rc,po:=b.po,RC:=fun g args rows=>match b.tab g args rows with
   | some v=>some v|none=>if b.wc g then none else match Jd c g args with
    | some fr=>match qde c b.fuel {fr,stack:=[],rows}with
     | .done v rows'=>qcw (qr rows') v|_=>none
    | none=>none,
   WC:=fun g args rows=>if b.wc g then(match Jd c g args with
   | some fr=>match qde c b.fuel {fr,stack:=[],rows}with
    | .done v rows'=>qjQ (qr rows') rows.length v|_=>none
   | none=>none)else none}
structure BOK (b:qdQ):Prop where
 T:TOK b.P b.T
 F:∀g gf,b.F g=some gf→b.P.funcs[g]?=some gf∧(gf.name == "runtime.NumGoroutine")=false
 rc:∀g,b.rc g=true→∃gf,b.P.funcs[g]?=some gf∧gf.body.isSome=true∧(gf.name == "runtime.NumGoroutine")=false
 mixed:b.P.follows .mixedOrders=true
 tab:qi6 b.P b.tab
theorem qt0 (b:qdQ) (n:Nat):(b.cfg n).P=b.P:=by cases n<;>rfl
def qof (f:qv→V→Option V):Prop:=∀{w0:World} {own:Own} {m:Mp} {S:Nat→Prop} {w:World} {rows:Rows},Inv w0 own m S w rows→∀{g:qv} {v x:V} {u:Value},GD g rows→f g v=some x→RV m S w v u →
  ∃S' rows',Inv w0 own m S' w rows'∧Ext m S w m S' w∧(∀(m2:Mp),RV m2 S' w x u)∧GD g rows'
theorem qt1:qof qfT:=by
 intro w0 own m S w rows inv g v x u hg h hv;unfold qfT at h;split at h
 ·cases h; exact⟨S,rows,inv,Ext.refl ..,fun m2=>.d _ _ (Ya hv),hg⟩
 ·cases h; cases hv; exact⟨S,rows,inv,Ext.refl ..,fun m2=>.nil,hg⟩
 ·cases h
  cases hv with
  | fn _ _ arr hlen hd =>
   exact⟨S,rows,inv,Ext.refl ..,fun m2=>.fn _ _ arr hlen (fun j x v h=>by simp at h),hg⟩
 ·split at h
  ·rename_i y us hd;cases h;obtain⟨S',i1,e1,r1,g1,_,_⟩:=qnN inv hg hd hv;exact⟨S',_,i1,e1,fun m2=>.d _ _ r1,g1⟩
  ·cases h
 ·cases h
theorem qog {f:qv→V→Option V} (hf:qof f):∀{vs xs:List V} {us:List Value} {S:Nat→Prop} {rows:Rows} {g:qv},Inv w0 own m S w rows→GD g rows→qdP (f g) vs=some xs→RVs m S w vs us.toArray →
  ∃S' rows',Inv w0 own m S' w rows'∧Ext m S w m S' w∧(∀(m2:Mp),RVs m2 S' w xs us.toArray)∧GD g rows'
 | [],xs,us,S,rows,g,inv,hg,h,hv=>by
  simp[qdP]at h; subst h;exact⟨S,rows,inv,Ext.refl ..,fun m2=>⟨by have:=hv.1; simpa using this,fun j x v h=>by simp at h⟩,hg⟩
 | v::vs,xs,us,S,rows,g,inv,hg,h,hv=>by
  cases us with
  | nil=>have:=hv.1; simp at this
  | cons u us =>
   simp only[qdP]at h;split at h
   ·rename_i x l h1 h2;cases h;obtain⟨S1,rows1,i1,e1,r1,g1⟩:=hf inv hg h1 (hv.2 0 v u rfl (by simp));obtain⟨S2,rows2,i2,e2,r2,g2⟩:=qog hf i1 g1 h2 ((qi2 hv).ext e1);refine⟨S2,rows2,i2,e1.trans e2,fun m2=>?_,g2⟩;have ht:=r2 m2;refine⟨by have:=ht.1; simpa using this,fun j y z hy hz=>?_⟩
    cases j with
    | zero =>
     simp at hy hz; subst hy; subst hz;exact(r1 m2).ext ⟨fun _ _ h=>h,e2.sub,e2.obj,e2.size⟩
    | succ j=>simp at hy hz; exact ht.2 j y z hy (by simpa using hz)
   ·cases h
theorem qt2:qof qfU:=by
 intro w0 own m S w rows inv g v x u hg h hv;unfold qfU at h;split at h
 ·rename_i cs;split at h
  ·rename_i ds us hd;cases h
   cases hv with
   | agg _ arr hlen hd' =>
   obtain⟨S',i1,e1,⟨l1,r1⟩,g1,_,_⟩:=qha (arr:=arr.toList) inv hg hd (by rw[qVd]; exact⟨hlen,hd'⟩);exact⟨S',_,i1,e1,fun m2=>.d _ _ (.agg ds arr (by rw[←l1]; simp) (fun j d v a b=>r1 j d v a (by simpa using b))),g1⟩
  ·cases hc:qdP (qfT g) cs with
   | none=>rw[hc]at h; cases h
   | some xs =>
    rw[hc]at h; cases h
    cases hv with
    | agg _ arr hlen hd' =>
    obtain⟨S',rows',i1,e1,r1,g1⟩:=qog (us:=arr.toList) qt1 inv hg hc (by rw[qVd]; exact⟨hlen,hd'⟩);refine⟨S',rows',i1,e1,fun m2=>?_,g1⟩;have:=r1 m2;rw[qVd]at this;exact .agg xs arr this.1 this.2
 ·exact qt1 inv hg h hv
theorem qt3 (inv:Inv w0 own m S w rows) {v x:V} {u:Value} (h:qcw (qr rows) v=some x) (hv:RV m S w v u) :
  ∃S' rows',Inv w0 own m S' w rows'∧(∀(m2:Mp),RV m2 S' w x u):=by
 unfold qcw at h;split at h
 ·rename_i vs
  cases hc:qdP (qfU (qr rows)) vs with
  | none=>rw[hc]at h; cases h
  | some xs =>
   rw[hc]at h; cases h
   cases hv with
   | tup _ arr hlen hd =>
   obtain⟨S',rows',i1,e1,r1,_⟩:=qog (us:=arr.toList) qt2 inv (J6 rows).gd hc (by rw[qVd]; exact⟨hlen,hd⟩);refine⟨S',rows',i1,fun m2=>?_⟩;have:=r1 m2;rw[qVd]at this;exact .tup xs arr this.1 this.2
 ·split at h
  ·rename_i y hy;cases h;obtain⟨S',rows',i1,e1,r1,_⟩:=qt2 inv (J6 rows).gd hy hv;exact⟨S',rows',i1,r1⟩
  ·obtain⟨S',rows',i1,e1,r1,_⟩:=qBB (qr rows) 6 inv (fun r row hr=>⟨row,J6 rows r row hr,rfl⟩) h hv;exact⟨S',rows',i1,fun m2=>r1.toRV⟩
theorem Inv.rebase (inv:Inv w0 own m S w rows) (hro:∀(r:Nat) (row:Row),rows[r]?=some (qd.live row)→row.rw=false):Inv w ⟨fun _=>False,S⟩ m S w rows :=
 ⟨inv.none,inv.fre,inv.row,inv.bnd,fun r row b o h hw _=>(by rw[hro r row h]at hw; cases hw),inv.apart,inv.stab,inv.rost,inv.sbnd,fun b h=>.inl h,fun b h=>h,rfl,rfl,rfl,qTF _,fun _ _ _=>rfl,inv.glb⟩
theorem qt4 {g:qv}:∀{vs:List V} {xs:List D} {us:List (Nat×qd)},YY g vs=some (xs,us)→∀u∈us,∃row,g u.1=some row
 | [],xs,us,h=>by simp[YY]at h; obtain⟨_,rfl⟩:=h; intro u hu; cases hu
 | v::vs,xs,us,h=>by
  simp only[YY]at h;split at h
  ·rename_i x u1 l us' h1 h2;cases h;intro u hu;rcases qTH.1 hu with h3|h3
   ·unfold qbX at h1;split at h1
    ·cases h1; cases h3
    ·cases h1; cases h3
    ·split at h1
     ·rename_i hg;split at h1
      ·cases h1;rcases qUJ.1 h3 with rfl
       exact⟨_,hg⟩
      ·cases h1
     ·cases h1
    ·cases h1
   ·exact qt4 h2 u h3
  ·cases h
theorem qBC (inv:Inv w0 own m S w rows) {k:Nat} {v x:V} {us:List (Nat×qd)} {u:Value} (h:qhm (fun r=>if r<k then none else qr rows r) v=some (x,us)) (hv:RV m S w v u) :
  ∃S' rows',Inv w0 own m S' w rows'∧RV m S' w x u∧(∀r,r<k→qr rows' r=qr rows r)∧rows'.length=rows.length:=by
 have hg:GD (fun r=>if r<k then none else qr rows r) rows:=fun r kk es ro e=>by
  simp only at e;split at e
  ·cases e
  ·exact⟨ro,qc2 e,fun h=>h⟩
 have fin:∀{vs:List V} {ds:List D} {us:List (Nat×qd)} {arr:Array Value},YY (fun r=>if r<k then none else qr rows r) vs=some (ds,us)→RVs m S w vs arr →
   ∃S' rows',Inv w0 own m S' w rows'∧(arr.size=ds.length∧∀(j:Nat) (d:D) (v:Value),ds[j]?=some d→arr[j]?=some v→RD S' w d v)∧(∀r,r<k→qr rows' r=qr rows r)∧rows'.length=rows.length:=by
  intro vs ds us arr hd ha;obtain⟨S1,i1,e1,⟨l1,r1⟩,g1,k1,n1⟩:=qha (arr:=arr.toList) inv hg hd (by rw[qVd]; exact ha);refine⟨S1,_,i1,⟨by rw[←l1]; simp,fun j d v a b=>r1 j d v a (by simpa using b)⟩,fun r hr=>?_,n1⟩;refine qdM (k1 r fun u hu e=>?_);obtain⟨row,hrow⟩:=qt4 hd u hu;rw[e]at hrow;simp only[if_pos hr]at hrow;cases hrow
 unfold qhm at h;split at h
 ·rename_i cs;split at h
  ·rename_i ds us' hd;cases h
   cases hv with
   | agg _ arr hlen hd' =>
   obtain⟨S1,rows1,i1,⟨l1,r1⟩,k1,n1⟩:=fin hd ⟨hlen,hd'⟩;exact⟨S1,rows1,i1,.d _ _ (.agg ds arr l1 r1),k1,n1⟩
  ·cases h
 ·rename_i vs;split at h
  ·rename_i ds us' hd;cases h
   cases hv with
   | tup _ arr hlen hd' =>
   obtain⟨S1,rows1,i1,⟨l1,r1⟩,k1,n1⟩:=fin hd ⟨hlen,hd'⟩;refine⟨S1,rows1,i1,.tup _ arr (by simpa using l1) (fun j y v hy hv=>?_),k1,n1⟩;rw[qT3,qTP]at hy;obtain⟨d,hd2,rfl⟩:=hy;exact .d _ _ (r1 j d v hd2 hv)
  ·cases h
 ·cases h
theorem qS.norm {P:Program} {g:FuncId} {args:List V} {rows:Rows} {R:V→Rows→Prop} {v0:V} {rows0:Rows} (h:qS P g rows.length args rows R) (hnn:∀x y,R x y→qjQ (qr y) rows.length x=some (v0,rows0)) :
  qS P g rows.length args rows (fun x y=>x=v0∧y=rows0):=by
 intro w0 own m S w vs inv ha cs;obtain⟨e,w',fr,⟨u,x,y,rfl,hR,m',S',i2,r2,hm',hsz⟩,h3⟩:=h w0 own m S w vs inv ha cs;have hn:=hnn x y hR;unfold qjQ at hn;simp only at hn;split at hn
 ·rename_i hrs;split at hn
  ·rename_i ra va h1 h2;cases hn;have key:∃S2 rows2,Inv w0 own m' S2 w' rows2∧RV m' S2 w' (cvN (qr y) rows.length x).1 u∧qQ (fun r=>qJ (fun r=>Yk r (List.range rows.length++((V.deepRefs 4 (cvN (qr y) rows.length x).1).eraseDups).filter (fun r=>decide (rows.length≤r))) 0) (qr rows2 r)) (List.range rows.length++((V.deepRefs 4 (cvN (qr y) rows.length x).1).eraseDups).filter (fun r=>decide (rows.length≤r)))=some rows0:=by
    cases hc:qhm (fun r=>if r<rows.length then none else(qr y) r) x with
    | none =>
     have hcv:cvN (qr y) rows.length x=(x,[]):=by unfold cvN; rw[hc]; rfl
     rw[hcv]at h1 ⊢;exact⟨S',y,i2,r2,h1⟩
    | some p =>
     obtain⟨x1,us⟩:=p;have hcv:cvN (qr y) rows.length x=(x1,us):=by unfold cvN; rw[hc]; rfl
     rw[hcv]at h1 ⊢;obtain⟨S2,rows2,i3,r3,k3,_⟩:=qBC i2 hc r2;refine⟨S2,rows2,i3,r3,?_⟩;rw[←h1];have hdata:V.deepRefs 4 x1=[]:=by
      unfold qhm at hc;split at hc
      ·split at hc
       ·cases hc; rfl
       ·cases hc
      ·split at hc
       ·cases hc;simp only[V.deepRefs,List.flatMap_map];exact List.flatMap_eq_nil_iff.2 fun d _=>rfl
       ·cases hc
      ·cases hc
     refine qjJ fun r hr=>?_
     simp only[hdata]at hr;have hlt:r<rows.length:=by
      rcases qTH.1 hr with h4|h4
      ·simpa using h4
      ·simp at h4
     rw[k3 r hlt]
   obtain⟨S2,rows2,i3,r3,hmap⟩:=key;refine⟨_,w',fr,⟨u,v0,rows0,rfl,⟨rfl,rfl⟩,Yd m' _,S2,qhd i3 hrs hmap,qcj h2 r3,fun r hr p hp=>?_,hsz⟩,h3⟩;have hget:(List.range rows.length++((V.deepRefs 4 (cvN (qr y) rows.length x).1).eraseDups).filter (fun r=>decide (rows.length≤r)))[r]?=some r:=by
    rw[qTZ (by simpa using hr)];exact qVj hr
   simp only[Yd,hget,qVt];exact hm' r hr p hp
  ·cases hn
 ·cases hn
theorem qBD {P:Program} {g:FuncId} {args:List V} {rows:Rows} {lk:qv} {v v0:V} {rows0:Rows} (h:qS P g rows.length args rows (fun x y=>x=v∧qr y=lk)) (hn:qjQ lk rows.length v=some (v0,rows0)) :
  qS P g rows.length args rows (fun x y=>x=v0∧y=rows0) :=
 h.norm fun x y ⟨h1,h2⟩=>by rw[h1,h2]; exact hn
theorem qjR {b:qdQ} (hb:BOK b):∀n,COK (b.cfg n)
 | 0=>⟨hb.T,hb.F,hb.tab,fun g args rows v rows2 h=>(by cases h),hb.rc,hb.mixed⟩
 | n+1=>by
  have ih:=qjR hb n;refine⟨hb.T,hb.F,fun g args rows v h w0 own m S w vs inv hro hargs=>?_,fun g args rows v rows2 h=>?_,hb.rc,hb.mixed⟩
  ·simp only[qdQ.cfg]at h;split at h
   ·rename_i v1 ht;cases h;exact hb.tab g args rows v ht w0 own m S w vs inv hro hargs
   split at h
   ·cases h
   split at h
   ·rename_i fr hen;split at h
    ·rename_i v' rows' hrun;have hcalls:=qBW ih hen hrun (inv.rebase hro) hargs;rw[qt0]at hcalls;refine hcalls.mono fun e w' ⟨u,he,m',S',i1,r1⟩=>⟨u,he,?_⟩
     obtain⟨S2,rows2,i2,r2⟩:=qt3 i1 h r1;refine⟨S2,fun c hc=>i2.stb c hc,fun c hc=>?_,r2,fun c hc=>i2.kept c hc (fun h=>h),i2.grow,i2.os,i2.tape,i2.output⟩;rcases i2.base c hc with h1|h1|h1
     ·exact .inl h1
     ·exact .inr ⟨h1,i2.sbnd c hc⟩
     ·exact h1.elim
    ·cases h
   ·cases h
  ·simp only[qdQ.cfg]at h;split at h
   ·split at h
    ·rename_i fr hen;split at h
     ·rename_i v' rows' hrun;have hd:=qBX ih hen hrun rows.length;rw[qt0]at hd;refine qBD (lk:=qr rows') (v:=v') (fun w0 own m S w vs inv ha=>(hd w0 own m S w vs inv ha).mono fun e w' ⟨u,x,y,h1,⟨h2,h3⟩,h4⟩=>⟨u,x,y,h1,⟨h2,by rw[h3]⟩,h4⟩) h
     ·cases h
    ·cases h
   ·cases h
theorem Inv.start (w:World) {St:Nat→Prop} (hs:∀b,St b→b<w.heap.size) (hg:Glb St w):Inv w ⟨fun _=>False,St⟩ (fun _=>Option.none) St w [] :=
 ⟨fun _ _=>rfl,fun r h=>(by simp at h),fun r row h=>(by simp at h),fun r b o h=>(by cases h),fun r row b o h=>(by simp at h),fun r r' row row' b o b' o' _ h=>(by simp at h),fun r row b o h=>(by simp at h),
  fun r row b o h=>(by simp at h),fun b h=>hs b h,fun b h=>.inl h,fun b h=>h,rfl,rfl,rfl,qTF _,fun _ _ _=>rfl,hg⟩
end Go.Aev
end
noncomputable section
namespace Go.Aev
variable [Glob]
def qf:List Prop→Prop
 | []=>True|p::r=>p∧qf r
theorem Yh {a b:List Prop} (h:qf (a++b)):qf a∧qf b:=by
 induction a with
 | nil=>exact⟨trivial,h⟩|cons p a ih=>exact⟨⟨h.1,(ih h.2).1⟩,(ih h.2).2⟩
structure qB where
 row:Nat→Option (Nat→D):=fun _=>none
 lst:Nat→Option (Nat→D):=fun _=>none
 md:Nat:=0
 gd:Nat→Option Bool:=fun _=>none
 ar:Bool:=false
 sh:Bool:=false
 wr:Bool:=false
 sx:Bool:=false
 mz:Nat→Bool:=fun _=>false
 nz:Nat→Bool:=fun _=>false
 arr:Nat→Option (Nat×List D×(Nat→D)):=fun _=>none
 arrT:Nat→Option (Nat×List D×(Nat→D)):=fun _=>none
 glb:Nat→Option (Nat→D):=fun _=>none
 spl:Nat→Option (Nat×(Nat→D)):=fun _=>none
 mv:Nat→Option (List D):=fun _=>none
 lit:Nat→Option Int:=fun _=>none
def qB.atm (h:qB) (o:Operand):qB:=match o with
 | .tmp k=>match h.arrT k with
  | some x=>{h with arr:=fun _=>some x}
  | none=>h
 | _=>h
def qB.mdOf (h:qB) (args:List Operand):Nat:=match Nat.beq h.md 4 with
 | true=>match args with
  | [_,.tmp t]=>match h.mz t with
   | true=>3|false=>match h.nz t with
    | true=>1|false=>0
  | _=>0
 | false=>h.md
def qB.at (h:qB):Operand→Option (Nat→D)
 | .tmp t=>h.lst t|_=>none
def qB.litO (h:qB):Operand→Option Int
 | .tmp t=>h.lit t|_=>none
def qB.at' (h:qB):Operand→Option (Nat→D)
 | .global g=>h.glb g|_=>none
def qj9 (T:TypeId→Option Ty) (fh:Option (Nat→D)) (t:TypeId) (x ix:V):Option (List Prop×V) :=
 match T t,ix with
 | some y,.d (.int _ n)=>match y.desc with
  | .slice e=>match T e with
   | some z=>match x with
    | .sl r k off len _ _=>some ([k=z.size∧0≤n∧n<(len:Int)],.pt r k (off+n.toNat) 0)|.d (.list es)=>match fh with
     | some fh=>some ([0≤n∧n<(es.length:Int),es[n.toNat]?=some (fh n.toNat),(fh n.toNat).cells.length=z.size],.dp (fh n.toNat))|none=>none
    | _=>none
   | none=>none
  | _=>none
 | _,_=>none
theorem quz {T:TypeId→Option Ty} {h:Option (Nat→D)} {t:TypeId} {x ix v:V} {ps:List Prop} (e:qj9 T h t x ix=some (ps,v)) (hp:qf ps):qa1 T t x ix=some v:=by
 unfold qj9 at e;unfold qa1;split at e
 ·rename_i y q n hy;rw[hy];simp only at e ⊢;split at e
  ·rename_i el hd;simp only[hd];split at e
   ·rename_i z hz;simp only[hz];split at e
    ·cases e;simp only;rw[if_pos hp.1]
    ·split at e
     ·rename_i es fh;cases e;obtain⟨h1,h2,h3,_⟩:=hp;simp only;rw[if_pos h1,h2];simp only;rw[if_pos h3]
     ·cases e
    ·cases e
   ·cases e
  ·cases e
 ·cases e
def qoC (T:TypeId→Option Ty) (lt:Option Int) (fh:Option (Nat→D)) (t:TypeId) (x ix:V):Option (List Prop×V) :=
 match lt with
 | some z=>match ix with
  | .d (.int k n)=>match qj9 T fh t x (.d (.int k z))with
   | some (ps,v)=>some ((n=z)::ps,v)|none=>none
  | _=>none
 | none=>none
theorem qCj {T:TypeId→Option Ty} {lt:Option Int} {h:Option (Nat→D)} {t:TypeId} {x ix v:V} {ps:List Prop} (e:qoC T lt h t x ix=some (ps,v)) (hp:qf ps):qa1 T t x ix=some v:=by
 unfold qoC at e;split at e
 ·split at e
  ·split at e
   ·rename_i ps' v' hs;cases e;rw[hp.1];exact quz hs hp.2
   ·cases e
  ·cases e
 ·cases e
def qCk (y:Ty) (k f:Nat) (e:D):Option V :=
 if y.agg then
  if f=0∧y.size=k then some (.d (.agg e.cells))
  else if f+y.size≤k then some (.d (.agg ((e.cells.drop f).take y.size)))else none
 else match e.cells[f]? with
  | some c=>some (.d c)|none=>none
def qoD (T:TypeId→Option Ty) (h:qB) (g:qv) (t:TypeId) (a:V):Option (List Prop×V) :=
 match a with
 | .pt r k i f=>match h.row r with
  | some fh=>match T t,g r with
   | some y,some (.dat k' es _)=>match qCk y k f (fh i)with
    | some v=>some ([k=k'∧es[i]?=some (fh i)],v)|none=>none
   | _,_=>none
  | none=>none
 | _=>none
theorem qCl {T:TypeId→Option Ty} {h:qB} {g:qv} {t:TypeId} {a v:V} {ps:List Prop} (e:qoD T h g t a=some (ps,v)) (hp:qf ps):qa0 T g t a=some v:=by
 unfold qoD at e;split at e
 ·rename_i r k i f;split at e
  ·rename_i fh hfh;split at e
   ·rename_i y k' es ro hy hg;split at e
    ·rename_i v' hl;cases e;obtain⟨⟨h1,h2⟩,_⟩:=hp;unfold qa0;simp only[hy,hg];rw[if_pos h1,h2];exact hl
    ·cases e
   ·cases e
  ·cases e
 ·cases e
def qoE (T:TypeId→Option Ty) (h:qB) (t:TypeId) (x ix:V):Option (List Prop×V) :=
 match h.ar with
 | true=>match T t,ix with
  | some y,.d (.int _ n)=>match y.desc with
   | .array len e=>match T e with
    | some z=>match x with
     | .pt r k i f=>some ([0≤n∧n<(len:Int)],.pt r k i (f+n.toNat*z.size))|_=>none
    | none=>none
   | _=>none
  | _,_=>none
 | false=>none
theorem qCm {T:TypeId→Option Ty} {h:qB} {t:TypeId} {x ix v:V} {ps:List Prop} (e:qoE T h t x ix=some (ps,v)) (hp:qf ps):qa1 T t x ix=some v:=by
 unfold qoE at e;unfold qa1;split at e
 ·split at e
  ·rename_i y q n hy;rw[hy];simp only;split at e
   ·rename_i len el hd;simp only[hd];split at e
    ·rename_i z hz;simp only[hz];split at e
     ·cases e;simp only;rw[if_pos hp.1]
     ·cases e
    ·cases e
   ·cases e
  ·cases e
 ·cases e
def qoF (T:TypeId→Option Ty) (h:qB) (g:qv) (t:TypeId) (a:V):Option (List Prop×V) :=
 match h.ar with
 | true=>match a with
  | .pt r k i f=>match h.row r with
   | some fh=>match T t,g r with
    | some y,some (.box cs _)=>match y.agg with
     | true=>none|false=>some ([cs[i*k+f]?=some (.d (fh (i*k+f)))],.d (fh (i*k+f)))
    | _,_=>none
   | none=>none
  | _=>none
 | false=>none
theorem qCn {T:TypeId→Option Ty} {h:qB} {g:qv} {t:TypeId} {a v:V} {ps:List Prop} (e:qoF T h g t a=some (ps,v)) (hp:qf ps):qa0 T g t a=some v:=by
 unfold qoF at e;split at e
 ·split at e
  ·rename_i r k i f;split at e
   ·rename_i fh hfh;split at e
    ·rename_i y cs ro hy hg;split at e
     ·cases e
     ·rename_i ha;cases e;unfold qa0;simp only[hy,hg,ha];exact hp.1
    ·cases e
   ·cases e
  ·cases e
 ·cases e
def qoG (T:TypeId→Option Ty) (fh:Option (Nat→D)) (t:TypeId) (x ix:V):Option (List Prop×V) :=
 match fh with
 | some fh=>match T t,ix with
  | some y,.d (.int _ n)=>match y.desc,x with
   | .array len e,.d (.agg cs)=>match T e with
    | some z=>match z.agg with
     | true=>none|false=>match Nat.beq z.size 1 with
      | true=>some ([0≤n∧n<(len:Int),cs[n.toNat]?=some (fh n.toNat)],.d (fh n.toNat))|false=>some ([0≤n∧n<(len:Int),cs[n.toNat*z.size]?=some (fh n.toNat)],.d (fh n.toNat))
    | none=>none
   | _,_=>none
  | _,_=>none
 | none=>none
def qoH (T:TypeId→Option Ty) (t:TypeId) (x ix:V):Option (List Prop×V) :=
 match T t,ix with
 | some y,.d (.int _ n)=>match y.desc,x with
  | .string,.d (.str s)=>some ([0≤n∧n<(s.data.toList.length:Int)],.d (.int .u8 ((s.data.toList.getD n.toNat 0).toNat:Nat)))|_,_=>none
 | _,_=>none
theorem qCo {T:TypeId→Option Ty} {t:TypeId} {x ix v:V} {ps:List Prop} (e:qoH T t x ix=some (ps,v)) (hp:qf ps):qdH T t x ix=some v:=by
 unfold qoH at e;unfold qdH;split at e
 ·rename_i y q n hy;split at e
  ·rename_i s hd;rw[hy];cases e;obtain⟨⟨h1,h2⟩,_⟩:=hp;simp only[hd,if_pos h1];have hlt:n.toNat<s.size:=by
    show n.toNat<s.data.size;rw[←qVv]; omega
   have hs:s[n.toNat]?=some (s.data.toList.getD n.toNat 0):=by
    rw[getElem?_pos s n.toNat hlt]
    congr 1
    have h3:n.toNat<s.data.toList.length:=by rw[qVv]; exact hlt
    rw[List.getD_eq_getElem?_getD,qTE h3];rfl
   rw[hs]
  ·cases e
 ·cases e
theorem qCp {T:TypeId→Option Ty} {fh:Option (Nat→D)} {t:TypeId} {x ix v:V} {ps:List Prop} (e:qoG T fh t x ix=some (ps,v)) (hp:qf ps):qdH T t x ix=some v:=by
 unfold qoG at e;unfold qdH;split at e
 ·split at e
  ·rename_i y q n hy;rw[hy];simp only;split at e
   ·rename_i len el cs hd;simp only[hd];split at e
    ·rename_i z hz;simp only[hz];split at e
     ·cases e
     ·rename_i ha;split at e
      ·rename_i hz1;have hz1:=qTO hz1;cases e;obtain⟨h1,h2,_⟩:=hp;rw[if_pos h1];unfold qdG;simp only[ha,hz1,qUA,h2];rfl
      ·cases e;obtain⟨h1,h2,_⟩:=hp;rw[if_pos h1];unfold qdG;simp only[ha,h2];rfl
    ·cases e
   ·cases e
  ·cases e
 ·cases e
def qoI (T:TypeId→Option Ty) (h:qB) (g:qv) (t:TypeId) (a x:V):Option (List Prop×Res) :=
 match h.ar with
 | true=>match a,T t with
  | .pt r k i f,some y=>match g r with
   | some (.box cs false)=>some ([x.cells.length=y.size∧0<y.size∧x.cells.all V.one=true,i*k+f+y.size≤cs.length],
     {v:=V.undef,ups:=[(r,.live (.box (Yb cs (i*k+f) x.cells) false))]})
   | _=>none
  | _,_=>none
 | false=>none
theorem qCq {T:TypeId→Option Ty} {h:qB} {g:qv} {t:TypeId} {a x:V} {ps:List Prop} {res:Res} (e:qoI T h g t a x=some (ps,res)) (hp:qf ps):qaJ T g t a x=some res:=by
 unfold qoI at e;unfold qaJ;split at e
 ·split at e
  ·rename_i r k i f y hy;simp only[hy];split at e
   ·rename_i cs hg;cases e;obtain⟨a1,a2,_⟩:=hp;rw[if_pos a1];simp only[hg];rw[if_pos a2]
   ·cases e
  ·cases e
 ·cases e
def qhz (k i f:Nat):Option Nat:=match Nat.beq k 1 with
 | true=>match f with
  | 0=>some i|_=>none
 | false=>match i with
  | 0=>some f|_=>none
theorem qka {k i f j:Nat} (h:qhz k i f=some j):i*k+f=j:=by
 unfold qhz at h;split at h
 ·rename_i hk;have:=qTO hk;subst this;split at h
  ·cases h; omega
  ·cases h
 ·split at h
  ·cases h; omega
  ·cases h
def qoJ (f n:Nat):Nat:=match f with
 | 0=>n|f=>f+n
theorem qCr (f n:Nat):qoJ f n=f+n:=by
 cases f<;>simp[qoJ]
def qoK (T:TypeId→Option Ty) (h:qB) (t:TypeId) (x ix:V):Option (List Prop×V) :=
 match x with
 | .pt r k i f=>match h.arr r with
  | some _=>match i,T t,ix with
   | 0,some y,.d (.int _ n)=>match y.desc with
    | .array len e=>match T e with
     | some z=>match Nat.beq z.size 1 with
      | true=>some ([0≤n∧n<(len:Int)],.pt r k 0 (qoJ f n.toNat))|false=>none
     | none=>none
    | _=>none
   | _,_,_=>none
  | none=>none
 | _=>none
theorem qCs {T:TypeId→Option Ty} {h:qB} {t:TypeId} {x ix v:V} {ps:List Prop} (e:qoK T h t x ix=some (ps,v)) (hp:qf ps):qa1 T t x ix=some v:=by
 unfold qoK at e;unfold qa1;split at e
 ·rename_i r k i f;split at e
  ·split at e
   ·rename_i y q n hy;rw[hy];simp only;split at e
    ·rename_i len el hd;simp only[hd];split at e
     ·rename_i z hz;simp only[hz];split at e
      ·rename_i h1;cases e;rw[if_pos hp.1,qCr,qTO h1,qUA]
      ·cases e
     ·cases e
    ·cases e
   ·cases e
  ·cases e
 ·cases e
def qoL (T:TypeId→Option Ty) (fh:Option (Nat→D)) (t:TypeId) (x ix:V):Option (List Prop×V) :=
 match x with
 | .dp (.agg cs)=>match fh with
  | some fh=>match T t,ix with
   | some y,.d (.int _ n)=>match y.desc with
    | .array len e=>match T e with
     | some z=>match Nat.beq z.size 1 with
      | true=>some ([0≤n∧n<(len:Int),cs[n.toNat]?=some (fh n.toNat),(fh n.toNat).cells.length=1,(!(fh n.toNat).isAgg)=true],.dp (fh n.toNat))|false=>none
     | none=>none
    | _=>none
   | _,_=>none
  | none=>none
 | _=>none
theorem qCt {T:TypeId→Option Ty} {fh:Option (Nat→D)} {t:TypeId} {x ix v:V} {ps:List Prop} (e:qoL T fh t x ix=some (ps,v)) (hp:qf ps):qa1 T t x ix=some v:=by
 unfold qoL at e;unfold qa1;split at e
 ·rename_i cs;split at e
  ·rename_i fh;split at e
   ·rename_i y q n hy;rw[hy];simp only;split at e
    ·rename_i len el hd;simp only[hd];split at e
     ·rename_i z hz;simp only[hz];split at e
      ·rename_i h1;cases e;obtain⟨⟨a1,a2⟩,a3,a4,a5,_⟩:=hp;rw[if_pos ⟨a1,a2,qTO h1⟩];have:(D.agg cs).cells[n.toNat]?=some (fh n.toNat):=a3;simp only[this];rw[if_pos ⟨a4,by simpa using a5⟩]
      ·cases e
     ·cases e
    ·cases e
   ·cases e
  ·cases e
 ·cases e
def qoM (T:TypeId→Option Ty) (h:qB) (g:qv) (t:TypeId) (a:V):Option (List Prop×V) :=
 match a with
 | .pt r k i f=>match h.arr r with
  | some (N,ds,fh)=>match T t,g r with
   | some y,some (.box cs _)=>match y.agg with
    | false=>match qhz k i f with
     | some j=>some ([cs=ds.map V.d,ds[j]?=some (fh j)],.d (fh j))|none=>none
    | true=>match i,f,Nat.beq y.size N with
     | 0,0,true=>some ([cs=ds.map V.d,ds.length≤N,N≤ds.length],.d (.agg ds))|_,_,_=>match qhz k i f with
      | some j=>some ([cs=ds.map V.d,j+y.size≤ds.length],.d (.agg ((ds.drop j).take y.size)))|none=>none
   | _,_=>none
  | none=>none
 | _=>none
theorem qCu (ds:List D):qap (ds.map V.d)=some ds:=by
 induction ds with
 | nil=>rfl|cons d r ih=>simp only[qUa,qap,ih]
theorem quA (ds:List D):qc3 (ds.map V.d)=.d (.agg ds):=by
 unfold qc3;rw[qCu]
theorem qCv {T:TypeId→Option Ty} {h:qB} {g:qv} {t:TypeId} {a v:V} {ps:List Prop} (e:qoM T h g t a=some (ps,v)) (hp:qf ps):qa0 T g t a=some v:=by
 unfold qoM at e;split at e
 ·rename_i r k i f;split at e
  ·rename_i N ds fh hfh;split at e
   ·rename_i y cs ro hy hg;unfold qa0;simp only[hy,hg];split at e
    ·rename_i ha;split at e
     ·rename_i j hj;cases e;obtain⟨a1,a2,_⟩:=hp;simp only[ha];rw[qka hj,a1,qT3,a2];rfl
     ·cases e
    ·rename_i ha;simp only[ha];split at e
     ·rename_i hN;cases e;obtain⟨a1,a2,a3,_⟩:=hp;have hs:=qTO hN;rw[if_pos trivial,if_pos (by rw[a1,qTS]; omega),a1];simp only[qVh,qT6,qTY];rw[←qUL,qTX (by omega),quA]
     ·split at e
      ·rename_i j hj;cases e;obtain⟨a1,a2,_⟩:=hp;rw[if_pos trivial,qka hj,if_pos (by rw[a1,qTS]; omega),a1];rw[←qV5,←qUL,quA]
      ·cases e
   ·cases e
  ·cases e
 ·cases e
def qoN (T:TypeId→Option Ty) (h:qB) (g:qv) (t:TypeId) (a x:V):Option (List Prop×Res) :=
 match a with
 | .pt r k i f=>match h.arr r with
  | some (N,ds,_)=>match T t,g r with
   | some y,some (.box cs false)=>match y.agg with
    | false=>match qhz k i f,x with
     | some j,.d d=>some ([cs=ds.map V.d,j<ds.length,d.cells.length=1∧y.size=1∧(!d.isAgg)=true],{v:=V.undef,ups:=[(r,.live (.box ((ds.set j d).map V.d) false))]})|_,_=>none
    | true=>match i,f,Nat.beq y.size N,x with
     | 0,0,true,.d (.agg es)=>some ([cs=ds.map V.d,ds.length≤N,N≤ds.length,es.length≤N,N≤es.length,0<y.size,es.all (fun d=>!d.isAgg)=true],{v:=V.undef,ups:=[(r,.live (.box (es.map V.d) false))]})
     | _,_,_,_=>none
   | _,_=>none
  | none=>none
 | _=>none
theorem qCw {T:TypeId→Option Ty} {h:qB} {g:qv} {t:TypeId} {a x:V} {ps:List Prop} {res:Res} (e:qoN T h g t a x=some (ps,res)) (hp:qf ps):qaJ T g t a x=some res:=by
 unfold qoN at e;split at e
 ·rename_i r k i f;split at e
  ·rename_i N ds fh hfh;split at e
   ·rename_i y cs hy hg;unfold qaJ;simp only[hy];split at e
    ·split at e
     ·rename_i j d hj;cases e;obtain⟨a1,a2,⟨b1,b2,b3⟩,_⟩:=hp;have hna:d.isAgg=false:=by simpa using b3
      have hc:(V.d d).cells=[V.d d]:=by
       cases d<;>first|rfl|cases hna
      rw[hc,if_pos ⟨by rw[b2]; rfl,by omega,by simp[V.one,hna]⟩];simp only[hg];rw[if_pos (by rw[qka hj,a1,qTS]; omega),qka hj,a1]
      congr 4
      unfold Yb;rw[List.map_set,List.set_eq_take_append_cons_drop,if_pos (by rw[qTS]; exact a2),qTW];rfl
     ·cases e
    ·split at e
     ·rename_i es hN;cases e;obtain⟨a1,a2,b2,a3,b3,a4,a5,_⟩:=hp;have hs:=qTO hN;have hc:(V.d (.agg es)).cells=es.map V.d:=rfl;rw[hc,if_pos ⟨by rw[qTS]; omega,a4,by
       rw[qTI]at a5 ⊢;intro v hv;obtain⟨d,hd,rfl⟩:=qTV.1 hv;exact a5 d hd⟩]
      simp only[hg];rw[if_pos (by rw[a1,qTS]; omega)]
      congr 4
      unfold Yb;rw[a1];simp only[qVh,qT6,List.take_zero,qUG,qTS];rw[qVf (by rw[qTS]; omega),qT7]
     ·cases e
   ·cases e
  ·cases e
 ·cases e
def qoO (T:TypeId→Option Ty) (h:qB) (g:qv) (t:TypeId) (a x:V):Option (List Prop×Res) :=
 match a with
 | .pt r k i f=>match h.spl r with
  | some (N,fh)=>match T t,g r,x with
   | some y,some (.box cs false),.d (.agg es)=>match y.agg&&Nat.beq y.size N with
    | true=>some ([es=(List.range N).map fh,0<y.size,((List.range N).map fh).all (fun d=>!d.isAgg)=true,i*k+f+N≤cs.length],
      {v:=V.undef,ups:=[(r,.live (.box (Yb cs (i*k+f) (((List.range N).map fh).map V.d)) false))]})
    | false=>none
   | _,_,_=>none
  | none=>none
 | _=>none
theorem qCx {T:TypeId→Option Ty} {h:qB} {g:qv} {t:TypeId} {a x:V} {ps:List Prop} {res:Res} (e:qoO T h g t a x=some (ps,res)) (hp:qf ps):qaJ T g t a x=some res:=by
 unfold qoO at e;split at e
 ·rename_i r k i f;split at e
  ·rename_i N fh hfh;split at e
   ·rename_i y cs es hy hg;split at e
    ·rename_i hN;rw[qTC]at hN;have hs:=qTO hN.2;cases e;obtain⟨a1,a2,a3,a4,_⟩:=hp;unfold qaJ;have hc:(V.d (.agg es)).cells=((List.range N).map fh).map V.d:=by rw[←a1]; rfl
     have hl:(((List.range N).map fh).map V.d).length=N:=by simp
     simp only[hy];rw[hc,if_pos ⟨by rw[hl,hs],a2,by
      rw[qTI]at a3 ⊢;intro v hv;obtain⟨d,hd,rfl⟩:=qTV.1 hv;exact a3 d hd⟩]
     simp only[hg];rw[if_pos (by omega)]
    ·cases e
   ·cases e
  ·cases e
 ·cases e
def qa4 (o:Option V) (d:Nat):Option (List Prop×Nat) :=
 match o with
 | none=>some ([],d)|some (.d (.int _ n))=>some ([0≤n],n.toNat)|_=>none
theorem J8 {o:Option V} {d n:Nat} {ps:List Prop} (e:qa4 o d=some (ps,n)) (hp:qf ps):YQ o d=some n:=by
 unfold qa4 at e;split at e
 ·cases e; rfl
 ·cases e;simp only[YQ];rw[if_pos hp.1]
 ·cases e
def qoP (T:TypeId→Option Ty) (t:TypeId) (x:V) (lo hi mx:Option V):Option (List Prop×V) :=
 match T t with
 | some y=>match y.desc,x with
  | .slice e,.sl r k off len c ex=>match T e,qa4 lo 0,qa4 hi len with
   | some z,some (p1,l),some (p2,h)=>match mx with
    | none=>some (p1++(p2++[k=z.size∧l≤h∧h≤len]),.sl r k (off+l) (h - l) (c - l) ex)|some _=>match qa4 mx 0 with
     | some (p3,m)=>some (p1++(p2++(p3++[k=z.size∧l≤h∧h≤len∧h≤m∧m≤c∧hi.isSome=true])),.sl r k (off+l) (h - l) (m - l) true)|none=>none
   | _,_,_=>none
  | .slice e,.d (.list es)=>match T e,qa4 lo 0,qa4 hi es.length with
   | some z,some (p1,l),some (p2,h)=>match mx with
    | none=>some (p1++(p2++[l≤h∧h≤es.length,es.all (fun e=>e.cells.length==z.size)=true]),.d (.list ((es.drop l).take (h - l))))
    | some _=>match qa4 mx 0 with
     | some (p3,m)=>some (p1++(p2++(p3++[l≤h∧h≤es.length∧h≤m∧m≤es.length∧hi.isSome=true,es.all (fun e=>e.cells.length==z.size)=true])),.d (.list ((es.drop l).take (h - l))))
     | none=>none
   | _,_,_=>none
  | _,_=>none
 | none=>none
theorem qCy {T:TypeId→Option Ty} {g:qv} {t:TypeId} {x v:V} {lo hi mx:Option V} {ps:List Prop} (e:qoP T t x lo hi mx=some (ps,v)) (hp:qf ps):qcr T g t x lo hi mx=some v:=by
 unfold qoP at e;unfold qcr;split at e
 ·rename_i y hy;rw[hy];simp only;split at e
  ·rename_i el r k off len c ex hd;simp only[hd];split at e
   ·rename_i z p1 l p2 h hz hlo hhi;split at e
    ·cases e;obtain⟨h1,h2⟩:=Yh hp;obtain⟨h3,h4⟩:=Yh h2;simp only[hz,J8 hlo h1,J8 hhi h3];rw[if_pos ⟨h4.1.1,h4.1.2.1,.inl h4.1.2.2⟩]
    ·split at e
     ·rename_i p3 m hmx;cases e;obtain⟨h1,h2⟩:=Yh hp;obtain⟨h3,h4⟩:=Yh h2;obtain⟨h5,h6⟩:=Yh h4;obtain⟨⟨a1,a2,a3,a4,a5,a6⟩,_⟩:=h6;simp only[hz,J8 hlo h1,J8 hhi h3];rw[if_pos ⟨a1,a2,.inl a3⟩];simp only[J8 hmx h5];rw[if_pos ⟨a4,a5,a6⟩]
     ·cases e
   ·cases e
  ·rename_i el es hd;simp only[hd];split at e
   ·rename_i z p1 l p2 h hz hlo hhi;split at e
    ·cases e;obtain⟨h1,h2⟩:=Yh hp;obtain⟨h3,⟨h4,h5⟩,h6,_⟩:=Yh h2;simp only[hz,J8 hlo h1,J8 hhi h3];rw[if_pos ⟨h4,h5,h6⟩]
    ·split at e
     ·rename_i p3 m hmx;cases e;obtain⟨h1,h2⟩:=Yh hp;obtain⟨h3,h4⟩:=Yh h2;obtain⟨h5,⟨a1,a2,a3,a4,a5⟩,a6,_⟩:=Yh h4;simp only[hz,J8 hlo h1,J8 hhi h3];rw[if_pos ⟨a1,a2,a6⟩];simp only[J8 hmx h5];rw[if_pos ⟨a3,a4,a5⟩]
     ·cases e
   ·cases e
  ·cases e
 ·cases e
def qoQ (T:TypeId→Option Ty) (h:qB) (g:qv) (t:TypeId) (x:V) (lo hi mx:Option V):Option (List Prop×V) :=
 match x with
 | .pt r k i f=>match h.arr r with
  | some (_,ds,_)=>match i,T t,g r with
   | 0,some y,some (.box cs _)=>match y.desc with
    | .array n e=>match T e,qa4 lo 0,qa4 hi n,mx with
     | some z,some (p1,l),some (p2,hh),none=>match Nat.beq z.size 1 with
      | true=>some (p1++(p2++[cs=ds.map V.d,l≤hh,hh≤n,f+n≤ds.length,0<n]),.sl r 1 (f+l) (hh - l) (n - l) true)|false=>none
     | _,_,_,_=>none
    | _=>none
   | _,_,_=>none
  | none=>none
 | _=>none
theorem qCz {T:TypeId→Option Ty} {h:qB} {g:qv} {t:TypeId} {x v:V} {lo hi mx:Option V} {ps:List Prop} (e:qoQ T h g t x lo hi mx=some (ps,v)) (hp:qf ps):qcr T g t x lo hi mx=some v:=by
 unfold qoQ at e;split at e
 ·rename_i r k i f;split at e
  ·split at e
   ·rename_i y cs ro hy hg;split at e
    ·rename_i n el hd;split at e
     ·rename_i z p1 l p2 hh hz hlo hhi;split at e
      ·rename_i h1;cases e;obtain⟨q1,q2⟩:=Yh hp;obtain⟨q3,a1,a2,a3,a4,a5,_⟩:=Yh q2;unfold qcr;simp only[hy,hd,hz,J8 hlo q1,J8 hhi q3,hg];rw[if_pos ⟨qTO h1,a2,a3,by rw[a1,qTS]; omega,a5⟩];simp only[qVh,qT6]
      ·cases e
     ·cases e
    ·cases e
   ·cases e
  ·cases e
 ·cases e
def qoR (T:TypeId→Option Ty) (g:qv) (t:TypeId) (x:V) (lo hi mx:Option V):Option (List Prop×V) :=
 match T t with
 | some y=>match y.desc,x with
  | .slice e,.sl r k off len c ex=>match T e,qa4 lo 0,qa4 hi len,g r with
   | some z,some (p1,l),some (p2,h),some (.dat _ es _)=>match mx with
    | none=>some (p1++(p2++[k=z.size∧l≤h∧h≤c∧off+h≤es.length]),.sl r k (off+l) (h - l) (c - l) ex)|some _=>match qa4 mx 0 with
     | some (p3,m)=>some (p1++(p2++(p3++[k=z.size∧l≤h∧h≤c∧off+h≤es.length∧h≤m∧m≤c∧hi.isSome=true])),.sl r k (off+l) (h - l) (m - l) true)|none=>none
   | _,_,_,_=>none
  | _,_=>none
 | none=>none
theorem qCA {T:TypeId→Option Ty} {g:qv} {t:TypeId} {x v:V} {lo hi mx:Option V} {ps:List Prop} (e:qoR T g t x lo hi mx=some (ps,v)) (hp:qf ps):qcr T g t x lo hi mx=some v:=by
 unfold qoR at e;unfold qcr;split at e
 ·rename_i y hy;rw[hy];simp only;split at e
  ·rename_i el r k off len c ex hd;simp only[hd];split at e
   ·rename_i z p1 l p2 h es ro hz hlo hhi hg;split at e
    ·cases e;obtain⟨h1,h2⟩:=Yh hp;obtain⟨h3,⟨a1,a2,a3,a4⟩,_⟩:=Yh h2;simp only[hz,J8 hlo h1,J8 hhi h3];rw[if_pos ⟨a1,a2,.inr ⟨a3,by simp only[qn6,hg]; exact decide_eq_true a4⟩⟩]
    ·split at e
     ·rename_i p3 m hmx;cases e;obtain⟨h1,h2⟩:=Yh hp;obtain⟨h3,h4⟩:=Yh h2;obtain⟨h5,h6⟩:=Yh h4;obtain⟨⟨a1,a2,a3,b3,a4,a5,a6⟩,_⟩:=h6;simp only[hz,J8 hlo h1,J8 hhi h3];rw[if_pos ⟨a1,a2,.inr ⟨a3,by simp only[qn6,hg]; exact decide_eq_true b3⟩⟩];simp only[J8 hmx h5];rw[if_pos ⟨a4,a5,a6⟩]
     ·cases e
   ·cases e
  ·cases e
 ·cases e
def qkb (g:qv) (k:Nat):V→Option (List Prop×List D)
 | .nil=>some ([],[])|.d (.list es)=>some ([es.all (fun e=>e.cells.length==k)=true],es)
 | .d (.str s)=>some ([k=1],q8 s)|.sl r k' off len _ _=>match g r with
  | some (.dat k'' es _)=>some ([k=k'∧k'=k''∧off+len≤es.length],(es.drop off).take len)|_=>none
 | _=>none
theorem qdW {g:qv} {k:Nat} {v:V} {ps:List Prop} {ds:List D} (e:qkb g k v=some (ps,ds)) (hp:qf ps):qdL g k v=some ds:=by
 unfold qkb at e;unfold qdL qdK;split at e
 ·cases e; rfl
 ·cases e;simp only;rw[if_pos hp.1]
 ·cases e;simp only;rw[if_pos hp.1]
 ·rename_i r k' off len c ex;split at e
  ·rename_i k'' es ro hg;cases e;simp only[hg];rw[if_pos hp.1]
  ·cases e
 ·cases e
def qoS (T:TypeId→Option Ty) (md:Nat) (g:qv) (slot:Nat) (t u:TypeId) (s x:V):Option (List Prop×Res) :=
 match T t,T u with
 | some y,some yu=>match y.desc,qn7 yu.desc with
  | .slice e,true=>match T e with
   | some z=>match qkb g z.size x with
    | some (p,ds)=>match s with
     | .nil=>if md=3 then some (p++[0<z.size∧ds.length≤0],{v:=.nil})else some (p++[0<z.size∧ds.length≠0∧2*ds.length*z.bytes≤2 ^ 48∧ds.length≤2 ^ 62],{v:=.sl slot z.size 0 ds.length ds.length false,fresh:=some (.dat z.size ds false)})
     | .sl r k off len c ex=>match g r with
      | some (.dat k' es ro) =>
       if md=3 then some (p++[0<z.size∧ds.length≤0],{v:=.sl r k off len c ex})
       else if md=2 then
        match ro with
        | true=>none|false=>some (p++[0<z.size∧ds.length≠0∧k=z.size∧k'=k∧off+len≤es.length∧len+ds.length≤c],
          {v:=.sl r k off (len+ds.length) c ex,ups:=[(r,.live (.dat k' (es.take (off+len)++ds++es.drop (off+len+ds.length)) false))]})
       else match ex,ro with
        | true,_=>some (p++[0<z.size∧ds.length≠0∧k=z.size∧k'=k∧off+len≤es.length∧¬len+ds.length≤c∧2*(len+ds.length)*z.bytes≤2 ^ 48∧len+ds.length≤2 ^ 62],
          {v:=.sl slot k 0 (len+ds.length) (len+ds.length) false,fresh:=some (.dat k' ((es.drop off).take len++ds) false)})
        | false,false=>some (p++[0<z.size∧ds.length≠0∧k=z.size∧k'=k∧off+len≤es.length∧¬len+ds.length≤c∧2*(len+ds.length)*z.bytes≤2 ^ 48∧len+ds.length≤2 ^ 62],
          {v:=.sl slot k 0 (len+ds.length) (len+ds.length) false,ups:=[(r,.dead)],fresh:=some (.dat k' ((es.drop off).take len++ds) false)})
        | _,_=>none
      | _=>none
     | _=>none
    | none=>none
   | none=>none
  | _,_=>none
 | _,_=>none
theorem qCB {T:TypeId→Option Ty} {md:Nat} {g:qv} {slot:Nat} {t u:TypeId} {s x:V} {ps:List Prop} {res:Res} (e:qoS T md g slot t u s x=some (ps,res)) (hp:qf ps):qhg T g slot t u s x=some res:=by
 unfold qoS at e;unfold qhg;split at e
 ·rename_i y yu hy hyu;simp only[hy,hyu];split at e
  ·rename_i el hd hdu;simp only[hd,hdu];split at e
   ·rename_i z hz;simp only[hz];split at e
    ·rename_i p ds hel;split at e
     ·split at e
      ·cases e;obtain⟨h1,⟨a1,a2⟩,_⟩:=Yh hp;simp only[qdW hel h1];rw[if_pos a1,if_pos (Nat.le_zero.1 a2)]
      ·cases e;obtain⟨h1,⟨a1,a2,a3,a4⟩,_⟩:=Yh hp;simp only[qdW hel h1];rw[if_pos a1,if_neg a2,if_pos ⟨a3,a4⟩]
     ·rename_i r k off len c ex;split at e
      ·rename_i k' es ro hg;split at e
       ·cases e;obtain⟨h1,⟨a1,a2⟩,_⟩:=Yh hp;simp only[qdW hel h1,hg];rw[if_pos a1,if_pos (Nat.le_zero.1 a2)]
       split at e
       ·split at e
        ·cases e
        ·cases e;obtain⟨h1,⟨a1,a2,a3,a4,a5,a6⟩,_⟩:=Yh hp;simp only[qdW hel h1,hg];rw[if_pos a1,if_neg a2,if_pos ⟨a3,a4,a5⟩,if_pos a6];rfl
       ·split at e
        ·cases e;obtain⟨h1,⟨a1,a2,a3,a4,a5,a6,a7,a8⟩,_⟩:=Yh hp;simp only[qdW hel h1,hg];rw[if_pos a1,if_neg a2,if_pos ⟨a3,a4,a5⟩,if_neg a6,if_pos ⟨a7,a8⟩];rfl
        ·cases e;obtain⟨h1,⟨a1,a2,a3,a4,a5,a6,a7,a8⟩,_⟩:=Yh hp;simp only[qdW hel h1,hg];rw[if_pos a1,if_neg a2,if_pos ⟨a3,a4,a5⟩,if_neg a6,if_pos ⟨a7,a8⟩];rfl
        ·cases e
      ·cases e
     ·cases e
    ·cases e
   ·cases e
  ·cases e
 ·cases e
def qoT (T:TypeId→Option Ty) (g:qv) (t:TypeId) (d s:V):Option (List Prop×Res) :=
 match T t with
 | some y=>match y.desc with
  | .slice e=>match T e with
   | some z=>match d,qkb g z.size s with
    | .sl r k off len _ _,some (p,ds)=>match g r with
     | some (.dat k' es false)=>some (p++[k=z.size∧k'=k∧off+len≤es.length],
       {v:=.d (.int .i64 (min ds.length len:Nat)),ups:=[(r,.live (.dat k' (es.take off++ds.take (min ds.length len)++es.drop (off+min ds.length len)) false))]})
     | some (.box cs false)=>some (p++[k=z.size∧z.size=1∧off+len≤cs.length],
       {v:=.d (.int .i64 (min ds.length len:Nat)),ups:=[(r,.live (.box (Yb cs off ((qq (ds.take (min ds.length len))).map V.d)) false))]})
     | _=>none
    | _,_=>none
   | none=>none
  | _=>none
 | none=>none
theorem qCC {T:TypeId→Option Ty} {g:qv} {t:TypeId} {d s:V} {ps:List Prop} {res:Res} (e:qoT T g t d s=some (ps,res)) (hp:qf ps):qhh T g t d s=some res:=by
 unfold qoT at e;unfold qhh;split at e
 ·rename_i y hy;simp only[hy];split at e
  ·rename_i el hd;simp only[hd];split at e
   ·rename_i z hz;simp only[hz];split at e
    ·rename_i r k off len c ex p ds hel;split at e
     ·rename_i k' es hg;cases e;obtain⟨h1,h2,_⟩:=Yh hp;simp only[qdW hel h1,hg];rw[if_pos h2]
     ·rename_i cs hg;cases e;obtain⟨h1,h2,_⟩:=Yh hp;simp only[qdW hel h1,hg];rw[if_pos h2]
     ·cases e
    ·cases e
   ·cases e
  ·cases e
 ·cases e
def qoU (T:TypeId→Option Ty) (g:qv) (t:TypeId) (d:V):Option (List Prop×Res) :=
 match T t with
 | some y=>match y.desc with
  | .slice e=>match T e with
   | some z=>match d with
    | .sl r k off len _ _=>match g r,Jq z.zero.cells.toList with
     | some (.dat k' es false),some zs=>match YY (fun _=>none) zs with
      | some (ds,_)=>some ([k=z.size∧k'=k∧0<k∧off+len≤es.length∧zs.length=z.size],
        {v:=V.undef,ups:=[(r,.live (.dat k' (es.take off++List.replicate len (JG z.agg ds)++es.drop (off+len)) false))]})
      | none=>none
     | _,_=>none
    | _=>none
   | none=>none
  | _=>none
 | none=>none
theorem qCD {T:TypeId→Option Ty} {g:qv} {t:TypeId} {d:V} {ps:List Prop} {res:Res} (e:qoU T g t d=some (ps,res)) (hp:qf ps):qhi T g t d=some res:=by
 unfold qoU at e;unfold qhi;split at e
 ·rename_i y hy;simp only[hy];split at e
  ·rename_i el hd;simp only[hd];split at e
   ·rename_i z hz;simp only[hz];split at e
    ·rename_i r k off len c ex;split at e
     ·rename_i k' es zs hg hzs;split at e
      ·rename_i ds us hds;cases e;simp only[hg,hzs,hds];rw[if_pos hp.1]
      ·cases e
     ·cases e
    ·cases e
   ·cases e
  ·cases e
 ·cases e
def qoV (T:TypeId→Option Ty) (h:qB) (g:qv) (t:TypeId) (a x:V):Option (List Prop×Res) :=
 match a,T t with
 | .pt r k i f,some y=>match g r with
  | some (.dat k' es false)=>match YY g x.cells with
   | some (ds,us)=>match (if f=0∧y.size=k then none else h.row r)with
    | some fh=>some ([x.cells.length=y.size∧0<y.size∧x.cells.all V.one=true,es[i]?=some (fh i),k=k'∧f+y.size≤k∧us.all (fun u=>u.1 != r)=true],
      {v:=V.undef,ups:=us++[(r,.live (.dat k' (es.set i (if f=0∧y.size=k then JG y.agg ds else D.agg (Yb (fh i).cells f ds))) false))]})
    | none=>some ([x.cells.length=y.size∧0<y.size∧x.cells.all V.one=true,i<es.length,k=k'∧f=0∧y.size=k∧us.all (fun u=>u.1 != r)=true],
      {v:=V.undef,ups:=us++[(r,.live (.dat k' (es.set i (JG y.agg ds)) false))]})
   | none=>none
  | _=>none
 | _,_=>none
theorem qCE {T:TypeId→Option Ty} {h:qB} {g:qv} {t:TypeId} {a x:V} {ps:List Prop} {res:Res} (e:qoV T h g t a x=some (ps,res)) (hp:qf ps):qaJ T g t a x=some res:=by
 unfold qoV at e;unfold qaJ;split at e
 ·rename_i r k i f y hy;simp only[hy];split at e
  ·rename_i k' es hg;split at e
   ·rename_i ds us hds;split at e
    ·rename_i fh hfh;cases e;obtain⟨a1,a2,a3,_⟩:=hp;rw[if_pos a1];simp only[hg,hds,a2];rw[if_pos a3]
    ·cases e;obtain⟨a1,a2,⟨b1,b2,b3,b4⟩,_⟩:=hp;rw[if_pos a1];simp only[hg,hds,qTE a2];rw[if_pos ⟨b1,by omega,b4⟩,if_pos ⟨b2,b3⟩]
   ·cases e
  ·cases e
 ·cases e
def qoW (T:TypeId→Option Ty) (op:BinOp) (t:TypeId) (x y:V):Option (List Prop×V) :=
 match x,y with
 | .sl _ _ _ _ c _,.nil=>match T t with
  | some z=>match z.desc,op with
   | .slice _,.eql=>some ([0<c],.d (.bool false))|.slice _,.neq=>some ([0<c],.d (.bool true))|_,_=>none
  | none=>none
 | .d (.list es),.nil=>match T t with
  | some z=>match z.desc,op with
   | .slice _,.eql=>some ([es≠[]],.d (.bool false))|.slice _,.neq=>some ([es≠[]],.d (.bool true))|_,_=>none
  | none=>none
 | _,_=>none
theorem qCF {T:TypeId→Option Ty} {op:BinOp} {t:TypeId} {x y v:V} {ps:List Prop} (e:qoW T op t x y=some (ps,v)) (hp:qf ps):Jr T op t x y=some v:=by
 unfold qoW at e;split at e
 ·rename_i r k off len c ex;split at e
  ·rename_i z hz;split at e
   ·rename_i el hd;cases e;obtain⟨c',rfl⟩:∃c',c=c'+1:=⟨c - 1,by have:=hp.1; omega⟩
    simp only[Jr,eqA,hz,qdI,hd]
   ·rename_i el hd;cases e;obtain⟨c',rfl⟩:∃c',c=c'+1:=⟨c - 1,by have:=hp.1; omega⟩
    simp only[Jr,eqA,hz,qdI,hd];rfl
   ·cases e
  ·cases e
 ·rename_i es;split at e
  ·rename_i z hz;split at e
   ·rename_i el hd;cases e
    cases es with
    | nil=>exact absurd rfl hp.1|cons x es =>
     simp only[Jr,eqA,hz,qdI,hd]
   ·rename_i el hd;cases e
    cases es with
    | nil=>exact absurd rfl hp.1|cons x es =>
     simp only[Jr,eqA,hz,qdI,hd];rfl
   ·cases e
  ·cases e
 ·cases e
def qi (n:Int):Prop:=-9223372036854775808≤n∧n≤9223372036854775807
theorem qf4 {n:Int} (h:qi n):IntKind.wrap .i64 n=n:=by
 unfold qi at h;simp[IntKind.wrap,IntKind.bits,IntKind.signed];omega
def qoX (op:BinOp) (x y:V):Option (List Prop×V) :=
 match x,y with
 | .d (.int .i64 a),.d (.int .i64 b)=>match op with
  | .add=>some ([qi (a+b)],.d (.int .i64 (a+b)))|.sub=>some ([qi (a - b)],.d (.int .i64 (a - b)))|.mul=>some ([qi (a*b)],.d (.int .i64 (a*b)))|_=>none
 | _,_=>none
theorem qCG {T:TypeId→Option Ty} {op:BinOp} {t:TypeId} {x y v:V} {ps:List Prop} (e:qoX op x y=some (ps,v)) (hp:qf ps):Jr T op t x y=some v:=by
 unfold qoX at e;split at e
 ·split at e
  ·cases e; simp only[Jr,if_true,qc4,qUj,qf4 hp.1]
  ·cases e; simp only[Jr,if_true,qc4,qUj,qf4 hp.1]
  ·cases e; simp only[Jr,if_true,qc4,qUj,qf4 hp.1]
  ·cases e
 ·cases e
def one (r:Option (List Prop×V)):Option (List Prop×Res):=r.map fun p=>(p.1,{v:=p.2})
def qa5:List D→List D→Bool
 | [],[]=>true|.int _ a::xs,.int _ b::ys=>(a==b)&&qa5 xs ys|_,_=>false
def qcB (k:IntKind):D→Bool
 | .int k' _=>decide (k'=k)|_=>false
def qeX (T:TypeId→Option Ty) (op:BinOp) (t:TypeId) (x y:V):Option (List Prop×V) :=
 match x,y with
 | .d (.agg xs),.d (.agg ys)=>match eqG T 16 t with
  | true=>match T t with
   | some z=>match z.desc with
    | .array n e=>match T e with
     | some ze=>match ze.desc,Nat.beq ze.size 1,op with
      | .int k,true,.eql=>some ([xs.all (qcB k)=true,ys.all (qcB k)=true,xs.length=n,ys.length=n],.d (.bool (qa5 xs ys)))|.int k,true,.neq=>some ([xs.all (qcB k)=true,ys.all (qcB k)=true,xs.length=n,ys.length=n],.d (.bool (!qa5 xs ys)))|_,_,_=>none
     | none=>none
    | _=>none
   | none=>none
  | false=>none
 | _,_=>none
theorem qCH {T:TypeId→Option Ty} {e:TypeId} {ze:Ty} {k:IntKind} {N:Nat} (he:T e=some ze) (hd:ze.desc=.int k) (h1:ze.size=1) {X Y:List D} :
  ∀(m i:Nat) (xs ys:List D),X.drop i=xs→Y.drop i=ys→xs.length=m→ys.length=m→xs.all (qcB k)=true→ys.all (qcB k)=true→qeG (eqD T (N+1) e) ze X Y (List.range' i m)=some (qa5 xs ys):=by
 intro m
 induction m with
 | zero =>
  intro i xs ys _ _ hx hy _ _;rw[qVS.1 hx,qVS.1 hy]; rfl
 | succ m ih =>
  intro i xs ys hX hY hx hy ax ay
  match xs,ys,hx,hy with
  | a::xs,b::ys,hx,hy =>
   have gx:X[i]?=some a:=by
    have:=congrArg (fun l=>l[0]?) hX;simpa using this
   have gy:Y[i]?=some b:=by
    have:=congrArg (fun l=>l[0]?) hY;simpa using this
   rw[qUZ,qTC]at ax ay;have tx:X.drop (i+1)=xs:=by have:=congrArg List.tail hX; simpa using this
   have ty:Y.drop (i+1)=ys:=by have:=congrArg List.tail hY; simpa using this
   have hi:=ih (i+1) xs ys tx ty (by simpa using hx) (by simpa using hy) ax.2 ay.2;obtain⟨a1,a2⟩:=ax;obtain⟨b1,b2⟩:=ay;cases a<;>simp only[qcB]at a1<;>try (cases a1; done)
   cases b<;>simp only[qcB]at b1<;>try (cases b1; done)
   rename_i k1 z1 k2 z2;have e1:=of_decide_eq_true a1;have e2:=of_decide_eq_true b1;subst e1; subst e2;have hag:ze.agg=false:=by unfold Ty.agg; rw[hd]
   have p1:qcl ze X (i*ze.size)=some (.int k2 z1):=by unfold qcl; rw[hag,h1,qUA]; exact gx
   have p2:qcl ze Y (i*ze.size)=some (.int k2 z2):=by unfold qcl; rw[hag,h1,qUA]; exact gy
   have q:eqD T (N+1) e (.int k2 z1) (.int k2 z2)=some (z1==z2):=by
    unfold eqD;simp only[he,hd,Y7,if_true,qbq]
   rw[qVU];simp only[qeG,p1,p2,q];show _=some ((z1==z2)&&qa5 xs ys)
   cases hz:(z1==z2)with
   | true=>simp only[hi,qUB]|false=>simp only[qU3]
theorem qCI {T:TypeId→Option Ty} {op:BinOp} {t:TypeId} {x y v:V} {ps:List Prop} (e:qeX T op t x y=some (ps,v)) (hp:qf ps):qdD T op t x y=some v:=by
 unfold qeX at e;split at e
 ·rename_i xs ys;split at e
  ·rename_i hg;split at e
   ·rename_i z hz;split at e
    ·rename_i n el hd;split at e
     ·rename_i ze hze;have key:∀(k:IntKind),ze.desc=.int k→Nat.beq ze.size 1=true→xs.all (qcB k)=true→ys.all (qcB k)=true→xs.length=n→ys.length=n→eqD T 16 t (.agg xs) (.agg ys)=some (qa5 xs ys):=by
       intro k hk h1 a1 a2 a3 a4;have:=qCH (N:=14) (X:=xs) (Y:=ys) hze hk (qTO h1) n 0 xs ys (by simp) (by simp) a3 a4 a1 a2;unfold eqD;have hk2:Y7 (.array n el) (.agg xs)=false:=rfl;simp only[hz,hd,hze,hk2];rw[←qVV]at this;simpa using this
      split at e
      ·rename_i k hk h1;cases e;obtain⟨a1,a2,a3,a4,_⟩:=hp;simp only[qdD,hg,if_true,key k hk h1 a1 a2 a3 a4]
      ·rename_i k hk h1;cases e;obtain⟨a1,a2,a3,a4,_⟩:=hp;simp only[qdD,hg,if_true,key k hk h1 a1 a2 a3 a4]
      ·cases e
     ·cases e
    ·cases e
   ·cases e
  ·cases e
 ·cases e
theorem qCJ {T:TypeId→Option Ty} {op:BinOp} {t:TypeId} {x y v:V} {ps:List Prop} (e:qeX T op t x y=some (ps,v)):Jr T op t x y=none:=by
 unfold qeX at e;split at e
 ·rename_i xs ys;split at e
  ·split at e
   ·rename_i z hz;split at e
    ·rename_i n el hd;simp only[Jr,eqA,hz,hd,qdI]
    ·cases e
   ·cases e
  ·cases e
 ·cases e
theorem qCK {T:TypeId→Option Ty} {op:BinOp} {t:TypeId} {x y:V} (ps:List Prop) (res:Res) (e:one (qeX T op t x y)=some (ps,res)) (hp:qf ps):orD (Jr T op t x y) ((qdD T op t x y).map fun v=>{v})=some res:=by
 unfold one at e
 cases hq:qeX T op t x y with
 | none=>rw[hq]at e; cases e
 | some p =>
  rw[hq]at e;cases e;rw[qCJ hq,qCI hq hp]; rfl
def qoY (op:BinOp) (x y:V):Option (List Prop×V) :=
 match x,y with
 | .d (.int k a),.d (.int k' b)=>match op with
  | .shl=>some ([0≤b],.d (.int k (k.wrap (a*2 ^ (min b.toNat k.bits)))))|.shr=>some ([0≤b],.d (.int k (a.fdiv (2 ^ (min b.toNat k.bits)))))|.quo=>some ([k=k',b≠0],.d (.int k (k.wrap (a.tdiv b))))|.rem=>some ([k=k',b≠0],.d (.int k (a.tmod b)))|_=>none
 | _,_=>none
theorem qCL {T:TypeId→Option Ty} {op:BinOp} {t:TypeId} {x y v:V} {ps:List Prop} (e:qoY op x y=some (ps,v)) (hp:qf ps):Jr T op t x y=some v:=by
 unfold qoY at e;split at e
 ·split at e
  ·cases e; simp only[Jr]; rw[if_neg (by have:=hp.1; omega)]
  ·cases e; simp only[Jr]; rw[if_neg (by have:=hp.1; omega)]
  ·cases e;obtain⟨h1,h2,_⟩:=hp;simp only[Jr];rw[if_pos h1];simp only[qc4];rw[if_neg h2];rfl
  ·cases e;obtain⟨h1,h2,_⟩:=hp;simp only[Jr];rw[if_pos h1];simp only[qc4];rw[if_neg h2];rfl
  ·cases e
 ·cases e
def qkc (h:qB) (c:Operand) (b:Bool) (x y:V):Option (List Prop×V) :=
 match c with
 | .tmp t=>match h.gd t with
  | some v=>some ([b=v],match v with|true=>x|false=>y)
  | none=>none
 | _=>none
theorem qCM {h:qB} {c:Operand} {b:Bool} {x y v:V} {ps:List Prop} (e:qkc h c b x y=some (ps,v)) (hp:qf ps):(if b then x else y)=v:=by
 unfold qkc at e;split at e
 ·split at e
  ·rename_i bv _;cases e;have:=hp.1;subst this;cases b<;>rfl
  ·cases e
 ·cases e
def unB:D→UInt8
 | .int _ n=>UInt8.ofNat n.toNat|_=>0
theorem qCN (c:UInt8):unB (Yr c)=c:=by simp[unB,Yr]
theorem quB (l:List UInt8):(qh l).map unB=l:=by
 unfold qh; rw[qUs];have:unB∘Yr=id:=by funext c; exact qCN c
 rw[this,qVp]
def qkd (T:TypeId→Option Ty) (s d:TypeId) (x:V):Option (List Prop×V) :=
 match T s,T d with
 | some y,some z=>match y.desc,z.desc with
  | .slice e,.string=>match qcX T e,x with
   | true,.d (.list ds)=>some ([ds=qh (ds.map unB)],.d (.str ⟨(ds.map unB).toArray⟩))|_,_=>none
  | _,_=>none
 | _,_=>none
def qke (T:TypeId→Option Ty) (h:qB) (g:qv) (s d:TypeId) (x:V):Option (List Prop×V) :=
 match x with
 | .sl r k off len _ _=>match T s,T d with
  | some y,some z=>match y.desc,z.desc with
   | .slice e,.string=>match qcX T e with
    | true=>match g r with
     | some (.dat k' es _)=>some ([k=1,k'=1,off+len≤es.length,(es.drop off).take len=qh (((es.drop off).take len).map unB)],.d (.str ⟨(((es.drop off).take len).map unB).toArray⟩))|some (.box cs _)=>match h.arr r with
      | some (_,ds,_)=>some ([k=1,cs=ds.map V.d,off+len≤ds.length,(ds.drop off).take len=qh (((ds.drop off).take len).map unB)],.d (.str ⟨(((ds.drop off).take len).map unB).toArray⟩))|none=>none
     | _=>none
    | false=>none
   | _,_=>none
  | _,_=>none
 | _=>none
def qoZ (T:TypeId→Option Ty) (slot:Nat) (t:TypeId) (l c:V):Option (List Prop×Res) :=
  match T t,l,c with
  | some y,.d (.int _ l),.d (.int _ c)=>match y.desc with
    | .slice e=>match T e with
      | some z=>match Jq z.zero.cells.toList with
        | some zs=>match Glob.mkb t with
         | true=>none|false=>match YY (fun _=>none) zs with
          | some (ds,_)=>some ([0≤l∧l≤c∧c<2 ^ 62∧(z.bytes:Int)*c≤2 ^ 48∧zs.length=z.size∧0<z.size],
              {v:=.sl slot z.size 0 l.toNat c.toNat true,fresh:=some (.dat z.size (List.replicate l.toNat (JG z.agg ds)) false)})
          | none=>none
        | none=>none
      | none=>none
    | _=>none
  | _,_,_=>none
theorem qCO {T:TypeId→Option Ty} {slot:Nat} {t:TypeId} {l c:V} {ps:List Prop} {res:Res} (e:qoZ T slot t l c=some (ps,res)) (hp:qf ps):qeL T slot t l c=some res:=by
 unfold qoZ at e;unfold qeL;split at e
 ·rename_i y _ l _ c hy;rw[hy];simp only at e ⊢;split at e
  ·rename_i el hd;simp only[hd];split at e
   ·rename_i z hz;simp only[hz];split at e
    ·rename_i zs hzs;simp only[hzs];split at e
     ·cases e
     ·rename_i hm;simp only[hm];split at e
      ·rename_i ds us hds;simp only[hds];cases e;rw[if_pos hp.1]
      ·cases e
    ·cases e
   ·cases e
  ·cases e
 ·cases e
def qo0 (T:TypeId→Option Ty) (lt:Option Int) (slot:Nat) (t:TypeId) (l c:V):Option (List Prop×Res) :=
 match lt with
 | some q=>match Glob.mkb t with
  | true=>match T t,l,c with
   | some y,.d (.int _ l),.d (.int _ c)=>match y.desc with
    | .slice e=>match T e with
     | some z=>match Jq z.zero.cells.toList with
      | some [.nil]=>some ([l=q,c=q,0≤q∧q<2 ^ 62∧(z.bytes:Int)*q≤2 ^ 48∧z.size=1],
        {v:=.sl slot 1 0 q.toNat q.toNat true,fresh:=some (.box (List.replicate q.toNat .nil) false)})
      | _=>none
     | none=>none
    | _=>none
   | _,_,_=>none
  | false=>none
 | none=>none
theorem qCP {T:TypeId→Option Ty} {lt:Option Int} {slot:Nat} {t:TypeId} {l c:V} {ps:List Prop} {res:Res} (e:qo0 T lt slot t l c=some (ps,res)) (hp:qf ps):qeL T slot t l c=some res:=by
 unfold qo0 at e;split at e
 ·rename_i q;split at e
  ·rename_i hm;split at e
   ·rename_i y _ l _ c hy;split at e
    ·rename_i el hd;split at e
     ·rename_i z hz;split at e
      ·rename_i hzs;cases e;obtain⟨a1,a2,⟨b1,b2,b3,b4⟩,_⟩:=hp;subst a1; subst a2;unfold qeL;rw[hy];simp only[hd,hz,hzs,hm];rw[if_pos ⟨b1,trivial,b2,b3,b4⟩]
      ·cases e
     ·cases e
    ·cases e
   ·cases e
  ·cases e
 ·cases e
def qav (r:Option Res):Option (List Prop×Res):=r.map fun x=>([],x)
def YK (a b:Option (List Prop×Res)):Option (List Prop×Res) :=
 match a with
 | some x=>some x|none=>b
def qkf (T:TypeId→Option Ty) (h:qB) (g:qv) (slot:Nat) (o:Op) (vs:List V):Option (List Prop×Res) :=
 match o with
 | .indexAddr t a b=>match vs with
  | [x,i]=>YK (one (qoC T (h.litO b) (h.at a) t x i))<|YK (one (qoK T h t x i)) (YK (one (qoL T (h.at' a) t x i)) (YK (one (qj9 T (h.at a) t x i)) (YK (one (qoE T h t x i)) (qav (act T g slot o vs)))))
  | _=>none
 | .load t pl=>match vs with
  | [a]=>YK (one (qoM T (h.atm pl) g t a))<|YK (one (qoD T h g t a)) (YK (one (qoF T h g t a)) (qav (act T g slot o vs)))
  | _=>none
 | .store t pl _=>match vs with
  | [a,x]=>YK (qoN T (h.atm pl) g t a x)<|YK (qoO T h g t a x)<|YK (qoV T h g t a x) (YK (qoI T h g t a x) (qav (act T g slot o vs)))
  | _=>none
 | .index t a _=>match vs with
  | [x,i]=>YK (match h.sx with
    | true=>one (qoH T t x i)|false=>none) (YK (one (qoG T (h.at a) t x i)) (qav (act T g slot o vs)))
  | _=>none
 | .slice t _ l hh mx=>match vs with
  | x::vs'=>YK (one (qoQ T h g t x (YB l vs').1 (YB hh (YB l vs').2).1 (YB mx (YB hh (YB l vs').2).2).1))<|YK (match Nat.ble 2 h.md&&Nat.ble h.md 3 with
    | true=>one (qoR T g t x (YB l vs').1 (YB hh (YB l vs').2).1 (YB mx (YB hh (YB l vs').2).2).1)|false=>none) (YK (one (qoP T t x (YB l vs').1 (YB hh (YB l vs').2).1 (YB mx (YB hh (YB l vs').2).2).1)) (qav (act T g slot o vs)))
  | _=>none
 | .binOp op t _ _ _=>match vs with
  | [x,y]=>YK (one (qeX T op t x y))<|YK (match h.wr with
    | true=>none|false=>one (qoX op x y)) (YK (one (qoW T op t x y)) (YK (match h.sh with
    | true=>one (qoY op x y)|false=>none) (qav (act T g slot o vs))))
  | _=>none
 | .pick c _ _=>match vs with
  | [.d (.bool b),x,y]=>YK (one (qkc h c b x y)) (qav (act T g slot o vs))|_=>none
 | .convert a b _=>match vs with
  | [x]=>YK (one (qkd T a b x)) (YK (one (qke T h g a b x)) (qav (act T g slot o vs)))|_=>none
 | .makeSlice t a _=>match vs with
  | [l,c]=>YK (qo0 T (h.litO a) slot t l c)<|YK (qoZ T slot t l c) (qav (act T g slot o vs))
  | _=>none
 | .call c=>match c.callee with
  | .builtin .append=>match h.mdOf c.args.toList with
   | 0=>qav (act T g slot o vs)|md=>match c.argTypes.toList,vs with
    | [t,u],[s,x]=>qoS T md g slot t u s x|_,_=>none
  | .builtin .copy=>match c.argTypes.toList,vs with
   | [t,_],[d,s]=>qoT T g t d s|_,_=>none
  | .builtin .clear=>match c.argTypes.toList,vs with
   | [t],[d]=>YK (qoU T g t d) (qav (act T g slot o vs))|_,_=>none
  | _=>qav (act T g slot o vs)
 | _=>qav (act T g slot o vs)
theorem qo1:∀l:List UInt8,qck (qh l)=some l
 | []=>rfl|c::l=>by
  have e:qg1 (Yr c)=some c:=by
   unfold qg1 Yr;simp[c.toNat_lt]
  show qck (Yr c::qh l)=_;simp only[qck,e,qo1 l]
theorem qCQ {T:TypeId→Option Ty} {g:qv} {s d:TypeId} {x v:V} {ps:List Prop} (e:qkd T s d x=some (ps,v)) (hp:qf ps):qdC T g s d x=some {v:=v}:=by
 unfold qkd at e;split at e
 ·rename_i y z hy hz;split at e
  ·rename_i el h1 h2;split at e
   ·rename_i ds h8;cases e;have he:ds=qh (ds.map unB):=hp.1;have hb:qck ds=some (ds.map unB):=by
     have:=qo1 (ds.map unB);rw[←he]at this;exact this
    have hall:ds.all (fun e=>e.cells.length==1)=true:=by
     rw[qTI];intro e hm;rw[he]at hm;obtain⟨u,_,rfl⟩:=qTV.1 hm;rfl
    simp only[qdC,hy,hz,h1,h2,h8,if_true,qdK,hall,hb]
   ·cases e
  ·cases e
 ·cases e
theorem quC:∀l:List UInt8,JH ((qh l).map V.d)=some (qh l)
 | []=>rfl|c::l=>by
  show JH (V.d (Yr c)::(qh l).map V.d)=_;unfold JH;rw[quC l]; rfl
theorem qCR {T:TypeId→Option Ty} {h:qB} {g:qv} {s d:TypeId} {x v:V} {ps:List Prop} (e:qke T h g s d x=some (ps,v)) (hp:qf ps):qdC T g s d x=some {v:=v}:=by
 have key:∀{ds:List D},ds=qh (ds.map unB)→qck ds=some (ds.map unB):=by
  intro ds he;have:=qo1 (ds.map unB);rw[←he]at this;exact this
 unfold qke at e;split at e
 ·rename_i r k off len c ex;split at e
  ·rename_i y z hy hz;split at e
   ·rename_i el h1 h2;split at e
    ·rename_i h8;split at e
     ·rename_i k' es ro hg;cases e;obtain⟨a1,a2,a3,a4,_⟩:=hp;simp only[qdC,hy,hz,h1,h2,h8,if_true,qdK,hg];rw[if_pos ⟨a1.symm,by omega,a3⟩];simp only[key a4]
     ·rename_i cs ro hg;split at e
      ·rename_i N ds fh hfh;cases e;obtain⟨a1,a2,a3,a4,_⟩:=hp;simp only[qdC,hy,hz,h1,h2,h8,if_true,qdK,hg];have hb:JH ((cs.drop off).take len)=some ((ds.drop off).take len):=by
        rw[a2,←qV5,←qUL,a4];exact quC _
       rw[if_pos ⟨trivial,a1,by rw[a2,qTS]; exact a3⟩,hb];simp only[key a4]
      ·cases e
     ·cases e
    ·cases e
   ·cases e
  ·cases e
 ·cases e
theorem YU {a b:Option (List Prop×Res)} {r:Option Res} (ha:∀ps res,a=some (ps,res)→qf ps→r=some res) (hb:∀ps res,b=some (ps,res)→qf ps→r=some res) {ps:List Prop} {res:Res}
  (e:YK a b=some (ps,res)) (hp:qf ps):r=some res:=by
 unfold YK at e;split at e
 ·cases e; exact ha _ _ rfl hp
 ·exact hb _ _ e hp
theorem qa6 {r:Option Res} (ps:List Prop) (res:Res) (e:qav r=some (ps,res)) (_:qf ps):r=some res:=by
 unfold qav at e
 cases r with
 | none=>cases e
 | some x=>cases e; rfl
theorem qa7 {a:Option (List Prop×V)} {r:Option V} (h:∀ps v,a=some (ps,v)→qf ps→r=some v) (ps:List Prop) (res:Res) (e:one a=some (ps,res)) (hp:qf ps):(r.map fun v=>({v}:Res))=some res:=by
 unfold one at e
 cases a with
 | none=>cases e
 | some p=>cases e; rw[h _ _ rfl hp]; rfl
theorem qo2 {a:Option (List Prop×V)} {r:Option V} {d:Option Res} (h:∀ps v,a=some (ps,v)→qf ps→r=some v) (ps:List Prop) (res:Res) (e:one a=some (ps,res)) (hp:qf ps):orD r d=some res:=by
 unfold one at e
 cases a with
 | none=>cases e
 | some p=>cases e; rw[h _ _ rfl hp]; rfl
theorem quD {T:TypeId→Option Ty} {h:qB} {g:qv} {slot:Nat} {o:Op} {vs:List V} {ps:List Prop} {res:Res} (e:qkf T h g slot o vs=some (ps,res)) (hp:qf ps):act T g slot o vs=some res:=by
 unfold qkf at e;split at e
 ·split at e
  ·refine YU (qa7 fun ps v e hp=>qCj e hp) (fun ps res e hp=>?_) e hp;exact YU (qa7 fun ps v e hp=>qCs e hp) (fun ps res e hp=>YU (qa7 fun ps v e hp=>qCt e hp) (fun ps res e hp=>YU (qa7 fun ps v e hp=>quz e hp) (fun ps res e hp=>YU (qa7 fun ps v e hp=>qCm e hp) qa6 e hp) e hp) e hp) e hp
  ·cases e
 ·split at e
  ·refine YU (qa7 fun ps v e hp=>qCv e hp) (fun ps res e hp=>?_) e hp;exact YU (qa7 fun ps v e hp=>qCl e hp) (fun ps res e hp=>YU (qa7 fun ps v e hp=>qCn e hp) qa6 e hp) e hp
  ·cases e
 ·split at e
  ·refine YU (fun ps v e hp=>qCw e hp) (fun ps res e hp=>?_) e hp;refine YU (fun ps v e hp=>qCx e hp) (fun ps res e hp=>?_) e hp;exact YU (fun ps v e hp=>qCE e hp) (fun ps res e hp=>YU (fun ps v e hp=>qCq e hp) qa6 e hp) e hp
  ·cases e
 ·split at e
  ·exact YU (fun ps res e hp=>by
    split at e
    ·exact qa7 (fun ps v e hp=>qCo e hp) ps res e hp
    ·cases e) (fun ps res e hp=>YU (qa7 fun ps v e hp=>qCp e hp) qa6 e hp) e hp
  ·cases e
 ·split at e
  ·refine YU (qa7 fun ps v e hp=>qCz (g:=g) e hp) (fun ps res e hp=>?_) e hp;refine YU (fun ps res e hp=>?_) (fun ps res e hp=>YU (qa7 fun ps v e hp=>qCy (g:=g) e hp) qa6 e hp) e hp;split at e
   ·exact qa7 (fun ps v e hp=>qCA (g:=g) e hp) ps res e hp
   ·cases e
  ·cases e
 ·split at e
  ·refine YU (fun ps res e hp=>qCK ps res e hp) (fun ps res e hp=>?_) e hp;exact YU (fun ps res e hp=>by
    split at e
    ·cases e
    ·exact qo2 (fun ps v e hp=>qCG e hp) ps res e hp) (fun ps res e hp=>YU (qo2 fun ps v e hp=>qCF e hp) (fun ps res e hp=>YU (fun ps res e hp=>by
    split at e
    ·exact qo2 (fun ps v e hp=>qCL e hp) ps res e hp
    ·cases e) qa6 e hp) e hp) e hp
  ·cases e
 ·rename_i cnd _ _;split at e
  ·rename_i b x y;refine YU (fun ps res e hp=>?_) qa6 e hp;unfold one at e
   cases hq:qkc h cnd b x y with
   | none=>rw[hq]at e; cases e
   | some p =>
    rw[hq]at e;cases e;have:=qCM (v:=p.2) (ps:=p.1) hq hp;simp only[act];rw[this]
  ·cases e
 ·split at e
  ·rename_i x;refine YU (fun ps res e hp=>?_) (fun ps res e hp=>YU (fun ps res e hp=>?_) qa6 e hp) e hp
   ·unfold one at e
    cases hq:qkd T _ _ x with
    | none=>rw[hq]at e; cases e
    | some p =>
     rw[hq]at e;cases e;simp only[act];exact qCQ (v:=p.2) (ps:=p.1) hq hp
   ·unfold one at e
    cases hq:qke T h g _ _ x with
    | none=>rw[hq]at e; cases e
    | some p =>
     rw[hq]at e;cases e;simp only[act];exact qCR (v:=p.2) (ps:=p.1) hq hp
  ·cases e
 ·split at e
  ·refine YU (fun ps res e hp=>by simp only[act]; exact qCP e hp) (fun ps res e hp=>?_) e hp;exact YU (fun ps res e hp=>by simp only[act]; exact qCO e hp) qa6 e hp
  ·cases e
 ·rename_i c;split at e
  ·rename_i hc;split at e
   ·exact qa6 _ _ e hp
   ·split at e
    ·rename_i t u s x hts;simp only[act,hc,hts];rw[qCB e hp]
    ·cases e
  ·rename_i hc;split at e
   ·rename_i t u d s hts;simp only[act,hc,hts];exact qCC e hp
   ·cases e
  ·rename_i hc;split at e
   ·rename_i t d hts;refine YU (fun ps v e hp=>?_) qa6 e hp;simp only[act,hc,hts];exact qCD e hp
   ·cases e
  ·exact qa6 _ _ e hp
 ·exact qa6 _ _ e hp
end Go.Aev
end
noncomputable section
namespace Go.Aev
variable [Glob]
open Go.RowKit (Below)
def qny (c:Cfg) (s:AS):Out :=
 match s.fr.todo with
 | .it (.code (.region _ ops true))::k=>match qfY c ops (qbw ops) {env:=s.fr.env,rows:=s.rows}with
  | some st=>.next {s with fr:={s.fr with env:=st.env,todo:=.it (.inRegion ops (qbw ops::List.range' (qbw ops+1) (ops.size - (qbw ops+1))))::k},rows:=st.rows}
  | none=>.fail
 | _=>.fail
theorem qz9 {w0:World} {own:Own} {c:Cfg} (hc:COK c) {cs0:Bot} {f:FuncId} {s:AS} {M:Machine} (hs:qar c.P w0 own cs0 f s M):J7 c.P w0 own cs0 f (qny c s) M:=by
 obtain⟨hb,m,S,w,tmps,todo,ds,ro,cs,rfl,inv,hfr,hst⟩:=hs;have hself:∀fr':AF,fr'.fn=s.fr.fn→Jz fr' s.stack=f:=by
  intro fr' e;rw[qaq]at hb ⊢;rw[e]; exact hb
 have ht:=hfr.todo;unfold qny;split
 ·rename_i id ops k htodo;rw[htodo]at ht
  cases ht with
  | cons hi tl =>
  rename_i kr;cases hi;split
  ·rename_i st hcut;obtain⟨m',S',w',tmps',h1,h2,h3,h4⟩:=qsV (fn:=s.fr.fn) (id:=id) (k:=kr) (ds:=ds) (ro:=ro) (cs:=cs) hc hcut inv hfr.env;exact⟨_,h1,hself _ rfl,m',S',w',tmps',_,ds,ro,cs,rfl,h2,⟨h3,.cons rfl (tl.mono h4.map),hfr.ds.ext h4,hfr.ro.mono h4.map⟩,hst.ext h4⟩
  ·trivial
 ·trivial
end Go.Aev
end
section
namespace Go.Aev
variable [Glob]
open Go.RowKit (Below)
structure qw where
 P:Program
 T:TypeId→Option Ty
 F:FuncId→Option Func
 rc:FuncId→Bool
 po:FuncId→Bool
 sRC:FuncId→List V→Rows→Option (List Prop×V)
 sWC:FuncId→List V→Rows→Option (List Prop×V×Rows):=fun _ _ _=>none
noncomputable def qw.cfg (c:qw):Cfg :=
 {P:=c.P,T:=c.T,F:=c.F,rc:=c.rc,po:=c.po,RC:=fun g args rows=>match c.sRC g args rows with
  | some (ps,v)=>@ite _ (qf ps) (Classical.propDecidable _) (some v) none|none=>none,
  WC:=fun g args rows=>match c.sWC g args rows with
  | some (ps,v,rows2)=>@ite _ (qf ps) (Classical.propDecidable _) (some (v,rows2)) none|none=>none}
theorem qw.rc_eq {c:qw} {g:FuncId} {args:List V} {rows:Rows} {ps:List Prop} {v:V} (h:c.sRC g args rows=some (ps,v)) (hp:qf ps):c.cfg.RC g args rows=some v:=by
 simp only[qw.cfg,h];rw[if_pos hp]
def qhA (c:qw) (g:FuncId) (args:List V) (rows:Rows):Option (List Prop×Res) :=
 match qeO (qr rows) (JU rows args) args with
 | some (args',rows')=>match c.sRC g args' rows' with
  | some (ps,v)=>some (ps,if v.plain then{v}else{v,ups:=JI rows (JU rows args)})
  | none=>none
 | none=>none
theorem qCS {c:qw} {g:FuncId} {args:List V} {rows:Rows} {ps:List Prop} {res:Res} (e:qhA c g args rows=some (ps,res)) (hp:qf ps):qbt c.cfg g args rows=some res:=by
 unfold qhA at e;unfold qbt;simp only;split at e
 ·rename_i a r hc;rw[hc];simp only;split at e
  ·rename_i ps' v hv;cases e;rw[qw.rc_eq hv hp];simp only;split<;>rfl
  ·cases e
 ·cases e
theorem qCT {c:qw} {g:FuncId} {args:List V} {rows:Rows} (e:qhA c g args rows=none):qbt c.cfg g args rows=none:=by
 unfold qhA at e;unfold qbt;simp only;split at e
 ·rename_i a r hc;rw[hc];simp only;split at e
  ·cases e
  ·rename_i hv;simp only[qw.cfg,hv]
 ·rename_i hc;rw[hc]
def quE (c:qw) (look:Nat→Option Row) (rs:List Nat) (slot:Nat) (g:FuncId) (args:List V):Option (List Prop×Res) :=
 match qjL look rs args with
 | some (args',rows')=>match c.sWC g args' rows' with
  | some (ps,v,rows2)=>(qod rs slot v rows2).map fun r=>(ps,r)
  | none=>none
 | none=>none
def qkg (c:qw) (slot:Nat) (g:FuncId) (args:List V) (rows:Rows):Option (List Prop×Res) :=
 match qhA c g args rows with
 | some r=>some r|none=>quE c (qr rows) (JU rows args) slot g args
theorem quF {c:qw} {slot:Nat} {g:FuncId} {args:List V} {rows:Rows} {ps:List Prop} {res:Res} (e:qkg c slot g args rows=some (ps,res)) (hp:qf ps):qcs c.cfg slot g args rows=some res:=by
 unfold qkg at e;unfold qcs;split at e
 ·rename_i r hr;cases e;rw[qCS hr hp]
 ·rename_i hr;rw[qCT hr];simp only;unfold quE at e;unfold qc7;split at e
  ·rename_i a r hpre;rw[hpre];simp only;split at e
   ·rename_i ps' v rows2 hs;rw[qTP]at e;obtain⟨r',h1,h2⟩:=e;cases h2;have:c.cfg.WC g a r=some (v,rows2):=by
     simp only[qw.cfg,hs];rw[if_pos hp]
    rw[this];exact h1
   ·cases e
  ·cases e
def qo3 (c:qw) (h:qB) (env:List V) (rows:Rows) (slot:Nat) (o:Op):Option (List Prop×Res) :=
 match qa2 o with
 | some (f,args)=>match Y2 env f,YX env args with
  | some fv,some vs=>match qct fv vs with
   | some (g,as)=>if c.rc g then qkg c slot g as rows else none
   | none=>none
  | _,_=>none
 | none=>match YX env (qN o)with
  | some vs=>qkf c.T h (qag rows vs) slot o vs|none=>none
theorem qCU {c:qw} {h:qB} {env:List V} {rows:Rows} {slot:Nat} {o:Op} {ps:List Prop} {res:Res} (e:qo3 c h env rows slot o=some (ps,res)) (hp:qf ps):qeP c.cfg env rows slot o=some res:=by
 unfold qo3 at e;unfold qeP;split at e
 ·rename_i f args hcv;rw[hcv];simp only;split at e
  ·rename_i fv vs hf hvs;rw[hf,hvs];simp only;split at e
   ·rename_i g as hfa;rw[hfa];simp only;split at e
    ·rename_i hrc;rw[if_pos (show c.cfg.rc g=true from hrc)];exact quF e hp
    ·cases e
   ·cases e
  ·cases e
 ·rename_i hcv;rw[hcv];simp only;split at e
  ·rename_i vs hvs;rw[hvs];exact quD e hp
  ·cases e
def qkh (h:qB) (ops:Array Oper) (env:List V) (o:Oper):Option (List Prop×Bool) :=
 match o.guard with
 | none=>some ([],true)|some (j,want)=>match ((ops[j]?).bind (·.dst))with
  | some d=>match env[d]? with
   | some (.d (.bool b))=>match h.gd d with
    | some v=>some ([b=v],v==want)|none=>some ([],b==want)
   | some (.tup _)=>some ([],false)|_=>none
  | none=>none
theorem qki {h:qB} {ops:Array Oper} {env:List V} {o:Oper} {ps:List Prop} {b:Bool} (e:qkh h ops env o=some (ps,b)) (hp:qf ps):qaK ops env o=some b:=by
 unfold qkh at e;unfold qaK;split at e
 ·rename_i hg; cases e; rw[hg]
 ·rename_i j want hg;rw[hg];simp only;split at e
  ·rename_i d hd;rw[hd];simp only;split at e
   ·rename_i b' hb;rw[hb];simp only;split at e
    ·rename_i v hv;cases e;have:=hp.1;subst this;rfl
    ·cases e; rfl
   ·rename_i vs hb;rw[hb]; cases e; rfl
   ·cases e
  ·cases e
def qo4 (c:qw) (h:qB) (ops:Array Oper) (slot0:Nat) (i:Nat) (s:St):Option (List Prop×Rec) :=
 match ops[i]? with
 | none=>none|some o=>match qkh h ops s.env o with
  | none=>none|some (qs,false)=>some (qs,{dst:=o.dst,v:=V.undef,slot:=slot0+i,rdT:=qcu ops o,rdR:=some []})|some (qs,true)=>match qo3 c h s.env s.rows (slot0+i) o.op with
   | none=>none|some (ps,res) =>
    let a:Rec:={dst:=o.dst,v:=res.v,ups:=res.ups,fresh:=res.fresh,slot:=slot0+i,rdT:=qcu ops o,rdR:=qdO s.env s.rows o.op}
    if a.wr.all (fun r=>decide (r<s.rows.length))then some (qs++ps,a)else none
theorem qCV {c:qw} {h:qB} {ops:Array Oper} {slot0 i:Nat} {s:St} {ps:List Prop} {a:Rec} (e:qo4 c h ops slot0 i s=some (ps,a)) (hp:qf ps):qc8 c.cfg ops slot0 i s=some a:=by
 unfold qo4 at e;unfold qc8;split at e
 ·cases e
 ·rename_i o ho;rw[ho];simp only;split at e
  ·cases e
  ·rename_i hw; cases e; rw[qki hw hp]
  ·rename_i qs hw;split at e
   ·cases e
   ·rename_i ps' res hres;simp only at e;split at e
    ·rename_i hall;cases e;obtain⟨h1,h2⟩:=Yh hp;rw[qki hw h1];simp only;rw[qCU hres h2];simp only;rw[if_pos hall]
    ·cases e
def qhB (c:qw) (h:qB) (ops:Array Oper) (slot0:Nat):List Nat→St→Option (List Prop×List Rec×St)
 | [],s=>some ([],[],s)|i::l,s=>match qo4 c h ops slot0 i s with
  | some (ps,a)=>match qhB c h ops slot0 l (a.exec s)with
   | some (qs,rs,s')=>some (ps++qs,a::rs,s')|none=>none
  | none=>none
theorem qo5 {c:qw} {h:qB} {ops:Array Oper} {slot0:Nat}:∀{l:List Nat} {s:St} {ps:List Prop} {rs:List Rec} {s':St},qhB c h ops slot0 l s=some (ps,rs,s')→qf ps→qbu c.cfg ops slot0 l s=some (rs,s')
 | [],s,ps,rs,s',e,_=>by cases e; rfl
 | i::l,s,ps,rs,s',e,hp=>by
  simp only[qhB]at e;split at e
  ·rename_i ps1 a ha;split at e
   ·rename_i qs rs' s2 hr;cases e;obtain⟨h1,h2⟩:=Yh hp;simp only[qbu,qCV ha h1,qo5 hr h2]
   ·cases e
  ·cases e
def qo6 (c:qw) (h:qB) (ops:Array Oper) (s:St):Option (List Prop×St) :=
 if qeR ops then
  match qhB c h ops s.rows.length (List.range ops.size) {s with rows:=s.rows++List.replicate ops.size .free}with
  | some (ps,rs,s')=>if qfV (qbY ops ops.size) s.rows.length rs then some (ps,{s' with rows:=qf2 s'.rows})else none
  | none=>none
 else none
theorem qCW {c:qw} {h:qB} {ops:Array Oper} {s st:St} {ps:List Prop} (e:qo6 c h ops s=some (ps,st)) (hp:qf ps):qf3 c.cfg ops s=some st:=by
 unfold qo6 at e;unfold qf3;split at e
 ·rename_i hed;rw[if_pos hed];split at e
  ·rename_i ps' rs s' hr;split at e
   ·rename_i hpr;cases e;rw[qo5 hr hp];simp only;rw[if_pos hpr]
   ·cases e
  ·cases e
 ·cases e
def qo7 (c:qw) (h:qB) (ops:Array Oper) (k:Nat) (s:St):Option (List Prop×St) :=
 if qeR ops&&decide (k<ops.size)&&decide (ops.size≤k+2)&&(List.range k).all (fun i=>((qbY ops ops.size).getD k []).contains i) &&
   (List.range' (k+1) (ops.size - (k+1))).all (fun i=>((qbY ops ops.size).getD i []).contains k)then
  match qhB c h ops s.rows.length (List.range k) {s with rows:=s.rows++List.replicate ops.size .free}with
  | some (ps,rs,s')=>if qfV (qbY ops k) s.rows.length rs then some (ps,s')else none
  | none=>none
 else none
theorem qCX {c:qw} {h:qB} {ops:Array Oper} {k:Nat} {s st:St} {ps:List Prop} (e:qo7 c h ops k s=some (ps,st)) (hp:qf ps):qfY c.cfg ops k s=some st:=by
 unfold qo7 at e;unfold qfY;split at e
 ·rename_i hed;rw[if_pos hed];split at e
  ·rename_i ps' rs s' hr;split at e
   ·rename_i hpr;cases e;rw[qo5 hr hp];simp only;rw[if_pos hpr]
   ·cases e
  ·cases e
 ·cases e
def quG (qs:List Prop) (o:List Prop×Out):List Prop×Out:=(qs++o.1,o.2)
noncomputable def qkj (c:qw) (h:qB) (s:AS) (ops:Array Oper) (i:Nat) (rest:List Nat) (k:List qT) (o:Oper):List Prop×Out :=
 match qa2 o.op with
 | some (f,args)=>match Y2 s.fr.env f,YX s.fr.env args with
  | some (.yl r),some vs=>([],qb0 c.cfg s ops i rest k)|some fv,some vs=>match qct fv vs with
   | some (g,as) =>
    if c.po g&&c.rc g then
     match qkg c s.rows.length g as s.rows with
     | some (ps,res)=>(ps,.next {s with fr:={s.fr with env:=Js s.fr.env o.dst res.v,todo:=.it (.inRegion ops rest)::k},rows:=qaf s.rows.length res s.rows})
     | none=>([],.fail)
    else match Jd c.cfg g as with
     | some fr=>([],.next {fr,stack:=s.fr::s.stack,rows:=s.rows})|none=>([],.fail)
   | none=>([],.fail)
  | _,_=>([],.fail)
 | none=>match YX s.fr.env (qN o.op)with
  | some vs=>match qkf c.T h (qag s.rows vs) s.rows.length o.op vs with
   | some (ps,res)=>(ps,.next {s with fr:={s.fr with env:=Js s.fr.env o.dst res.v,todo:=.it (.inRegion ops rest)::k},rows:=qaf s.rows.length res s.rows})
   | none=>([],.fail)
  | none=>([],.fail)
theorem qCY {c:qw} {h:qB} {s:AS} {ops:Array Oper} {i:Nat} {rest:List Nat} {k:List qT} {op:Oper} {ps:List Prop} {o:Out} (hop:ops[i]?=some op) (hwa:qaK ops s.fr.env op=some true)
  (e:qkj c h s ops i rest k op=(ps,o)) (hp:qf ps) (hn:o≠.fail):qb0 c.cfg s ops i rest k=o:=by
 unfold qkj at e;split at e
 ·rename_i f args hcv;split at e
  ·cases e; rfl
  ·rename_i fv vs hy hf hvs;split at e
   ·rename_i g as hfa;have hopst:qb0 c.cfg s ops i rest k=(if c.po g&&c.rc g then
      match qcs c.cfg s.rows.length g as s.rows with
      | some res=>.next {s with fr:={s.fr with env:=Js s.fr.env op.dst res.v,todo:=.it (.inRegion ops rest)::k},rows:=qaf s.rows.length res s.rows}
      | none=>.fail
     else match Jd c.cfg g as with
      | some fr=>.next {fr,stack:=s.fr::s.stack,rows:=s.rows}|none=>.fail):=by
     unfold qb0;rw[hop];simp only;rw[hwa];simp only;rw[hcv];simp only;rw[hf,hvs];cases fv<;>first
      | (cases hfa; done)
      | (simp only; rw[hfa]; rfl)
    rw[hopst];split at e
    ·rename_i hpo;rw[if_pos hpo];split at e
     ·rename_i ps' res hres;cases e;rw[quF hres hp]
     ·cases e; exact absurd rfl hn
    ·rename_i hpo;rw[if_neg hpo];split at e
     ·rename_i fr hen;cases e;rfl
     ·cases e; exact absurd rfl hn
   ·cases e; exact absurd rfl hn
  ·cases e; exact absurd rfl hn
 ·rename_i hcv;split at e
  ·rename_i vs hvs;split at e
   ·rename_i ps' res hres;cases e;unfold qb0;rw[hop];simp only;rw[hwa];simp only;rw[hcv];simp only;rw[hvs];simp only;have:=quD hres hp;have e2:act c.cfg.T (qag s.rows vs) s.rows.length op.op vs=some res:=this;rw[e2]
   ·cases e; exact absurd rfl hn
  ·cases e; exact absurd rfl hn
noncomputable def qo8 (c:qw) (h:qB) (s:AS) (ops:Array Oper) (i:Nat) (rest:List Nat) (k:List qT):List Prop×Out :=
 match ops[i]? with
 | none=>([],.fail)|some o=>match qkh h ops s.fr.env o with
  | some (qs,false)=>(qs,.next {s with fr:={s.fr with env:=Js s.fr.env o.dst V.undef,todo:=.it (.inRegion ops rest)::k}})
  | some (qs,true)=>quG qs (qkj c h s ops i rest k o)|none=>([],.fail)
theorem qCZ {c:qw} {h:qB} {s:AS} {ops:Array Oper} {i:Nat} {rest:List Nat} {k:List qT} {ps:List Prop} {o:Out} (e:qo8 c h s ops i rest k=(ps,o)) (hp:qf ps) (hn:o≠.fail):qb0 c.cfg s ops i rest k=o:=by
 unfold qo8 at e;split at e
 ·cases e; exact absurd rfl hn
 ·rename_i op hop;split at e
  ·rename_i qs hw;cases e;have hwa:=qki hw hp;unfold qb0;rw[hop];simp only;rw[hwa]
  ·rename_i qs hw
   cases hd:qkj c h s ops i rest k op with
   | mk ps' o' =>
   rw[hd]at e;unfold quG at e;injection e with e1 e2
   subst e1; subst e2;obtain⟨hq,hp⟩:=Yh hp;exact qCY hop (qki hw hq) hd hp hn
  ·cases e; exact absurd rfl hn
noncomputable def qkk (c:qw) (h:qB) (s:AS):List Prop×Out :=
 match s.fr.todo with
 | .it (.inRegion ops (i::rest))::k=>qo8 c h s ops i rest k|.it (.code (.region _ ops true))::k=>match qo6 c h ops {env:=s.fr.env,rows:=s.rows}with
  | some (ps,st)=>(ps,.next {s with fr:={s.fr with env:=st.env,todo:=k},rows:=st.rows})
  | none=>match qo7 c h ops (qbw ops) {env:=s.fr.env,rows:=s.rows}with
   | some (ps,st)=>(ps,.next {s with fr:={s.fr with env:=st.env,todo:=.it (.inRegion ops (qbw ops::List.range' (qbw ops+1) (ops.size - (qbw ops+1))))::k},rows:=st.rows})
   | none=>([],.fail)
 | .it (.code (.cond (.tmp t) x y))::k=>match s.fr.env[t]?,h.gd t with
  | some (.d (.bool b)),some v=>([b=v],toA s (.it (.code (match v with|true=>x|false=>y))::k))
  | _,_=>([],qcA c.cfg s)
 | _=>([],qcA c.cfg s)
theorem qhC {w0:World} {own:Own} {c:qw} (hc:COK c.cfg) {bt:Bot} {f:FuncId} {h:qB} {s:AS} {M:Machine} {ps:List Prop} {o:Out} (hs:qar c.P w0 own bt f s M) (e:qkk c h s=(ps,o)) (hp:qf ps) :
  J7 c.P w0 own bt f o M:=by
 by_cases hn:o=.fail
 ·subst hn; trivial
 ·unfold qkk at e;split at e
  ·rename_i ops i rest k ht;have h1:=qCZ e hp hn;have h2:qcA c.cfg s=qb0 c.cfg s ops i rest k:=by unfold qcA; rw[ht]
   rw[←h1,←h2];exact qeV (c:=c.cfg) hc hs
  ·rename_i id ops k ht;split at e
   ·rename_i ps' st hr;injection e with e1 e2
    subst e1; subst e2;have h1:=qCW hr hp;have:=qeV (c:=c.cfg) hc hs;unfold qcA at this;rw[ht]at this;simp only at this;rw[h1]at this;exact this
   ·split at e
    ·rename_i ps' st hr;injection e with e1 e2
     subst e1; subst e2;have h1:=qCX hr hp;have:=qz9 (c:=c.cfg) hc hs;unfold qny at this;rw[ht]at this;simp only at this;rw[h1]at this;exact this
    ·injection e with e1 e2
     exact absurd e2.symm hn
  ·rename_i t x y k ht;split at e
   ·rename_i b v hb hv;injection e with e1 e2
    subst e1; subst e2;have hbv:=hp.1;subst hbv;have:=qeV (c:=c.cfg) hc hs;unfold qcA at this;rw[ht]at this;simp only[Y2,List.getD_eq_getElem?_getD,hb,qTT,qeA]at this;cases b<;>exact this
   ·injection e with e1 e2
    subst e2;exact qeV (c:=c.cfg) hc hs
  ·injection e with e1 e2
   subst e2;exact qeV (c:=c.cfg) hc hs
noncomputable def qhD (c:qw) (h:qB):Nat→AS→List Prop×Out
 | 0,s=>([],.next s)|n+1,s=>match qkk c h s with
  | (ps,.next s')=>match qhD c h n s' with
   | (qs,o)=>(ps++qs,o)
  | (ps,o)=>(ps,o)
theorem quH {w0:World} {own:Own} {c:qw} (hc:COK c.cfg) {bt:Bot} {f:FuncId} {h:qB}:∀{n:Nat} {s:AS} {M:Machine} {ps:List Prop} {o:Out},qar c.P w0 own bt f s M→qhD c h n s=(ps,o)→qf ps→J7 c.P w0 own bt f o M
 | 0,s,M,ps,o,hs,e,_=>by cases e; exact⟨M,Steps.refl _ _,hs⟩
 | n+1,s,M,ps,o,hs,e,hp=>by
  simp only[qhD]at e;split at e
  ·rename_i ps1 s1 h1
   cases hr:qhD c h n s1 with
   | mk qs o1 =>
   rw[hr]at e;cases e;obtain⟨k1,k2⟩:=Yh hp;obtain⟨M',st,hs'⟩:=qhC hc hs h1 k1;exact(quH hc hs' hr k2).of_steps st
  ·rename_i ps1 o1 hno h1;cases e;exact qhC hc hs h1 hp
def qb (c:qw) (k:Nat) (s:AS) (Q:V→Rows→Prop):Prop :=
 ∀(w0:World) (own:Own) (bt:Bot) (f:FuncId) (M:Machine),bt.k≤k→qar c.P w0 own bt f s M→∃v rows,Q v rows∧J7 c.P w0 own bt f (.done v rows) M
variable {c:qw} {k:Nat} {s s':AS} {Q:V→Rows→Prop}
theorem qb.fin (hc:COK c.cfg) (h:qB) (n:Nat) {ps:List Prop} {v:V} {rows:Rows} (e:qhD c h n s=(ps,.done v rows)) (hp:qf ps) (hq:Q v rows):qb c k s Q:=by
 intro w0 own bt f M hb hs;exact⟨v,rows,hq,quH hc hs e hp⟩
theorem qb.mono {Q':V→Rows→Prop} (h:qb c k s Q) (hq:∀v rows,Q v rows→Q' v rows):qb c k s Q':=by
 intro w0 own bt f M hb hs;obtain⟨v,rows,h1,h2⟩:=h w0 own bt f M hb hs;exact⟨v,rows,hq v rows h1,h2⟩
noncomputable def sTo (c:qw) (h:qB) (stop:AS→Bool):Nat→AS→List Prop×Out
 | 0,_=>([],.fail)|n+1,s=>match qkk c h s with
  | (ps,.next s')=>if stop s then(ps,.next s')else match sTo c h stop n s' with
   | (qs,o)=>(ps++qs,o)
  | (ps,o)=>(ps,o)
theorem qo9 {w0:World} {own:Own} {c:qw} (hc:COK c.cfg) {bt:Bot} {f:FuncId} {h:qB} {stop:AS→Bool}:∀{n:Nat} {s:AS} {M:Machine} {ps:List Prop} {o:Out},qar c.P w0 own bt f s M→sTo c h stop n s=(ps,o)→qf ps→J7 c.P w0 own bt f o M
 | 0,s,M,ps,o,hs,e,_=>by cases e; trivial
 | n+1,s,M,ps,o,hs,e,hp=>by
  simp only[sTo]at e;split at e
  ·rename_i ps1 s1 h1;split at e
   ·cases e;exact qhC hc hs h1 hp
   ·cases hr:sTo c h stop n s1 with
    | mk qs o1 =>
    rw[hr]at e;cases e;obtain⟨k1,k2⟩:=Yh hp;obtain⟨M',st,hs'⟩:=qhC hc hs h1 k1;exact(qo9 hc hs' hr k2).of_steps st
  ·rename_i ps1 o1 hno h1;cases e;exact qhC hc hs h1 hp
theorem qb.to (hc:COK c.cfg) (h:qB) (stop:AS→Bool) (n:Nat) {ps:List Prop} (e:sTo c h stop n s=(ps,.next s')) (hp:qf ps) (hk:qb c k s' Q):qb c k s Q:=by
 intro w0 own bt f M hb hs;obtain⟨M',st,hs'⟩:=qo9 hc hs e hp;obtain⟨v,rows,hq,hf⟩:=hk w0 own bt f M' hb hs';exact⟨v,rows,hq,hf.of_steps st⟩
theorem qb.toFin (hc:COK c.cfg) (h:qB) (stop:AS→Bool) (n:Nat) {ps:List Prop} {v:V} {rows:Rows} (e:sTo c h stop n s=(ps,.done v rows)) (hp:qf ps) (hq:Q v rows):qb c k s Q:=by
 intro w0 own bt f M hb hs;exact⟨v,rows,hq,qo9 hc hs e hp⟩
def AS.put (s:AS) (t:Nat) (v:V):AS:={s with fr:={s.fr with env:=s.fr.env.set t v}}
def AS.putRow (s:AS) (r:Nat) (x:Row):AS:={s with rows:=s.rows.set r (.live x)}
theorem quI {α:Type} {l:List α} {i:Nat} {x:α} (h:l[i]?=some x):l.set i x=l:=by
 apply qVl;intro j;rw[List.getElem?_set]
 by_cases e:i=j
 ·subst e;rw[if_pos rfl,if_pos (qL h),h]
 ·rw[if_neg e]
theorem qb.put (t:Nat) {v v':V} (e:s.fr.env[t]?=some v) (hv:v=v') (hk:qb c k (s.put t v') Q):qb c k s Q:=by
 subst hv;have:s.put t v=s:=by
  unfold AS.put;rw[quI e]
 rw[this]at hk;exact hk
theorem qb.putRow (r:Nat) {x x':Row} (e:s.rows[r]?=some (.live x)) (hx:x=x') (hk:qb c k (s.putRow r x') Q):qb c k s Q:=by
 subst hx;have:s.putRow r x=s:=by
  unfold AS.putRow;rw[quI e]
 rw[this]at hk;exact hk
end Go.Aev
end
section
namespace Go.Aev
variable [Glob]
open Go.RowKit (Below)
def qkl:qT→Bool
 | .it _=>true|.rf _=>false
def qf5 (f:Nat→Option Nat) (keep:List Nat):Nat→List V→Option (List V)
 | _,[]=>some []|i,v::r=>match (if keep.contains i then qC f 8 v else some .any),qf5 f keep (i+1) r with
  | some x,some l=>some (x::l)|_,_=>none
def qhE (k:Nat) (rs:List Nat) (keep:List Nat) (s:AS):Option AS :=
 if s.fr.todo.all qkl&&s.fr.round.isNone&&s.fr.marks.isEmpty&&s.fr.dcl.isEmpty&&s.stack.isEmpty&&(rs.take k==List.range k)&&rs.all (fun r=>decide (r<s.rows.length))&&decide (rs.eraseDups.length=rs.length)then
  match qf5 (fun r=>Yk r rs 0) keep 0 s.fr.env,qQ (fun r=>qJ (fun r=>Yk r rs 0) (qr s.rows r)) rs with
  | some env,some rows=>some {fr:={s.fr with env},stack:=[],rows}
  | _,_=>none
 else none
variable {m:Mp} {S:Nat→Prop} {w:World}
theorem qC0 {rs keep:List Nat}:∀{xs:List V} {i:Nat} {ys:List V} {arr:Array Value},qf5 (fun r=>Yk r rs 0) keep i xs=some ys→REs m S w xs arr→REs (Yd m rs) S w ys arr:=by
 intro xs i ys arr h hr;have key:∀{xs:List V} {i:Nat} {ys:List V},qf5 (fun r=>Yk r rs 0) keep i xs=some ys→ys.length=xs.length∧∀(j:Nat) (y:V),ys[j]?=some y→∃x,xs[j]?=some x∧(y=.any∨qC (fun r=>Yk r rs 0) 8 x=some y):=by
  intro xs
  induction xs with
  | nil=>intro i ys h; cases h; exact⟨rfl,fun j y hy=>by simp at hy⟩
  | cons x xs ih =>
   intro i ys h;simp only[qf5]at h;split at h
   ·rename_i y l h1 h2;cases h;obtain⟨k1,k2⟩:=ih h2;refine⟨by simp[k1],fun j z hz=>?_⟩
    cases j with
    | zero =>
     simp at hz; subst hz;refine⟨x,rfl,?_⟩;split at h1
     ·exact .inr h1
     ·cases h1; exact .inl rfl
    | succ j=>simp only[qUx]at hz ⊢; exact k2 j z hz
   ·cases h
 obtain⟨k1,k2⟩:=key h;refine⟨by rw[hr.1,k1],fun j y v hy hv=>?_⟩;obtain⟨x,hx,ho⟩:=k2 j y hy;rcases ho with ho|ho
 ·exact .inl ho
 ·rcases hr.2 j x v hx hv with h1|h1
  ·subst h1; simp only[qC]at ho; cases ho
  ·exact .inr (qcj ho h1)
theorem JV.its {m':Mp} {a:List qT} {l:List Item} (h:JV m a l) (hi:a.all qkl=true):JV m' a l:=by
 induction h with
 | nil=>exact .nil|@cons a i k l h1 _ ih =>
  simp only[qUZ,qTC]at hi
  cases a with
  | it j=>exact .cons h1 (ih hi.2)|rf r=>simp[qkl]at hi
theorem qb.move {c:qw} {k:Nat} {s s':AS} {Q:V→Rows→Prop} (rs keep:List Nat) (e:qhE k rs keep s=some s') (hk:qb c k s' Q):qb c k s Q:=by
 intro w0 own bt f M hb hs;refine hk w0 own bt f M hb ?_;unfold qhE at e;split at e
 ·rename_i hc;simp only[qTC,decide_eq_true_eq,qWF,qVe,beq_iff_eq]at hc;obtain⟨⟨⟨⟨⟨⟨⟨c1,c2⟩,c3⟩,c3d⟩,c4⟩,c5⟩,c6⟩,c7⟩:=hc;split at e
  ·rename_i env rows h1 h2;cases e;obtain⟨hbf,m,S,w,tmps,todo,ds,ro,cs,rfl,inv,hfr,hst⟩:=hs;rw[c4]at hst
   cases hst with
   | nil hB =>
    have hro:=hfr.ro;rw[c2]at hro;have hds:=hfr.ds;rw[c3,c3d,c4]at hds;refine⟨?_,Yd m rs,S,w,tmps,todo,ds,ro,bt.cs,rfl,qhd inv c7 h2,⟨qC0 h1 hfr.env,hfr.todo.its c1,?_,?_⟩,.nil ?_⟩
    ·rw[c4]at hbf; exact hbf
    ·show FDs (Yd m rs) S w (qcx bt []) s.fr.dcl s.fr.marks ds;rw[c3,c3d]; obtain⟨dd,q1,q2⟩:=hds; cases q1; cases q2; exact FDs.none
    ·show qeS (Yd m rs) s.fr.round ro;rw[c2]; exact hro
    ·refine bt.mono m w _ w (fun r hr p hp=>?_) (fun b=>qTF _) hB;have hrk:r<k:=qUn hr hb;have:rs[r]?=some r:=by
      have h3:(rs.take k)[r]?=some r:=by rw[c5]; simp[hrk]
      rwa[qWg hrk]at h3
     simp[Yd,this,hp]
  ·cases e
 ·cases e
theorem qpa {c:qw} (hc:COK c.cfg) {g:FuncId} {k:Nat} {args:List V} {rows:Rows} {R:V→Rows→Prop} {fr:AF} (he:Jd c.cfg g args=some fr) (h:qb c k ⟨fr,[],rows⟩ R):qS c.P g k args rows R:=by
 intro w0 own m S w vs inv ha cs;obtain⟨gf,h1,h2,h3,tmps,todo,h4,hfr⟩:=qeU hc he ha;have hg:fr.fn=g:=by
  unfold Jd at he;split at he
  ·split at he
   ·cases he; rfl
   ·cases he
  ·cases he
 have hsim:qar c.P w0 own (qdT cs m w k) g {fr,stack:=[],rows} (lone (Frame.enter c.P g vs .normal) cs w):=by
  refine⟨hg,m,S,w,tmps,todo,[],none,cs,?_,inv,hfr,.nil (cs0:=qdT cs m w k) (qor cs m w k)⟩;show lone (Frame.enter c.cfg.P g vs .normal) cs w=_;rw[h4]
 obtain⟨v,rows',hq,frR,w',m',S',u,s1,s2,s3,s4,s5,s6⟩:=h w0 own (qdT cs m w k) g _ (qTF _) hsim;exact⟨.returned u,w',frR,⟨u,v,rows',rfl,hq,m',S',s4,s5,s6.1,s6.2⟩,s1,s2.1,qoq s2.2 s3⟩
def RCs (P:Program) (g:FuncId) (args:List V) (rows:Rows) (v:V):Prop :=
 ∀(w0:World) (own:Own) (m:Mp) (S:Nat→Prop) (w:World) (vs:Array Value),Inv w0 own m S w rows→(∀(r:Nat) (row:Row),rows[r]?=some (qd.live row)→row.rw=false)→RVs m S w args vs →
  Calls P g vs w fun e w'=>∃u,e=.returned u∧∃S':Nat→Prop,(∀c,S c→S' c)∧(∀c,S' c→S c∨(w.heap.size≤c∧c<w'.heap.size))∧(∀m2:Mp,RV m2 S' w' v u) ∧
   (∀c,c<w.heap.size→w'.heap[c]?=w.heap[c]?)∧w.heap.size≤w'.heap.size∧w'.os=w.os∧w'.tape=w.tape∧w'.output=w.output
theorem quJ {P:Program} {g:FuncId} {k:Nat} {args:List V} {rows:Rows} {x:V} (h:qS P g k args rows fun v rows'=>qcw (qr rows') v=some x):RCs P g args rows x:=by
 intro w0 own m S w vs inv hro ha;refine(h w ⟨fun _=>False,S⟩ m S w vs (inv.rebase hro) ha).mono fun e w' ⟨u,v,rows',he,hq,m',S',i1,r1,_,_⟩=>⟨u,he,?_⟩
 obtain⟨S2,rows2,i2,r2⟩:=qt3 i1 hq r1;refine⟨S2,fun c hc=>i2.stb c hc,fun c hc=>?_,r2,fun c hc=>i2.kept c hc (fun h=>h),i2.grow,i2.os,i2.tape,i2.output⟩;rcases i2.base c hc with h1|h1|h1
 ·exact .inl h1
 ·exact .inr ⟨h1,i2.sbnd c hc⟩
 ·exact h1.elim
def qhF (c:qw):Prop:=∀g args rows ps v,c.sRC g args rows=some (ps,v)→qf ps→RCs c.P g args rows v
def quK (c:qw):Prop:=∀g args rows ps v rows2,c.sWC g args rows=some (ps,v,rows2)→qf ps→qS c.P g rows.length args rows (fun x y=>x=v∧y=rows2)
theorem quL {c:qw} (hT:TOK c.P c.T) (hF:∀g gf,c.F g=some gf→c.P.funcs[g]?=some gf∧(gf.name == "runtime.NumGoroutine")=false)
  (hrc:∀g,c.rc g=true→∃gf,c.P.funcs[g]?=some gf∧gf.body.isSome=true∧(gf.name == "runtime.NumGoroutine")=false) (hm:c.P.follows .mixedOrders=true) (ht:qhF c) (hw:quK c):COK c.cfg:=by
 refine⟨hT,hF,fun g args rows v h=>?_,fun g args rows v rows2 h=>?_,hrc,hm⟩
 ·simp only[qw.cfg]at h;split at h
  ·rename_i ps v' hs
   by_cases hp:qf ps
   ·rw[if_pos hp]at h;cases h;exact ht g args rows ps v hs hp
   ·rw[if_neg hp]at h; cases h
  ·cases h
 ·simp only[qw.cfg]at h;split at h
  ·rename_i ps v' rows2' hs
   by_cases hp:qf ps
   ·rw[if_pos hp]at h;cases h;exact hw g args rows ps v rows2 hs hp
   ·rw[if_neg hp]at h; cases h
  ·cases h
theorem qC1 {c:qw} (hT:TOK c.P c.T) (hF:∀g gf,c.F g=some gf→c.P.funcs[g]?=some gf∧(gf.name == "runtime.NumGoroutine")=false)
  (hrc:∀g,c.rc g=true→∃gf,c.P.funcs[g]?=some gf∧gf.body.isSome=true∧(gf.name == "runtime.NumGoroutine")=false) (hm:c.P.follows .mixedOrders=true) (ht:qhF c)
  (hw:c.sWC=fun _ _ _=>none:=by rfl):COK c.cfg :=
 quL hT hF hrc hm ht (fun g args rows ps v rows2 h=>by simp only[hw]at h; cases h)
end Go.Aev
end
section
namespace Go.Aev
variable [Glob]
def qbx (c:Cfg) (s:AS):Option (FuncId×List V×Rows×List Nat) :=
 match s.fr.todo with
 | .it (.inRegion ops (i::_))::_=>match ops[i]? with
  | some o=>match qaK ops s.fr.env o,qa2 o.op with
   | some true,some (f,args)=>match Y2 s.fr.env f,YX s.fr.env args with
    | some fv,some vs=>match qct fv vs with
     | some (g,as) =>
      let rs:=JU s.rows as
      if c.rc g&&decide (rs.eraseDups.length=rs.length)then
       match qQ (qC (fun r=>Yk r rs 0) 8) as,qQ (fun r=>qJ (fun r=>Yk r rs 0) (qr s.rows r)) rs with
       | some as',some rows'=>if rows'.all qhj then some (g,as',rows',rs)else none
       | _,_=>none
      else none
     | none=>none
    | _,_=>none
   | _,_=>none
  | none=>none
 | _=>none
variable {w0:World} {own:Own} {m:Mp} {S:Nat→Prop} {w:World} {rows:Rows}
end Go.Aev
end
noncomputable section
namespace Go.Aev
variable [Glob]
variable {w0:World} {own:Own} {m:Mp} {S:Nat→Prop} {w:World} {rows:Rows}
theorem qC2 (inv:Inv w0 own m S w rows) {r k off len c:Nat} {ex:Bool} {es:List D} {u:Value} (hr:rows[r]?=some (qd.live (.dat k es true))) (hle:off+len≤es.length) (hv:RV m S w (.sl r k off len c ex) u) :
  RD S w (.list ((es.drop off).take len)) u:=by
 cases hv with
 | sl r k off len c ex b o c' p hm hl hc he hp hb =>
 have hrel:=Jc inv hr hm;have h3:S b:=inv.rost r _ b o hr rfl hm
 by_cases hz:len=0
 ·subst hz; simp; exact .emp _ _
 ·have hp':p=some ⟨b,o+off*k,none⟩:=by
   rcases hp with hp|hp
   ·omega
   ·exact hp
  subst hp';obtain⟨cs,t,e1,e2,en,e3⟩:=hrel;have key:∀(j:Nat) (d:D),(qq ((es.drop off).take len))[j]?=some d→∃v,cl w b (o+off*k+j)=some v∧RD S w d v:=by
   intro j d hj;obtain⟨v,hv,hrd⟩:=e3 _ d (qeC e2 off len j d hj);exact⟨v,by rw[qat e1,←hv]; congr 1; omega,hrd⟩
  refine .row _ b (o+off*k) c' k len (fun j=>(cl w b (o+off*k+j)).getD undef) (by simp; omega) hl h3 (fun e he=>e2 e (qci he)) (fun d hd=>en d (qeD (fun e he=>qci he) hd)) (fun j d hj=>?_) (fun j d hj=>?_)
  ·obtain⟨v,hv,_⟩:=key j d hj;simp only[hv,qTT]
  ·obtain⟨v,hv,hrd⟩:=key j d hj;simp only[hv,qTT];exact hrd
def qkm (rows:Rows):V→Option (List Prop×List D)
 | .nil=>some ([],[])|.d (.list es)=>some ([],es)|.sl r k off len _ _=>match qr rows r with
  | some (.dat k' es true)=>some ([k=k'∧off+len≤es.length],(es.drop off).take len)|_=>none
 | _=>none
theorem quM (inv:Inv w0 own m S w rows) {v:V} {ps:List Prop} {es:List D} {u:Value} (h:qkm rows v=some (ps,es)) (hp:qf ps) (hv:RV m S w v u):RD S w (.list es) u:=by
 unfold qkm at h;split at h
 ·cases h; cases hv; exact .emp _ _
 ·cases h; exact Ya hv
 ·split at h
  ·rename_i k' es' hl;cases h;obtain⟨⟨rfl,hle⟩,_⟩:=hp;exact qC2 inv (J6 rows _ _ hl) hle hv
  ·cases h
 ·cases h
theorem Inv.nothing (inv:Inv w0 own m S w rows):Inv w0 own (fun _=>Option.none) S w [] :=
 ⟨fun _ _=>rfl,fun r h=>(by simp at h),fun r row h=>(by simp at h),fun r b o h=>(by cases h),fun r row b o h=>(by simp at h),fun r r' row row' b o b' o' _ h=>(by simp at h),fun r row b o h=>(by simp at h),
  fun r row b o h=>(by simp at h),inv.sbnd,inv.base,inv.stb,inv.os,inv.tape,inv.output,inv.grow,inv.kept,inv.glb⟩
inductive qhG (rows:Rows):V→V→Prop
 | data (x:D):qhG rows (.d x) (.d x)
 | fn (f:FuncId):qhG rows (.fn f []) (.fn f [])
 | list {v:V} {ps:List Prop} {es:List D} (h:qkm rows v=some (ps,es)) (hp:qf ps):qhG rows v (.d (.list es))
inductive qdX (rows:Rows):List V→List V→Prop
 | nil:qdX rows [] []
 | cons {a b l r} (h:qhG rows a b) (t:qdX rows l r):qdX rows (a::l) (b::r)
theorem qdX.rel (inv:Inv w0 own m S w rows) {m':Mp} {a b:List V} (h:qdX rows a b):∀{vs:Array Value},RVs m S w a vs→RVs m' S w b vs:=by
  intro vs hv;have hl:a.length=b.length:=by
    induction h with
    | nil=>rfl|cons _ _ ih=>rename_i x y l r hx ht; simp only[qT9]; exact congrArg (·+1) (by
        clear hv;have:∀{l r:List V},qdX rows l r→l.length=r.length:=by
          intro l r h
          induction h with
          | nil=>rfl|cons _ _ ih=>simp[ih]
        exact this ht)
  have key:∀{a b:List V},qdX rows a b→∀(j:Nat) (y:V),b[j]?=some y→∃x,a[j]?=some x∧qhG rows x y:=by
    intro a b h
    induction h with
    | nil=>intro j y hy; simp at hy
    | cons h1 _ ih =>
      intro j y hy
      cases j with
      | zero=>simp at hy; subst hy; exact⟨_,rfl,h1⟩|succ j=>simp only[qUx]at hy ⊢; exact ih j y hy
  refine⟨by rw[←hl]; exact hv.1,fun j y u hy hu=>?_⟩;obtain⟨x,hx,hr⟩:=key h j y hy;have:=hv.2 j x u hx hu
  cases hr with
  | data x=>exact .d _ _ (Ya this)|fn f =>
    cases this with
    | fn _ _ arr hlen hd=>exact .fn _ _ arr hlen (fun j x v hx=>by simp at hx)
  | list h hp=>exact .d _ _ (quM inv h hp this)
theorem RCs.of_lists {P:Program} {g:FuncId} {args args':List V} {v:V} (h:RCs P g args' [] v) (ha:qdX rows args args'):RCs P g args rows v:=by
 intro w0 own m S w vs inv hro hv;exact h w0 own (fun _=>none) S w vs inv.nothing (fun r row h=>(by simp at h)) (ha.rel inv hv)
def quN (c:qw) (h:qB) (stop:AS→Bool) (n k:Nat) (rs keep:List Nat) (s:AS):List Prop×Option AS :=
 match sTo c h stop n s with
 | (ps,.next s1)=>(ps,qhE k rs keep s1)|(ps,_)=>(ps,none)
theorem qb.turn {c:qw} {k:Nat} {s s':AS} {Q:V→Rows→Prop} (hc:COK c.cfg) (h:qB) (stop:AS→Bool) (n:Nat) (rs keep:List Nat) {ps:List Prop} (e:quN c h stop n k rs keep s=(ps,some s')) (hp:qf ps) (hk:qb c k s' Q):qb c k s Q:=by
 unfold quN at e;split at e
 ·rename_i ps1 s1 h1;injection e with e1 e2
  subst e1;exact qb.to hc h stop n h1 hp (qb.move rs keep e2 hk)
 ·injection e with _ e2
  cases e2
def qpb (am:Option (List D)) (f:Nat→Option Nat) (row:Option Row):Option (List Prop×qd):=match row with
 | some (.box cs ro)=>match am with
  | some ds=>some ([cs=ds.map V.d],.live (.box (ds.map V.d) ro))|none=>match qJ f (some (.box cs ro))with
   | some s=>some ([],s)|none=>none
 | row=>match qJ f row with
  | some s=>some ([],s)|none=>none
def qkn (am:Nat→Option (List D)) (f:Nat→Option Nat) (g:Nat→Option Row):List Nat→Option (List Prop×List qd)
 | []=>some ([],[])|r::rs=>match qpb (am r) f (g r),qkn am f g rs with
  | some (ps,x),some (qs,l)=>some (ps++qs,x::l)|_,_=>none
def qpc (am:Nat→Option (List D)) (k:Nat) (rs:List Nat) (keep:List Nat) (s:AS):Option (List Prop×AS) :=
 if s.fr.todo.all qkl&&s.fr.round.isNone&&s.fr.marks.isEmpty&&s.fr.dcl.isEmpty&&s.stack.isEmpty&&(rs.take k==List.range k)&&rs.all (fun r=>decide (r<s.rows.length))&&decide (rs.eraseDups.length=rs.length)then
  match qf5 (fun r=>Yk r rs 0) keep 0 s.fr.env,qkn am (fun r=>Yk r rs 0) (qr s.rows) rs with
  | some env,some (ps,rows)=>some (ps,{fr:={s.fr with env},stack:=[],rows})
  | _,_=>none
 else none
theorem quO (f:Nat→Option Nat) (n:Nat):∀ds:List D,qQ (qC f n) (ds.map V.d)=some (ds.map V.d)
 | []=>rfl|d::r=>by
  have h:qC f n (V.d d)=some (V.d d):=by unfold qC; rfl
  simp only[qUa,qQ,h,quO f n r]
theorem qC3 {am:Option (List D)} {f:Nat→Option Nat} {row:Option Row} {ps:List Prop} {s:qd} (h:qpb am f row=some (ps,s)) (hp:qf ps):qJ f row=some s:=by
 unfold qpb at h;split at h
 ·rename_i cs ro;split at h
  ·rename_i ds;cases h;rw[hp.1];simp only[qJ,quO,qUj]
  ·split at h
   ·rename_i hm; cases h; exact hm
   ·cases h
 ·split at h
  ·rename_i hm; cases h; exact hm
  ·cases h
theorem quP {am:Nat→Option (List D)} {f:Nat→Option Nat} {g:Nat→Option Row}:∀{rs:List Nat} {ps:List Prop} {l:List qd},qkn am f g rs=some (ps,l)→qf ps→qQ (fun r=>qJ f (g r)) rs=some l
 | [],ps,l,h,_=>by cases h; rfl
 | r::rs,ps,l,h,hp=>by
  unfold qkn at h;split at h
  ·rename_i p1 x q1 l1 h1 h2;cases h;obtain⟨k1,k2⟩:=Yh hp;simp only[qQ,qC3 h1 k1,quP h2 k2]
  ·cases h
theorem qC4 {am:Nat→Option (List D)} {k:Nat} {rs keep:List Nat} {s s':AS} {ps:List Prop} (h:qpc am k rs keep s=some (ps,s')) (hp:qf ps):qhE k rs keep s=some s':=by
 unfold qpc at h;unfold qhE;split at h
 ·rename_i hc;rw[if_pos hc];split at h
  ·rename_i env ps' rows h1 h2;cases h;rw[h1,quP h2 hp]
  ·cases h
 ·cases h
def qpd (c:qw) (h:qB) (stop:AS→Bool) (n k:Nat) (rs keep:List Nat) (s:AS):List Prop×Option AS :=
 match sTo c h stop n s with
 | (ps,.next s1)=>match qpc h.mv k rs keep s1 with
  | some (qs,s2)=>(ps++qs,some s2)|none=>(ps,none)
 | (ps,_)=>(ps,none)
theorem qb.turnA {c:qw} {k:Nat} {s s':AS} {Q:V→Rows→Prop} (hc:COK c.cfg) (h:qB) (stop:AS→Bool) (n:Nat) (rs keep:List Nat) {ps:List Prop} (e:qpd c h stop n k rs keep s=(ps,some s')) (hp:qf ps) (hk:qb c k s' Q):qb c k s Q:=by
 unfold qpd at e;split at e
 ·rename_i ps1 s1 h1;split at e
  ·rename_i qs s2 h2;injection e with e1 e2
   subst e1;injection e2 with e2
   subst e2;obtain⟨k1,k2⟩:=Yh hp;exact qb.to hc h stop n h1 k1 (qb.move rs keep (qC4 h2 k2) hk)
  ·injection e with _ e2
   cases e2
 ·injection e with _ e2
  cases e2
def qn (l:List Int):List D:=l.map (D.int .i64)
theorem Jl (l:List Int):(qn l).length=l.length:=by simp[qn]
theorem qko {l:List Int} {i:Nat} (h:i<l.length):(qn l)[i]?=some (.int .i64 (l.getD i 0)):=by
 simp[qn,h]
end Go.Aev
end
noncomputable section
namespace Go.Aev
variable [Glob]
open Go.RowKit (Below)
variable {w0:World} {own:Own} {m:Mp} {S:Nat→Prop} {w:World} {rows:Rows}

end Go.Aev
end
noncomputable section
namespace Go.Aev
variable [Glob]
open Go.RowKit (Below)
variable {P:Program} {w0:World} {own:Own} {m:Mp} {S:Nat→Prop} {w:World} {rows:Rows}
theorem Inv.trans {own':Own} {m':Mp} {S':Nat→Prop} {w':World} {rows2:Rows} (inv:Inv w0 own m S w rows) (hwr:∀b,own' b→w0.heap.size≤b∨own b) (hst:∀b,own'.st b↔S b) (i2:Inv w own' m' S' w' rows2):Inv w0 own m' S' w' rows2:=by
 refine⟨i2.none,i2.fre,i2.row,i2.bnd,fun r row b o h1 h2 h3=>?_,i2.apart,i2.stab,i2.rost,i2.sbnd,fun b hb=>?_,fun b hb=>i2.stb b ((hst b).2 (inv.stb b hb)),i2.os.trans inv.os,i2.tape.trans inv.tape,i2.output.trans inv.output,qT2 inv.grow i2.grow,fun b hb hn=>?_,i2.glb⟩
 ·rcases i2.new r row b o h1 h2 h3 with h|h
  ·exact .inl (qT2 inv.grow h)
  ·exact hwr b h
 ·rcases i2.base b hb with h|h|h
  ·exact inv.base b ((hst b).1 h)
  ·exact .inr (.inl (qT2 inv.grow h))
  ·exact .inr (hwr b h)
 ·rw[i2.kept b (qUn hb inv.grow) (fun h=>by
   rcases hwr b h with h|h
   ·omega
   ·exact hn h)]
  exact inv.kept b hb hn
end Go.Aev
end
noncomputable section
namespace Go.Aev
variable [Glob]
variable {w0:World} {own:Own} {m:Mp} {S:Nat→Prop} {w:World} {rows:Rows}
def anyNil (c:Cfg) (s:AS) (b:Bool):Option AS :=
 match s.fr.todo with
 | .it (.inRegion ops (i::rest))::kk=>match ops[i]? with
  | some o=>match o.op with
   | .binOp .eql t x y _=>match qaK ops s.fr.env o,c.T t,Y2 s.fr.env x,Y2 s.fr.env y with
    | some true,some ty,some (.d (.list [])),some .nil=>match ty.desc with
     | .slice _=>some {s with fr:={s.fr with env:=Js s.fr.env o.dst (.d (.bool b)),todo:=.it (.inRegion ops rest)::kk}}
     | _=>none
    | _,_,_,_=>none
   | _=>none
  | none=>none
 | _=>none
theorem qb.anyNil {c:qw} (hc:COK c.cfg) {k:Nat} {s:AS} {Q:V→Rows→Prop} (h:∀b:Bool,∃s',Aev.anyNil c.cfg s b=some s'∧qb c k s' Q):qb c k s Q:=by
 intro w0 own bt f M hb hs;obtain⟨hbf,m,S,w,tmps,todo,ds,ro,cs,rfl,inv,hfr,hst⟩:=hs;have ht:=hfr.todo;have key:∃b:Bool,∀s',Aev.anyNil c.cfg s b=some s'→∃M',Steps c.P (lone (rfr s.fr.fn tmps todo ds ro) cs w) M'∧qar c.P w0 own bt f s' M':=by
  obtain⟨s1,e1,_⟩:=h true;unfold Aev.anyNil at e1;split at e1
  ·rename_i ops i rest kk htodo;rw[htodo]at ht
   cases ht with
   | cons hi tl =>
   rename_i kr;cases hi;split at e1
   ·rename_i o ho;split at e1
    ·rename_i t x y z hop;split at e1
     ·rename_i ty hw hT hx hy;split at e1
      ·rename_i el hd;have hρ:=qdb (fn:=s.fr.fn) (todo:=.inRegion ops (i::rest)::kr) (ds:=ds) (ro:=ro) inv.glb hfr.env;have hxr:=Ya (hρ x _ hx);have hyr:=hρ y _ hy;have hw':=qcy hfr.env hw;have hyr':(rfr s.fr.fn tmps (.inRegion ops (i::rest)::kr) ds ro).eval y=.slice none 0 0:=by
        generalize (rfr s.fr.fn tmps (.inRegion ops (i::rest)::kr) ds ro).eval y=yv at hyr;cases hyr; rfl
       have hxr':∃p n cap,(rfr s.fr.fn tmps (.inRegion ops (i::rest)::kr) ds ro).eval x=.slice p n cap:=by
        generalize (rfr s.fr.fn tmps (.inRegion ops (i::rest)::kr) ds ro).eval x=xv at hxr
        cases hxr with
        | emp p cap=>exact⟨_,_,_,rfl⟩|row es b o cap k n vs=>exact⟨_,_,_,rfl⟩
       obtain⟨p,n,cap,hxe⟩:=hxr';have hpair:qbv ty.desc (.slice p n cap) (.slice none 0 0) p.isNone:=by
        rw[hd]
        cases p with
        | none=>exact .s0 ..
        | some q=>exact .s1 ..
       obtain⟨h1,h2,h3,h4⟩:=qow (P:=c.P) (w:=w) (show q6 c.P t=some ty from hc.T t ty hT) hpair;refine⟨p.isNone,fun s' he=>?_⟩;unfold Aev.anyNil at he;simp only[htodo,ho,hop,hw,hT,hx,hy,hd]at he;cases he;have hnd:∀cc,o.op≠.defer cc:=by rw[hop]; intro cc hcc; cases hcc
       have hrun:(execOp (rfr s.fr.fn tmps (.inRegion ops (i::rest)::kr) ds ro).eval o).run c.P w=.ok (.value (.bool p.isNone)) w:=by
        obtain⟨dst,op,type,pos,after,guard⟩:=o;simp only at hop;subst hop;have h0:(do eqGuard .eql t x y ((rfr s.fr.fn tmps (.inRegion ops (i::rest)::kr) ds ro).eval x) ((rfr s.fr.fn tmps (.inRegion ops (i::rest)::kr) ds ro).eval y); binOp .eql t ((rfr s.fr.fn tmps (.inRegion ops (i::rest)::kr) ds ro).eval x) ((rfr s.fr.fn tmps (.inRegion ops (i::rest)::kr) ds ro).eval y):Sem Value).run c.P w=.ok (.bool p.isNone) w:=by
         rw[hxe,hyr'];simp only[Sem.run_bind,h2,Result.andThen_ok,h3,h1,Sem.run_pure]
        have h5:∀(sv:Sem Value) (u:Value),sv.run c.P w=.ok u w→(do pure (Next.value (←sv)):Sem Next).run c.P w=.ok (.value u) w:=fun sv u hh=>by simp[hh]
        exact h5 _ _ h0
       refine⟨_,.one (qg7 ho hw' hnd hrun (.inl rfl)),?_,m,S,w,_,_,ds,ro,cs,rfl,inv,⟨qaL hfr.env (.d _ _ (.bool _)) o.dst,.cons rfl tl,hfr.ds,hfr.ro⟩,hst⟩;show Jz _ s.stack=f;rw[qaq]at hbf ⊢;exact hbf
      ·cases e1
     ·cases e1
    ·cases e1
   ·cases e1
  ·cases e1
 obtain⟨b,hk⟩:=key;obtain⟨s',e1,e2⟩:=h b;obtain⟨M',st,hs'⟩:=hk s' e1;obtain⟨v,rows',hq,hf⟩:=e2 w0 own bt f M' hb hs';exact⟨v,rows',hq,hf.of_steps st⟩
end Go.Aev
end
section
namespace Go.Aev
variable [Glob]
def qkr:Int→Int→Bool
 | .ofNat a,.ofNat b=>Nat.beq a b|.negSucc a,.negSucc b=>Nat.beq a b|_,_=>false
theorem qeY {a b:Int} (h:qkr a b=true):a=b:=by
 unfold qkr at h;split at h
 ·rw[qUt]at h; rw[h]
 ·rw[qUt]at h; rw[h]
 ·cases h
def qks:List UInt8→List UInt8→Bool
 | [],[]=>true|a::l,b::r=>match Nat.beq a.toNat b.toNat with
  | true=>qks l r|false=>false
 | _,_=>false
theorem quS:∀{l r:List UInt8},qks l r=true→l=r
 | [],[],_=>rfl|a::l,b::r,h=>by
  simp only[qks]at h;split at h
  ·rename_i h1;rw[qUt]at h1;rw[UInt8.toNat_inj.1 h1,quS h]
  ·cases h
 | [],_::_,h=>by cases h
 | _::_,[],h=>by cases h
def quT (a b:ByteArray):Bool:=qks a.data.toList b.data.toList
theorem qC8 {a b:ByteArray} (h:quT a b=true):a=b:=by
 have:=quS h;cases a; cases b;simp only[ByteArray.mk.injEq];exact Array.toList_inj.1 this
mutual
def D.same:D→D→Bool
 | .int k n,.int k' n'=>match decide (k=k')with
  | true=>qkr n n'|false=>false
 | .bool b,.bool b'=>b==b'|.str s,.str s'=>quT s s'|.list l,.list r=>D.sames l r|.agg l,.agg r=>D.sames l r|.nilp,.nilp=>true|.nilf,.nilf=>true|.nilm,.nilm=>true|.nili,.nili=>true|_,_=>false
def D.sames:List D→List D→Bool
 | [],[]=>true|a::l,b::r=>match D.same a b with
  | true=>D.sames l r|false=>false
 | _,_=>false
end
mutual
theorem D.same_eq:∀{a b:D},D.same a b=true→a=b
 | .int k n,b,h=>by
  cases b<;>simp only[D.same]at h<;>try cases h
  split at h
  ·rename_i hk; rw[of_decide_eq_true hk,qeY h]
  ·cases h
 | .bool x,b,h=>by cases b<;>simp only[D.same]at h<;>first | (cases h; done) | (have:=beq_iff_eq.1 h; rw[this])
 | .str x,b,h=>by cases b<;>simp only[D.same]at h<;>first | (cases h; done) | rw[qC8 h]
 | .list l,b,h=>by cases b<;>simp only[D.same]at h<;>first | (cases h; done) | rw[D.sames_eq h]
 | .agg l,b,h=>by cases b<;>simp only[D.same]at h<;>first | (cases h; done) | rw[D.sames_eq h]
 | .nilp,b,h=>by cases b<;>simp only[D.same]at h<;>first | (cases h; done) | rfl
 | .nilf,b,h=>by cases b<;>simp only[D.same]at h<;>first | (cases h; done) | rfl
 | .nilm,b,h=>by cases b<;>simp only[D.same]at h<;>first | (cases h; done) | rfl
 | .nili,b,h=>by cases b<;>simp only[D.same]at h<;>first | (cases h; done) | rfl
theorem D.sames_eq:∀{l r:List D},D.sames l r=true→l=r
 | [],[],_=>rfl|a::l,b::r,h=>by
  simp only[D.sames]at h;split at h
  ·rename_i h1; rw[D.same_eq h1,D.sames_eq h]
  ·cases h
 | [],_::_,h=>by simp[D.sames]at h
 | _::_,[],h=>by simp[D.sames]at h
end
mutual
def V.same:V→V→Bool
 | .d x,.d y=>D.same x y|.nil,.nil=>true|.sl r k o l c e,.sl r' k' o' l' c' e'=>Nat.beq r r'&&Nat.beq k k'&&Nat.beq o o'&&Nat.beq l l'&&Nat.beq c c'&&(e==e')|.pt r k i f,.pt r' k' i' f'=>Nat.beq r r'&&Nat.beq k k'&&Nat.beq i i'&&Nat.beq f f'|.dp x,.dp y=>D.same x y|.fn f cs,.fn f' cs'=>Nat.beq f f'&&V.sames cs cs'|.agg l,.agg r=>V.sames l r|.tup l,.tup r=>V.sames l r|.bf f cs,.bf f' cs'=>Nat.beq f f'&&V.sames cs cs'|.mp r,.mp r'=>Nat.beq r r'|.fp l,.fp r=>V.sames l r|.ifc t x,.ifc t' y=>Nat.beq t t'&&V.same x y|_,_=>false
def V.sames:List V→List V→Bool
 | [],[]=>true|a::l,b::r=>match V.same a b with
  | true=>V.sames l r|false=>false
 | _,_=>false
end
mutual
theorem V.same_eq:∀{a b:V},V.same a b=true→a=b
 | .d x,b,h=>by cases b<;>simp only[V.same]at h<;>first | (cases h; done) | rw[D.same_eq h]
 | .nil,b,h=>by cases b<;>simp only[V.same]at h<;>first | (cases h; done) | rfl
 | .sl r k o l c e,b,h=>by
  cases b<;>simp only[V.same]at h<;>try (cases h; done)
  simp only[qTC,qUt,beq_iff_eq]at h;obtain⟨⟨⟨⟨⟨h1,h2⟩,h3⟩,h4⟩,h5⟩,h6⟩:=h;rw[h1,h2,h3,h4,h5,h6]
 | .pt r k i f,b,h=>by
  cases b<;>simp only[V.same]at h<;>try (cases h; done)
  simp only[qTC,qUt]at h;obtain⟨⟨⟨h1,h2⟩,h3⟩,h4⟩:=h;rw[h1,h2,h3,h4]
 | .dp x,b,h=>by cases b<;>simp only[V.same]at h<;>first | (cases h; done) | rw[D.same_eq h]
 | .fn f cs,b,h=>by
  cases b<;>simp only[V.same]at h<;>try (cases h; done)
  simp only[qTC,qUt]at h;rw[h.1,V.sames_eq h.2]
 | .agg l,b,h=>by cases b<;>simp only[V.same]at h<;>first | (cases h; done) | rw[V.sames_eq h]
 | .tup l,b,h=>by cases b<;>simp only[V.same]at h<;>first | (cases h; done) | rw[V.sames_eq h]
 | .bf f cs,b,h=>by
  cases b<;>simp only[V.same]at h<;>try (cases h; done)
  simp only[qTC,qUt]at h;rw[h.1,V.sames_eq h.2]
 | .yl r,b,h=>by cases b<;>simp[V.same]at h
 | .mp r,b,h=>by
  cases b<;>simp only[V.same]at h<;>try (cases h; done)
  rw[qUt]at h; rw[h]
 | .top,b,h=>by cases b<;>simp[V.same]at h
 | .ifc t x,b,h=>by
  cases b<;>simp only[V.same]at h<;>try (cases h; done)
  simp only[qTC,qUt]at h;rw[h.1,V.same_eq h.2]
 | .fp l,b,h=>by cases b<;>simp only[V.same]at h<;>first | (cases h; done) | rw[V.sames_eq h]
 | .fm _ _,b,h=>by cases b<;>simp[V.same]at h
 | .any,b,h=>by cases b<;>simp[V.same]at h
theorem V.sames_eq:∀{l r:List V},V.sames l r=true→l=r
 | [],[],_=>rfl|a::l,b::r,h=>by
  simp only[V.sames]at h;split at h
  ·rename_i h1; rw[V.same_eq h1,V.sames_eq h]
  ·cases h
 | [],_::_,h=>by simp[V.sames]at h
 | _::_,[],h=>by simp[V.sames]at h
end
def qf6:List (D×V)→List (D×V)→Bool
 | [],[]=>true|a::l,b::r=>D.same a.1 b.1&&V.same a.2 b.2&&qf6 l r|_,_=>false
theorem quU:∀{l r:List (D×V)},qf6 l r=true→l=r
 | [],[],_=>rfl|(a,x)::l,(b,y)::r,h=>by
  simp only[qf6,qTC]at h;rw[D.same_eq h.1.1,V.same_eq h.1.2,quU h.2]
 | [],_::_,h=>by simp[qf6]at h
 | _::_,[],h=>by simp[qf6]at h
def qd.same:qd→qd→Bool
 | .live (.dat k es ro),.live (.dat k' es' ro')=>Nat.beq k k'&&D.sames es es'&&(ro==ro')|.live (.box cs ro),.live (.box cs' ro')=>V.sames cs cs'&&(ro==ro')|.live (.map es k ro),.live (.map es' k' ro')=>Nat.beq k k'&&qf6 es es'&&(ro==ro')|.dead,.dead=>true|.free,.free=>true|_,_=>false
theorem qd.same_eq {a b:qd} (h:qd.same a b=true):a=b:=by
 unfold qd.same at h;split at h
 ·simp only[qTC,qUt,beq_iff_eq]at h;obtain⟨⟨h1,h2⟩,h3⟩:=h;rw[h1,D.sames_eq h2,h3]
 ·simp only[qTC,beq_iff_eq]at h;rw[V.sames_eq h.1,h.2]
 ·simp only[qTC,qUt,beq_iff_eq]at h;rw[h.1.1,quU h.1.2,h.2]
 ·rfl
 ·rfl
 ·cases h
def qf7:Rows→Rows→Bool
 | [],[]=>true|a::l,b::r=>match qd.same a b with
  | true=>qf7 l r|false=>false
 | _,_=>false
theorem quV:∀{l r:Rows},qf7 l r=true→l=r
 | [],[],_=>rfl|a::l,b::r,h=>by
  simp only[qf7]at h;split at h
  ·rename_i h1; rw[qd.same_eq h1,quV h]
  ·cases h
 | [],_::_,h=>by simp[qf7]at h
 | _::_,[],h=>by simp[qf7]at h
structure Ent where
 g:FuncId
 args:List V
 rows:Rows
 v:V
def qhH:List Ent→FuncId→List V→Rows→Option V
 | [],_,_,_=>none|e::t,g,args,rows=>match Nat.beq e.g g&&V.sames e.args args&&qf7 e.rows rows with
  | true=>some e.v|false=>qhH t g args rows
theorem quW:∀{t:List Ent} {g:FuncId} {args:List V} {rows:Rows} {v:V},qhH t g args rows=some v→(⟨g,args,rows,v⟩:Ent)∈t
 | e::t,g,args,rows,v,h=>by
  simp only[qhH]at h;split at h
  ·rename_i hh;cases h;simp only[qTC,qUt]at hh;obtain⟨⟨h1,h2⟩,h3⟩:=hh;have e1:=V.sames_eq h2;have e2:=quV h3;cases e;simp only at h1 e1 e2;subst h1 e1 e2;exact qTR
  ·exact qTG _ (quW h)
end Go.Aev
end
section
namespace Go.Aev
variable [Glob]
def qhM (P:Program) (g:FuncId):Bool:=match P.funcs[g]? with
 | some gf=>gf.body.isSome|none=>false
def qpk (P:Program) (po:FuncId→Bool) (sRC:FuncId→List V→Aev.Rows→Option (List Prop×V)):qw:={P:=P,T:=q6 P,F:=fun g=>P.funcs[g]?,rc:=qhM P,po,sRC}
theorem qkt {P:Program} (YN:(P.funcs.toList.all fun f=>!(f.name == "runtime.NumGoroutine"))=true) {g:FuncId} {gf:Func} (h:P.funcs[g]?=some gf):(gf.name == "runtime.NumGoroutine")=false:=by
 have:=(qTI.1 YN) gf (by rw[Array.mem_toList_iff]; exact qVR h);simpa using this
theorem qpl {P:Program} (YN:(P.funcs.toList.all fun f=>!(f.name == "runtime.NumGoroutine"))=true) (g:FuncId) (h:qhM P g=true):∃gf,P.funcs[g]?=some gf∧gf.body.isSome=true∧(gf.name == "runtime.NumGoroutine")=false:=by
 unfold qhM at h;split at h
 ·rename_i gf hg; exact⟨gf,hg,h,qkt YN hg⟩
 ·cases h
def mkW (P:Program) (po:FuncId→Bool) (sRC:FuncId→List V→Aev.Rows→Option (List Prop×V)) (sWC:FuncId→List V→Aev.Rows→Option (List Prop×V×Aev.Rows)):qw:={P:=P,T:=q6 P,F:=fun g=>P.funcs[g]?,rc:=qhM P,po,sRC,sWC}
theorem qC9 {P:Program} (YN:(P.funcs.toList.all fun f=>!(f.name == "runtime.NumGoroutine"))=true) (mixed:P.follows .mixedOrders=true)
  {po:FuncId→Bool} {sRC:FuncId→List V→Aev.Rows→Option (List Prop×V)} {sWC:FuncId→List V→Aev.Rows→Option (List Prop×V×Aev.Rows)} (ht:qhF (mkW P po sRC sWC)) (hw:quK (mkW P po sRC sWC)):COK (mkW P po sRC sWC).cfg :=
 quL (fun _ _ h=>h) (fun _ _ h=>⟨h,qkt YN h⟩) (qpl YN) mixed ht hw
theorem qDa {P:Program} (YN:(P.funcs.toList.all fun f=>!(f.name == "runtime.NumGoroutine"))=true) (mixed:P.follows .mixedOrders=true)
  {po:FuncId→Bool} {sRC:FuncId→List V→Aev.Rows→Option (List Prop×V)} (ht:qhF (qpk P po sRC)):COK (qpk P po sRC).cfg :=
 qC1 (fun _ _ h=>h) (fun _ _ h=>⟨h,qkt YN h⟩) (qpl YN) mixed ht
def JJ (o:List Prop×Out):AS:=match o.2 with
 | .next s=>s|_=>⟨⟨0,[],[],none,[],[]⟩,[],[]⟩
noncomputable def start (c:qw) (g:FuncId) (args:List V) (rows:Aev.Rows):AS:=match Jd c.cfg g args with
 | some fr=>⟨fr,[],rows⟩|none=>⟨⟨0,[],[],none,[],[]⟩,[],[]⟩
abbrev I (n:Int):V:=.d (.int .i64 n)
abbrev U64 (n:Int):V:=.d (.int .u64 n)
abbrev B (b:Bool):V:=.d (.bool b)
abbrev L (l:List Int):V:=.d (.list (qn l))
abbrev LB (l:List UInt8):V:=.d (.list (qh l))
def qDb (n:Nat) (l:List (Nat×V)):List V:=(List.range n).map fun i=>match l.find? (fun p=>Nat.beq p.1 i)with
 | some p=>p.2|none=>.any
def hd (g:FuncId) (td:List qT) (n:Nat) (l:List (Nat×V)) (rows:Aev.Rows):AS:=⟨⟨g,qDb n l,td,none,[],[]⟩,[],rows⟩
theorem qku {c:qw} {g:FuncId} {args:List V} {rows:Aev.Rows} {fr:AF} (h:Jd c.cfg g args=some fr):start c g args rows=⟨fr,[],rows⟩:=by unfold start; rw[h]
theorem qY {c:qw} (hc:COK c.cfg) {g:FuncId} {args:List V} {rows:Aev.Rows} {x:V} (he:(Jd c.cfg g args).isSome=true) (h:qb c 0 (start c g args rows) fun v rows'=>qcw (qr rows') v=some x):RCs c.P g args rows x:=by
 obtain⟨fr,hf⟩:=qVx.1 he;rw[qku hf]at h;exact quJ (qpa hc hf h)
theorem qa9 {c:qw} (hc:COK c.cfg) {g:FuncId} {k:Nat} {args:List V} {rows:Aev.Rows} {R:V→Aev.Rows→Prop} (he:(Jd c.cfg g args).isSome=true) (h:qb c k (start c g args rows) R):qS c.P g k args rows R:=by
 obtain⟨fr,hf⟩:=qVx.1 he;rw[qku hf]at h;exact qpa hc hf h
def qg (gd:List (Nat×Bool)) (lst:List (Nat×(Nat→D)):=[]) (row:List (Nat×(Nat→D)):=[]) (md:Nat:=0) (ar:Bool:=false) (sh:Bool:=false) (wr:Bool:=false) (sx:Bool:=false) (mz:List Nat:=[]) (nz:List Nat:=[]):qB :=
 {gd:=fun i=>match gd.find? (fun p=>Nat.beq p.1 i)with|some p=>some p.2|none=>none,lst:=fun t=>lst.find? (fun p=>Nat.beq p.1 t) |>.map (·.2),row:=fun t=>row.find? (fun p=>Nat.beq p.1 t) |>.map (·.2),md,ar,sh,wr,sx,mz:=fun t=>mz.any (Nat.beq t),nz:=fun t=>nz.any (Nat.beq t)}
def elI (l:List Int):Nat→D:=fun i=>.int .i64 (l.getD i 0)
end Go.Aev
namespace Go.Aev
variable [Glob]
def qo (s:AS):Bool :=
 match s.fr.todo,s.stack with
 | .it (.inLoop _)::_,[]=>true|.it (.code (.loop _))::_,[]=>true|_,_=>false
end Go.Aev
end
noncomputable section
namespace Go.Aev
variable [Glob]
variable {w0:World} {own:Own} {m:Mp} {S:Nat→Prop} {w:World} {rows:Rows}
def qhI (rows:Rows) (v:V):Option (List Prop×D):=match v with
 | .d x=>some ([],x)|v=>match qkm rows v with
  | some (ps,es)=>some (ps,.list es)|none=>none
def qhJ (rows:Rows):List V→Option (List Prop×List D)
 | []=>some ([],[])|v::r=>match qhI rows v,qhJ rows r with
  | some (ps,x),some (qs,l)=>some (ps++qs,x::l)|_,_=>none
def qf8 (rows:Rows) (v:V):Option (List Prop×V):=match v with
 | .fn f []=>some ([],.fn f [])|.agg cs=>match qhJ rows cs with
  | some (ps,l)=>some (ps,.d (.agg l))|none=>none
 | v=>match qhI rows v with
  | some (ps,x)=>some (ps,.d x)|none=>none
def qdf (rows:Rows):List V→Option (List Prop×List V)
 | []=>some ([],[])|v::r=>match qf8 rows v,qdf rows r with
  | some (ps,x),some (qs,l)=>some (ps++qs,x::l)|_,_=>none
theorem qpg (inv:Inv w0 own m S w rows) {v:V} {ps:List Prop} {x:D} {u:Value} (h:qhI rows v=some (ps,x)) (hp:qf ps) (hv:RV m S w v u):RD S w x u:=by
 unfold qhI at h;split at h
 ·cases h; exact Ya hv
 ·split at h
  ·rename_i qs es hl;cases h;exact quM inv hl hp hv
  ·cases h
theorem quX {l:List V} {ps:List Prop} {ds:List D} (h:qhJ rows l=some (ps,ds)) (hp:qf ps):l.length=ds.length∧∀(j:Nat) (x:D),ds[j]?=some x→∃v qs,l[j]?=some v∧qhI rows v=some (qs,x)∧qf qs:=by
 induction l generalizing ps ds with
 | nil=>cases h; exact⟨rfl,fun j x hx=>by simp at hx⟩
 | cons v r ih =>
  unfold qhJ at h;split at h
  ·rename_i qs x rs l' h1 h2;cases h;obtain⟨p1,p2⟩:=Yh hp;obtain⟨e,k⟩:=ih h2 p2;refine⟨by simp[e],fun j y hy=>?_⟩
   cases j with
   | zero=>simp at hy; subst hy; exact⟨v,qs,rfl,h1,p1⟩|succ j=>simp only[qUx]at hy ⊢; exact k j y hy
  ·cases h
theorem qph (inv:Inv w0 own m S w rows) {m':Mp} {v x:V} {ps:List Prop} {u:Value} (h:qf8 rows v=some (ps,x)) (hp:qf ps) (hv:RV m S w v u):RV m' S w x u:=by
 unfold qf8 at h;split at h
 ·cases h
  cases hv with
  | fn _ _ arr hlen hd=>exact .fn _ _ arr hlen (fun j x v hx=>by simp at hx)
 ·split at h
  ·rename_i cs qs l hc;cases h
   cases hv with
   | agg _ arr hlen hd =>
    obtain⟨e,k⟩:=quX hc hp;refine .d _ _ (.agg _ arr (by rw[hlen,e]) (fun j d y hd' hy=>?_));obtain⟨v',qs,h1,h2,h3⟩:=k j d hd';exact qpg inv h2 h3 (hd j v' y h1 hy)
  ·cases h
 ·split at h
  ·rename_i qs y hc;cases h;exact .d _ _ (qpg inv hc hp hv)
  ·cases h
theorem qpi (inv:Inv w0 own m S w rows) {m':Mp} {l l':List V} {ps:List Prop} (h:qdf rows l=some (ps,l')) (hp:qf ps) {vs:Array Value} (hv:RVs m S w l vs):RVs m' S w l' vs:=by
 have key:∀{l l':List V} {ps:List Prop},qdf rows l=some (ps,l')→qf ps→l.length=l'.length∧∀(j:Nat) (y:V),l'[j]?=some y→∃x qs,l[j]?=some x∧qf8 rows x=some (qs,y)∧qf qs:=by
  intro l
  induction l with
  | nil=>intro l' ps h hp; cases h; exact⟨rfl,fun j x hx=>by simp at hx⟩
  | cons v r ih =>
   intro l' ps h hp;unfold qdf at h;split at h
   ·rename_i qs x rs l'' h1 h2;cases h;obtain⟨p1,p2⟩:=Yh hp;obtain⟨e,k⟩:=ih h2 p2;refine⟨by simp[e],fun j y hy=>?_⟩
    cases j with
    | zero=>simp at hy; subst hy; exact⟨v,qs,rfl,h1,p1⟩|succ j=>simp only[qUx]at hy ⊢; exact k j y hy
   ·cases h
 obtain⟨e,k⟩:=key h hp;refine⟨by rw[←e]; exact hv.1,fun j y u hy hu=>?_⟩;obtain⟨x,qs,hx,ha,hq⟩:=k j y hy;exact qph inv ha hq (hv.2 j x u hx hu)
theorem RCs.of_argsU {P:Program} {g:FuncId} {args args':List V} {ps:List Prop} {v:V} (h:RCs P g args' [] v) (ha:qdf rows args=some (ps,args')) (hp:qf ps):RCs P g args rows v:=by
 intro w0 own m S w vs inv hro hv;exact h w0 own (fun _=>none) S w vs inv.nothing (fun r row h=>(by simp at h)) (qpi inv ha hp hv)
def qhK (P:Program) (f:FuncId→Option (List V→V)) (g:FuncId) (args:List V) (rows:Rows):Option (List Prop×V) :=
 match f g with
 | some a=>match qdf rows args with
  | some (ps,args')=>some (ps++[RCs P g args' [] (a args')],a args')|none=>none
 | none=>none
theorem quY {P:Program} {f:FuncId→Option (List V→V)} {g:FuncId} {args:List V} {rows:Rows} {ps:List Prop} {v:V} (h:qhK P f g args rows=some (ps,v)) (hp:qf ps):RCs P g args rows v:=by
 unfold qhK at h;split at h
 ·split at h
  ·rename_i a ha qs args' hx;cases h;obtain⟨p1,p2,_⟩:=Yh hp;exact p2.of_argsU hx p1
  ·cases h
 ·cases h
def tb (l:List (FuncId×(List V→V))) (g:FuncId):Option (List V→V):=match l.find? (fun p=>Nat.beq p.1 g)with
 | some p=>some p.2|none=>none
def qhL {α:Type} [Inhabited α] (p:α→Prop):α:=@dite α (∃x,p x) (Classical.propDecidable _) (fun h=>Classical.choose h) (fun _=>default)
theorem qpj {α:Type} [Inhabited α] {p:α→Prop} (h:∃x,p x):p (qhL p):=by
 unfold qhL; rw[dif_pos h]; exact Classical.choose_spec h
def toI:D→Int
 | .int _ n=>n|_=>0
def toB:D→Bool
 | .bool b=>b|_=>false
def toS:D→List UInt8
 | .str s=>s.data.toList|_=>[]
def toL:D→List D
 | .list l=>l|_=>[]
def cel (d:D) (i:Nat):D:=d.cells.getD i .nilp
def cB (d:D) (i:Nat):Bool:=toB (cel d i)
def cS (d:D) (i:Nat):List UInt8:=toS (cel d i)
def qg4:qd→qd
 | .live (.dat k es _)=>.live (.dat k es true)|.live (.box cs _)=>.live (.box cs true)|s=>s
def frN (rows:Rows):Nat→Rows
 | 0=>rows|n+1=>match (frN rows n)[n]? with
  | some s=>qz (frN rows n) n (qg4 s)|none=>frN rows n
theorem qAm (inv:Inv w0 own m S w rows) (n:Nat):∃S',Inv w0 own m S' w (frN rows n)∧Ext m S w m S' w:=by
 induction n with
 | zero=>exact⟨S,inv,Ext.refl ..⟩|succ n ih =>
  obtain⟨S1,i1,e1⟩:=ih;unfold frN
  cases hs:(frN rows n)[n]? with
  | none=>exact⟨S1,i1,e1⟩|some s =>
   have key:∀row:Row,s=.live row→row.freeze.rw=false→qg4 s=.live row.freeze→∃S',Inv w0 own m S' w (qz (frN rows n) n (qg4 s))∧Ext m S w m S' w:=by
    intro row h1 hf h2;subst h1;rw[h2]
    cases hw:row.rw with
    | true =>
     obtain⟨b,o,hm,_⟩:=i1.row n row hs;obtain⟨k1,k2⟩:=i1.freeze n row b o hs hf hw hm;exact⟨_,k1,e1.trans k2⟩
    | false =>
     rw[qtX hf hw,qdF hs];exact⟨S1,i1,e1⟩
   have same:qg4 s=s→∃S',Inv w0 own m S' w (qz (frN rows n) n (qg4 s))∧Ext m S w m S' w:=by
    intro h;rw[h,qdF hs];exact⟨S1,i1,e1⟩
   cases s with
   | free=>exact same rfl|dead=>exact same rfl|live row =>
    cases row with
    | dat k es ro=>exact key _ rfl rfl rfl|box cs ro=>exact key _ rfl rfl rfl|map es c ro=>exact same rfl|loop=>exact same rfl|dfr=>exact same rfl|iter=>exact same rfl
def qja (rows:Rows) (v:V):Option (List Prop×V):=match v with
 | .sl r k off len _ _=>match qr rows r with
  | some (.box cs true)=>match qhJ rows ((cs.drop off).take len)with
   | some (ps,ds)=>match Nat.beq k 1&&(Nat.ble (off+len) cs.length&&ds.all (fun d=>!d.isAgg))with
    | true=>some (ps,.d (.list ds))|false=>none
   | none=>none
  | _=>none
 | _=>none
theorem qs2 (inv:Inv w0 own m S w rows) {m':Mp} {v x:V} {ps:List Prop} {u:Value} (h:qja rows v=some (ps,x)) (hp:qf ps) (hv:RV m S w v u):RV m' S w x u:=by
 unfold qja at h;split at h
 ·rename_i r k off len c ex;split at h
  ·rename_i cs hr0;have hr:=J6 rows _ _ hr0;split at h
   ·rename_i qs ds hc;split at h
    ·rename_i hb;cases h;rw[qTC,qTC]at hb;have hk:=qTO hb.1;have hle:=qT5 hb.2.1;have hsc:=hb.2.2;subst hk;obtain⟨hlen,hget⟩:=quX hc hp;have hdl:ds.length=len:=by rw[←hlen,qTU,qT8]; omega
     refine .d _ _ ?_
     cases hv with
     | sl r k off len c ex b o c' p hm hl hc' he hp' hb' =>
     have hrel:=Jc inv hr hm;have h3:S b:=inv.rost r _ b o hr rfl hm
     by_cases hz:len=0
     ·subst hz;rw[qVS.1 hdl]; exact .emp _ _
     ·have hp2:p=some ⟨b,o+off*1,none⟩:=by
       rcases hp' with hp' | hp'
       ·omega
       ·exact hp'
      subst hp2;obtain⟨ca,t,e1,e3⟩:=hrel;have hone:∀d∈ds,d.isAgg=false:=fun d hd=>by have:=qTI.1 hsc d hd; simpa using this
      have hcell:∀d∈ds,d.cells=[d]:=fun d hd=>by
       have:=hone d hd;cases d<;>first|rfl|cases this
      have hflat:qq ds=ds:=by
       unfold qq;have:∀l:List D,(∀d∈l,d.cells=[d])→l.flatMap D.cells=l:=by
        intro l
        induction l with
        | nil=>intro _; rfl
        | cons a l ih=>intro h; rw[qUq,h a (by simp),ih fun d hd=>h d (qTG _ hd)]; rfl
       exact this ds hcell
      have key:∀(j:Nat) (d:D),ds[j]?=some d→∃v,cl w b (o+off*1+j)=some v∧RD S w d v:=by
       intro j d hj;obtain⟨x,rs,h1,h2,h3⟩:=hget j d hj;have hjl:j<len:=by have:=qL hj; omega
       have hx:cs[off+j]?=some x:=by
        rw[qUh,if_pos hjl,qUk]at h1; exact h1
       obtain⟨v,hv,hrv⟩:=e3 _ x hx;exact⟨v,by rw[qat e1,←hv]; congr 1; omega,qpg inv h2 h3 hrv⟩
      refine .row _ b (o+off*1) c' 1 len (fun j=>(cl w b (o+off*1+j)).getD undef) hdl.symm hl h3 (fun e he=>by rw[hcell e he]; rfl) (fun d hd=>hone d (by rw[hflat]at hd; exact hd)) (fun j d hj=>?_) (fun j d hj=>?_)
      ·rw[hflat]at hj;obtain⟨v,hv,_⟩:=key j d hj;simp only[hv,qTT]
      ·rw[hflat]at hj;obtain⟨v,hv,hrd⟩:=key j d hj;simp only[hv,qTT];exact hrd
    ·cases h
   ·cases h
  ·cases h
 ·cases h
def qjb (rows:Rows) (v:V):Option (List Prop×V):=match v with
 | .tup vs=>match qdf (frN rows rows.length) vs with
  | some (ps,l)=>some (ps,.tup l)|none=>none
 | v=>match qja (frN rows rows.length) v with
  | some x=>some x|none=>qf8 (frN rows rows.length) v
theorem qAn (inv:Inv w0 own m S w rows) {v x:V} {ps:List Prop} {u:Value} (h:qjb rows v=some (ps,x)) (hp:qf ps) (hv:RV m S w v u) :
  ∃S' rows',Inv w0 own m S' w rows'∧∀m2:Mp,RV m2 S' w x u:=by
 obtain⟨S1,i1,e1⟩:=qAm inv rows.length;have hv1:=hv.ext e1;unfold qjb at h;split at h
 ·split at h
  ·rename_i vs qs l hl;cases h
   cases hv1 with
   | tup _ arr hlen hd =>
    refine⟨S1,_,i1,fun m2=>?_⟩;obtain⟨h1,h2⟩:=qpi i1 (m':=m2) hl hp ⟨hlen,hd⟩;exact .tup _ _ h1 h2
  ·cases h
 ·split at h
  ·rename_i hb;cases h;exact⟨S1,_,i1,fun m2=>qs2 i1 hb hp hv1⟩
  ·exact⟨S1,_,i1,fun m2=>qph i1 h hp hv1⟩
def Fin (x:V) (v:V) (rows:Rows):Prop:=∃ps,qjb rows v=some (ps,x)∧qf ps
theorem qAo {P:Program} {g:FuncId} {k:Nat} {args:List V} {rows:Rows} {x:V} (h:qS P g k args rows (Fin x)):RCs P g args rows x:=by
 intro w0 own m S w vs inv hro ha;refine(h w ⟨fun _=>False,S⟩ m S w vs (inv.rebase hro) ha).mono fun e w' ⟨u,v,rows',he,⟨ps,hq,hp⟩,m',S',i1,r1,_,_⟩=>⟨u,he,?_⟩
 obtain⟨S2,rows2,i2,r2⟩:=qAn i1 hq hp r1;refine⟨S2,fun c hc=>i2.stb c hc,fun c hc=>?_,r2,fun c hc=>i2.kept c hc (fun h=>h),i2.grow,i2.os,i2.tape,i2.output⟩;rcases i2.base c hc with h1|h1|h1
 ·exact .inl h1
 ·exact .inr ⟨h1,i2.sbnd c hc⟩
 ·exact h1.elim
theorem qP {c:qw} (hc:COK c.cfg) {g:FuncId} {args:List V} {rows:Aev.Rows} {x:V} (he:(Jd c.cfg g args).isSome=true) (h:qb c 0 (start c g args rows) (Fin x)):RCs c.P g args rows x:=by
 obtain⟨fr,hf⟩:=qVx.1 he;rw[qku hf]at h;exact qAo (qpa hc hf h)
def qnA (c:qw) (h:qB) (stop:AS→Bool) (n:Nat) (s:AS):Option (List Prop×List Prop×V):=match sTo c h stop n s with
 | (ps,.done v rows)=>match qjb rows v with
  | some (qs,x)=>some (ps,qs,x)|none=>none
 | _=>none
theorem qb.fin' {c:qw} {k:Nat} {s:AS} {x:V} (hc:COK c.cfg) (h:qB) (stop:AS→Bool) (n:Nat) {ps qs:List Prop} (e:qnA c h stop n s=some (ps,qs,x)) (hp:qf ps) (hq:qf qs):qb c k s (Fin x):=by
 unfold qnA at e;split at e
 ·rename_i v rows h1;split at e
  ·rename_i h2;cases e;exact qb.toFin hc h stop n h1 hp ⟨_,h2,hq⟩
  ·cases e
 ·cases e
end Go.Aev
end
noncomputable section
namespace Go.Aev
open Go
variable [Glob]
variable {w0:World} {own:Own} {m:Mp} {S:Nat→Prop} {w:World} {rows:Rows}
def qi4 (rows:Rows) (v:V):Option (List Prop×V):=match qja rows v with
 | some x=>some x|none=>qf8 rows v
def qeE (rows:Rows):List V→Option (List Prop×List V)
 | []=>some ([],[])|v::r=>match qi4 rows v,qeE rows r with
  | some (ps,x),some (qs,l)=>some (ps++qs,x::l)|_,_=>none
theorem qzZ (inv:Inv w0 own m S w rows) {m':Mp} {v x:V} {ps:List Prop} {u:Value} (h:qi4 rows v=some (ps,x)) (hp:qf ps) (hv:RV m S w v u):RV m' S w x u:=by
 unfold qi4 at h;split at h
 ·rename_i y hy;cases h;exact qs2 inv hy hp hv
 ·exact qph inv h hp hv
theorem qz0 (inv:Inv w0 own m S w rows) {m':Mp} {l l':List V} {ps:List Prop} (h:qeE rows l=some (ps,l')) (hp:qf ps) {vs:Array Value} (hv:RVs m S w l vs):RVs m' S w l' vs:=by
 have key:∀{l l':List V} {ps:List Prop},qeE rows l=some (ps,l')→qf ps→l.length=l'.length∧∀(j:Nat) (y:V),l'[j]?=some y→∃x qs,l[j]?=some x∧qi4 rows x=some (qs,y)∧qf qs:=by
  intro l
  induction l with
  | nil=>intro l' ps h hp; cases h; exact⟨rfl,fun j x hx=>by simp at hx⟩
  | cons v r ih =>
   intro l' ps h hp;unfold qeE at h;split at h
   ·rename_i qs x rs l'' h1 h2;cases h;obtain⟨p1,p2⟩:=Yh hp;obtain⟨e,k⟩:=ih h2 p2;refine⟨by simp[e],fun j y hy=>?_⟩
    cases j with
    | zero=>simp at hy; subst hy; exact⟨v,qs,rfl,h1,p1⟩|succ j=>simp only[qUx]at hy ⊢; exact k j y hy
   ·cases h
 obtain⟨e,k⟩:=key h hp;refine⟨by rw[←e]; exact hv.1,fun j y u hy hu=>?_⟩;obtain⟨x,qs,hx,ha,hq⟩:=k j y hy;exact qzZ inv ha hq (hv.2 j x u hx hu)
theorem RCs.of_argsB {P:Program} {g:FuncId} {args args':List V} {ps:List Prop} {v:V} (h:RCs P g args' [] v) (ha:qeE rows args=some (ps,args')) (hp:qf ps):RCs P g args rows v:=by
 intro w0 own m S w vs inv hro hv;exact h w0 own (fun _=>none) S w vs inv.nothing (fun r row h=>(by simp at h)) (qz0 inv ha hp hv)
def qeF (P:Program) (f:FuncId→Option (List V→V)) (g:FuncId) (args:List V) (rows:Rows):Option (List Prop×V) :=
 match f g with
 | some a=>match qeE rows args with
  | some (ps,args')=>some (ps++[RCs P g args' [] (a args')],a args')|none=>none
 | none=>none
theorem qnw {P:Program} {f:FuncId→Option (List V→V)} {g:FuncId} {args:List V} {rows:Rows} {ps:List Prop} {v:V} (h:qeF P f g args rows=some (ps,v)) (hp:qf ps):RCs P g args rows v:=by
 unfold qeF at h;split at h
 ·split at h
  ·rename_i a ha qs args' hx;cases h;obtain⟨p1,p2,_⟩:=Yh hp;exact p2.of_argsB hx p1
  ·cases h
 ·cases h
end Go.Aev
end
noncomputable section
namespace Go.Aev
variable [Glob]
def qjc (s:AS):Option (Oper×Operand×Array Oper×List Nat×List qT×Nat×List (D×V)×List Nat) :=
 match s.fr.todo with
 | .it (.inRegion ops (i::rest))::kk=>match ops[i]? with
  | some o=>match o.op with
   | .next x false=>match qaK ops s.fr.env o,(Y2 s.fr.env x).bind (qg5 (qr s.rows))with
    | some true,some (r,es,seen)=>some (o,x,ops,rest,kk,r,es,seen)|_,_=>none
   | _=>none
  | none=>none
 | _=>none
def qjd (s:AS) (j:Nat):Option AS :=
 match qjc s with
 | some (o,_,ops,rest,kk,r,es,seen)=>match qjf es seen r j with
  | some res=>some {s with fr:={s.fr with env:=Js s.fr.env o.dst res.v,todo:=.it (.inRegion ops rest)::kk},rows:=YP res.ups s.rows}
  | none=>none
 | none=>none
def qeH (s:AS):List Nat :=
 match qjc s with
 | some (_,_,_,_,_,_,es,seen)=>qcm es.length seen|none=>[]
theorem qb.next {c:qw} {k:Nat} {s:AS} {Q:V→Rows→Prop} (hne:qeH s≠[]) (h:∀j∈qeH s,∃s',qjd s j=some s'∧qb c k s' Q):qb c k s Q:=by
 intro w0 own bt f M hb hs;obtain⟨hbf,m,S,w,tmps,todo,ds,ro,cs,rfl,inv,hfr,hst⟩:=hs;have ht:=hfr.todo;have key:∃j,j∈qeH s∧∀s',qjd s j=some s'→∃M',Steps c.P (lone (rfr s.fr.fn tmps todo ds ro) cs w) M'∧qar c.P w0 own bt f s' M':=by
  unfold qeH at hne ⊢;unfold qjd
  cases hra:qjc s with
  | none=>rw[hra]at hne; exact absurd rfl hne|some p =>
   obtain⟨o,x,ops,rest,kk,r,es,seen⟩:=p;rw[hra]at hne;simp only at hne ⊢;unfold qjc at hra;split at hra
   ·rename_i ops' i rest' kk' htodo;rw[htodo]at ht
    cases ht with
    | cons hi tl =>
    rename_i kr;cases hi;split at hra
    ·rename_i o' ho;split at hra
     ·rename_i x' hop;split at hra
      ·rename_i r' es' seen' hw hit;simp only[qT4,qUe]at hra;obtain⟨rfl,rfl,rfl,rfl,rfl,rfl,rfl,rfl⟩:=hra;obtain⟨xv,hxv,hit'⟩:=qVT.1 hit;have hρ:=qdb (fn:=s.fr.fn) (todo:=.inRegion ops' (i::rest')::kr) (ds:=ds) (ro:=ro) inv.glb hfr.env;have hxr:=hρ _ _ hxv;have hw':=qcy hfr.env hw;obtain⟨b,hm,hrow,hxe,hrel⟩:=qnG (J6 s.rows) inv hit' hxr;obtain⟨_,mb,ents,hS,h1,h2,hbn,h3,h4⟩:=hrel;obtain⟨n1,n2⟩:=qs4 (P:=c.P) (ty:=o'.type) h4 h1 h2 hbn;obtain⟨j,e,wd,hj,he,hwd,hrun⟩:=n2 hne;refine⟨j,hj,fun s' hs'=>?_⟩;unfold qjf at hs';split at hs'
       ·rename_i res hres;split at hres
        ·rename_i e' he';cases hres;cases hs';obtain⟨k1,k2⟩:=qs5 inv hm hrow hS h1 h2 hbn h3 h4 hwd j;obtain⟨r1,r2⟩:=h3 j e' e he' he;have hnd:∀cc,o'.op≠.defer cc:=by rw[hop]; intro cc hcc; cases hcc
         have hrun':(execOp (rfr s.fr.fn tmps (.inRegion ops' (i::rest')::kr) ds ro).eval o').run c.P w=.ok (.value (.tuple #[.bool true,e.key,e.val])) {wd with heap:=wd.heap.setIfInBounds b (.mapIter (some mb) es'.length (seen'++[j]).toArray es'.length)}:=by
          obtain⟨dst,op,type,pos,after,guard⟩:=o';simp only at hop;subst hop;have h5:∀(sv:Sem Value) (u:Value) (w':World),sv.run c.P w=.ok u w'→(do pure (Next.value (←sv)):Sem Next).run c.P w=.ok (.value u) w':=fun sv u w' hh=>by simp[hh]
          refine h5 _ _ _ ?_;rw[hxe];exact hrun
         refine⟨_,.one (qg7 ho hw' hnd hrun' (.inl rfl)),?_,m,S,_,_,_,ds,ro,cs,rfl,k1,⟨qaL (hfr.env.ext k2) (qs6 (.d _ _ (.bool _)) (.d _ _ (r1.ext k2)) (r2.ext k2)) o'.dst,.cons rfl tl,hfr.ds.ext k2,hfr.ro⟩,hst.ext k2⟩;show Jz _ s.stack=f;rw[qaq]at hbf ⊢;exact hbf
        ·cases hres
       ·cases hs'
      ·cases hra
     ·cases hra
    ·cases hra
   ·cases hra
 obtain⟨j,hj,hk⟩:=key;obtain⟨s',e1,e2⟩:=h j hj;obtain⟨M',st,hs'⟩:=hk s' e1;obtain⟨v,rows',hq,hf⟩:=e2 w0 own bt f M' hb hs';exact⟨v,rows',hq,hf.of_steps st⟩
def qcY (id:Nat) (s:AS):Bool:=match s.fr.todo with
 | .it (.code (.region id' _ _))::_=>Nat.beq id' id|_=>false
def qje (c:Cfg) (stop:AS→Bool):Nat→AS→Option AS
 | 0,_=>none|n+1,s=>match stop s with
  | true=>some s|false=>match qcA c s with
   | .next s'=>qje c stop n s'|_=>none
theorem qb.arunTo {c:qw} {d:Cfg} (hc:COK d) (hP:d.P=c.P) {k:Nat} {Q:V→Rows→Prop} (stop:AS→Bool):∀(n:Nat) {s s':AS},qje d stop n s=some s'→qb c k s' Q→qb c k s Q
 | 0,s,s',e,_=>by cases e
 | n+1,s,s',e,hk=>by
  simp only[qje]at e;split at e
  ·cases e; exact hk
  ·split at e
   ·rename_i s1 h1;have ih:=qb.arunTo hc hP stop n e hk;intro w0 own bt f M hb hs;have h:=qeV hc (by rw[hP]; exact hs);rw[h1,hP]at h;obtain⟨M',st,hs'⟩:=h;obtain⟨v,rows',hq,hf⟩:=ih w0 own bt f M' hb hs';exact⟨v,rows',hq,hf.of_steps st⟩
   ·cases e
theorem qb.adone {c:qw} {d:Cfg} (hc:COK d) (hP:d.P=c.P) {k:Nat} {Q:V→Rows→Prop} (n:Nat) {s:AS} {v:V} {rows:Rows} (e:qde d n s=.done v rows) (hq:Q v rows):qb c k s Q:=by
 intro w0 own bt f M hb hs;have h:=qjY hc (n:=n) (by rw[hP]; exact hs);rw[e,hP]at h;exact⟨v,rows,hq,h⟩
def qs3 (s:AS):Bool:=decide (2≤(qeH s).length)
def qnB (d:Cfg) (fuel:Nat) (v:V):Nat→AS→Bool
 | 0,_=>false|m+1,s=>match qje d qs3 fuel s with
  | some s'=>(match qeH s' with | []=>false|_=>true)&&(qeH s').all fun j=>match qjd s' j with
   | some s2=>qnB d fuel v m s2|none=>false
  | none=>match qde d fuel s with
   | .done u rows=>match qcw (qr rows) u with
    | some x=>V.same x v|none=>false
   | _=>false
theorem qnC {c:qw} {d:Cfg} (hc:COK d) (hP:d.P=c.P) {fuel:Nat} {v:V}:∀{m:Nat} {s:AS},qnB d fuel v m s=true→qb c 0 s (fun u rows=>qcw (qr rows) u=some v)
 | 0,s,h=>by cases h
 | m+1,s,h=>by
  simp only[qnB]at h;split at h
  ·rename_i s' h1;rw[qTC]at h;refine qb.arunTo hc hP qs3 fuel h1 ?_;refine qb.next (fun e=>by rw[e]at h; cases h.1) fun j hj=>?_
   have:=qTI.1 h.2 j hj;split at this
   ·rename_i s2 h2;exact⟨s2,h2,qnC hc hP this⟩
   ·cases this
  ·split at h
   ·rename_i u rows h1;refine qb.adone hc hP fuel h1 ?_;split at h
    ·rename_i x hx;rw[hx,V.same_eq h]
    ·cases h
   ·cases h
end Go.Aev
end
section
namespace Go.Aev
variable [Glob]
variable {w0:World} {own:Own} {m:Mp} {S:Nat→Prop} {w:World} {rows:Rows}
def qcC (n:Nat) (m m':Mp):Mp:=fun r=>if r<n then m r else m' (r - n)
theorem qby {n r:Nat} {m m':Mp} (h:r<n):qcC n m m' r=m r:=if_pos h
theorem qa8 {n r:Nat} {m m':Mp} (h:n≤r):qcC n m m' r=m' (r - n):=if_neg (by omega)
def qkp (n:Nat):qd→Option qd
 | .live row=>match qJ (fun j=>some (n+j)) (some row)with
  | some (.live row')=>some (.live row')|_=>none
 | _=>some .dead
def qkq (s:AS) (v:V) (rows2:Rows):Option AS :=
 match s.fr.todo with
 | .it (.inRegion ops (i::rest))::k=>match ops[i]? with
  | some o=>match qC (fun j=>some (s.rows.length+j)) 8 v,qQ (qkp s.rows.length) rows2 with
   | some v',some rows'=>some {s with fr:={s.fr with env:=Js s.fr.env o.dst v',todo:=.it (.inRegion ops rest)::k},rows:=s.rows++rows'}
   | _,_=>none
  | none=>none
 | _=>none
theorem qC5 {n:Nat} {x y:qd} (h:qkp n x=some y):(∃row row',x=.live row∧y=.live row'∧qJ (fun j=>some (n+j)) (some row)=some (.live row'))∨y=.dead:=by
 unfold qkp at h;split at h
 ·split at h
  ·rename_i row _ row' hm;cases h;exact .inl ⟨_,_,rfl,rfl,hm⟩
  ·cases h
 ·cases h; exact .inr rfl
theorem quQ (inv:Inv w0 own m S w rows) {ow:Own} (ho:∀b,¬ow b) (hst:∀b,ow.st b→S b) (hst2:∀b,S b→ow.st b) {rows2 rows3:Rows} {m':Mp} {S':Nat→Prop} {w':World}
  (i2:Inv w ow m' S' w' rows2) (hsz:∀b,qZ w b≤qZ w' b) (hb:qQ (qkp rows.length) rows2=some rows3) :
  Inv w0 own (qcC rows.length m m') S' w' (rows++rows3)∧Ext m S w (qcC rows.length m m') S' w':=by
 have hlen:=JS hb;have heapS:∀b,b<w.heap.size→w'.heap[b]?=w.heap[b]?:=fun b h=>i2.kept b h (ho b)
 have mlt:∀{r p},m r=some p→r<rows.length:=fun{r p} h=>by
  rcases qTQ r rows.length with h1|h1
  ·exact h1
  ·rw[inv.none r h1]at h; cases h
 have ext:Ext m S w (qcC rows.length m m') S' w' :=
  ⟨fun r p e=>by rw[qby (mlt e)]; exact e,fun b hb=>i2.stb b (hst2 b hb),fun b hb=>heapS b (inv.sbnd b hb),hsz⟩
 have at3:∀(r:Nat) (x:qd),(rows++rows3)[r]?=some x→(r<rows.length∧rows[r]?=some x)∨(rows.length≤r∧((∃row row',rows2[r - rows.length]?=some (qd.live row)∧x=.live row'∧qJ (fun j=>some (rows.length+j)) (some row)=some (.live row'))∨x=.dead)):=by
  intro r x hx;rcases qTQ r rows.length with h1|h1
  ·left; rw[qTZ h1]at hx; exact⟨h1,hx⟩
  ·right;rw[qT1 h1]at hx;obtain⟨y,hy,hs⟩:=Y6 hb hx;refine⟨h1,?_⟩;rcases qC5 hs with⟨row,row',e1,e2,e3⟩|e
   ·exact .inl ⟨row,row',by rw[hy,e1],e2,e3⟩
   ·exact .inr e
 have hmv:∀r j,(fun j=>some (rows.length+j)) r=some j→(qcC rows.length m m') j=m' r:=by
  intro r j e;cases e;rw[qa8 (by omega)]; congr 1; omega
 have hmove:∀(b o:Nat) (row row':Row),qJ (fun j=>some (rows.length+j)) (some row)=some (.live row')→Yv m' S' w' b o row→Yv (qcC rows.length m m') S' w' b o row'∧row'.rw=row.rw :=
  fun b o row row' h1 h2=>qjv hmv h1 h2
 have rwEq:∀{r:Nat} {row row':Row},rows2[r - rows.length]?=some (qd.live row)→qJ (fun j=>some (rows.length+j)) (some row)=some (.live row')→row'.rw=row.rw:=fun{r row row'} h1 h2=>by
  obtain⟨b1,o1,_,hrel⟩:=i2.row _ row h1;exact(hmove b1 o1 row row' h2 hrel).2
 have oldS:∀b,S' b→b<w.heap.size→S b:=fun b hb hl=>by
  rcases i2.base b hb with h3|h3|h3
  ·exact hst b h3
  ·omega
  ·exact absurd h3 (ho b)
 refine⟨⟨fun r hr=>?_,fun r hr=>?_,fun r row hr=>?_,fun r b o hm=>?_,fun r row b o hr hw hm=>?_,
  fun r r' row row' b o b' o' hne hr hr' hw hm hmm=>?_,fun r row b o hr hw hm=>?_,fun r row b o hr hw hm=>?_,i2.sbnd,fun b hb=>?_,fun b hb=>i2.stb b (hst2 b (inv.stb b hb)),i2.os.trans inv.os,i2.tape.trans inv.tape,
  i2.output.trans inv.output,qT2 inv.grow i2.grow,fun b hb hn=>?_,i2.glb⟩,ext⟩
 ·rw[qTN]at hr;rw[qa8 (by omega)];exact i2.none _ (by omega)
 ·rcases at3 r _ hr with⟨h1,h2⟩|⟨h1,⟨_,_,_,h5,_⟩|h5⟩
  ·rw[qby h1]; exact inv.fre r h2
  ·cases h5
  ·cases h5
 ·rcases at3 r _ hr with⟨h1,h2⟩|⟨h1,⟨row0,row',e1,e2,e3⟩|h5⟩
  ·obtain⟨b,o,hm,hrel⟩:=inv.row r row h2;exact⟨b,o,by rw[qby h1]; exact hm,hrel.ext ext (heapS b (inv.bnd r b o hm))⟩
  ·cases e2;obtain⟨b,o,hm,hrel⟩:=i2.row _ row0 e1;exact⟨b,o,by rw[qa8 h1]; exact hm,(hmove b o row0 row e3 hrel).1⟩
  ·cases h5
 ·rcases qTQ r rows.length with h1|h1
  ·rw[qby h1]at hm; exact qUn (inv.bnd r b o hm) i2.grow
  ·rw[qa8 h1]at hm; exact i2.bnd _ b o hm
 ·rcases at3 r _ hr with⟨h1,h2⟩|⟨h1,⟨row0,row',e1,e2,e3⟩|h5⟩
  ·rw[qby h1]at hm; exact inv.new r row b o h2 hw hm
  ·cases e2;rw[qa8 h1]at hm;rcases i2.new _ row0 b o e1 (by rw[←rwEq e1 e3]; exact hw) hm with h3|h3
   ·exact .inl (qT2 inv.grow h3)
   ·exact absurd h3 (ho b)
  ·cases h5
 ·rcases at3 r _ hr with⟨a1,a2⟩|⟨a1,⟨row0,row1,e1,e2,e3⟩|h5⟩<;>rcases at3 r' _ hr' with⟨c1,c2⟩|⟨c1,⟨row2,row3,f1,f2,f3⟩|g5⟩
  ·rw[qby a1]at hm; rw[qby c1]at hmm;exact inv.apart r r' row row' b o b' o' hne a2 c2 hw hm hmm
  ·cases f2;rw[qby a1]at hm; rw[qa8 c1]at hmm;intro e;subst e;have hlt:=inv.bnd r b o hm
   cases hrw:row'.rw with
   | true =>
    rcases i2.new _ row2 b o' f1 (by rw[←rwEq f1 f3]; exact hrw) hmm with h3|h3
    ·omega
    ·exact ho b h3
   | false =>
    have hs:=i2.rost _ row2 b o' f1 (by rw[←rwEq f1 f3]; exact hrw) hmm;exact inv.stab r row b o a2 hw hm (oldS b hs hlt)
  ·cases g5
  ·cases e2;rw[qa8 a1]at hm; rw[qby c1]at hmm;intro e;subst e;have hlt:=inv.bnd r' b o' hmm;rcases i2.new _ row0 b o e1 (by rw[←rwEq e1 e3]; exact hw) hm with h3|h3
   ·omega
   ·exact ho b h3
  ·cases e2; cases f2;rw[qa8 a1]at hm; rw[qa8 c1]at hmm;exact i2.apart _ _ row0 row2 b o b' o' (by omega) e1 f1 (by rw[←rwEq e1 e3]; exact hw) hm hmm
  ·cases g5
  ·cases h5
  ·cases h5
  ·cases h5
 ·rcases at3 r _ hr with⟨h1,h2⟩|⟨h1,⟨row0,row',e1,e2,e3⟩|h5⟩
  ·rw[qby h1]at hm;intro hs;exact inv.stab r row b o h2 hw hm (oldS b hs (inv.bnd r b o hm))
  ·cases e2;rw[qa8 h1]at hm;exact i2.stab _ row0 b o e1 (by rw[←rwEq e1 e3]; exact hw) hm
  ·cases h5
 ·rcases at3 r _ hr with⟨h1,h2⟩|⟨h1,⟨row0,row',e1,e2,e3⟩|h5⟩
  ·rw[qby h1]at hm; exact ext.sub b (inv.rost r row b o h2 hw hm)
  ·cases e2;rw[qa8 h1]at hm;exact i2.rost _ row0 b o e1 (by rw[←rwEq e1 e3]; exact hw) hm
  ·cases h5
 ·rcases i2.base b hb with h3|h3|h3
  ·exact inv.base b (hst b h3)
  ·exact .inr (.inl (qT2 inv.grow h3))
  ·exact absurd h3 (ho b)
 ·have hbw:b<w.heap.size:=qUn hb inv.grow;rw[heapS b hbw];exact inv.kept b hb hn
theorem qb.callN {c:qw} (hc:COK c.cfg) {k:Nat} {s:AS} {Q:V→Rows→Prop} {g:FuncId} {aZ:List V} (hat:qbx c.cfg s=some (g,aZ,[],[])) {R:V→Rows→Prop}
  (hd:qS c.P g 0 aZ [] R) (hk:∀v rows',R v rows'→∃s',qkq s v rows'=some s'∧qb c k s' Q):qb c k s Q:=by
 intro w0 own bt f M hb hs;obtain⟨hbf,m,S,w,tmps,todo,ds,ro,cs,rfl,inv,hfr,hst⟩:=hs;have ht:=hfr.todo;unfold qbx at hat;split at hat
 ·rename_i ops i rest kk htodo;rw[htodo]at ht
  cases ht with
  | cons hi tl =>
  rename_i kr;cases hi;split at hat
  ·rename_i o ho;split at hat
   ·rename_i fo args hw hcv;split at hat
    ·rename_i fv vs hf hvs;split at hat
     ·rename_i g' aZ' hfa;simp only at hat;split at hat
      ·rename_i hcond;simp only[qTC,decide_eq_true_eq]at hcond;split at hat
       ·rename_i asC rowsC' has hrows;split at hat
        ·rename_i hlive;injection hat with hat
         injection hat with hg hat
         injection hat with ha hat
         injection hat with hr hrs
         subst hg; subst ha; subst hr;rw[hrs]at hrows has;obtain⟨asO,ats,hop,rfl⟩:=qho hcv;have hρ:=qdb (fn:=s.fr.fn) (todo:=.inRegion ops (i::rest)::kr) (ds:=ds) (ro:=ro) inv.glb hfr.env;have hw':=qcy hfr.env hw;obtain⟨fs,cs',hfe,hargs⟩:=qhr hfa (hρ fo _ hf) (qeT hρ hvs);obtain⟨gf,h1,h2,h3⟩:=hc.rc _ hcond.1;have hrun:=qhp (P:=c.P) (w:=w) hop hfe h1 h2 h3;have hargs':RVs (Yd m []) S w asC (fs++(asO.map (rfr s.fr.fn tmps (.inRegion ops (i::rest)::kr) ds ro).eval)++cs'):=by
          refine⟨by rw[JS has]; exact hargs.1,fun j x v hx hv=>?_⟩;obtain⟨y,hy,hren⟩:=Y6 has hx;exact qcj hren (hargs.2 j y v hy hv)
         obtain⟨e,w',fr,⟨u,v,rows2,rfl,hR,m',S',i2,r2,_,hsz⟩,hcomes,hfn,hlv⟩:=hd w (qao m S s.rows []) _ S w _ (qn2 inv (rs:=[]) rfl hrows) hargs' (rfr s.fr.fn tmps (.inRegion ops (i::rest)::kr) ds ro::cs);obtain⟨s',hs',hE⟩:=hk v rows2 hR;have hleave:=step_leave_returned (P:=c.P) (c:=rfr s.fr.fn tmps (.inRegion ops (i::rest)::kr) ds ro) (cs:=cs) hlv;rw[qdE ho]at hleave;unfold qkq at hs';rw[htodo]at hs';simp only at hs';rw[ho]at hs';simp only at hs';split at hs'
         ·rename_i v' rows3 hv' hrows3;cases hs';obtain⟨i3,e3⟩:=quQ inv (ow:=qao m S s.rows []) (fun b ⟨r,row,o,h,_⟩=>by cases h) (fun b h=>h) (fun b h=>h) i2 hsz hrows3;have r3:RV (qcC s.rows.length m m') S' w' v' u:=qcW (fun r j e=>by
           cases e;rw[qa8 (by omega)]; congr 1; omega) hv' r2
          have hsim:qar c.P w0 own bt f {s with fr:={s.fr with env:=Js s.fr.env o.dst v',todo:=.it (.inRegion ops rest)::kk},rows:=s.rows++rows3} (lone (rfr s.fr.fn (qcn tmps o.dst u) (.inRegion ops rest::kr) ds ro) cs w'):=by
           refine⟨?_,_,S',w',_,_,ds,ro,cs,rfl,i3,⟨qaL (hfr.env.ext e3) r3 o.dst,.cons rfl (tl.mono e3.map),hfr.ds.ext e3,hfr.ro.mono e3.map⟩,hst.ext e3⟩;show Jz _ s.stack=f;rw[qaq]at hbf ⊢;exact hbf
          obtain⟨vE,rowsE,hQ,hF⟩:=hE w0 own bt f _ hb hsim;exact⟨vE,rowsE,hQ,hF.of_steps (Steps.head (qfL ho hw' (qfW hcv) hrun) (Steps.trans hcomes (.one hleave)))⟩
         ·cases hs'
        ·cases hat
       ·cases hat
      ·cases hat
     ·cases hat
    ·cases hat
   ·cases hat
  ·cases hat
 ·cases hat
end Go.Aev
namespace Go.Aev
variable [Glob]
theorem qS.sel {P:Program} {g:FuncId} {args:List V} {rows:Rows} {R R0:V→Rows→Prop} (h:qS P g 0 args rows R)
  (hs:∀v rows',R v rows'→∃rs v0 rows0,rs.eraseDups.length=rs.length∧qQ (fun r=>qJ (fun r=>Yk r rs 0) (qr rows' r)) rs=some rows0∧qC (fun r=>Yk r rs 0) 8 v=some v0∧R0 v0 rows0):qS P g 0 args rows R0:=by
 intro w0 own m S w vs inv ha cs;obtain⟨e,w',fr,⟨u,v,rows2,rfl,hR,m',S',i2,r2,hm',hsz⟩,h3⟩:=h w0 own m S w vs inv ha cs;obtain⟨rs,v0,rows0,k1,k2,k3,k4⟩:=hs v rows2 hR;exact⟨_,w',fr,⟨u,v0,rows0,rfl,k4,Yd m' rs,S',qhd i2 k1 k2,qcj k3 r2,fun r hr=>absurd hr (qWn _),hsz⟩,h3⟩
end Go.Aev
end
noncomputable section
namespace Go.Aev
variable [Glob]
variable {w0:World} {own:Own} {m:Mp} {S:Nat→Prop} {w:World} {rows:Rows}
def bkN (rs:List Nat) (base:Nat) (j:Nat):Option Nat:=if j<rs.length then rs[j]? else some (base+(j - rs.length))
def qpe (rs:List Nat) (base:Nat):qd→Option qd
 | .live row=>match qJ (bkN rs base) (some row)with
  | some (.live row')=>some (.live row')|_=>none
 | _=>some .dead
def qpf (rs:List Nat) (rows rows2:Rows):Option Rows :=
 (qQ (qpe rs rows.length) rows2).map fun sl=>qE (rs.zip (sl.take rs.length)) rows++sl.drop rs.length
def mpN (rs:List Nat) (base:Nat) (m m':Mp):Mp:=fun r=>if r<base then m r else m' (r - base+rs.length)
theorem quR {rs:List Nat} {base:Nat} {y x:qd} (h:qpe rs base y=some x) :
  (∃row row',y=qd.live row∧qJ (bkN rs base) (some row)=some (qd.live row')∧x=qd.live row')∨((∀row,y≠qd.live row)∧x=qd.dead):=by
 unfold qpe at h;split at h
 ·rename_i row;split at h
  ·rename_i row' hm;cases h;exact .inl ⟨row,row',rfl,hm,rfl⟩
  ·cases h
 ·rename_i hne;cases h;exact .inr ⟨fun row e=>hne row e,rfl⟩
theorem qC6 {rs:List Nat} {l:List qd} (hnd:∀(a b r:Nat),rs[a]?=some r→rs[b]?=some r→a=b) (hl:l.length=rs.length) (q:Nat) (hq:q<rows.length) :
  ((∀j:Nat,rs[j]?≠some q)∧(qE (rs.zip l) rows)[q]?=rows[q]?)∨∃(j:Nat) (y:qd),rs[j]?=some q∧l[j]?=some y∧(qE (rs.zip l) rows)[q]?=some y:=by
 by_cases hm:∃j:Nat,rs[j]?=some q
 ·obtain⟨j,hj⟩:=hm;right;have hjl:j<l.length:=by rw[hl]; exact qL hj
  have hly:l[j]?=some l[j]:=qTE hjl;refine⟨j,l[j],hj,hly,qsO (fun u hu e=>?_) (.inl ⟨(q,l[j]),?_,rfl⟩) hq⟩
  ·obtain⟨i,hi⟩:=qUS hu;obtain⟨h1,h2⟩:=qVz.1 hi;rw[e]at h1;have:=hnd i j q h1 hj;subst this;rw[hly]at h2;injection h2 with h2
   exact h2.symm
  ·exact qUi (qVz.2 ⟨hj,hly⟩:(rs.zip l)[j]?=some (q,l[j]))
 ·left;refine⟨fun j e=>hm ⟨j,e⟩,qjO fun hmem=>?_⟩;obtain⟨u,hu,e⟩:=qTV.1 hmem;obtain⟨i,hi⟩:=qUS hu;obtain⟨h1,_⟩:=qVz.1 hi;rw[e]at h1;exact hm ⟨i,h1⟩
theorem qC7 (inv:Inv w0 own m S w rows) {rs:List Nat} {Yt rows2 rows3:Rows} (hrs:rs.eraseDups.length=rs.length)
  (h:qQ (fun r=>qJ (fun r=>Yk r rs 0) (qr rows r)) rs=some Yt) (hlive:Yt.all qhj=true) {m':Mp} {S':Nat→Prop} {w':World}
  (i2:Inv w (qao m S rows rs) m' S' w' rows2) (hm':∀r,r<rs.length→∀p,Yd m rs r=some p→m' r=some p) (hsz:∀b,qZ w b≤qZ w' b) (hb:qpf rs rows rows2=some rows3) :
  Inv w0 own (mpN rs rows.length m m') S' w' rows3∧Ext m S w (mpN rs rows.length m m') S' w'∧∀j r,bkN rs rows.length j=some r→mpN rs rows.length m m' r=m' j:=by
 have hnd:=qn0 hrs;have hlen:=JS h;have old:∀j r,rs[j]?=some r→∃row b o,rows[r]?=some (qd.live row)∧m r=some (b,o)∧m' j=some (b,o):=by
  intro j r hr;have hj:=qL hr;have hjc:j<Yt.length:=by omega
  have hlv:=(qTI.1 hlive) Yt[j] (qTL hjc);obtain⟨r2,hr2,hren⟩:=Y6 h (qTE hjc);rw[hr]at hr2; cases hr2
  cases hl:qr rows r with
  | none=>rw[hl]at hren; simp only[qJ]at hren; injection hren with he; rw[←he]at hlv; cases hlv
  | some row =>
   have hrow:=qc2 hl;obtain⟨b,o,hm,_⟩:=inv.row r row hrow;exact⟨row,b,o,hrow,hm,hm' j hj (b,o) (by simp[Yd,hr,hm])⟩
 have hback0:∀j r,rs[j]?=some r→m r=m' j:=by
  intro j r hr;obtain⟨row,b,o,_,h1,h2⟩:=old j r hr;rw[h1,h2]
 have hbnd:∀(a r:Nat),rs[a]?=some r→r<rows.length:=fun a r hr=>by
  obtain⟨row,_,_,h1,_⟩:=old a r hr;exact qL h1
 have mlt:∀r,r<rows.length→mpN rs rows.length m m' r=m r:=fun r hr=>if_pos hr
 have mge:∀t,mpN rs rows.length m m' (rows.length+t)=m' (rs.length+t):=fun t=>by
  unfold mpN;rw[if_neg (by omega)]
  congr 1; omega
 have hback:∀j r,bkN rs rows.length j=some r→mpN rs rows.length m m' r=m' j:=by
  intro j r hr;unfold bkN at hr;split at hr
  ·rw[mlt r (hbnd j r hr)]; exact hback0 j r hr
  ·injection hr with hr
   subst hr;rw[mge]; congr 1; omega
 have mget:∀{r:Nat} {p:Nat×Nat},m r=some p→r<rows.length:=fun{r p} e=>by
  rcases qTQ r rows.length with h1|h1
  ·exact h1
  ·rw[inv.none r h1]at e; cases e
 unfold qpf at hb;rw[qTP]at hb;obtain⟨sl,hsl,hb⟩:=hb;subst hb;have hsll:=JS hsl;have ownOK:∀b,(qao m S rows rs) b→w0.heap.size≤b∨own b:=fun b ⟨r,row,o,_,h1,h2,h3⟩=>inv.new r row b o h1 h2 h3
 have ownS:∀b,(qao m S rows rs) b→¬S b:=fun b ⟨r,row,o,_,h1,h2,h3⟩=>inv.stab r row b o h1 h2 h3
 have heapS:∀b,b<w.heap.size→¬(qao m S rows rs) b→w'.heap[b]?=w.heap[b]?:=i2.kept;have ext:Ext m S w (mpN rs rows.length m m') S' w':=⟨fun r p e=>by rw[mlt r (mget e)]; exact e,fun b hb=>i2.stb b hb,fun b hb=>heapS b (inv.sbnd b hb) (fun hc=>ownS b hc hb),hsz⟩
 have full:rs.length≤rows2.length:=by
  rcases qTQ rows2.length rs.length with h1|h1
  ·obtain⟨_,b,o,_,_,h3⟩:=old rows2.length rs[rows2.length] (qTE h1);rw[i2.none _ (qTF _)]at h3; cases h3
  ·exact h1
 have hlen3:(qE (rs.zip (sl.take rs.length)) rows++sl.drop rs.length).length=rows.length+(rows2.length - rs.length):=by
  rw[qTN,qc9,qT8,hsll]
 have cases3:∀(q:Nat) (x:qd),(qE (rs.zip (sl.take rs.length)) rows++sl.drop rs.length)[q]?=some x→(rows[q]?=some x∧q<rows.length∧∀(j:Nat),rs[j]?≠some q) ∨
   ∃(j:Nat) (y:qd),bkN rs rows.length j=some q∧rows2[j]?=some y∧((∃row row',y=qd.live row∧qJ (bkN rs rows.length) (some row)=some (qd.live row')∧x=qd.live row')∨((∀row,y≠qd.live row)∧x=qd.dead)):=by
  intro q x hx;rcases qTQ q rows.length with hq|hq
  ·rw[qTZ (by rw[qc9]; exact hq)]at hx;rcases qC6 (l:=sl.take rs.length) hnd (by rw[qTU,hsll]; omega) q hq with⟨h1,h2⟩|⟨j,y,h1,h2,h3⟩
   ·left;rw[h2]at hx;exact⟨hx,hq,h1⟩
   ·right;rw[h3]at hx;cases hx;have hj:=qL h1;rw[qWg hj]at h2;obtain⟨z,hz,hs⟩:=Y6 hsl h2;exact⟨j,z,by unfold bkN; rw[if_pos hj]; exact h1,hz,quR hs⟩
  ·right;rw[qT1 (by rw[qc9]; exact hq),qc9,qUk]at hx;obtain⟨z,hz,hs⟩:=Y6 hsl hx;refine⟨rs.length+(q - rows.length),z,?_,hz,quR hs⟩;unfold bkN;rw[if_neg (by omega)]
   congr 1; omega
 have notOwn:∀q row b o,rows[q]?=some (qd.live row)→m q=some (b,o)→(∀j,j<rs.length→rs[j]?≠some q)→¬(qao m S rows rs) b:=by
  intro q row b o hq hm hn ⟨r,row2,o2,hr,h1,h2,h3⟩;obtain⟨j,hj⟩:=qUS hr;have hne:r≠q:=fun e=>hn j (qL hj) (by rw[hj,e])
  exact inv.apart r q row2 row b o2 b o hne h1 hq h2 h3 hm rfl
 have hmove:∀(b o:Nat) (row row':Row),qJ (bkN rs rows.length) (some row)=some (.live row')→Yv m' S' w' b o row→Yv (mpN rs rows.length m m') S' w' b o row'∧row'.rw=row.rw :=
  fun b o row row' h1 h2=>qjv (fun r j hj=>hback r j hj) h1 h2
 have mbnd:∀r b o,mpN rs rows.length m m' r=some (b,o)→b<w'.heap.size:=fun r b o hm=>by
  unfold mpN at hm;split at hm
  ·exact qUn (inv.bnd r b o hm) i2.grow
  ·exact i2.bnd _ b o hm
 have apartN:∀(r:Nat) (row:Row) (b o:Nat) (j:Nat) (row0:Row) (b' o':Nat),rows[r]?=some (qd.live row)→(∀(i:Nat),rs[i]?≠some r)→m r=some (b,o)→rows2[j]?=some (qd.live row0)→m' j=some (b',o')→(row.rw=true∨row0.rw=true)→b≠b':=by
  intro r row b o j row0 b' o' h1 h2 h3 h4 h5 h6 e;subst e;have hlt:=inv.bnd r b o h3;have hno:=notOwn r row b o h1 h3 (fun i _=>h2 i)
  cases hrw:row0.rw with
  | true =>
   rcases i2.new j row0 b o' h4 hrw h5 with h7|h7
   ·omega
   ·exact hno h7
  | false =>
   have hs:=i2.rost j row0 b o' h4 hrw h5;rcases i2.base b hs with h7|h7|h7
   ·rcases h6 with h6|h6
    ·exact inv.stab r row b o h1 h6 h3 h7
    ·rw[hrw]at h6; cases h6
   ·omega
   ·exact hno h7
 refine⟨⟨fun r hr=>?_,fun r hr=>?_,fun r row hr=>?_,mbnd,fun r row b o hr hw hm=>?_,
  fun r r' row row' b o b' o' hne hr hr' hw hm hmm=>?_,fun r row b o hr hw hm=>?_,fun r row b o hr hw hm=>?_,i2.sbnd,fun b hb=>?_,fun b hb=>i2.stb b (inv.stb b hb),i2.os.trans inv.os,i2.tape.trans inv.tape,
  i2.output.trans inv.output,qT2 inv.grow i2.grow,fun b hb hn=>?_,i2.glb⟩,ext,hback⟩
 ·rw[hlen3]at hr;unfold mpN;rw[if_neg (by omega)];exact i2.none _ (by omega)
 ·rcases cases3 r _ hr with⟨h1,hq,_⟩|⟨j,y,_,_,⟨_,_,_,_,h5⟩|⟨_,h5⟩⟩
  ·rw[mlt r hq]; exact inv.fre r h1
  ·cases h5
  ·cases h5
 ·rcases cases3 r _ hr with⟨h1,hq,h2⟩|⟨j,y,h1,h2,⟨row0,row',e1,e2,e3⟩|⟨_,h5⟩⟩
  ·obtain⟨b,o,hm,hrel⟩:=inv.row r row h1;exact⟨b,o,by rw[mlt r hq]; exact hm,hrel.ext ext (heapS b (inv.bnd r b o hm) (notOwn r row b o h1 hm (fun j _=>h2 j)))⟩
  ·cases e3;subst e1;obtain⟨b,o,hm,hrel⟩:=i2.row j row0 h2;exact⟨b,o,by rw[hback j r h1]; exact hm,(hmove b o row0 row e2 hrel).1⟩
  ·cases h5
 ·rcases cases3 r _ hr with⟨h1,hq,_⟩|⟨j,y,h1,h2,⟨row0,row',e1,e2,e3⟩|⟨_,h5⟩⟩
  ·rw[mlt r hq]at hm; exact inv.new r row b o h1 hw hm
  ·cases e3;subst e1;obtain⟨b1,o1,hm1,hrel⟩:=i2.row j row0 h2;have hrw:=(hmove b1 o1 row0 row e2 hrel).2;rcases i2.new j row0 b o h2 (by rw[←hrw]; exact hw) (by rw[←hback j r h1]; exact hm)with h3|h3
   ·exact .inl (qT2 inv.grow h3)
   ·exact ownOK b h3
  ·cases h5
 ·have rwOf:∀(r:Nat) (row:Row),(qE (rs.zip (sl.take rs.length)) rows++sl.drop rs.length)[r]?=some (qd.live row)→(rows[r]?=some (qd.live row)∧r<rows.length∧∀(j:Nat),rs[j]?≠some r)∨∃(j:Nat) (row0:Row),bkN rs rows.length j=some r∧rows2[j]?=some (qd.live row0)∧row0.rw=row.rw:=by
   intro r row hr;rcases cases3 r _ hr with h1|⟨j,y,h1,h2,⟨row0,row',e1,e2,e3⟩|⟨_,h5⟩⟩
   ·exact .inl h1
   ·cases e3;subst e1;obtain⟨b1,o1,hm1,hrel⟩:=i2.row j row0 h2;exact .inr ⟨j,row0,h1,h2,(hmove b1 o1 row0 row e2 hrel).2.symm⟩
   ·cases h5
  rcases rwOf r row hr with⟨a1,aq,a2⟩|⟨j,row0,a1,a2,a3⟩<;>rcases rwOf r' row' hr' with⟨c1,cq,c2⟩|⟨j',row1,c1,c2,c3⟩
  ·rw[mlt r aq]at hm; rw[mlt r' cq]at hmm;exact inv.apart r r' row row' b o b' o' hne a1 c1 hw hm hmm
  ·rw[mlt r aq]at hm;rw[hback j' r' c1]at hmm;exact apartN r row b o j' row1 b' o' a1 a2 hm c2 hmm (.inl hw)
  ·rw[mlt r' cq]at hmm;rw[hback j r a1]at hm;exact fun e=>apartN r' row' b' o' j row0 b o c1 c2 hmm a2 hm (.inr (by rw[a3]; exact hw)) e.symm
  ·rw[hback j r a1]at hm;rw[hback j' r' c1]at hmm;refine i2.apart j j' row0 row1 b o b' o' (fun e=>hne ?_) a2 c2 (by rw[a3]; exact hw) hm hmm;subst e;rw[a1]at c1; cases c1; rfl
 ·rcases cases3 r _ hr with⟨h1,hq,h2⟩|⟨j,y,h1,h2,⟨row0,row',e1,e2,e3⟩|⟨_,h5⟩⟩
  ·rw[mlt r hq]at hm;intro hs;rcases i2.base b hs with h3|h3|h3
   ·exact inv.stab r row b o h1 hw hm h3
   ·have:=inv.bnd r b o hm; omega
   ·exact notOwn r row b o h1 hm (fun j _=>h2 j) h3
  ·cases e3;subst e1;obtain⟨b1,o1,hm1,hrel⟩:=i2.row j row0 h2;have hrw:=(hmove b1 o1 row0 row e2 hrel).2;exact i2.stab j row0 b o h2 (by rw[←hrw]; exact hw) (by rw[←hback j r h1]; exact hm)
  ·cases h5
 ·rcases cases3 r _ hr with⟨h1,hq,h2⟩|⟨j,y,h1,h2,⟨row0,row',e1,e2,e3⟩|⟨_,h5⟩⟩
  ·rw[mlt r hq]at hm; exact ext.sub b (inv.rost r row b o h1 hw hm)
  ·cases e3;subst e1;obtain⟨b1,o1,hm1,hrel⟩:=i2.row j row0 h2;have hrw:=(hmove b1 o1 row0 row e2 hrel).2;exact i2.rost j row0 b o h2 (by rw[←hrw]; exact hw) (by rw[←hback j r h1]; exact hm)
  ·cases h5
 ·rcases i2.base b hb with h3|h3|h3
  ·exact inv.base b h3
  ·exact .inr (.inl (qT2 inv.grow h3))
  ·exact .inr (ownOK b h3)
 ·have hbw:b<w.heap.size:=qUn hb inv.grow;rw[heapS b hbw (fun hc=>by rcases ownOK b hc with h1|h1; omega; exact hn h1)];exact inv.kept b hb hn
def JA (s:AS) (rs:List Nat) (v:V) (rows':Rows):Option AS :=
 match s.fr.todo with
 | .it (.inRegion ops (i::rest))::k=>match ops[i]? with
  | some o=>match qC (bkN rs s.rows.length) 8 v,qpf rs s.rows rows' with
   | some v',some rows=>some {s with fr:={s.fr with env:=Js s.fr.env o.dst v',todo:=.it (.inRegion ops rest)::k},rows}
   | _,_=>none
  | none=>none
 | _=>none
theorem qb.callG {c:qw} (hc:COK c.cfg) {k:Nat} {s:AS} {Q:V→Rows→Prop} {g:FuncId} {aZ:List V} {Yt:Rows} {rs:List Nat} (hat:qbx c.cfg s=some (g,aZ,Yt,rs)) {R:V→Rows→Prop}
  (hd:qS c.P g rs.length aZ Yt R) (hk:∀v rows',R v rows'→∃s',JA s rs v rows'=some s'∧qb c k s' Q):qb c k s Q:=by
 intro w0 own bt f M hb hs;obtain⟨hbf,m,S,w,tmps,todo,ds,ro,cs,rfl,inv,hfr,hst⟩:=hs;have ht:=hfr.todo;unfold qbx at hat;split at hat
 ·rename_i ops i rest kk htodo;rw[htodo]at ht
  cases ht with
  | cons hi tl =>
  rename_i kr;cases hi;split at hat
  ·rename_i o ho;split at hat
   ·rename_i fo args hw hcv;split at hat
    ·rename_i fv vs hf hvs;split at hat
     ·rename_i g' aZ' hfa;simp only at hat;split at hat
      ·rename_i hcond;simp only[qTC,decide_eq_true_eq]at hcond;split at hat
       ·rename_i asC rowsC' has hrows;split at hat
        ·rename_i hlive;cases hat;obtain⟨asO,ats,hop,rfl⟩:=qho hcv;have hρ:=qdb (fn:=s.fr.fn) (todo:=.inRegion ops (i::rest)::kr) (ds:=ds) (ro:=ro) inv.glb hfr.env;have hw':=qcy hfr.env hw;obtain⟨fs,cs',hfe,hargs⟩:=qhr hfa (hρ fo _ hf) (qeT hρ hvs);obtain⟨gf,h1,h2,h3⟩:=hc.rc g hcond.1;have hrun:=qhp (P:=c.P) (w:=w) hop hfe h1 h2 h3;have hargs':RVs (Yd m (JU s.rows aZ')) S w aZ (fs++(asO.map (rfr s.fr.fn tmps (.inRegion ops (i::rest)::kr) ds ro).eval)++cs'):=by
          refine⟨by rw[JS has]; exact hargs.1,fun j x v hx hv=>?_⟩;obtain⟨y,hy,hren⟩:=Y6 has hx;exact qcj hren (hargs.2 j y v hy hv)
         obtain⟨e,w',fr,⟨u,v,rows2,rfl,hR,m',S',i2,r2,hm',hsz⟩,hcomes,hfn,hlv⟩:=hd w (qao m S s.rows (JU s.rows aZ')) _ S w _ (qn2 inv hcond.2 hrows) hargs' (rfr s.fr.fn tmps (.inRegion ops (i::rest)::kr) ds ro::cs);obtain⟨s',hs',hE⟩:=hk v rows2 hR;have hleave:=step_leave_returned (P:=c.P) (c:=rfr s.fr.fn tmps (.inRegion ops (i::rest)::kr) ds ro) (cs:=cs) hlv;rw[qdE ho]at hleave;unfold JA at hs';rw[htodo]at hs';simp only at hs';rw[ho]at hs';simp only at hs';split at hs'
         ·rename_i v' rows3 hv' hrows3;cases hs';obtain⟨i3,e3,hback⟩:=qC7 inv hcond.2 hrows hlive i2 hm' hsz hrows3;have r3:RV (mpN (JU s.rows aZ') s.rows.length m m') S' w' v' u:=qcW (fun r j hj=>hback r j hj) hv' r2;have hsim:qar c.P w0 own bt f {s with fr:={s.fr with env:=Js s.fr.env o.dst v',todo:=.it (.inRegion ops rest)::kk},rows:=rows3} (lone (rfr s.fr.fn (qcn tmps o.dst u) (.inRegion ops rest::kr) ds ro) cs w'):=by
           refine⟨?_,mpN (JU s.rows aZ') s.rows.length m m',S',w',_,_,ds,ro,cs,rfl,i3,⟨qaL (hfr.env.ext e3) r3 o.dst,.cons rfl (tl.mono e3.map),hfr.ds.ext e3,hfr.ro.mono e3.map⟩,hst.ext e3⟩;show Jz _ s.stack=f;rw[qaq]at hbf ⊢;exact hbf
          obtain⟨vE,rowsE,hQ,hF⟩:=hE w0 own bt f _ hb hsim;exact⟨vE,rowsE,hQ,hF.of_steps (Steps.head (qfL ho hw' (qfW hcv) hrun) (Steps.trans hcomes (.one hleave)))⟩
         ·cases hs'
        ·cases hat
       ·cases hat
      ·cases hat
     ·cases hat
    ·cases hat
   ·cases hat
  ·cases hat
 ·cases hat
end Go.Aev
end
noncomputable section
namespace Go.Aev
open Go Go.Aev
variable [Glob]
def qig (l:List D) (v:V) (rows:Aev.Rows):Prop:=v=.sl 0 1 0 l.length l.length false∧rows=[.live (.dat 1 l false)]
theorem qS.ofSlL {P:Program} {g:FuncId} {es b:List D} {n c:Nat} {ex ro:Bool} (hn:n=es.length) (h:qS P g 0 [.d (.list es)] [] (qig b)) :
  qS P g 1 [.sl 0 1 0 n c ex] [.live (.dat 1 es ro)] (fun x y=>x=.sl 1 1 0 b.length b.length false∧y=[.live (.dat 1 es true),.live (.dat 1 b false)]):=by
 subst hn;intro w0 own m S w vs inv ha cs;have htd:qbX (qr [.live (.dat 1 es ro)]) (.sl 0 1 0 es.length c ex)=some (.list es,[(0,.live (.dat 1 es true))]):=by
  simp only[qbX];show(match (some (.dat 1 es ro):Option Row)with|some (.dat k' es _)=>_|_=>none)=_;simp
 have hg:GD (qr [.live (.dat 1 es ro)]) [.live (.dat 1 es ro)]:=(J6 _).gd;obtain⟨v0,rfl,hv0⟩:=Ji ha;obtain⟨S1,i1,e1,r1,_⟩:=qnN inv hg htd hv0;have i1:Inv w0 own m S1 w [.live (.dat 1 es true)]:=i1;have i2:Inv w ⟨fun _=>False,S1⟩ (fun _=>Option.none) S1 w []:=Inv.start w (fun b hb=>i1.sbnd b hb) i1.glb;obtain⟨e,w',fr,⟨u,v,rows2,rfl,⟨rfl,rfl⟩,m',S',i3,r3,_,hsz⟩,h3⟩:=h w ⟨fun _=>False,S1⟩ (fun _=>Option.none) S1 w #[v0] i2 (Y5 (.d _ _ r1)) cs;obtain⟨i4,e4⟩:=quQ i1 (ow:=⟨fun _=>False,S1⟩) (fun b h=>h) (fun b h=>h) (fun b h=>h) (rows2:=[.live (.dat 1 b false)]) (rows3:=[.live (.dat 1 b false)]) i3 hsz rfl;refine⟨_,w',fr,⟨u,_,_,rfl,⟨rfl,rfl⟩,_,S',i4,?_,fun r hr p hp=>?_,hsz⟩,h3⟩
 ·exact qcW (f:=fun j=>some (1+j)) (n:=8) (v:=.sl 0 1 0 b.length b.length false) (fun r j hj=>by
   cases hj;show qcC 1 m m' (1+r)=m' r;rw[qa8 (by omega)]; congr 1; omega) rfl r3
 ·show qcC 1 m m' r=some p;rw[qby (by omega)];exact hp
theorem qS.ofArgs {P:Program} {g:FuncId} {args args':List V} {ps:List Prop} {R:V→Aev.Rows→Prop} (h:qdf [] args=some (ps,args')) (hp:qf ps) (hd:qS P g 0 args' [] R):qS P g 0 args [] R:=by
 intro w0 own m S w vs inv ha;exact hd w0 own m S w vs inv (qpi inv h hp ha)
end Go.Aev
end
section
namespace Go.Aev.R
open Go Go.Aev
inductive K where
 | i (k:IntKind)
 | b
 | s
 | l
 | o
 deriving Inhabited
inductive T where
 | v (n:Nat)
 | i (z:Int)
 | t (b:Bool)
 | z
 | s (l:List UInt8)
 | p
 | mk (k:K) (x:T)
 | u (o k:Nat) (x:T)
 | w (o:Nat) (x y:T)
 deriving Inhabited
inductive Y where
 | i (k:IntKind)
 | b
 | s (n:Nat)
 | l (n:Nat) (e:Y)
 | g (r:Y)
 | e0
 | ec (c r:Y)
 | nm (n:Nat)
 | rg (a b:Int)
 | y8
 | gq (r:Y) (ps:List (Bool×T×T))
 deriving Inhabited
def toN (d:D):Nat:=(toI d).toNat
def K.den:K→D→D
 | .i k,d=>.int k (toI d)|.b,d=>.bool (toB d)|.s,d=>.str ⟨⟨toS d⟩⟩|.l,d=>.list (toL d)|.o,d=>d
def N64 (n:Nat):D:=.int .i64 (n:Int)
def I64 (n:Int):D:=.int .i64 n
def qqL:Nat→IntKind
 | 0=>.i64|1=>.u8|2=>.u32|3=>.u64|_=>.i32
def qaC (k:Nat):List D→Nat
 | []=>0|x::r=>max (toL (cel x k)).length (qaC k r)
def qik:Nat→D→Nat
 | 0,_=>0|n+1,d=>1+(toL (cel d 11)).length+((toL (cel d 10)).map (qik n)).sum
noncomputable def nsz (d:D):Nat:=qik (SizeOf.sizeOf d) d
noncomputable def qdq:Nat→D→Nat
 | 0,x=>(toL x).length|k+1,x=>match Nat.beq k 999 with
  | true=>nsz x|false=>toN (cel x k)
noncomputable def Yz (k:Nat):List D→Nat
 | []=>0|x::r=>qdq k x+Yz k r
def qil:Nat→D→Nat
 | 0,_=>0|n+1,d=>1+((toL (cel d 10)).map (qil n)).foldr max 0
noncomputable def qaa (d:D):Nat:=qil (SizeOf.sizeOf d) d
noncomputable def Jh (l:List D):Nat:=(l.map qaa).foldr max 0
def Ju:Nat:=1000000
noncomputable def T.un (wf:Nat→List D→D):Nat→Nat→D→D
 | 0,_,d=>N64 (toL d).length|1,k,d=>cel d k|2,_,d=>.agg (toL d)|3,k,d=>wf k (toL d)|4,_,d=>N64 (toN d)|5,k,d=>I64 ((qqL k).wrap (toI d))|6,_,d=>.bool (!toB d)|7,_,d=>N64 (toS d).length|8,k,d=>N64 (k*toN d)|9,_,d=>I64 (0 - toI d)|10,k,d=>N64 (toN d*k)|11,k,d=>N64 (qaC k (toL d))|12,k,d=>N64 (Yz k (toL d))|13,_,d=>N64 (qaa d)|14,_,d=>N64 (Jh (toL d))|15,_,d=>N64 (nsz d)|16,_,d=>.str ⟨⟨(toL d).map unB⟩⟩|_,_,_=>.nilp
def T.bk (o:Nat) (k:IntKind) (a b:Int):D:=match o with
 | 0=>I64 (k.wrap (a.tdiv b))|1=>I64 (a.tmod b)|2=>I64 (k.wrap (a*2 ^ (min b.toNat k.bits)))|3=>I64 (a.fdiv (2 ^ (min b.toNat k.bits)))|4=>I64 (k.wrap (BitVec.ofInt k.bits a&&&BitVec.ofInt k.bits b).toNat)|5=>I64 (k.wrap (BitVec.ofInt k.bits a|||BitVec.ofInt k.bits b).toNat)|6=>I64 (k.wrap (BitVec.ofInt k.bits a^^^BitVec.ofInt k.bits b).toNat)|_=>I64 (k.wrap (BitVec.ofInt k.bits a&&&~~~ BitVec.ofInt k.bits b).toNat)
def T.bi:Nat→D→D→D
 | 0,x,y=>I64 (toI x+toI y)|1,x,y=>I64 (toI x - toI y)|2,x,y=>I64 (toI x*toI y)|3,x,y=>(toL x).getD (toN y) .nilp|4,x,y=>.list (x::toL y)|5,x,y=>.list (toL x++toL y)|6,x,y=>.list ((toL y).take (toN x))|7,x,y=>.list ((toL y).drop (toN x))|8,x,y=>N64 (toN x+toN y)|9,x,y=>N64 (toN x - toN y)|10,x,y=>.bool (decide (toI x<toI y))|11,x,y=>.bool (decide (toI x≤toI y))|12,x,y=>.bool (decide (toI x>toI y))|13,x,y=>.bool (decide (toI x≥toI y))|14,x,y=>.bool (toI x==toI y)|15,x,y=>.bool (toI x != toI y)|16,x,y=>.bool ((⟨⟨toS x⟩⟩:ByteArray).toList==(⟨⟨toS y⟩⟩:ByteArray).toList)|17,x,y=>.bool (!((⟨⟨toS x⟩⟩:ByteArray).toList==(⟨⟨toS y⟩⟩:ByteArray).toList))|18,x,y=>.bool (Go.Op.bytesLess (⟨⟨toS x⟩⟩:ByteArray).toList (⟨⟨toS y⟩⟩:ByteArray).toList)|19,x,y=>.bool (toB x==toB y)|20,x,y=>.bool (!(toB x==toB y))|21,x,y=>.list ((toL x).set (toN (cel y 0)) (cel y 1))|22,x,y=>I64 ((toI x).tdiv (toI y))|23,x,y=>I64 ((toI x).tmod (toI y))|26,x,y=>I64 (if toI y>toI x then toI y else toI x)
 | 27,x,y=>I64 (if toI y<toI x then toI y else toI x)
 | 32,x,y=>.list (List.replicate (toN x) y)|33,x,y=>.bool (qa5 (toL x) (toL y))|28,x,y=>.bool (Go.Op.bytesLess (⟨⟨toS x⟩⟩:ByteArray).toList (⟨⟨toS y⟩⟩:ByteArray).toList||(⟨⟨toS x⟩⟩:ByteArray).toList==(⟨⟨toS y⟩⟩:ByteArray).toList)|29,x,y=>.bool (!(Go.Op.bytesLess (⟨⟨toS x⟩⟩:ByteArray).toList (⟨⟨toS y⟩⟩:ByteArray).toList||(⟨⟨toS x⟩⟩:ByteArray).toList==(⟨⟨toS y⟩⟩:ByteArray).toList))|30,x,y=>.bool (!Go.Op.bytesLess (⟨⟨toS x⟩⟩:ByteArray).toList (⟨⟨toS y⟩⟩:ByteArray).toList)|24,x,y=>.int .u8 (((toS x).getD (toN y) 0).toNat:Nat)|o,x,y=>match Nat.ble 100 o with
  | true=>T.bk ((o - 100) / 10) (qqL ((o - 100) % 10)) (toI x) (toI y)|false=>.nilp
section
variable (wf:Nat→List D→D) (ρ:Nat→D)
noncomputable def T.den:T→D
 | .v n=>ρ n|.i n=>I64 n|.t b=>.bool b|.z=>.list []|.s l=>.str ⟨⟨l⟩⟩|.p=>.nilp|.mk k x=>k.den x.den|.u o k x=>T.un wf o k x.den|.w o x y=>T.bi o x.den y.den
noncomputable def qgE (c:K×T):D:=c.1.den (c.2.den wf ρ)
end
def qab (ks:List K) (ag:Bool) (d:D):D:=match ag with
 | true=>.agg (formC ks 0 d)|false=>match ks with
  | [k]=>k.den d|_=>.nilp
where formC:List K→Nat→D→List D
 | [],_,_=>[]|k::r,n,d=>k.den (cel d n)::formC r (n+1) d
def cellsOf (x:T):List K→Nat→List (K×T)
 | [],_=>[]|k::r,n=>(k,.u 1 n x)::cellsOf x r (n+1)
def qW:List T→T
 | []=>.z|x::r=>.w 4 x (qW r)
inductive R1 where
 | c (k:K) (t:T)
 | ag (l:List (K×T))
 | nil
 | any
 | und
 | sl (r k:Nat) (on n cn:T) (ex:Bool)
 | pt (r k:Nat) (i:T) (f:Nat)
 | pe (r k:Nat) (i:T) (f:Nat) (ks:List K) (ag:Bool)
 | dp (l:List (K×T)) (ag:Bool)
 | fn (g:Nat)
 | pa (r k:Nat) (f:T)
 | av (n:Nat) (k:K) (t:T)
 deriving Inhabited
inductive RV where
 | o (x:R1)
 | vag (l:List R1)
 | tup (l:List R1)
 deriving Inhabited
inductive qx where
 | free
 | dead
 | dat (k:Nat) (t:T) (ro:Bool)
 | box (l:List R1) (ro:Bool)
 | arr (n:Nat) (k:K) (t:T) (ro:Bool)
 deriving Inhabited
section
variable (wf:Nat→List D→D) (ρ:Nat→D)
noncomputable def R1.den:R1→V
 | .c k t=>.d (k.den (t.den wf ρ))|.ag l=>.d (.agg (l.map (qgE wf ρ)))|.nil=>.nil|.any=>.any|.und=>.tup []|.sl r k on n cn ex=>.sl r k (toN (on.den wf ρ)) (toN (n.den wf ρ)) (toN (cn.den wf ρ)) ex|.pt r k i f=>.pt r k (toN (i.den wf ρ)) f|.pe r k i f _ _=>.pt r k (toN (i.den wf ρ)) f|.dp l a=>.dp (match a with|true=>.agg (l.map (qgE wf ρ)) | false=>match l with | [q]=>qgE wf ρ q|_=>.nilp)
 | .fn g=>.fn g []|.pa r k f=>.pt r k 0 (toN (f.den wf ρ))|.av _ _ t=>.d (.agg (toL (t.den wf ρ)))
noncomputable def RV.den:RV→V
 | .o x=>x.den wf ρ|.vag l=>.agg (l.map (R1.den wf ρ))|.tup l=>.tup (l.map (R1.den wf ρ))
noncomputable def qx.den:qx→qd
 | .free=>.free|.dead=>.dead|.dat k t ro=>.live (.dat k (toL (t.den wf ρ)) ro)|.box l ro=>.live (.box (l.map (R1.den wf ρ)) ro)|.arr _ _ t ro=>.live (.box ((toL (t.den wf ρ)).map V.d) ro)
end
inductive F where
 | num (a b:Nat)
 | le (a b:T)
 | lt (a b:T)
 | nle (a b:T)
 | nnle (a b:T)
 | nlt (a b:T)
 | nne (a b:T)
 | aw (l i:T) (ks:List K) (ag:Bool)
 | bool (t:T) (v:Bool)
 | inI (t:T)
 | rc (g:Nat) (x:List T)
 | all (l:T) (k:Nat)
 | and (f g:F)
 | has (t:T) (y:Y)
 | pre (l i:T) (y:Y)
 | imp (t:T) (f:F)
 | tt (b:Bool)
 | keq (a b:IntKind)
 | ine (t:T)
 | rows (e:Nat) (l i t:T)
 | ifF (f g:F)
 | eqD (a b:T)
 | byt (l:T)
 | ar (l:T)
 | sca (l:T)
 | sp (l:T) (k:K) (n:Nat)
 | iz (t:T) (z:Int)
 deriving Inhabited
def w0:Nat→List D→D:=fun _ _=>.nilp
def qim (x:D) (v:Nat):Nat→D
 | 0=>x|1=>N64 v|_=>.nilp
def qaD (x:D) (v:Nat) (p:Bool×T×T):Prop:=match p.1 with
 | true=>toN (p.2.1.den w0 (qim x v))≤toN (p.2.2.den w0 (qim x v))|false=>toI (p.2.1.den w0 (qim x v))≤toI (p.2.2.den w0 (qim x v))
def qcd (R:Nat→D→Prop):Y→D→Prop
 | .i k,d=>∃n,d=.int k n|.b,d=>∃x,d=.bool x|.s n,d=>∃l:List UInt8,d=.str ⟨⟨l⟩⟩∧l.length≤n|.l n e,d=>∃es,d=.list es∧es.length≤n∧∀x∈es,qcd R e x|.g r,d=>∃cs,d=.agg cs∧qcd R r (.list cs)|.e0,d=>d=.list []|.ec c r,d=>∃x xs,d=.list (x::xs)∧qcd R c x∧qcd R r (.list xs)|.nm n,d=>R n d|.rg a b,d=>∃n:Int,d=.int .i64 n∧a≤n∧n≤b|.y8,d=>∃c:UInt8,d=Yr c|.gq r ps,d=>(∃cs,d=.agg cs∧qcd R r (.list cs))∧∀p∈ps,qaD d 0 p
class RT where
 body:Nat→Y
 tm:Nat→List (Bool×T×T):=fun _=>[]
 gl:Nat→List (K×T):=fun _=>[]
 mkb:Nat→Bool:=fun _=>false
theorem qqM {R R':Nat→D→Prop} (h:∀n d,R n d→R' n d):∀{y:Y} {d:D},qcd R y d→qcd R' y d:=by
 intro y
 induction y with
 | l n e ih=>intro d ⟨es,h1,h2,h3⟩; exact⟨es,h1,h2,fun x hx=>ih (h3 x hx)⟩
 | g r ih=>intro d ⟨cs,h1,h2⟩; exact⟨cs,h1,ih h2⟩
 | gq r ps ih=>intro d ⟨⟨cs,h1,h2⟩,h3⟩; exact⟨⟨cs,h1,ih h2⟩,h3⟩
 | ec c r ih1 ih2=>intro d ⟨x,xs,h1,h2,h3⟩; exact⟨x,xs,h1,ih1 h2,ih2 h3⟩
 | nm n=>intro d hd; exact h n d hd
 | _=>intro d hd; exact hd
variable [RT]
def JO (n:Nat) (d:D):Prop:=∃R:Nat→D→Prop,(∀m e,R m e→qcd R (RT.body m) e)∧R n d
abbrev qj:Y→D→Prop:=qcd JO
theorem JO.un {n:Nat} {d:D} (h:JO n d):qj (RT.body n) d:=by
 obtain⟨R,h1,h2⟩:=h;exact qqM (fun m e hm=>⟨R,h1,hm⟩) (h1 _ _ h2)
theorem JO.fold {n:Nat} {d:D} (h:qj (RT.body n) d):JO n d:=by
 refine⟨fun m e=>qj (RT.body m) e,fun m e hm=>?_,h⟩;exact qqM (fun m e h=>JO.un h) hm
def unQ:Y→Y
 | .gq r _=>.g r|y=>y
theorem qHH {y:Y} {d:D} (h:qj y d):qj (unQ y) d:=by
 cases y<;>first|exact h|exact h.1
def unN:Y→Y
 | .nm n=>RT.body n|y=>y
theorem qlJ {y:Y} {d:D} (h:qj y d):qj (unN y) d:=by
 cases y<;>first|exact h|exact JO.un h
def unY (y:Y):Y:=unQ (unN y)
theorem qei {y:Y} {d:D} (h:qj y d):qj (unY y) d:=qHH (qlJ h)
class PW where
 wV:Nat→List D→D
variable [PW]
def qin (x v:D):Nat→D
 | 0=>x|1=>v|_=>.nilp
def qlK (x v:D) (p:Bool×T×T):Prop:=match p.1 with
 | true=>toN (p.2.1.den PW.wV (qin x v))≤toN (p.2.2.den PW.wV (qin x v))|false=>toI (p.2.1.den PW.wV (qin x v))≤toI (p.2.2.den PW.wV (qin x v))
def Yf (e:Nat) (v x:D):Prop:=match e with
 | 0=>(toL x).length=toN v|1=>(toL x).length≤toN v|2=>0≤toI x∧toI x<(toN v:Int)|k+3=>match Nat.blt k 900 with
  | true=>(toL (cel x k)).length≤toN v|false=>match Nat.blt k 917 with
   | true=>∀p∈RT.tm (k - 900),qaD x (toN v) p|false=>match Nat.blt k 937 with
    | true=>∀p∈RT.tm (k - 900),qlK x v p|false=>match Nat.beq k 937 with
     | true=>x∈toL v|false=>∀y∈toL x,y∈toL v
section
variable (wf:Nat→List D→D) (rcP:Nat→List D→Prop) (ρ:Nat→D)
def F.den:F→Prop
 | .num a b=>a=b|.le a b=>toI (a.den wf ρ)≤toI (b.den wf ρ)|.lt a b=>toI (a.den wf ρ)<toI (b.den wf ρ)|.nle a b=>toN (a.den wf ρ)≤toN (b.den wf ρ)|.nnle a b=>¬toN (a.den wf ρ)≤toN (b.den wf ρ)|.nlt a b=>toN (a.den wf ρ)<toN (b.den wf ρ)|.nne a b=>toN (a.den wf ρ)≠toN (b.den wf ρ)|.aw l i ks ag=>(toL (l.den wf ρ))[toN (i.den wf ρ)]?=some (qab ks ag ((toL (l.den wf ρ)).getD (toN (i.den wf ρ)) .nilp))|.bool t v=>toB (t.den wf ρ)=v|.inI t=>qi (toI (t.den wf ρ))|.rc g x=>rcP g (x.map (T.den wf ρ))|.all l k=>(toL (l.den wf ρ)).all (fun e=>e.cells.length==k)=true
 | .and f g=>f.den∧g.den|.has t y=>qj y (t.den wf ρ)|.pre l i y=>∀j:Nat,j<toN (i.den wf ρ)→qj y ((toL (l.den wf ρ)).getD j .nilp)|.imp t f=>toB (t.den wf ρ)=true→f.den|.tt b=>b=true|.keq a b=>a=b|.ine t=>toI (t.den wf ρ)≠0|.ifF f g=>f.den→g.den|.eqD a b=>a.den wf ρ=b.den wf ρ|.byt l=>toL (l.den wf ρ)=qh ((toL (l.den wf ρ)).map unB)|.iz t z=>toI (t.den wf ρ)=z|.ar l=>(toL (l.den wf ρ)).map V.d=(toL (l.den wf ρ)).map V.d|.sca l=>(toL (l.den wf ρ)).all (fun d=>!d.isAgg)=true
 | .sp l k n=>toL (l.den wf ρ)=(List.range n).map fun j=>qab [k] false ((toL (l.den wf ρ)).getD j .nilp)
 | .rows e l i t=>∀j:Nat,j<toN (i.den wf ρ)→j<(toL (l.den wf ρ)).length→Yf e (t.den wf ρ) ((toL (l.den wf ρ)).getD j .nilp)
end
def Y.kind:Y→K
 | .i k=>.i k|.b=>.b|.s _=>.s|.l _ _=>.l|.rg _ _=>.i .i64|.y8=>.i .u8|_=>.o
def Y.kinds:Y→List K
 | .ec c r=>c.kind::r.kinds|_=>[]
def Y.form:Y→D→D
 | .g r,d=>qab r.kinds true d|.gq r _,d=>qab r.kinds true d|y,d=>y.kind.den d
structure Con where
 pts:List Y
 pre:List F
 rts:List Y
 post:List F
 nw:Bool:=false
 fact:List D→D→Prop:=fun _ _=>True
 deriving Inhabited
def qxj:List Y→Y
 | []=>.e0|y::r=>.ec y (qxj r)
def Con.rt (c:Con):Y:=match c.rts with
 | [y]=>y|ys=>.g (qxj ys)
def qxk:List Y→Nat→D→List V
 | [],_,_=>[]|y::r,n,d=>.d (y.form (cel d n))::qxk r (n+1) d
def qdr (rts:List Y) (d:D):V:=match rts with
 | [y]=>.d (y.form d)|ys=>.tup (qxk ys 0 d)
def rc0:Nat→List D→Prop:=fun _ _=>False
def qa (ds:List D) (n:Nat):D:=ds.getD n .nilp
def qHI (ds:List D) (ys:List Y):Prop:=ds.length=ys.length∧∀(i:Nat) (y:Y),ys[i]?=some y→qj y (qa ds i)
def qM (c:Con) (ds:List D):Prop:=qHI ds c.pts∧∀f∈c.pre,f.den PW.wV rc0 (qa ds)
def qio (c:Con) (ds:List D) (d:D):Prop:=qj c.rt d∧∀f∈c.post,f.den PW.wV rc0 (qa (ds++[d]))
def J0 (c:Con) (ds:List D) (d:D):Prop:=qio c ds d∧c.fact ds d
variable [Glob]
def JP (P:Program) (g:FuncId) (c:Con) (ds:List D) (d:D):Prop:=match c.nw with
 | false=>RCs P g (ds.map V.d) [] (qdr c.rts d)|true=>qS P g 0 (ds.map V.d) [] (qig (toL d))
def qp (P:Program) (g:FuncId) (c:Con):Prop:=∀ds,qM c ds→∃d,J0 c ds d∧JP P g c ds d
abbrev Tab:=List (Nat×Con)
def Tab.get (t:Tab) (g:Nat):Option Con:=(t.find? fun p=>Nat.beq p.1 g).map (·.2)
noncomputable def wOf (P:Program) (tab:Tab) (g:Nat) (ds:List D):D:=match Nat.ble Ju g with
 | true=>PW.wV g ds|false=>match tab.get g with
  | some c=>qhL fun d=>J0 c ds d∧JP P g c ds d
  | none=>.nilp
noncomputable def JQ (P:Program) (tab:Tab) (g:Nat) (ds:List D):Prop:=match tab.get g with
 | some c=>JP P g c ds (wOf P tab g ds)|none=>False
def unD:V→D
 | .d x=>x|_=>.nilp
def qap:List V→Option (List D)
 | []=>some []|.d x::r=>match qap r with
  | some l=>some (x::l)|none=>none
 | _=>none
theorem qxl:∀{as:List V} {ds:List D},qap as=some ds→as=ds.map V.d
 | [],ds,h=>by cases h; rfl
 | .d x::r,ds,h=>by
  unfold qap at h;split at h
  ·rename_i l hl;cases h;rw[qxl hl]; rfl
  ·cases h
 | .nil::_,ds,h=>by cases h
 | .any::_,ds,h=>by cases h
 | .top::_,ds,h=>by cases h
 | .tup _::_,ds,h=>by cases h
 | .agg _::_,ds,h=>by cases h
 | .sl ..::_,ds,h=>by cases h
 | .pt ..::_,ds,h=>by cases h
 | .dp _::_,ds,h=>by cases h
 | .fn ..::_,ds,h=>by cases h
 | .fp ..::_,ds,h=>by cases h
 | .bf ..::_,ds,h=>by cases h
 | .mp ..::_,ds,h=>by cases h
 | .fm ..::_,ds,h=>by cases h
 | .ifc ..::_,ds,h=>by cases h
noncomputable def qlL (P:Program) (tab:Tab) (g:FuncId) (args:List V) (rows:Aev.Rows):Option (List Prop×V×Aev.Rows):=match tab.get g with
 | some c=>match c.nw with
  | true=>match rows with
   | []=>match qdf [] args with
    | some (ps,as)=>match qap as with
     | some ds=>some (ps++[JP P g c ds (wOf P tab g ds)],.sl 0 1 0 (toL (wOf P tab g ds)).length (toL (wOf P tab g ds)).length false,[.live (.dat 1 (toL (wOf P tab g ds)) false)])|none=>none
    | none=>none
   | [.live (.dat 1 es _)]=>match args with
    | [.sl 0 1 0 n _ _]=>some ([n≤es.length,es.length≤n,JP P g c [.list es] (wOf P tab g [.list es])],.sl 1 1 0 (toL (wOf P tab g [.list es])).length (toL (wOf P tab g [.list es])).length false,
      [.live (.dat 1 es true),.live (.dat 1 (toL (wOf P tab g [.list es])) false)])
    | _=>none
   | _=>none
  | false=>none
 | none=>none
theorem qHJ {P:Program} {tab:Tab} {g:FuncId} {args:List V} {rows:Aev.Rows} {ps:List Prop} {v:V} {rows2:Aev.Rows} (h:qlL P tab g args rows=some (ps,v,rows2)) (hp:qf ps):qS P g rows.length args rows (fun x y=>x=v∧y=rows2):=by
 unfold qlL at h;split at h
 ·rename_i c hc;split at h
  ·rename_i hn;split at h
   ·split at h
    ·rename_i qs as ha;split at h
     ·rename_i ds hd;cases h;obtain⟨p1,p2,_⟩:=Yh hp;unfold JP at p2;rw[hn]at p2;simp only at p2;rw[←qxl hd]at p2;exact qS.ofArgs ha p1 p2
     ·cases h
    ·cases h
   ·split at h
    ·rename_i es ro n cn ex;cases h;obtain⟨p1,p2,p3,_⟩:=hp;unfold JP at p3;rw[hn]at p3;exact qS.ofSlL (Nat.le_antisymm p1 p2) p3
    ·cases h
   ·cases h
  ·cases h
 ·cases h
noncomputable def cfR (P:Program) (tab:Tab):qw:=mkW P (fun _=>true) (qhK P fun g=>match tab.get g with
 | some c=>match c.nw with
  | false=>some fun args=>qdr c.rts (wOf P tab g (args.map unD))
  | true=>none
 | none=>none) (qlL P tab)
end Go.Aev.R
end
section
namespace Go.Aev.R
open Go Go.Aev
variable [RT]
def IntKind.eq (a b:IntKind):Bool:=match a,b with
 | .i8,.i8 | .i16,.i16 | .i32,.i32 | .i64,.i64 | .u8,.u8 | .u16,.u16 | .u32,.u32 | .u64,.u64=>true|_,_=>false
def K.eq:K→K→Bool
 | .i x,.i y=>IntKind.eq x y|.b,.b | .s,.s | .l,.l | .o,.o=>true|_,_=>false
def qbG:Int→Int→Bool
 | .ofNat a,.ofNat b=>Nat.beq a b|.negSucc a,.negSucc b=>Nat.beq a b|_,_=>false
def bEq:Bool→Bool→Bool
 | true,true|false,false=>true|_,_=>false
def qlw:List UInt8→List UInt8→Bool
 | [],[]=>true|a::r,b::s=>Nat.beq a.toNat b.toNat&&qlw r s|_,_=>false
def T.eq:T→T→Bool
 | .v x,.v y=>Nat.beq x y|.i x,.i y=>qbG x y|.t x,.t y=>bEq x y|.z,.z=>true|.p,.p=>true|.s x,.s y=>qlw x y|.mk k x,.mk k' y=>K.eq k k'&&x.eq y|.u o k x,.u o' k' y=>Nat.beq o o'&&(Nat.beq k k'&&x.eq y)|.w o x y,.w o' x' y'=>Nat.beq o o'&&(x.eq x'&&y.eq y')|_,_=>false
def kOf:Value→Option K
 | .int k _=>some (.i k)|.bool _=>some .b|.string _=>some .s|.slice none 0 0=>some .l|_=>some .o
def qef (y:Ty):List K:=y.zero.cells.toList.filterMap kOf
def qwU:Value→Option R1
 | .int k n=>some (.c (.i k) (.i n))|.bool b=>some (.c .b (.t b))|.string s=>some (.c .s (.s s.data.toList))|.pointer none=>some (.c .o .p)|.slice none 0 0=>some .nil|.tuple ⟨[]⟩=>some .und|_=>none
def qlx:List R1→Option (List (K×T))
 | []=>some []|.c k t::r=>match qlx r with
  | some l=>some ((k,t)::l)|none=>none
 | _=>none
def qly (l:List R1):RV:=match qlx l with
 | some l=>.o (.ag l)|none=>.vag l
def RV.cells:RV→List R1
 | .o (.ag l)=>l.map fun p=>.c p.1 p.2
 | .o x=>[x]|.vag l=>l|.tup _=>[]
structure H where
 arr:List (Nat×(Nat×K×T)):=[]
 glb:List (Nat×(List K×Bool×T)):=[]
 spl:List (Nat×(Nat×K×T)):=[]
 mv:List (Nat×T):=[]
 lit:List (Nat×Int):=[]
 lst:List (Nat×(List K×Bool×T)):=[]
 row:List (Nat×(List K×Bool×T)):=[]
 nz:List Nat:=[]
 mz:List Nat:=[]
structure RS where
 env:List RV
 rows:List qx
 todo:List qT
inductive RO where
 | ok (fs:List F) (h:H) (v:RV) (ups:List (Nat×qx)) (fresh:Option qx)
 | fork (t:T) (tmp:Nat)
 | fail (why:Nat)
def val (v:RV):RO:=.ok [] {} v [] none
def RO.atm (r:RO) (o:Operand):RO:=match r,o with
 | .ok fs h v ups fresh,.tmp k=>.ok fs {h with arr:=h.arr++h.arr.map fun p=>(1000000+k,p.2)} v ups fresh
 | r,_=>r
def qam (fs:List F) (v:RV):RO:=.ok fs {} v [] none
def i0:T:=.i 0
def nn (n:Nat):T:=.i (n:Int)
def qeg:List F→F
 | []=>.tt true|[f]=>f|f::r=>.and f (qeg r)
def qlz (env:List RV):Operand→Option RV
 | .tmp t=>match env.getD t (.o .und)with
  | .o .any=>none|v=>some v
 | .const v=>match qwU v with
  | some x=>some (.o x)|none=>none
 | .global g=>match RT.gl g with
  | []=>none|l=>some (.o (.dp l true))
 | .func f=>some (.o (.fn f))
def qqF (env:List RV):List Operand→Option (List RV)
 | []=>some []|x::r=>match qlz env x,qqF env r with
  | some v,some l=>some (v::l)|_,_=>none
def qaB:T→Option Nat
 | .i (.ofNat n)=>some n|_=>none
def qgz:T→Option Nat
 | .i (.ofNat n)=>some n|.w 8 a b=>match qgz a,qgz b with
  | some m,some n=>some (m+n)|_,_=>none
 | .w 9 a b=>match qgz a,qgz b with
  | some m,some n=>some (m - n)|_,_=>none
 | _=>none
def qlA:T→Option Nat
 | .z=>some 0|.w 4 _ r=>match qlA r with
  | some n=>some (n+1)|none=>none
 | _=>none
def qff (on n t:T):T:=match qaB on,qaB n,qlA t with
 | some 0,some k,some m=>match Nat.beq k m with
  | true=>t|false=>.w 6 n (.w 7 on t)
 | _,_,_=>.w 6 n (.w 7 on t)
def qHd (a b:T):T:=match a with
 | .z=>b|a=>.w 5 a b
def r1D (rows:List qx):R1→Option (List F×T)
 | .c k t=>some ([],.mk k t)|.nil=>some ([],.z)|.sl r k on n _ _=>match rows[r]? with
  | some (.dat k' t _)=>some ([.and (.num k k') (.nle (.w 8 on n) (.u 0 0 t))],qff on n t)|_=>none
 | .ag l=>some ([],.u 2 0 (qW (l.map fun p=>.mk p.1 p.2)))
 | .av _ _ t=>some ([],.u 2 0 t)|_=>none
def qlB (rows:List qx):List R1→Option (List F×List T)
 | []=>some ([],[])|x::r=>match r1D rows x,qlB rows r with
  | some (fs,t),some (gs,l)=>some (fs++gs,t::l)|_,_=>none
def rvD (rows:List qx):RV→Option (List F×T)
 | .o x=>r1D rows x|.vag l=>match qlB rows l with
  | some (fs,ts)=>some (fs,.u 2 0 (qW ts))|none=>none
 | .tup _=>none
def JH (rows:List qx):RV→Option (List F×T)
 | .o (.sl r _ on n _ _)=>match rows[r]?,qaB on,qaB n with
  | some (.box cs _),some o,some m=>match qlB rows ((cs.drop o).take m)with
   | some (fs,ts)=>some (fs,qW ts)|none=>none
  | _,_,_=>none
 | _=>none
def qlC (rows:List qx):List RV→Option (List F×List T)
 | []=>some ([],[])|x::r=>match rvD rows x,qlC rows r with
  | some (fs,t),some (gs,l)=>some (fs++gs,t::l)|_,_=>none
def qih (y:Y) (t:T):R1:=match y with
 | .g r=>.ag (cellsOf t r.kinds 0)|.gq r _=>.ag (cellsOf t r.kinds 0)|y=>.c y.kind t
def qwV:List Y→Nat→T→List R1
 | [],_,_=>[]|y::r,n,t=>qih y (.u 1 n t)::qwV r (n+1) t
def qHe (rts:List Y) (t:T):RV:=match rts with
 | [y]=>.o (qih y t)|ys=>.tup (qwV ys 0 t)
def Y.plain:Y→Bool
 | .l _ _=>false|.g r=>r.plain|.gq r _=>r.plain|.ec c r=>c.plain&&r.plain|_=>true
def qlD:R1→List Nat
 | .sl r _ _ _ _ _=>[r]|.pt r _ _ _=>[r]|.pe r _ _ _ _ _=>[r]|.pa r _ _=>[r]|_=>[]
def qwW:RV→List Nat
 | .o x=>qlD x|.vag l=>l.flatMap qlD|.tup l=>l.flatMap qlD
def qwX (rows:List qx) (r:Nat):List Nat:=match rows[r]? with
 | some (.box l _)=>l.flatMap qlD|_=>[]
def qwY (rows:List qx) (l:List Nat):List Nat :=
 let a:=l++l.flatMap (qwX rows)
 a++a.flatMap (qwX rows)
def qlE (rows:List qx):List Nat→List (Nat×qx)
 | []=>[]|r::rs=>match rows[r]? with
  | some (.dat k t false)=>(r,.dat k t true)::qlE rows rs|some (.box l false)=>(r,.box l true)::qlE rows rs|_=>qlE rows rs
def qcc:IntKind→Nat
 | .i64=>0 | .u8=>1 | .u32=>2 | .u64=>3 | .i32=>4|_=>9
def qHf (wr:Bool) (op:BinOp) (x y:RV):RO:=match x,y with
 | .o (.c (.i k) a),.o (.c (.i k') b) =>
  let ar (o:Nat):RO:=match (match k with | .i64=>!wr|_=>false)with
   | true=>qam [.inI (.w o a b)] (.o (.c (.i k) (.w o a b)))|false=>val (.o (.c (.i k) (.u 5 (qcc k) (.w o a b))))
  match op with
  | .add=>ar 0|.sub=>ar 1|.mul=>ar 2|.lss=>val (.o (.c .b (.w 10 a b)))|.leq=>val (.o (.c .b (.w 11 a b)))|.gtr=>val (.o (.c .b (.w 12 a b)))|.geq=>val (.o (.c .b (.w 13 a b)))|.eql=>val (.o (.c .b (.w 14 a b)))|.neq=>val (.o (.c .b (.w 15 a b)))|.quo=>qam [.keq k k',.ine b] (.o (.c (.i k) (.w (100+qcc k) a b)))|.rem=>qam [.keq k k',.ine b] (.o (.c (.i k) (.w (110+qcc k) a b)))|.shl=>qam [.le i0 b] (.o (.c (.i k) (.w (120+qcc k) a b)))|.shr=>qam [.le i0 b] (.o (.c (.i k) (.w (130+qcc k) a b)))|.and=>val (.o (.c (.i k) (.w (140+qcc k) a b)))|.or=>val (.o (.c (.i k) (.w (150+qcc k) a b)))|.xor=>val (.o (.c (.i k) (.w (160+qcc k) a b)))|.andNot=>val (.o (.c (.i k) (.w (170+qcc k) a b)))
 | .o (.c .s a),.o (.c .s b)=>match op with
  | .eql=>val (.o (.c .b (.w 16 a b)))|.neq=>val (.o (.c .b (.w 17 a b)))|.lss=>val (.o (.c .b (.w 18 a b)))|.leq=>val (.o (.c .b (.w 28 a b)))|.gtr=>val (.o (.c .b (.w 29 a b)))|.geq=>val (.o (.c .b (.w 30 a b)))|_=>.fail 21
 | .o (.c .b a),.o (.c .b b)=>match op with
  | .eql=>val (.o (.c .b (.w 19 a b)))|.neq=>val (.o (.c .b (.w 20 a b)))|_=>.fail 22
 | .o (.ag l),.o (.ag l')=>match op with
  | .eql=>qam [.tt true,.tt true,.num l.length l.length,.num l'.length l.length] (.o (.c .b (.w 33 (qW (l.map fun p=>.mk p.1 p.2)) (qW (l'.map fun p=>.mk p.1 p.2)))))
  | .neq=>qam [.tt true,.tt true,.num l.length l.length,.num l'.length l.length] (.o (.c .b (.u 6 0 (.w 33 (qW (l.map fun p=>.mk p.1 p.2)) (qW (l'.map fun p=>.mk p.1 p.2))))))
  | _=>.fail 24
 | .o .nil,.o .nil=>match op with
  | .eql=>val (.o (.c .b (.t true)))|.neq=>val (.o (.c .b (.t false)))|_=>.fail 23
 | _,_=>.fail 24
def qlF (ks:List K) (ag:Bool) (e:T):List (K×T):=match ag,ks with
 | true,ks=>cellsOf e ks 0|false,[k]=>[(k,e)]|false,_=>[]
def qqG (cs:List R1) (f:Nat) (new:List R1):List R1:=cs.take f++(new++cs.drop (f+new.length))
def qlG (place:Nat→Option (Nat×Nat)):List R1→List (Nat×RV)→Option (List R1)
 | cs,[]=>some cs|cs,(i,v)::rest=>match place i with
  | some (off,_)=>qlG place (qqG cs off v.cells) rest|none=>none
def qii:List Value→Option (List R1)
 | []=>some []|v::r=>match qwU v,qii r with
  | some x,some l=>some (x::l)|_,_=>none
def qwZ (zs:List R1):Nat→List R1
 | 0=>[]|n+1=>zs++qwZ zs n
def qw0 (ag:Bool) (k:Nat):Nat→List T→List T
 | 0,_=>[]|n+1,ds=>(match ag,ds.take k with
  | false,[d]=>d|_,l=>.u 2 0 (qW l))::qw0 ag k n (ds.drop k)
def qw1 (o:Nat) (k:IntKind) (x:T):List RV→RO
 | []=>val (.o (.c (.i k) x))|.o (.c (.i _) y)::r=>qw1 o k (.w o x y) r|_=>.fail 47
def mmR (o:Nat):List RV→RO
 | .o (.c (.i k) x)::r=>qw1 o k x r|_=>.fail 47
def qeh (o:Option RV) (d:T):Option (List F×T):=match o with
 | none=>some ([],d)|some (.o (.c (.i _) t))=>some ([.le i0 t],t)|_=>none
def qgA (o:Option Operand) (vs:List RV):Option RV×List RV:=match o,vs with
 | some _,v::r=>(some v,r)|_,vs=>(none,vs)
section
variable (Ty':TypeId→Option Ty) (tab:Tab) (wr:Bool)
def qHg (rows:List qx) (t:TypeId) (x:RV) (lo hi mx:Option RV):RO:=match Ty' t with
 | some y=>match y.desc,x with
  | .slice e,.o (.sl r k on n cn ex)=>match Ty' e,qeh lo i0,qeh hi n,mx with
   | some z,some (p1,l),some (p2,h),none=>qam (p1++(p2++[qeg [.num k z.size,.nle l h,.nle h n]])) (.o (.sl r k (.w 8 on l) (.w 9 h l) (.w 9 cn l) ex))|_,_,_,_=>.fail 48
  | .slice e,.o (.c .l es)=>match Ty' e,qeh lo i0,qeh hi (.u 0 0 es),mx with
   | some z,some (p1,l),some (p2,h),none=>qam (p1++(p2++[qeg [.nle l h,.nle h (.u 0 0 es)],.all es z.size])) (.o (.c .l (.w 6 (.w 9 h l) (.w 7 l es))))|_,_,_,_=>.fail 48
  | .array m e,.o (.pt r _ (.i (.ofNat 0)) f)=>match rows[r]?,Ty' e,qeh lo i0,qeh hi (nn m),mx with
   | some (.arr N kd t _),some z,some (p1,l),some (p2,h),none=>match Nat.beq z.size 1 with
    | true=>.ok (p1++(p2++[.ar t,.nle l h,.nle h (nn m),.nle (nn (f+m)) (.u 0 0 t),.nlt i0 (nn m)])) {arr:=[(r,N,kd,t)]} (.o (.sl r 1 (.w 8 (nn f) l) (.w 9 h l) (.w 9 (nn m) l) true)) [] none|false=>.fail 48
   | _,_,_,_,_=>.fail 48
  | .slice _,.o .nil=>match qeh lo i0,qeh hi i0,mx with
   | some (_,.i (.ofNat 0)),some (_,.i (.ofNat 0)),none=>val (.o .nil)|_,_,_=>.fail 48
  | _,_=>.fail 48
 | none=>.fail 48
def qHh (slot:Nat) (t:TypeId) (l c:RV):RO:=match Ty' t,l,c with
 | some y,.o (.c (.i _) a),.o (.c (.i _) b)=>match y.desc with
  | .slice e=>match Ty' e with
   | some z=>match qii z.zero.cells.toList with
    | some zs=>match qlx (zs.map fun c=>match c with | .nil=>.c .l .z|c=>c)with
     | some ds =>
      let el:T:=match z.agg,ds with|false,[d]=>.mk d.1 d.2|_,l=>.u 2 0 (qW (l.map fun p=>.mk p.1 p.2))
      .ok [qeg [.le i0 a,.le a b,.lt b (.i 4611686018427387904),.le (.w 2 (nn z.bytes) b) (.i 281474976710656),.num zs.length z.size,.nlt i0 (nn z.size)]] {}
       (.o (.sl slot z.size i0 a b true)) [] (some (.dat z.size (.w 32 a el) false))
     | none=>.fail 49
    | none=>.fail 49
   | none=>.fail 49
  | _=>.fail 49
 | _,_,_=>.fail 49
def qw2 (rows:List qx) (t:TypeId) (a:Operand) (x ix:RV):RO:=match Ty' t,ix with
 | some y,.o (.c (.i _) n)=>match y.desc with
  | .array len e=>match Ty' e with
   | some z=>match x with
    | .o (.pt r k (.i (.ofNat 0)) f)=>match rows[r]? with
     | some (.arr N kd l _)=>.ok [.and (.le i0 n) (.lt n (nn len))] {arr:=[(r,N,kd,l)]} (.o (.pa r k (match f with|0=>n|f=>.w 8 (nn f) n))) [] none
     | some (.box _ _)=>match n with
      | .i (.ofNat m)=>match Nat.blt m len with
       | true=>val (.o (.pt r k i0 (f+m*z.size)))|false=>.fail 4
      | _=>.fail 4
     | _=>.fail 4
    | .o (.dp l true)=>match l,a with
     | (kd,_)::_,.global g=>.ok [.and (.le i0 n) (.lt n (nn len)),.aw (qW (l.map fun p=>.mk p.1 p.2)) n [kd] false,.num 1 1,.tt true] {glb:=[(g,[kd],false,qW (l.map fun p=>.mk p.1 p.2))]}
       (.o (.dp [(kd,.w 3 (qW (l.map fun p=>.mk p.1 p.2)) n)] false)) [] none
     | _,_=>.fail 4
    | _=>.fail 4
   | none=>.fail 3
  | .slice e=>match Ty' e with
   | some z=>match x with
    | .o (.c .l l)=>match a with
     | .tmp tm=>.ok [.and (.le i0 n) (.lt n (.u 0 0 l)),.aw l n (qef z) z.agg,.num (qef z).length z.size]
       {lst:=[(tm,qef z,z.agg,l)]} (.o (.dp (qlF (qef z) z.agg (.w 3 l n)) z.agg)) [] none
     | _=>.fail 1
    | .o (.sl r k on m _ _)=>qam [.and (.num k z.size) (.and (.le i0 n) (.lt n (.u 4 0 m)))] (.o (.pe r k (.w 8 on n) 0 (qef z) z.agg))|_=>.fail 2
   | none=>.fail 3
  | _=>.fail 4
 | _,_=>.fail 5
def qw3 (rows:List qx) (t:TypeId) (x:RV):RO:=match Ty' t,x with
 | some y,.o (.pa r _ j)=>match rows[r]? with
  | some (.arr N kd l _)=>match y.agg with
   | false=>.ok [.ar l,.aw l j [kd] false] {arr:=[(r,N,kd,l)]} (.o (.c kd (.w 3 l j))) [] none|true=>.fail 6
  | _=>.fail 6
 | some y,.o (.dp l _)=>match y.agg with
  | true=>val (.o (.ag l))|false=>match l with
   | (k,e)::_=>val (.o (.c k e))|[]=>.fail 6
 | some y,.o (.pe r k i f ks a)=>match rows[r]? with
  | some (.dat k' es _)=>match y.agg with
   | true=>.ok [.and (.num k k') (.aw es i ks a)] {row:=[(r,ks,a,es)]} (.o (.ag (((qlF ks a (.w 3 es i)).drop f).take y.size))) [] none|false=>match (qlF ks a (.w 3 es i))[f]? with
    | some (kk,e)=>.ok [.and (.num k k') (.aw es i ks a)] {row:=[(r,ks,a,es)]} (.o (.c kk e)) [] none|none=>.fail 7
  | _=>.fail 9
 | some y,.o (.pt r k i f)=>match rows[r]? with
  | some (.dat k' es _)=>match Nat.beq f 0&&Nat.beq y.size k with
   | true =>
    let cs:=qlF (qef y) y.agg (.w 3 es i)
    .ok [.and (.num k k') (.aw es i (qef y) y.agg)] {row:=[(r,qef y,y.agg,es)]} (match y.agg,cs with
     | false,(kk,e)::_=>.o (.c kk e)|_,cs=>.o (.ag cs)) [] none
   | false=>.fail 7
  | some (.box l _)=>match y.agg with
   | true=>val (qly ((l.drop f).take y.size))|false=>match (qaB i).bind fun n=>l[n*k+f]? with
    | some v=>val (.o v)|none=>.fail 8
  | some (.arr N kd l _)=>match y.agg,Nat.beq f 0&&Nat.beq y.size N with
   | true,true=>.ok [.ar l,.nle (.u 0 0 l) (nn N),.nle (nn N) (.u 0 0 l)] {arr:=[(r,N,kd,l)]} (.o (.av N kd l)) [] none|true,false=>match (qaB i).map fun n=>n*k+f with
    | some j=>.ok [.ar l,.nle (nn (j+y.size)) (.u 0 0 l)] {arr:=[(r,N,kd,l)]} (.o (.av y.size kd (.w 6 (nn y.size) (.w 7 (nn j) l)))) [] none|none=>.fail 9
   | _,_=>.fail 9
  | _=>.fail 9
 | _,_=>.fail 10
def qHi (z:Ty) (x:RV) (off:Nat):RO:=match x with
 | .o (.ag l)=>match z.agg with
  | true=>val (.o (.ag ((l.drop off).take z.size)))|false=>match l[off]? with
   | some (k,t)=>val (.o (.c k t))|none=>.fail 11
 | .vag l=>match z.agg with
  | true=>val (qly ((l.drop off).take z.size))|false=>match l[off]? with
   | some v=>val (.o v)|none=>.fail 12
 | _=>.fail 13
def qHj (t:TypeId) (f:Nat) (x:RV):RO:=match Ty' t with
 | some y=>match y.desc with
  | .struct fs=>match fs[f]? with
   | some fl=>match Ty' fl.type with
    | some z=>qHi z x fl.offset|none=>.fail 14
   | none=>.fail 14
  | _=>.fail 14
 | none=>.fail 14
def qHk (t:TypeId) (f:Nat) (x:RV):RO:=match Ty' t with
 | some y=>match y.desc with
  | .struct fs=>match fs[f]? with
   | some fl=>match Ty' fl.type with
    | some z=>match x with
     | .o (.pt r k i f0)=>val (.o (.pt r k i (f0+fl.offset)))|.o (.pe r k i f0 ks a)=>val (.o (.pe r k i (f0+fl.offset) ks a))|.o (.dp l _)=>val (.o (.dp ((l.drop fl.offset).take z.size) true))|_=>.fail 15
    | none=>.fail 15
   | none=>.fail 15
  | _=>.fail 15
 | none=>.fail 15
def qw4:List Field→Option (List (Nat×Nat))
 | []=>some []|f::r=>match Ty' f.type,qw4 r with
  | some z,some l=>some ((f.offset,z.size)::l)|_,_=>none
def qHl (t:TypeId) (idx:List Nat) (vs:List RV):RO:=match Ty' t with
 | some y=>match qii y.zero.cells.toList with
  | some zs=>match y.desc with
   | .struct fs=>match qw4 Ty' fs.toList with
    | some pl=>match qlG (fun i=>pl[i]?) zs (idx.zip vs)with
     | some cs=>val (qly cs)|none=>.fail 16
    | none=>.fail 16
   | .array _ e=>match Ty' e with
    | some z=>match qlG (fun i=>some (i*z.size,z.size)) zs (idx.zip vs)with
     | some cs=>val (qly cs)|none=>.fail 16
    | none=>.fail 16
   | _=>.fail 16
  | none=>.fail 16
 | none=>.fail 16
def qHm (rows:List qx):R1→Option ((K×T)×List (Nat×qx))
 | .c k t=>some ((k,t),[])|.nil=>some ((.l,.z),[])|.sl r k on n _ _=>match rows[r]? with
  | some (.dat k' t ro)=>match qaB on,qaB n,qlA t with
   | some a,some b,some m=>match Nat.beq k k'&&Nat.ble (a+b) m with
    | true=>some ((.l,qff on n t),match ro with|true=>[] | false=>[(r,.dat k' t true)])
    | false=>none
   | _,_,_=>none
  | _=>none
 | _=>none
def qw5 (rows:List qx):List R1→Option (List (K×T)×List (Nat×qx))
 | []=>some ([],[])|c::r=>match qHm rows c,qw5 rows r with
  | some (x,us),some (l,vs)=>some (x::l,us++vs)|_,_=>none
def qHn (rows:List qx) (slot:Nat) (t:TypeId) (len:Nat) (idx:List Nat) (vs:List RV):RO:=match Ty' t with
 | some y=>match y.desc with
  | .slice e=>match Ty' e with
   | some z=>match qii z.zero.cells.toList with
    | some zs=>match qlG (fun i=>some (i*z.size,z.size)) (qwZ zs len) (idx.zip vs)with
     | some cs=>match qw5 rows cs with
      | some (l,us)=>.ok [] {} (.o (.sl slot z.size i0 (nn len) (nn len) true)) us (some (.dat z.size (qW (qw0 z.agg z.size len (l.map fun p=>.mk p.1 p.2))) false))
      | none=>.ok [] {} (.o (.sl slot z.size i0 (nn len) (nn len) true)) [] (some (.box cs false))
     | none=>.fail 17
    | none=>.fail 17
   | none=>.fail 17
  | _=>.fail 17
 | none=>.fail 17
def qHo (rows:List qx) (k:Nat):RV→Option (List F×T×T)
 | .o .nil=>some ([],.z,i0)|.o (.c .l l)=>some ([.all l k],l,.u 0 0 l)|.o (.sl r k' on n _ _)=>match rows[r]? with
  | some (.dat k'' t _)=>some ([.and (.num k k') (.and (.num k' k'') (.nle (.w 8 on n) (.u 0 0 t)))],qff on n t,.u 0 0 (qff on n t))|_=>none
 | _=>none
def qHp (gd:List (Nat×Bool)) (tm:Nat) (ds:T):Option Bool:=match qlA ds with
 | some 0=>some true|some _=>some false|none=>match gd.find? (fun p=>Nat.beq p.1 (1000000+tm))with
  | some (_,v)=>some v|none=>none
def qHq (gd:List (Nat×Bool)) (tm:Nat) (rows:List qx) (slot:Nat) (t:TypeId) (s x:RV):RO:=match Ty' t with
  | some y=>match y.desc with
    | .slice e=>match Ty' e with
      | some z=>match qHo rows z.size x with
        | some (p,ds,dl)=>match qHp gd tm ds with
         | none=>.fork (.w 11 dl i0) (1000000+tm)|some true=>match s with
          | .o .nil=>.ok (p++[qeg [.nlt i0 (nn z.size),.nle dl i0]]) {mz:=[tm]} (.o .nil) [] none|.o (.sl r k on n cn ex)=>.ok (p++[qeg [.nlt i0 (nn z.size),.nle dl i0]]) {mz:=[tm]} (.o (.sl r k on n cn ex)) [] none|_=>.fail 18
         | some false=>match s with
          | .o .nil=>.ok (p++[qeg [.nlt i0 (nn z.size),.nne dl i0,.nle (.u 10 z.bytes (.u 8 2 dl)) (nn (2 ^ 48)),.nle dl (nn (2 ^ 62))]]) {nz:=[tm]} (.o (.sl slot z.size i0 dl dl false)) [] (some (.dat z.size ds false))|.o (.sl r k on n cn ex)=>match rows[r]? with
            | some (.dat k' es _) =>
              .ok (p++[qeg [.nlt i0 (nn z.size),.nne dl i0,.num k z.size,.num k' k,.nle (.w 8 on n) (.u 0 0 es),.nnle (.w 8 n dl) cn,.nle (.u 10 z.bytes (.u 8 2 (.w 8 n dl))) (nn (2 ^ 48)),.nle (.w 8 n dl) (nn (2 ^ 62))]]) {nz:=[tm]}
                (.o (.sl slot k i0 (.w 8 n dl) (.w 8 n dl) false)) (match ex with|true=>[] | false=>[(r,.dead)]) (some (.dat k' (qHd (qff on n es) ds) false))
            | _=>.fail 18
          | _=>.fail 18
        | none=>.fail 19
      | none=>.fail 19
    | _=>.fail 19
  | none=>.fail 19
def callN (slot:Nat) (rows:List qx) (g:Nat) (as:List RV):RO:=match as with
 | [.o (.sl r 1 (.i (.ofNat 0)) n _ _)]=>match rows[r]? with
  | some (.dat 1 t _)=>.ok [.nle n (.u 0 0 t),.nle (.u 0 0 t) n,.rc g [.mk .l t]] {} (.o (.sl slot 1 i0 (.u 0 0 (.u 3 g (qW [.mk .l t]))) (.u 0 0 (.u 3 g (qW [.mk .l t]))) false))
    [(r,.dat 1 t true)] (some (.dat 1 (.u 3 g (qW [.mk .l t])) false))
  | _=>.fail 32
 | as=>match qlC rows as with
  | some (fs,ts)=>match qwY rows (as.flatMap qwW)with
   | []=>.ok (fs++[.rc g ts]) {} (.o (.sl slot 1 i0 (.u 0 0 (.u 3 g (qW ts))) (.u 0 0 (.u 3 g (qW ts))) false)) [] (some (.dat 1 (.u 3 g (qW ts)) false))|_=>.fail 34
  | none=>.fail 35
def qHr (slot:Nat) (rows:List qx) (g:Nat) (as:List RV):RO:=match tab.get g with
 | some c=>match c.nw with
  | true=>callN slot rows g as|false=>match qlC rows as with
   | some (fs,ts)=>.ok (fs++[.rc g ts]) {} (qHe c.rts (.u 3 g (qW ts))) (match c.rt.plain with
    | true=>[]|false=>qlE rows (qwY rows (as.flatMap qwW))) none
   | none=>.fail 30
 | none=>.fail 31
inductive LZ where
 | ok (z:Nat)
 | fork (t:T) (k:Nat)
 | no
def qw6 (gd:List (Nat×Bool)) (tm:Nat) (t:T):Nat→Nat→LZ
 | 0,z=>.ok z|n+1,z=>match gd.find? (fun p=>Nat.beq p.1 (3000000+100*tm+z))with
  | some (_,true)=>.ok z|some (_,false)=>qw6 gd tm t n (z+1)|none=>.fork (.w 10 t (nn (z+1))) (3000000+100*tm+z)
def qw7 (gd:List (Nat×Bool)) (tm m:Nat) (t:T):LZ:=match qaB t with
 | some z=>.ok z|none=>qw6 gd tm t m 0
def qHs (gd:List (Nat×Bool)) (slot:Nat) (t:TypeId) (a:Operand) (l c:RV):RO:=match Ty' t,l,c,a with
 | some y,.o (.c (.i _) lt),.o (.c (.i _) ct),.tmp tm=>match y.desc with
  | .slice e=>match Ty' e with
   | some z=>match qw7 gd tm 4 lt with
    | .ok q=>.ok [.iz lt q,.iz ct q,.and (.le i0 (nn q)) (.and (.lt (nn q) (.i 4611686018427387904)) (.and (.le (.w 2 (nn z.bytes) (nn q)) (.i 281474976710656)) (.num z.size 1)))] {lit:=[(tm,q)]}
      (.o (.sl slot 1 i0 (nn q) (nn q) true)) [] (some (.box (List.replicate q .nil) false))
    | .fork t k=>.fork t k|.no=>.fail 49
   | none=>.fail 49
  | _=>.fail 49
 | _,_,_,_=>.fail 49
def qHt (gd:List (Nat×Bool)) (t:TypeId) (b:Operand) (r k:Nat) (on m it:T):RO:=match Ty' t,b,qaB on with
 | some y,.tmp tm,some o=>match y.desc with
  | .slice e=>match Ty' e with
   | some z=>match qw7 gd (500+r) (match qaB m with|some q=>q - 1|none=>4) it with
    | .ok q=>.ok [.iz it q,.and (.num k z.size) (.and (.le i0 (nn q)) (.lt (nn q) (.u 4 0 m)))] {lit:=[(tm,q)]} (.o (.pt r k (nn (o+q)) 0)) [] none|.fork t k=>.fork t k|.no=>.fail 2
   | none=>.fail 2
  | _=>.fail 2
 | _,_,_=>.fail 2
def qHu (rows:List qx) (t:TypeId) (a0 x:RV):RO:=match Ty' t,(match a0 with | .o (.pe r k i f _ _)=>RV.o (.pt r k i f) | q=>q)with
 | some y,.o (.pt r k i f)=>match rows[r]? with
  | some (.dat k' es false)=>match qlB [] x.cells,Nat.beq f 0&&Nat.beq y.size k with
   | some (_,ds),true=>.ok [.and (.num x.cells.length y.size) (.and (.nlt i0 (nn y.size)) (.tt true)),.nlt i (.u 0 0 es),.and (.num k k') (.and (.num f 0) (.and (.num y.size k) (.tt true)))] {} (.o .und)
     [(r,.dat k' (.w 21 es (.u 2 0 (qW [.mk (.i .i64) i,(match y.agg,ds with|false,[d]=>d|_,l=>.u 2 0 (qW l))]))) false)] none
   | _,_=>.fail 32
  | some (.box cs false)=>match qaB i,x with
   | some n,.o (.av N kd l)=>match Nat.beq y.size N with
    | true=>.ok [.sp l kd N,.nlt i0 (nn y.size),.tt true,.nle (nn (n*k+f+N)) (nn cs.length)] {spl:=[(r,N,kd,l)]} (.o .und) [(r,.box (qqG cs (n*k+f) ((List.range N).map fun j=>.c kd (.w 3 l (nn j)))) false)] none
    | false=>.fail 33
   | some n,_=>.ok [] {} (.o .und) [(r,.box (qqG cs (n*k+f) x.cells) false)] none|none,_=>.fail 33
  | some (.arr N kd l false)=>match Nat.beq f 0&&Nat.beq y.size N,qaB i with
   | true,some 0=>match (match x with
     | .o (.av M _ q)=>match Nat.beq M N with
      | true=>some q|false=>none
     | .o (.ag cs)=>match Nat.beq cs.length N with
      | true=>some (qW (cs.map fun p=>.mk p.1 p.2))
      | false=>none
     | _=>none)with
    | some q=>.ok [.ar l,.nle (.u 0 0 l) (nn N),.nle (nn N) (.u 0 0 l),.nle (.u 0 0 q) (nn N),.nle (nn N) (.u 0 0 q),.nlt i0 (nn y.size),.sca q] {arr:=[(r,N,kd,l)]} (.o .und) [(r,.arr N kd q false)] none|none=>.fail 34
   | _,_=>.fail 34
  | _=>.fail 34
 | some y,.o (.pa r _ j)=>match rows[r]?,x with
  | some (.arr N kd l false),.o (.c kd' v)=>match K.eq kd kd'&&!y.agg with
   | true=>.ok [.ar l,.nlt j (.u 0 0 l),.and (.num 1 1) (.and (.num y.size 1) (.tt true))] {arr:=[(r,N,kd,l)]} (.o .und) [(r,.arr N kd (.w 21 l (.u 2 0 (qW [.mk (.i .i64) j,.mk kd v]))) false)] none|false=>.fail 35
  | _,_=>.fail 35
 | _,_=>.fail 35
def qw8 (gd:List (Nat×Bool)) (dst:Option Nat) (y:Ty) (zs:List R1):Option (Nat×K×T):=match y.desc with
 | .array _ e=>match Ty' e,dst with
  | some z,some d=>match z.agg||gd.any (fun p=>Nat.beq p.1 (2000000+d)),zs with
   | false,.c (.i k) _::_=>match qlx zs with
    | some l=>some (l.length,.i k,qW (l.map fun p=>.mk p.1 p.2))
    | none=>none
   | _,_=>none
  | _,_=>none
 | _=>none
def opR (gd:List (Nat×Bool)) (rows:List qx) (slot:Nat) (env:List RV) (dst:Option Nat) (o:Op):RO :=
 match qa2 o with
 | some (f,args)=>match qlz env f,qqF env args with
  | some (.o (.fn g)),some vs=>qHr tab slot rows g vs|_,_=>.fail 36
 | none=>match qqF env (qN o)with
  | none=>.fail 37|some vs=>match o,vs with
   | .move _,[v]=>val v|.assign _,[v]=>val v|.nilCheck _,[v]=>val v|.pick c _ _,[.o (.c .b t),x,y]=>match t with
    | .t true=>val x|.t false=>val y|t=>match c with
     | .tmp tm=>match gd.find? (fun p=>Nat.beq p.1 tm)with
      | some (_,true)=>qam [.bool t true] x|some (_,false)=>qam [.bool t false] y|none=>.fork t tm
     | _=>.fail 38
   | .alloc e,[]=>match Ty' e with
    | some y=>match qii y.zero.cells.toList with
     | some zs=>.ok [] {} (.o (.pt slot 0 i0 0)) [] (some (match qw8 Ty' gd dst y zs with
      | some (N,kd,l)=>.arr N kd l false|none=>.box zs false))
     | none=>.fail 39
    | none=>.fail 39
   | .box e _,[v]=>.ok [] {} (.o (.pt slot 0 i0 0)) [] (some (match v with
    | .o (.av N kd l)=>.arr N kd l false|.o (.ag l)=>match (Ty' e).bind fun y=>qw8 Ty' gd (some 0) y (l.map fun p=>.c p.1 p.2)with
     | some (N,kd,l)=>.arr N kd l false|none=>.box v.cells false
    | v=>.box v.cells false))
   | .build t ps,vs=>qHl Ty' t (ps.toList.map (·.1)) vs|.buildSlice t len ps,vs=>qHn Ty' rows slot t len (ps.toList.map (·.1)) vs|.load t o,[a]=>(qw3 Ty' rows t a).atm o|.store t o _,[a,x]=>(qHu Ty' rows t a x).atm o|.binOp op _ _ _ _,[x,y]=>qHf wr op x y|.unOp op _ _,[x]=>match op,x with
    | .not,.o (.c .b t)=>val (.o (.c .b (.u 6 0 t)))|.neg,.o (.c (.i k) t)=>val (.o (.c (.i k) (.u 5 (qcc k) (.u 9 0 t))))|.xor,.o (.c (.i k) t)=>match k with
     | .u32=>val (.o (.c (.i k) (.w 162 (.i 4294967295) t)))|_=>.fail 40
    | _,_=>.fail 40
   | .sliceToArrayPointer t _,[.o (.sl r k on n _ _)]=>match Ty' t,rows[r]? with
    | some y,some (.box _ _)=>match y.desc,qaB on,qaB n with
     | .array N _,some o,some m=>match Nat.blt 0 N&&Nat.ble N m with
      | true=>val (.o (.pt r k (nn o) 0))|false=>.fail 47
     | _,_,_=>.fail 47
    | some y,some (.arr ..)=>match y.desc,qgz on,qgz n with
     | .array N _,some o,some m=>match Nat.blt 0 N&&Nat.ble N m with
      | true=>val (.o (.pt r k (nn o) 0))|false=>.fail 48
     | _,_,_=>.fail 49
    | _,_=>.fail 47
   | .convert s d _,[.o (.c (.i _) t)]=>match Ty' s,Ty' d with
    | some y,some z=>match y.desc,z.desc with
     | .int _,.int k=>val (.o (.c (.i k) (.u 5 (qcc k) t)))|_,_=>.fail 41
    | _,_=>.fail 41
   | .convert s d _,[.o (.sl r k on n cn ex)]=>match Ty' s,Ty' d with
    | some y,some z=>match y.desc,z.desc,rows[r]? with
     | .slice e,.string,some (.arr N kd l _)=>match qcX Ty' e with
      | true=>.ok [.num k 1,.ar l,.nle (.w 8 on n) (.u 0 0 l),.byt (.w 6 n (.w 7 on l))] {arr:=[(r,N,kd,l)]} (.o (.c .s (.u 16 0 (.w 6 n (.w 7 on l))))) [] none|false=>.fail 41
     | .slice e,.string,some (.dat k' l _)=>match qcX Ty' e with
      | true=>qam [.num k 1,.num k' 1,.nle (.w 8 on n) (.u 0 0 l),.byt (qff on n l)] (.o (.c .s (.u 16 0 (qff on n l))))|false=>.fail 41
     | _,_,_=>.fail 41
    | _,_=>.fail 41
   | .convert s d _,[.o x]=>match Ty' s,Ty' d with
    | some y,some z=>match y.desc,z.desc,r1D rows x with
     | .slice e,.string,some (fs,t)=>match qcX Ty' e,x with
      | true,.c .l _=>qam [.byt t] (.o (.c .s (.u 16 0 t)))|true,.sl r k on n _ _=>match rows[r]? with
       | some (.dat k' l _)=>qam [.num k 1,.num k' 1,.nle (.w 8 on n) (.u 0 0 l),.byt t] (.o (.c .s (.u 16 0 t)))|_=>.fail 41
      | _,_=>.fail 41
     | _,_,_=>.fail 41
    | _,_=>.fail 41
   | .fieldAddr s _ f,[x]=>qHk Ty' s f x|.field t _ f,[x]=>qHj Ty' t f x|.indexAddr t a b,[x,i]=>match x,i with
    | .o (.sl r k on m _ _),.o (.c (.i _) it)=>match rows[r]? with
     | some (.box _ _)=>qHt Ty' gd t b r k on m it|_=>qw2 Ty' rows t a x i
    | _,_=>qw2 Ty' rows t a x i
   | .slice t _ l hh mx,x::vs'=>qHg Ty' rows t x (qgA l vs').1 (qgA hh (qgA l vs').2).1 (qgA mx (qgA hh (qgA l vs').2).2).1|.makeSlice t a _,[l,c]=>match RT.mkb t with
    | true=>qHs Ty' gd slot t a l c|false=>qHh Ty' slot t l c
   | .index t (.tmp tm) _,[.o (.ag l),.o (.c (.i _) i)]=>match Ty' t,l with
    | some y,(kd,_)::_=>match y.desc with
     | .array len e=>match Ty' e with
      | some z=>match Nat.beq z.size 1&&(!z.agg&&l.all fun p=>K.eq p.1 kd)with
       | true=>.ok [.and (.le i0 i) (.lt i (nn len)),.aw (qW (l.map fun p=>.mk p.1 p.2)) i [kd] false] {lst:=[(tm,[kd],false,qW (l.map fun p=>.mk p.1 p.2))]}
         (.o (.c kd (.w 3 (qW (l.map fun p=>.mk p.1 p.2)) i))) [] none
       | false=>.fail 48
      | none=>.fail 48
     | _=>.fail 48
    | _,_=>.fail 48
   | .index _ _ _,[.o (.c .s x),.o (.c (.i _) i)]=>qam [.and (.le i0 i) (.lt i (.u 7 0 x))] (.o (.c (.i .u8) (.w 24 x i)))|.extract _ i,[.tup l]=>match l[i]? with
    | some v=>val (.o v)|none=>.fail 42
   | .call c,vs=>match c.callee with
    | .builtin .len=>match vs with
     | [.o (.c .l t)]=>val (.o (.c (.i .i64) (.u 0 0 t)))|[.o (.c .s t)]=>val (.o (.c (.i .i64) (.u 7 0 t)))|[.o (.sl _ _ _ n _ _)]=>val (.o (.c (.i .i64) (.u 4 0 n)))|[.o .nil]=>val (.o (.c (.i .i64) i0))|_=>.fail 43
    | .builtin .append=>match c.argTypes.toList,vs,c.args.toList with
     | [t,_],[s,x],[_,.tmp tm]=>qHq Ty' gd tm rows slot t s x|_,_,_=>.fail 44
    | .builtin .max=>mmR 26 vs|.builtin .min=>mmR 27 vs|_=>.fail 45
   | _,_=>.fail 46
def qw9 (env:List RV) (dst:Option Nat) (v:RV):List RV:=match dst with
 | some d=>env.set d v|none=>env
def qxa (us:List (Nat×qx)) (rows:List qx):List qx:=us.foldl (fun rs u=>rs.set u.1 u.2) rows
def putRow (slot:Nat) (x:qx) (rows:List qx):List qx:=match Nat.blt slot rows.length with
 | true=>rows.set slot x|false=>rows++[x]
inductive RW where
 | yes (fs:List F)
 | no (fs:List F)
 | fork (t:T) (tmp:Nat)
 | fail
def qHv (gd:List (Nat×Bool)) (ops:Array Oper) (env:List RV) (o:Oper):RW:=match o.guard with
 | none=>.yes []|some (j,want)=>match ((ops[j]?).bind (·.dst))with
  | some d=>match env[d]? with
   | some (.o (.c .b (.t b)))=>match bEq b want with|true=>.yes [] | false=>.no []
   | some (.o (.c .b t))=>match gd.find? (fun p=>Nat.beq p.1 d)with
    | some (_,v)=>match bEq v want with|true=>.yes [.bool t v] | false=>.no [.bool t v]
    | none=>.fork t d
   | some (.o .und)=>.no []|_=>.fail
  | none=>.fail
inductive qgB where
 | next (fs:List F) (h:H) (s:RS)
 | done (fs:List F) (h:H) (v:List RV) (rows:List qx)
 | fork (t:T) (tmp:Nat)
 | fail (why at_:Nat)
def H.app (a b:H):H:={arr:=a.arr++b.arr,glb:=a.glb++b.glb,spl:=a.spl++b.spl,mv:=a.mv++b.mv,lit:=a.lit++b.lit,lst:=a.lst++b.lst,row:=a.row++b.row,nz:=a.nz++b.nz,mz:=a.mz++b.mz}
def qxb (gd:List (Nat×Bool)) (ops:Array Oper) (i:Nat) (slot:Nat) (env:List RV) (rows:List qx):qgB:=match ops[i]? with
 | none=>.fail 50 i|some o=>match qHv gd ops env o with
  | .fail=>.fail 51 i|.fork t tm=>.fork t tm|.no fs=>.next fs {} ⟨qw9 env o.dst (.o .und),rows,[]⟩|.yes fs=>match opR Ty' tab wr gd rows slot env o.dst o.op with
   | .fail w=>.fail w i|.fork t tm=>.fork t tm|.ok gs h v ups fresh=>.next (fs++gs) h ⟨qw9 env o.dst v,match fresh with
    | some x=>putRow slot x (qxa ups rows)|none=>qxa ups rows,[]⟩
def qxc (gd:List (Nat×Bool)) (ops:Array Oper) (slot0:Nat):List Nat→List F→H→List RV→List qx→qgB
 | [],fs,h,env,rows=>.next fs h ⟨env,rows,[]⟩|i::l,fs,h,env,rows=>match qxb Ty' tab wr gd ops i (slot0+i) env rows with
  | .next gs h' s=>qxc gd ops slot0 l (fs++gs) (h.app h') s.env s.rows|o=>o
def qHw:qx→Bool
 | .free=>true|_=>false
def qHx (rows:List qx):List qx:=(rows.reverse.dropWhile qHw).reverse
def qlH (rows:List qx) (env:List RV):List ResultVar→Option (List RV)
 | []=>some []|.tmp t::r=>match qlz env (.tmp t),qlH rows env r with
  | some v,some l=>some (v::l)|_,_=>none
 | .cell a t::r=>match qlz env (.tmp a),qlH rows env r with
  | some x,some l=>match qw3 Ty' rows t x with
   | .ok [] _ v _ _=>some (v::l)|_=>none
  | _,_=>none
def qqH (id:Nat):List qT→Option (List qT)
 | .it (.inBlock id')::k=>match Nat.beq id' id with
  | true=>some k|false=>qqH id k
 | _::k=>qqH id k|[]=>none
def qHy (res:List ResultVar) (gd:List (Nat×Bool)) (s:RS):qgB:=match s.todo with
 | []=>match qlH Ty' s.rows s.env res with
  | some vs=>.done [] {} vs s.rows|none=>.fail 60 0
 | .rf _::_=>.fail 61 0|.it i::k=>match i with
  | .code cd=>match cd with
   | .ret=>match qlH Ty' s.rows s.env res with
    | some vs=>.done [] {} vs s.rows|none=>.fail 60 0
   | .skip=>.next [] {} {s with todo:=k}
   | .label _=>.next [] {} {s with todo:=k}
   | .seq a b=>.next [] {} {s with todo:=.it (.code a)::.it (.code b)::k}
   | .cond (.tmp t) x y=>match s.env[t]? with
    | some (.o (.c .b (.t b)))=>.next [] {} {s with todo:=.it (.code (match b with|true=>x|false=>y))::k}
    | some (.o (.c .b c))=>match gd.find? (fun p=>Nat.beq p.1 t)with
     | some (_,v)=>.next [.bool c v] {} {s with todo:=.it (.code (match v with|true=>x|false=>y))::k}
     | none=>.fork c t
    | _=>.fail 62 t
   | .block id b=>.next [] {} {s with todo:=.it (.code b)::.it (.inBlock id)::k}
   | .loop b=>.next [] {} {s with todo:=.it (.code b)::.it (.inLoop b)::k}
   | .scope b=>.next [] {} {s with todo:=.it (.code b)::.it (.inScope b)::k}
   | .exit id=>match qqH id k with
    | some k'=>.next [] {} {s with todo:=k'}
    | none=>.fail 63 0
   | .region _ ops false=>.next [] {} {s with todo:=.it (.inRegion ops (List.range ops.size))::k}
   | .region id ops true=>match qxc Ty' tab wr gd ops s.rows.length (List.range ops.size) [] {} s.env (s.rows++List.replicate ops.size .free)with
    | .next fs h s'=>.next fs h ⟨s'.env,qHx s'.rows,k⟩|.fail w a=>.fail w (1000*id+a)|o=>o
   | _=>.fail 64 0
  | .inBlock _=>.next [] {} {s with todo:=k}
  | .inScope _=>.next [] {} {s with todo:=k}
  | .inLoop b=>.next [] {} {s with todo:=.it (.code b)::.it (.inLoop b)::k}
  | .inRegion ops []=>.next [] {} {s with todo:=k}
  | .inRegion ops (i::rest)=>match qxb Ty' tab wr gd ops i s.rows.length s.env s.rows with
   | .next fs h s'=>.next fs h ⟨s'.env,s'.rows,.it (.inRegion ops rest)::k⟩|o=>o
  | _=>.fail 65 0
def qHz (s:RS):Bool:=match s.todo with
 | .it (.inLoop _)::_=>true|.it (.code (.loop _))::_=>true|_=>false
def qxd (res:List ResultVar) (gd:List (Nat×Bool)):Nat→RS→List F→H→qgB
 | 0,_,_,_=>.fail 66 0|n+1,s,fs,h=>match qHy Ty' tab wr res gd s with
  | .next gs h' s'=>match qHz s with
   | true=>.next (fs++gs) (h.app h') s'|false=>qxd res gd n s' (fs++gs) (h.app h')
  | .done gs h' vs rows=>.done (fs++gs) (h.app h') vs rows|o=>o
end
end Go.Aev.R
end
section
namespace Go.Aev.R
open Go Go.Aev
theorem qwv {a b:Int} (h:qbG a b=true):a=b:=by
 cases a<;>cases b<;>simp only[qbG]at h<;>first | (cases qTO h; rfl) | cases h
theorem qgu {a b:Bool} (h:bEq a b=true):a=b:=by cases a<;>cases b<;>simp_all [bEq]
theorem IntKind.eq_eq {a b:IntKind} (h:IntKind.eq a b=true):a=b:=by cases a<;>cases b<;>simp_all [IntKind.eq]
theorem K.eq_eq {a b:K} (h:K.eq a b=true):a=b:=by
 cases a<;>cases b<;>simp only[K.eq]at h<;>first | (rw[IntKind.eq_eq h]) | rfl|cases h
theorem qww:∀{a b:List UInt8},qlw a b=true→a=b
 | [],[],_=>rfl|[],_::_,h=>by cases h
 | _::_,[],h=>by cases h
 | a::r,b::s,h=>by
  simp only[qlw,qTC]at h;rw[qww h.2];have:=qTO h.1;rw[UInt8.toNat_inj.1 this]
theorem T.eq_eq:∀{a b:T},a.eq b=true→a=b:=by
 intro a
 induction a with
 | v n=>intro b h; cases b<;>simp only[T.eq]at h<;>first | (rw[qTO h]) | cases h
 | i n=>intro b h; cases b<;>simp only[T.eq]at h<;>first | (rw[qwv h]) | cases h
 | t x=>intro b h; cases b<;>simp only[T.eq]at h<;>first | (rw[qgu h]) | cases h
 | z=>intro b h; cases b<;>simp only[T.eq]at h<;>first|rfl|cases h
 | p=>intro b h; cases b<;>simp only[T.eq]at h<;>first|rfl|cases h
 | s l=>intro b h; cases b<;>simp only[T.eq]at h<;>first | (rw[qww h]) | cases h
 | mk k x ih =>
  intro b h; cases b<;>simp only[T.eq,qTC]at h<;>first | (rw[K.eq_eq h.1,ih h.2]) | cases h
 | u o k x ih =>
  intro b h; cases b<;>simp only[T.eq,qTC]at h<;>first | (rw[qTO h.1,qTO h.2.1,ih h.2.2]) | cases h
 | w o x y ih1 ih2 =>
  intro b h; cases b<;>simp only[T.eq,qTC]at h<;>first | (rw[qTO h.1,ih1 h.2.1,ih2 h.2.2]) | cases h
structure Lin where
 c:Int
 ts:List (Int×T)
section
variable (wf:Nat→List D→D) (ρ:Nat→D)
noncomputable def YG:List (Int×T)→Int
 | []=>0|p::r=>p.1*toI (p.2.den wf ρ)+YG r
noncomputable def Lin.val (l:Lin):Int:=l.c+YG wf ρ l.ts
end
def Lin.add (a b:Lin):Lin:=⟨a.c+b.c,a.ts++b.ts⟩
def Lin.smul (k:Int) (a:Lin):Lin:=⟨k*a.c,a.ts.map fun p=>(k*p.1,p.2)⟩
def Lin.sub (a b:Lin):Lin:=a.add (b.smul (-1))
def Lin.plus (a:Lin) (n:Int):Lin:=⟨a.c+n,a.ts⟩
def Lin.cst (n:Int):Lin:=⟨n,[]⟩
def Lin.aw (t:T):Lin:=⟨0,[(1,t)]⟩
section
variable {wf:Nat→List D→D} {ρ:Nat→D}
theorem qwx (a b:List (Int×T)):YG wf ρ (a++b)=YG wf ρ a+YG wf ρ b:=by
 induction a with
 | nil=>simp[YG]|cons p a ih=>simp only[qUR,YG,ih]; omega
theorem qwy (k:Int) (a:List (Int×T)):YG wf ρ (a.map fun p=>(k*p.1,p.2))=k*YG wf ρ a:=by
 induction a with
 | nil=>simp[YG]|cons p a ih=>simp only[qUa,YG,ih,qUU,qWu]
theorem Lin.val_add (a b:Lin):(a.add b).val wf ρ=a.val wf ρ+b.val wf ρ:=by
 simp only[Lin.add,Lin.val,qwx]; omega
theorem Lin.val_smul (k:Int) (a:Lin):(a.smul k).val wf ρ=k*a.val wf ρ:=by
 simp only[Lin.smul,Lin.val,qwy,qUU]
theorem Lin.val_sub (a b:Lin):(a.sub b).val wf ρ=a.val wf ρ - b.val wf ρ:=by
 simp only[Lin.sub,Lin.val_add,Lin.val_smul]; omega
theorem Lin.val_plus (a:Lin) (n:Int):(a.plus n).val wf ρ=a.val wf ρ+n:=by
 simp only[Lin.plus,Lin.val]; omega
theorem Lin.val_cst (n:Int):(Lin.cst n).val wf ρ=n:=by simp[Lin.cst,Lin.val,YG]
theorem Lin.val_at (t:T):(Lin.aw t).val wf ρ=toI (t.den wf ρ):=by simp[Lin.aw,Lin.val,YG]
end
mutual
def lnI:T→Lin
 | .i n=>.cst n|.w 0 a b=>(lnI a).add (lnI b)|.w 1 a b=>(lnI a).sub (lnI b)|.w 2 (.i n) b=>(lnI b).smul n|.u 0 _ x=>lnL x|.u 4 _ x=>lnN x|.u 9 _ x=>(lnI x).smul (-1)|.u 8 k x=>(lnN x).smul k|.u 10 k x=>(lnN x).smul k|.w 8 a b=>(lnN a).add (lnN b)|.mk (.i _) x=>lnI x|t=>.aw t
def lnN:T→Lin
 | .i (.ofNat n)=>.cst n|.u 0 _ x=>lnL x|.u 4 _ x=>lnN x|.u 8 k x=>(lnN x).smul k|.u 10 k x=>(lnN x).smul k|.w 8 a b=>(lnN a).add (lnN b)|.mk (.i _) x=>lnN x|.w 9 a b=>.aw (.w 9 a b)|t=>.aw (.u 4 0 t)
def lnL:T→Lin
 | .z=>.cst 0|.w 4 _ r=>(lnL r).plus 1|.w 5 a b=>(lnL a).add (lnL b)|.w 21 a _=>lnL a|.w 32 n _=>lnN n|.mk .l x=>lnL x|t=>.aw (.u 0 0 t)
end
section
variable {wf:Nat→List D→D} {ρ:Nat→D}
theorem Yy (n:Nat):toI (N64 n)=(n:Int):=rfl
theorem qdo (n:Nat):toN (N64 n)=n:=by simp[toN,Yy]
def qGX (wf:Nat→List D→D) (ρ:Nat→D) (t:T):Prop :=
 (lnI t).val wf ρ=toI (t.den wf ρ)∧(lnN t).val wf ρ=(toN (t.den wf ρ):Int)∧(lnL t).val wf ρ=((toL (t.den wf ρ)).length:Int)
theorem qk:∀t:T,qGX wf ρ t:=by
 intro t
 induction t with
 | v n=>exact⟨by simp only[lnI,Lin.val_at],by simp only[lnN,Lin.val_at]; rfl,by simp only[lnL,Lin.val_at]; rfl⟩
 | i n =>
  refine⟨by simp only[lnI,Lin.val_cst]; rfl,?_,by simp only[lnL,Lin.val_at]; rfl⟩
  cases n with
  | ofNat n=>simp only[lnN,Lin.val_cst]; rfl|negSucc n=>simp only[lnN,Lin.val_at]; rfl
 | t b=>exact⟨by simp only[lnI,Lin.val_at],by simp only[lnN,Lin.val_at]; rfl,by simp only[lnL,Lin.val_at]; rfl⟩
 | z=>exact⟨by simp only[lnI,Lin.val_at],by simp only[lnN,Lin.val_at]; rfl,by simp only[lnL,Lin.val_cst]; rfl⟩
 | s l=>exact⟨by simp only[lnI,Lin.val_at],by simp only[lnN,Lin.val_at]; rfl,by simp only[lnL,Lin.val_at]; rfl⟩
 | p=>exact⟨by simp only[lnI,Lin.val_at],by simp only[lnN,Lin.val_at]; rfl,by simp only[lnL,Lin.val_at]; rfl⟩
 | mk k x ih =>
  obtain⟨h1,h2,h3⟩:=ih;refine⟨?_,?_,?_⟩
  rotate_left
  ·cases k with
   | i k=>simp only[lnN,h2]; rfl|b=>simp only[lnN,Lin.val_at]; rfl|s=>simp only[lnN,Lin.val_at]; rfl|l=>simp only[lnN,Lin.val_at]; rfl|o=>simp only[lnN,Lin.val_at]; rfl
  rotate_left
  ·cases k with
   | i k=>simp only[lnI,h1]; rfl|b=>simp only[lnI,Lin.val_at]|s=>simp only[lnI,Lin.val_at]|l=>simp only[lnI,Lin.val_at]|o=>simp only[lnI,Lin.val_at]
  ·cases k with
   | l=>simp only[lnL,h3]; rfl|i k=>simp only[lnL,Lin.val_at]; rfl|b=>simp only[lnL,Lin.val_at]; rfl|s=>simp only[lnL,Lin.val_at]; rfl|o=>simp only[lnL,Lin.val_at]; rfl
 | u o k x ih =>
  obtain⟨h1,h2,h3⟩:=ih;have hN0:(lnL x).val wf ρ=(toN ((T.u 0 k x).den wf ρ):Int):=by
   simp only[h3]; show _=(toN (N64 _):Int); rw[qdo]
  have hN4:(lnN x).val wf ρ=(toN ((T.u 4 k x).den wf ρ):Int):=by
   simp only[h2]; show _=(toN (N64 _):Int); rw[qdo]
  have hN8:((lnN x).smul k).val wf ρ=(toN ((T.u 8 k x).den wf ρ):Int):=by
   simp only[Lin.val_smul,h2]; show _=(toN (N64 _):Int); rw[qdo]; simp
  have hN10:((lnN x).smul k).val wf ρ=(toN ((T.u 10 k x).den wf ρ):Int):=by
   simp only[Lin.val_smul,h2]; show _=(toN (N64 _):Int); rw[qdo]; simp[Int.mul_comm]
  refine⟨?_,?_,by simp only[lnL,Lin.val_at]; rfl⟩
  ·by_cases e9:o=9
   ·subst e9; simp only[lnI,Lin.val_smul,h1]; show _=(0 - toI (x.den wf ρ):Int); omega
   by_cases e10:o=10
   ·subst e10; simp only[lnI,Lin.val_smul,h2]; show _=((toN _*k:Nat):Int); simp[Int.mul_comm]
   by_cases e0:o=0
   ·subst e0; simp only[lnI,h3]; rfl
   ·by_cases e4:o=4
    ·subst e4; simp only[lnI,h2]; rfl
    ·by_cases e8:o=8
     ·subst e8; simp only[lnI,Lin.val_smul,h2]; show _=((k*toN _:Nat):Int); simp
     ·have:lnI (.u o k x)=.aw (.u o k x):=by unfold lnI; split<;>simp_all
      rw[this,Lin.val_at]
  ·by_cases e10:o=10
   ·subst e10; simp only[lnN]; exact hN10
   by_cases e0:o=0
   ·subst e0; simp only[lnN]; exact hN0
   ·by_cases e4:o=4
    ·subst e4; simp only[lnN]; exact hN4
    ·by_cases e8:o=8
     ·subst e8; simp only[lnN]; exact hN8
     ·have:lnN (.u o k x)=.aw (.u 4 0 (.u o k x)):=by unfold lnN; split<;>simp_all
      rw[this,Lin.val_at]; rfl
 | w o x y ih1 ih2 =>
  obtain⟨a1,a2,a3⟩:=ih1;obtain⟨b1,b2,b3⟩:=ih2;have hN8:((lnN x).add (lnN y)).val wf ρ=(toN ((T.w 8 x y).den wf ρ):Int):=by
   simp only[Lin.val_add,a2,b2]; show _=(toN (N64 _):Int); rw[qdo]; simp
  refine⟨?_,?_,?_⟩
  ·unfold lnI;split<;>first
    | (rename_i heq; cases heq; done)
    | (rename_i heq; injection heq; subst_vars; simp only[Lin.val_add,a1,b1]; rfl)
    | (rename_i heq; injection heq; subst_vars; simp only[Lin.val_sub,a1,b1]; rfl)
    | (rename_i heq; injection heq; subst_vars; simp only[Lin.val_smul,b1]; rfl)
    | (rename_i heq; injection heq; subst_vars; rw[hN8]; show(toN (N64 _):Int)=toI (N64 _); rw[qdo,Yy])
    | (simp only[Lin.val_at])
  ·unfold lnN;split<;>first
    | (rename_i heq; cases heq; done)
    | (rename_i heq; injection heq; subst_vars; exact hN8)
    | (rename_i heq; rw[heq,Lin.val_at]; show toI (N64 _)=(toN (N64 _):Int); rw[qdo,Yy])
    | (simp only[Lin.val_at]; rfl)
  ·unfold lnL;split<;>first
    | (rename_i heq; cases heq; done)
    | (rename_i heq; injection heq; subst_vars; simp only[Lin.val_plus,b3]; show _=((_::_:List D).length:Int); simp)
    | (rename_i heq; injection heq; subst_vars; simp only[Lin.val_add,a3,b3]; show _=((_++_:List D).length:Int); simp)
    | (rename_i heq; injection heq; subst_vars; simp only[a3]; show _=(((toL _).set _ _:List D).length:Int); simp)
    | (rename_i heq; injection heq; subst_vars; simp only[a2]; show _=((List.replicate _ _:List D).length:Int); simp)
    | (simp only[Lin.val_at]; rfl)
end
abbrev Sp:=List (Nat×Int)
def spv (x:Nat→Int):Sp→Int
 | []=>0|p::r=>p.2*x p.1+spv x r
abbrev Rw:=Int×Sp
def Rw.ok (x:Nat→Int) (r:Rw):Prop:=0≤r.1+spv x r.2
def qaA {α:Type} (z:Int) (f:Int→α):α:=match z with
 | .ofNat n=>match n with
  | 0=>f (.ofNat 0)|m+1=>f (.ofNat (m+1))
 | .negSucc n=>match n with
  | 0=>f (.negSucc 0)|m+1=>f (.negSucc (m+1))
theorem qaV {α:Type} (z:Int) (f:Int→α):qaA z f=f z:=by
 unfold qaA;split
 ·split<;>rfl
 ·split<;>rfl
def qal:Int→Bool
 | .negSucc _=>true|_=>false
def qdp:Int→Bool
 | .ofNat (_+1)=>true|_=>false
def isZ:Int→Bool
 | .ofNat 0=>true|_=>false
theorem qGY {a:Int} (h:isZ a=true):a=0:=by
 cases a with
 | ofNat n=>cases n with|zero=>rfl|succ n=>cases h
 | negSucc n=>cases h
def qgv (i:Nat) (k:Int):Sp→Sp
 | []=>[(i,k)]|q::r=>match Nat.beq q.1 i with
  | true=>qaA (k+q.2) fun z=>match isZ z with
   | true=>r|false=>(i,z)::r
  | false=>match Nat.blt i q.1 with
   | true=>(i,k)::q::r|false=>q::qgv i k r
def qgw (k:Int):Sp→Sp→Sp
 | [],s=>s|p::r,s=>qaA (k*p.2) fun z=>qgv p.1 z (qgw k r s)
theorem qqv (x:Nat→Int) (i:Nat) (k:Int):∀s:Sp,spv x (qgv i k s)=k*x i+spv x s
 | []=>by simp[qgv,spv]
 | q::r=>by
  simp only[qgv];split
  ·rename_i h;have e:=qTO h;rw[qaV];split
   ·rename_i hz;have h0:=qGY hz;have h1:k*x i+q.2*x i=0:=by rw[←Int.add_mul,h0,Int.zero_mul]
    simp only[spv,e]; omega
   ·simp only[spv,e,Int.add_mul]; omega
  ·split
   ·simp only[spv]
   ·simp only[spv,qqv x i k r]; omega
theorem qwz (x:Nat→Int) (k:Int):∀a s:Sp,spv x (qgw k a s)=k*spv x a+spv x s
 | [],s=>by simp[qgw,spv]
 | p::r,s=>by
  simp only[qgw,qaV,qqv,qwz x k r s,spv,qUU,qWu]; omega
def JY (j:Nat):Sp→Int
 | []=>0|q::r=>match Nat.beq q.1 j with
  | true=>q.2|false=>match Nat.blt j q.1 with
   | true=>0|false=>JY j r
def qwA:Sp→Nat→Nat
 | [],g=>g|p::r,g=>match Nat.beq g 1 with
  | true=>1|false=>qwA r (Nat.gcd p.2.natAbs g)
def qqw (r:Rw):Rw:=match qwA r.2 0 with
 | 0=>r|1=>r|g+2=>match r.2.all fun p=>qbG (((g+2:Nat):Int)*(p.2 / ((g+2:Nat):Int))) p.2 with
  | true=>qaA (r.1 / ((g+2:Nat):Int)) fun c=>(c,r.2.map fun p=>(p.1,qaA (p.2 / ((g+2:Nat):Int)) fun z=>z))
  | false=>r
theorem qGZ {a b:Int} (h:qbG a b=true):a=b:=by
 cases a<;>cases b<;>first | (have:=qTO h; subst this; rfl) | cases h
theorem qG0 {r:Rw} {x:Nat→Int} (h:r.ok x):(qqw r).ok x:=by
 unfold qqw;split
 ·exact h
 ·exact h
 ·rename_i g _;split
  ·rename_i hd;rw[qaV];have key:∀s:Sp,(s.all fun p=>qbG (((g+2:Nat):Int)*(p.2 / ((g+2:Nat):Int))) p.2)=true→spv x s=((g+2:Nat):Int)*spv x (s.map fun p=>(p.1,qaA (p.2 / ((g+2:Nat):Int)) fun z=>z)):=by
    intro s
    induction s with
    | nil=>intro _; simp[spv]
    | cons p r ih =>
     intro hs;rw[qUZ,qTC]at hs;simp only[spv,qUa,qaV];rw[ih hs.2,qUU,←qWu,qGZ hs.1];simp only[qaV]
   have h2:0≤r.1+spv x r.2:=h;rw[key _ hd]at h2;show 0≤r.1 / ((g+2:Nat):Int)+_;have h3:=Int.ediv_nonneg h2 (show(0:Int)≤((g+2:Nat):Int) by omega);rw[Int.add_mul_ediv_left _ _ (show((g+2:Nat):Int)≠0 by omega)]at h3;exact h3
  ·exact h
def qic (j:Nat) (p n:Rw):Rw :=
 qqw (qaA (- JY j n.2) fun a=>qaA (JY j p.2) fun b=>qaA (a*p.1+b*n.1) fun c=>(c,qgw a p.2 (qgw b n.2 [])))
def elim (j:Nat) (rows:List Rw):List Rw :=
 let ps:=rows.filter fun r=>qdp (JY j r.2)
 let ns:=rows.filter fun r=>qal (JY j r.2)
 let zs:=rows.filter fun r=>isZ (JY j r.2)
 zs++ps.flatMap fun p=>ns.map fun n=>qic j p n
def qlm (k:Int):Bool:=match k with
 | .ofNat n=>Nat.beq n 1|.negSucc n=>Nat.beq n 0
def qwB (j:Nat) (k:Int):List (Nat×Nat×Nat×Nat)→List (Nat×Nat×Nat×Nat)
 | []=>[(j,match qdp k with|true=>(1,0,match qlm k with|true=>0|false=>24) | false=>(0,1,match qlm k with|true=>0|false=>24))]
 | c::cs=>match Nat.beq c.1 j with
  | true=>(j,match qdp k with|true=>(Nat.succ c.2.1,c.2.2.1,match qlm k with|true=>c.2.2.2|false=>24) | false=>(c.2.1,Nat.succ c.2.2.1,match qlm k with|true=>c.2.2.2|false=>24))::cs
  | false=>c::qwB j k cs
def qG1 (cs:List (Nat×Nat×Nat×Nat)) (r:Sp):List (Nat×Nat×Nat×Nat):=r.foldl (fun cs p=>qwB p.1 p.2 cs) cs
def qln:List (Nat×Nat×Nat×Nat)→Option (Nat×Nat×Nat)→Option (Nat×Nat×Nat)
 | [],b=>b|c::cs,b=>match b with
  | none=>qln cs (some (c.1,c.2.1*c.2.2.1,c.2.1*c.2.2.1+c.2.2.2))|some q=>match Nat.blt (c.2.1*c.2.2.1+c.2.2.2) q.2.2 with
   | true=>qln cs (some (c.1,c.2.1*c.2.2.1,c.2.1*c.2.2.1+c.2.2.2))|false=>qln cs b
def eqL:Sp→Sp→Bool
 | [],[]=>true|a::r,b::s=>match Nat.beq a.1 b.1 with
  | true=>match qbG a.2 b.2 with
   | true=>eqL r s|false=>false
  | false=>false
 | _,_=>false
def leI (a b:Int):Bool:=match qal (b - a)with|true=>false|false=>true
def qfd:Sp→Bool
 | []=>true|_=>false
def qwC (r:Rw) (rows:List Rw):List Rw:=match rows.any (fun s=>eqL s.2 r.2&&leI s.1 r.1)with
 | true=>rows|false=>r::rows
def qlo (rows:List Rw):List Rw:=rows.foldr (fun r acc=>match qfd r.2&&!(qal r.1)with
 | true=>acc|false=>qwC r acc) []
def qG2:Nat:=40
def qqx (rows:List Rw):Bool:=rows.any fun r=>qfd r.2&&qal r.1
def fm:Nat→List Rw→Bool
 | 0,rows=>qqx rows|n+1,rows=>qqx rows||match qln (rows.foldl (fun cs r=>qG1 cs r.2) []) none with
  | none=>false|some q=>match Nat.ble q.2.1 qG2 with
   | true=>fm n (qlo (elim q.1 rows))|false=>false
theorem qwD {a:Int} (h:qal a=true):a<0:=by
 cases a with
 | ofNat n=>cases h
 | negSucc n=>omega
theorem qG3 {a:Int} (h:qdp a=true):0<a:=by
 cases a with
 | ofNat n =>
  cases n with
  | zero=>cases h
  | succ n=>show(0:Int)<((n+1:Nat):Int); omega
 | negSucc n=>cases h
theorem qqy {j:Nat} {p n:Rw} {x:Nat→Int} (hp:qdp (JY j p.2)=true) (hn:qal (JY j n.2)=true) (h1:p.ok x) (h2:n.ok x):(qic j p n).ok x:=by
 unfold qic;refine qG0 ?_;rw[qaV,qaV,qaV];have a1:=qwD hn; have a2:=qG3 hp;simp only[Rw.ok,qwz,spv]at *;have k1:=qVG (a:=- JY j n.2) (by omega) h1;have k2:=qVG (a:=JY j p.2) (by omega) h2;rw[qUU]at k1 k2;omega
theorem qG4 {j:Nat} {rows:List Rw} {x:Nat→Int} (h:∀r∈rows,r.ok x):∀r∈elim j rows,r.ok x:=by
 intro r hr;simp only[elim,qTH,qTV,qUT,qUd]at hr;rcases hr with⟨hq,_⟩|⟨p,⟨hp,hp'⟩,n,⟨hn,hn'⟩,rfl⟩
 ·exact h r hq
 ·exact qqy hp' hn' (h p hp) (h n hn)
theorem qwE {rows:List Rw} {r:Rw} (h:r∈qlo rows):r∈rows:=by
 induction rows with
 | nil=>cases h
 | cons q rows ih =>
  simp only[qlo,List.foldr_cons]at h;split at h
  ·exact qTG _ (ih h)
  ·unfold qwC at h;split at h
   ·exact qTG _ (ih h)
   ·rcases qTD.1 h with rfl|h
    ·simp
    ·exact qTG _ (ih h)
theorem qwF {s:Sp} (h:qfd s=true) (x:Nat→Int):spv x s=0:=by
 cases s with
 | nil=>rfl|cons _ _=>cases h
theorem qG5:∀{n:Nat} {rows:List Rw} {x:Nat→Int},fm n rows=true→(∀r∈rows,r.ok x)→False:=by
 have base:∀{rows:List Rw} {x:Nat→Int},qqx rows=true→(∀r∈rows,r.ok x)→False:=by
  intro rows x h hr;obtain⟨r,hm,hb⟩:=qUb.1 h;simp only[qTC]at hb;have:=hr r hm;simp only[Rw.ok,qwF hb.1]at this;have:=qwD hb.2;omega
 intro n
 induction n with
 | zero=>intro rows x h hr; exact base h hr
 | succ n ih =>
  intro rows x h hr;simp only[fm,qTM]at h;rcases h with h|h
  ·exact base h hr
  ·split at h
   ·cases h
   ·rename_i q _;split at h
    ·exact ih h fun r hm=>qG4 hr r (qwE hm)
    ·cases h
def qqz:Sp→Sp→Bool
 | [],[]=>true|a::r,b::s=>match Nat.beq a.1 b.1 with
  | true=>match qbG a.2 (- b.2)with
   | true=>qqz r s|false=>false
  | false=>false
 | _,_=>false
def qwG:Sp→Option (Nat×Int)
 | []=>none|[p]=>some p|_::r=>qwG r
def qwH:Sp→Option (Nat×Int)
 | []=>none|p::r=>match qwH r with
  | some q=>some q|none=>match qbG p.2 1||qbG p.2 (-1)with
   | true=>some p|false=>none
def qG6 (s:Sp):Option (Nat×Int):=match qwH s with
 | some q=>some q|none=>qwG s
def qlp:List Rw→Option (Rw×Rw×List Rw)
 | r::s::rest=>match qqz r.2 s.2&&(qbG r.1 (- s.1)&&!(qfd r.2))with
  | true=>some (r,s,rest)|false=>match qlp (s::rest)with
   | some (p,q,rs)=>some (p,q,r::rs)|none=>none
 | _=>none
def qlq (j:Nat) (p n r:Rw):Rw:=match qdp (JY j r.2)with
 | true=>qic j r n|false=>match qal (JY j r.2)with
  | true=>qic j p r|false=>r
def qid:Nat→List Rw→List Rw
 | 0,rows=>rows|k+1,rows=>match qlp rows with
  | none=>rows|some (p,q,rest)=>match qG6 p.2 with
   | none=>rows|some c=>match qdp (JY c.1 p.2)&&qal (JY c.1 q.2)with
    | true=>qid k (rest.map (qlq c.1 p q))|false=>match qdp (JY c.1 q.2)&&qal (JY c.1 p.2)with
     | true=>qid k (rest.map (qlq c.1 q p))|false=>rows
theorem qwI:∀{rows:List Rw} {p q:Rw} {rs:List Rw},qlp rows=some (p,q,rs)→p∈rows∧q∈rows∧∀r∈rs,r∈rows
 | [],p,q,rs,h=>by cases h
 | [r],p,q,rs,h=>by cases h
 | r::s::rest,p,q,rs,h=>by
  unfold qlp at h;split at h
  ·cases h;exact⟨by simp,by simp,fun r hr=>by simp[hr]⟩
  ·split at h
   ·rename_i p' q' rs' hp;cases h;obtain⟨h1,h2,h3⟩:=qwI hp;refine⟨qTG _ h1,qTG _ h2,fun x hx=>?_⟩;rcases qTD.1 hx with rfl|hx
    ·simp
    ·exact qTG _ (h3 x hx)
   ·cases h
theorem qwJ {j:Nat} {p n r:Rw} {x:Nat→Int} (hp:qdp (JY j p.2)=true) (hn:qal (JY j n.2)=true) (h1:p.ok x) (h2:n.ok x) (h3:r.ok x):(qlq j p n r).ok x:=by
 unfold qlq;split
 ·rename_i h; exact qqy h hn h3 h2
 ·split
  ·rename_i h; exact qqy hp h h1 h3
  ·exact h3
theorem qqA:∀{k:Nat} {rows:List Rw} {x:Nat→Int},(∀r∈rows,r.ok x)→∀r∈qid k rows,r.ok x
 | 0,rows,x,h=>h|k+1,rows,x,h=>by
  unfold qid;split
  ·exact h
  ·rename_i p q rest hp;obtain⟨m1,m2,m3⟩:=qwI hp;split
   ·exact h
   ·split
    ·rename_i hc;rw[qTC]at hc;refine qqA fun r hr=>?_
     obtain⟨s,hs,rfl⟩:=qTV.1 hr;exact qwJ hc.1 hc.2 (h _ m1) (h _ m2) (h _ (m3 s hs))
    ·split
     ·rename_i hc;rw[qTC]at hc;refine qqA fun r hr=>?_
      obtain⟨s,hs,rfl⟩:=qTV.1 hr;exact qwJ hc.1 hc.2 (h _ m2) (h _ m1) (h _ (m3 s hs))
     ·exact h
def qqB:T→Bool
 | .u 0 _ _=>true|.u 4 _ _=>true|.u 7 _ _=>true|.u 11 _ _=>true|.u 12 _ _=>true|.u 13 _ _=>true|.u 14 _ _=>true|.u 15 _ _=>true|.w 9 _ _=>true|_=>false
structure Bs where
 as:List T
 rw:List (Nat×Rw)
def qcG (t:T):List T→Nat→Nat×Bool×List T
 | [],n=>(n,true,[t])|a::as,n=>match a.eq t with
  | true=>(n,false,a::as)|false=>match qcG t as (n+1)with
   | (i,b,as')=>(i,b,a::as')
def qfe (t:T) (B:Bs):Nat×Bs:=match qcG t B.as 0 with
 | (i,true,as')=>match qqB t with
  | true=>(i,⟨as',(Nat.pow 2 i,(0,[(i,1)]))::B.rw⟩)|false=>(i,⟨as',B.rw⟩)
 | (i,false,_)=>(i,B)
def qb9:List (Int×T)→Bs→Sp×Nat×Bs
 | [],B=>([],0,B)|p::r,B=>match qb9 r B with
  | (v,m,B1)=>match qfe p.2 B1 with
   | (i,B2)=>qaA p.1 fun z=>(qgv i z v,Nat.lor m (Nat.pow 2 i),B2)
def qbE (l:Lin) (B:Bs):(Nat×Rw)×Bs:=match qb9 l.ts B with
 | (v,m,B1)=>qaA l.c fun z=>((m,(z,v)),B1)
def qwK (r:Rw) (rows:List (Nat×Rw)):Bool:=rows.any fun s=>eqL s.2.2 r.2&&leI s.2.1 r.1
def qlr (r:Nat×Rw):List (Nat×Rw)→Option (List (Nat×Rw))
 | []=>none|s::rest=>match qqz s.2.2 r.2.2&&qbG s.2.1 (- r.2.1)with
  | true=>some (r::s::rest)|false=>match qlr r rest with
   | some l=>some (s::l)|none=>none
def qgx (l:Lin) (B:Bs):Bs:=match qbE l B with
 | (r,B1)=>match qwK r.2 B1.rw||qfd r.2.2&&!(qal r.2.1)with
  | true=>B1|false=>match qlr r B1.rw with
   | some l=>⟨B1.as,l⟩|none=>⟨B1.as,r::B1.rw⟩
def qca:List Lin→Bs→Bs
 | [],B=>B|l::r,B=>qgx l (qca r B)
section
variable {wf:Nat→List D→D} {ρ:Nat→D}
noncomputable def qcb (wf:Nat→List D→D) (ρ:Nat→D) (as:List T) (i:Nat):Int:=toI ((as.getD i .p).den wf ρ)
def Bs.OK (wf:Nat→List D→D) (ρ:Nat→D) (B:Bs):Prop:=∀e,∀r∈B.rw,r.2.ok (qcb wf ρ (B.as++e))
theorem qls {t:T}:∀{as:List T} {n i:Nat} {b:Bool} {as':List T},qcG t as n=(i,b,as')→n≤i∧(∃e,as'=as++e)∧∀e,(as'++e).getD (i - n) .p=t
 | [],n,i,b,as',h=>by
  simp only[qcG,qUe]at h;obtain⟨rfl,_,rfl⟩:=h;exact⟨qTF _,⟨[t],rfl⟩,fun e=>by simp⟩
 | a::as,n,i,b,as',h=>by
  simp only[qcG]at h;split at h
  ·rename_i he;simp only[qUe]at h;obtain⟨rfl,_,rfl⟩:=h;exact⟨qTF _,⟨[],by simp⟩,fun e=>by simp[T.eq_eq he]⟩
  ·generalize hq:qcG t as (n+1)=q at h;obtain⟨j,c,bs⟩:=q;simp only[qUe]at h;obtain⟨rfl,_,rfl⟩:=h;obtain⟨h1,⟨e,h2⟩,h3⟩:=qls hq;refine⟨by omega,⟨e,by rw[h2]; rfl⟩,fun e'=>?_⟩;have:=h3 e';rw[show j - n=(j - (n+1))+1 by omega];exact this
theorem qwL {t:T}:∀{as:List T} {n i:Nat} {as':List T},qcG t as n=(i,false,as')→as'=as
 | [],n,i,as',h=>by simp[qcG]at h
 | a::as,n,i,as',h=>by
  simp only[qcG]at h;split at h
  ·simp only[qUe]at h; exact h.2.2.symm
  ·generalize hp:qcG t as (n+1)=q at h;obtain⟨j',c,bs⟩:=q;simp only[qUe]at h;obtain⟨_,rfl,rfl⟩:=h;rw[qwL hp]
def Ext (B B':Bs):Prop:=∃e,B'.as=B.as++e
theorem Ext.rfl' {B:Bs}:Ext B B:=⟨[],by simp⟩
theorem Ext.trans {A B C:Bs} (h:Ext A B) (k:Ext B C):Ext A C:=by
 obtain⟨e,h⟩:=h;obtain⟨f,k⟩:=k;exact⟨e++f,by rw[k,h,qTW]⟩
theorem qG7 {t:T} (h:qqB t=true):0≤toI (t.den wf ρ):=by
 unfold qqB at h;split at h<;>first
  | (show(0:Int)≤toI (N64 _); rw[Yy]; exact Int.natCast_nonneg _)
  | cases h
theorem qG8 {t:T} {B B':Bs} {i:Nat} (hB:B.OK wf ρ) (h:qfe t B=(i,B')):B'.OK wf ρ∧Ext B B'∧∀e,qcb wf ρ (B'.as++e) i=toI (t.den wf ρ):=by
 unfold qfe at h;split at h
 ·rename_i j as' hq;obtain⟨_,⟨e,h2⟩,h3⟩:=qls hq;have old:∀f,∀r∈B.rw,r.2.ok (qcb wf ρ (as'++f)):=fun f r hr=>by
   rw[h2,qTW]; exact hB _ r hr
  split at h
  ·rename_i hn;simp only[qUe]at h;obtain⟨rfl,rfl⟩:=h;refine⟨fun f r hr=>?_,⟨e,h2⟩,fun f=>by simp only[qcb]; have:=h3 f; simp only[qUO]at this; rw[this]⟩;rcases qTD.1 hr with rfl|hr
   ·have:=h3 f;simp only[qUO]at this;simp only[Rw.ok,spv,qcb,this];have:=qG7 (wf:=wf) (ρ:=ρ) hn;omega
   ·exact old f r hr
  ·simp only[qUe]at h;obtain⟨rfl,rfl⟩:=h;exact⟨fun f r hr=>old f r hr,⟨e,h2⟩,fun f=>by simp only[qcb]; have:=h3 f; simp only[qUO]at this; rw[this]⟩
 ·rename_i j as' hq;simp only[qUe]at h;obtain⟨rfl,rfl⟩:=h;obtain⟨_,⟨e,h2⟩,h3⟩:=qls hq;refine⟨hB,Ext.rfl',fun f=>?_⟩;have hs:as'=B.as:=qwL hq;have:=h3 f;simp only[qUO]at this;simp only[qcb]; rw[←hs,this]
theorem qwM:∀{ts:List (Int×T)} {B B':Bs} {v:Sp} {m:Nat},B.OK wf ρ→qb9 ts B=(v,m,B')→B'.OK wf ρ∧Ext B B'∧∀e,spv (qcb wf ρ (B'.as++e)) v=YG wf ρ ts
 | [],B,B',v,m,hB,h=>by
  simp only[qb9,qUe]at h;obtain⟨rfl,_,rfl⟩:=h;exact⟨hB,Ext.rfl',fun e=>rfl⟩
 | p::r,B,B',v,m,hB,h=>by
  simp only[qb9]at h;generalize hq:qb9 r B=q at h;obtain⟨v1,m1,B1⟩:=q;obtain⟨a1,a2,a3⟩:=qwM hB hq;simp only at h;generalize hp:qfe p.2 B1=s at h;obtain⟨i,B2⟩:=s;obtain⟨b1,b2,b3⟩:=qG8 a1 hp;simp only[qaV,qUe]at h;obtain⟨rfl,_,rfl⟩:=h;refine⟨b1,a2.trans b2,fun e=>?_⟩;rw[qqv,b3];obtain⟨f,hf⟩:=b2;rw[hf,qTW,a3]; rfl
theorem qqC {l:Lin} {B B':Bs} {r:Nat×Rw} (hB:B.OK wf ρ) (h:qbE l B=(r,B')):B'.OK wf ρ∧Ext B B'∧∀e,r.2.1+spv (qcb wf ρ (B'.as++e)) r.2.2=l.val wf ρ:=by
 unfold qbE at h;generalize hq:qb9 l.ts B=q at h;obtain⟨v,m,B1⟩:=q;obtain⟨a1,a2,a3⟩:=qwM hB hq;simp only[qaV,qUe]at h;obtain⟨rfl,rfl⟩:=h;exact⟨a1,a2,fun e=>by simp only[a3]; rfl⟩
theorem qwN {r:Nat×Rw}:∀{rows l:List (Nat×Rw)},qlr r rows=some l→∀{s:Nat×Rw},s∈l→s=r∨s∈rows
 | [],l,h,s,hs=>by cases h
 | q::rest,l,h,s,hs=>by
  unfold qlr at h;split at h
  ·cases h;rcases qTD.1 hs with rfl|hs
   ·exact .inl rfl
   ·exact .inr hs
  ·split at h
   ·rename_i l' hl';cases h;rcases qTD.1 hs with rfl|hs
    ·exact .inr (by simp)
    ·rcases qwN hl' hs with h|h
     ·exact .inl h
     ·exact .inr (qTG _ h)
   ·cases h
theorem qwO {l:Lin} {B:Bs} (hB:B.OK wf ρ) (hl:0≤l.val wf ρ):(qgx l B).OK wf ρ:=by
 unfold qgx;generalize hq:qbE l B=q;obtain⟨r,B1⟩:=q;obtain⟨a1,a2,a3⟩:=qqC hB hq;simp only;split
 ·exact a1
 ·split
  ·rename_i l' hl';intro e s hs;rcases qwN hl' hs with rfl|hs
   ·simp only[Rw.ok,a3]; exact hl
   ·exact a1 e s hs
  ·intro e s hs;rcases qTD.1 hs with rfl|hs
   ·simp only[Rw.ok,a3]; exact hl
   ·exact a1 e s hs
theorem qgy:∀{ls:List Lin} {B:Bs},B.OK wf ρ→(∀l∈ls,0≤l.val wf ρ)→(qca ls B).OK wf ρ
 | [],B,hB,_=>hB|l::r,B,hB,h=>qwO (qgy hB fun q hq=>h q (qTG _ hq)) (h l (by simp))
end
theorem qG9 (t:T) (B:Bs):Ext B (qfe t B).2:=by
 unfold qfe;split
 ·rename_i j as' hq;obtain⟨_,⟨e,h2⟩,_⟩:=qls hq;split<;>exact⟨e,h2⟩
 ·exact Ext.rfl'
theorem qwP:∀(ts:List (Int×T)) (B:Bs),Ext B (qb9 ts B).2.2
 | [],B=>Ext.rfl'|p::r,B=>by
  have h:=qwP r B;simp only[qb9];generalize hq:qb9 r B=q at h;obtain⟨v,m,B1⟩:=q;have h2:=qG9 p.2 B1;simp only;generalize hp:qfe p.2 B1=s at h2;obtain⟨i,B2⟩:=s;simp only[qaV];exact h.trans h2
theorem qHa (l:Lin) (B:Bs):Ext B (qgx l B):=by
 have h:=qwP l.ts B;unfold qgx qbE;generalize hq:qb9 l.ts B=q at h;obtain⟨v,m,B1⟩:=q;simp only[qaV];split
 ·exact h
 ·split<;>exact h
theorem qwQ:∀(ls:List Lin) (B:Bs),Ext B (qca ls B)
 | [],B=>Ext.rfl'|l::r,B=>(qwQ r B).trans (qHa l _)
def qbF:Nat→List (Nat×Rw)→Nat→Nat
 | 0,_,m=>m|k+1,rows,m =>
  let m':=rows.foldl (fun m p=>match Nat.beq (Nat.land p.1 m) 0 with
   | true=>m|false=>Nat.lor m p.1) m
  match Nat.beq m' m with
  | true=>m|false=>qbF k rows m'
def qqD (m:Nat) (rows:List (Nat×Rw)):Nat:=match Nat.beq m 0 with
 | true=>(rows.take 6).foldl (fun m p=>Nat.lor m p.1) 0
 | false=>m
def within (m:Nat):List (Nat×Rw)→List Rw
 | []=>[]|p::r=>match Nat.beq (Nat.land p.1 m) p.1 with
  | true=>p.2::within m r|false=>within m r
def qlt (r:Rw):Rw:=qaA (-1 - r.1) fun z=>(z,r.2.map fun p=>(p.1,qaA (- p.2) fun z=>z))
def qif (m:Nat) (rows:List (Nat×Rw)) (g:Rw):Bool:=fm 60 (qlo (qid 40 (qlt g::within m rows)))
def qlu (rows:List (Nat×Rw)) (g:Rw):Bool:=qfd g.2&&!(qal g.1)||qwK g rows
def qqE (rounds:Nat) (B:Bs) (goal:Lin):Bool:=match qbE goal B with
 | (g,B1)=>qlu B1.rw g.2||qif (qbF rounds B1.rw (qqD g.1 B1.rw)) B1.rw g.2
section
variable {wf:Nat→List D→D} {ρ:Nat→D}
theorem qHb (x:Nat→Int) (r:Rw):(qlt r).1+spv x (qlt r).2=-1 - (r.1+spv x r.2):=by
 unfold qlt;rw[qaV];have:spv x (r.2.map fun p=>(p.1,qaA (- p.2) fun z=>z))=- spv x r.2:=by
  simp only[qaV];generalize r.2=l
  induction l with
  | nil=>rfl|cons p l ih=>simp only[qUa,spv,ih,Int.neg_mul]; omega
 simp only[this]; omega
theorem qwR {m:Nat} {x:Nat→Int}:∀{rows:List (Nat×Rw)},(∀r∈rows,r.2.ok x)→∀r∈within m rows,r.ok x
 | [],_,r,hr=>by cases hr
 | p::rows,h,r,hr=>by
  have ih:=qwR (m:=m) fun q hq=>h q (qTG _ hq)
  simp only[within]at hr;split at hr
  ·rcases qTD.1 hr with rfl|hr
   ·exact h p (by simp)
   ·exact ih r hr
  ·exact ih r hr
theorem qlv {m:Nat} {rows:List (Nat×Rw)} {g:Rw} {x:Nat→Int} (h:qif m rows g=true) (hr:∀r∈rows,r.2.ok x):g.ok x:=by
 rcases Int.lt_or_le (g.1+spv x g.2) 0 with hn|hn
 ·exfalso;refine qG5 h (x:=x) fun q hq=>qqA (fun q hq=>?_) q (qwE hq)
  rcases qTD.1 hq with rfl|hq
  ·simp only[Rw.ok,qHb]; omega
  ·exact qwR hr q hq
 ·exact hn
theorem qwS:∀{a b:Sp},eqL a b=true→a=b
 | [],[],_=>rfl|[],_::_,h=>by simp[eqL]at h
 | _::_,[],h=>by simp[eqL]at h
 | a::r,b::s,h=>by
  unfold eqL at h;split at h
  ·rename_i h1;split at h
   ·rename_i h2;obtain⟨a1,a2⟩:=a;obtain⟨b1,b2⟩:=b;have e1:=qTO h1;have e2:=qwv h2;simp only at e1 e2;rw[e1,e2,qwS h]
   ·cases h
  ·cases h
theorem qwT {rows : List (Nat×Rw)} {g : Rw} {x : Nat → Int} (h : qlu rows g=true) (hr : ∀r∈rows, r.2.ok x) : g.ok x := by
  unfold qlu at h;rw[qTM, qTC]at h;rcases h with⟨h1, h2⟩|h
  · simp only[Rw.ok, qwF h1]
    cases hc : g.1 with
    | ofNat n => have : (0 : Int)≤(n : Int) := by omega
                 exact this
    | negSucc n => rw[hc]at h2; simp[qal]at h2
  · obtain⟨s, hs, hb⟩ := qUb.1 h
    rw[qTC]at hb;have h1 := hr s hs;have h2 := qwS hb.1;have h3 : s.2.1≤g.1 := by
      have hb2 := hb.2;unfold leI at hb2;split at hb2
      · cases hb2
      · rename_i hn
        cases hz : g.1 - s.2.1 with
        | ofNat n => have : g.1 - s.2.1=(n : Int) := hz; omega
        | negSucc n => rw[hz]at hn; simp[qal]at hn
    simp only[Rw.ok]at h1 ⊢;rw[←h2]; omega
theorem qHc {n:Nat} {B:Bs} {goal:Lin} (h:qqE n B goal=true) (hB:B.OK wf ρ):0≤goal.val wf ρ:=by
 unfold qqE at h;generalize hq:qbE goal B=q at h;obtain⟨g,B1⟩:=q;obtain⟨a1,a2,a3⟩:=qqC hB hq;simp only[qTM]at h;rw[←a3 []];rcases h with h|h
 ·exact qwT h (a1 [])
 ·exact qlv h (a1 [])
end
end Go.Aev.R
end
section
namespace Go.Aev.R
open Go Go.Aev
def Jg:T→T
 | .mk .l x=>x|x=>x
def qij:T→Nat→Option T
 | .w 4 a _,0=>some a|.w 4 _ r,n+1=>qij r n|_,_=>none
def JZ (k:Nat) (x:T):T:=match x with
 | .u 2 _ l=>match qij l k with
  | some y=>y|none=>.u 1 k x
 | x=>.u 1 k x
def mkU (o k:Nat) (x:T):T:=match o with
 | 0=>.u 0 k (Jg x)|1=>JZ k x|11=>.u 11 k (Jg x)|o=>.u o k x
def mkW (o:Nat) (x y:T):T:=match o with
 | 3=>.w 3 (Jg x) y|o=>.w o x y
def mkK (k:K) (x:T):T:=match x with
 | .mk k' y=>match K.eq k k' with
  | true=>.mk k y|false=>.mk k (.mk k' y)
 | x=>.mk k x
def T.sub (σ:List T):T→T
 | .v n=>σ.getD n .p|.mk k x=>mkK k (x.sub σ)|.u o k x=>mkU o k (x.sub σ)|.w o x y=>mkW o (x.sub σ) (y.sub σ)|q=>q
def T.pure (n:Nat):T→Bool
 | .v k=>Nat.blt k n|.mk _ x=>x.pure n|.u o k x=>(match o with|3=>Nat.ble Ju k|_=>true)&&x.pure n
 | .w _ x y=>x.pure n&&y.pure n|_=>true
def T.pure0 (n:Nat):T→Bool
 | .v k=>Nat.blt k n|.mk _ x=>x.pure0 n|.u o _ x=>(match o with|3=>false|_=>true)&&x.pure0 n
 | .w _ x y=>x.pure0 n&&y.pure0 n|_=>true
noncomputable def qV (wf:Nat→List D→D) (ρ:Nat→D) (σ:List T) (k:Nat):D:=(σ.getD k .p).den wf ρ
section
variable {wf:Nat→List D→D} {rcP:Nat→List D→Prop} {ρ:Nat→D}
theorem qgC (x:T):toL ((Jg x).den wf ρ)=toL (x.den wf ρ):=by
 unfold Jg;split<;>rfl
theorem qHA:∀{l:T} {k:Nat} {y:T},qij l k=some y→(toL (l.den wf ρ))[k]?=some (y.den wf ρ):=by
 intro l
 induction l with
 | w o a c _ ih =>
  intro k y h;unfold qij at h;split at h
  ·rename_i heq; injection heq with e1 e2 e3; subst e1; subst e2; cases h; rfl
  ·rename_i n heq;injection heq with e1 e2 e3
   subst e1; subst e3;have:=ih h;show(a.den wf ρ::toL (c.den wf ρ))[n+1]?=_;simpa using this
  ·cases h
 | _=>intro k y h; cases k<;>(simp[qij]at h; done)
theorem qgD (k:Nat) (x:T):(JZ k x).den wf ρ=cel (x.den wf ρ) k:=by
 unfold JZ;split
 ·rename_i q l;split
  ·rename_i y hy;have:=qHA (wf:=wf) (ρ:=ρ) hy;show _=(D.agg (toL (l.den wf ρ))).cells.getD k .nilp;simp[D.cells,List.getD_eq_getElem?_getD,this]
  ·rfl
 ·rfl
theorem qHB (o k:Nat) (x:T):(mkU o k x).den wf ρ=(T.u o k x).den wf ρ:=by
 unfold mkU;split
 ·show N64 (toL ((Jg x).den wf ρ)).length=N64 (toL (x.den wf ρ)).length;rw[qgC]
 ·exact qgD k x
 ·show N64 (qaC k (toL ((Jg x).den wf ρ)))=N64 (qaC k (toL (x.den wf ρ)));rw[qgC]
 ·rfl
theorem qHC (o:Nat) (x y:T):(mkW o x y).den wf ρ=(T.w o x y).den wf ρ:=by
 unfold mkW;split
 ·show(toL ((Jg x).den wf ρ)).getD _ _=(toL (x.den wf ρ)).getD _ _;rw[qgC]
 ·rfl
theorem qHD (k:K) (x:T):(mkK k x).den wf ρ=(T.mk k x).den wf ρ:=by
 unfold mkK;split
 ·rename_i k' y;split
  ·rename_i h;rw[←K.eq_eq h];show k.den _=k.den (k.den _);cases k<;>rfl
  ·rfl
 ·rfl
theorem T.den_sub (σ:List T):∀t:T,(t.sub σ).den wf ρ=t.den wf (qV wf ρ σ):=by
 intro t
 induction t with
 | v n=>rfl|mk k x ih=>simp only[T.sub,qHD,T.den,ih]|u o k x ih=>simp only[T.sub,qHB,T.den,ih]|w o x y ih1 ih2=>simp only[T.sub,qHC,T.den,ih1,ih2]|_=>rfl
theorem T.den_pure {n:Nat} {wf':Nat→List D→D} {ρ':Nat→D} (hw:∀g,Ju≤g→wf g=wf' g) (h:∀k,k<n→ρ k=ρ' k):∀t:T,t.pure n=true→t.den wf ρ=t.den wf' ρ':=by
 intro t
 induction t with
 | v k=>intro hp; simp only[T.pure,qT0]at hp; exact h k hp
 | mk k x ih=>intro hp; simp only[T.den,ih hp]
 | u o k x ih =>
  intro hp;simp only[T.pure,qTC]at hp;simp only[T.den,ih hp.2]
  by_cases e:o=3
  ·subst e;have:=hw k (qT5 hp.1);show wf k _=wf' k _;rw[this]
  ·unfold T.un; split<;>simp_all
 | w o x y ih1 ih2 =>
  intro hp;simp only[T.pure,qTC]at hp;simp only[T.den,ih1 hp.1,ih2 hp.2]
 | _=>intro _; rfl
theorem T.den_pure0 {n:Nat} {wf':Nat→List D→D} {ρ':Nat→D} (h:∀k,k<n→ρ k=ρ' k):∀t:T,t.pure0 n=true→t.den wf ρ=t.den wf' ρ':=by
 intro t
 induction t with
 | v k=>intro hp; simp only[T.pure0,qT0]at hp; exact h k hp
 | mk k x ih=>intro hp; simp only[T.den,ih hp]
 | u o k x ih =>
  intro hp;simp only[T.pure0,qTC]at hp;simp only[T.den,ih hp.2]
  by_cases e:o=3
  ·subst e; simp at hp
  ·unfold T.un; split<;>simp_all
 | w o x y ih1 ih2 =>
  intro hp;simp only[T.pure0,qTC]at hp;simp only[T.den,ih1 hp.1,ih2 hp.2]
 | _=>intro _; rfl
end
theorem qlI {d x:D} {k:Nat} (h:x∈toL (cel d k)):SizeOf.sizeOf x<SizeOf.sizeOf d:=by
 unfold cel at h
 cases hc:d.cells[k]? with
 | none=>rw[List.getD_eq_getElem?_getD,hc]at h; cases h
 | some c =>
  rw[List.getD_eq_getElem?_getD,hc]at h;have hm:=qUi hc;have h1:SizeOf.sizeOf x<SizeOf.sizeOf c:=by
   cases c with
   | list l=>have:=List.sizeOf_lt_of_mem (show x∈l from h); simp; omega
   | _=>cases h
  cases d with
  | agg l=>have:=List.sizeOf_lt_of_mem (show c∈l from hm); simp; omega
  | _ =>
   have:=qUJ.1 hm;rw[this]at h1; exact h1
theorem qxe:∀(n m:Nat) (d:D),SizeOf.sizeOf d≤n→SizeOf.sizeOf d≤m→qil n d=qil m d
 | 0,m,d,h,_=>by cases d<;>simp at h<;>omega
 | n+1,0,d,_,h=>by cases d<;>simp at h<;>omega
 | n+1,m+1,d,h1,h2=>by
  unfold qil
  congr 2
  refine qUv fun x hx=>?_
  have:=qlI hx;exact qxe n m x (by omega) (by omega)
theorem qHE (d:D):qaa d=1+Jh (toL (cel d 10)):=by
 unfold qaa Jh
 cases hn:SizeOf.sizeOf d with
 | zero=>cases d<;>simp at hn
 | succ n =>
  show 1+_=_
  congr 2
  refine qUv fun x hx=>?_
  have:=qlI hx;exact qxe n _ x (by omega) (qTF _)
theorem qqI:∀{l:List D} {x:D},x∈l→qaa x≤Jh l
 | y::r,x,h=>by
  show _≤max (qaa y) (Jh r);rcases qTD.1 h with rfl|h
  ·exact Nat.le_max_left _ _
  ·exact qT2 (qqI h) (Nat.le_max_right _ _)
theorem qxf {n:Nat}:∀{l:List D},(∀x∈l,qaa x≤n)→Jh l≤n
 | [],_=>qVB _|y::r,h=>Nat.max_le.2 ⟨h y (by simp),qxf fun x hx=>h x (qTG _ hx)⟩
theorem qxg:∀(n m:Nat) (d:D),SizeOf.sizeOf d≤n→SizeOf.sizeOf d≤m→qik n d=qik m d
 | 0,m,d,h,_=>by cases d<;>simp at h<;>omega
 | n+1,0,d,_,h=>by cases d<;>simp at h<;>omega
 | n+1,m+1,d,h1,h2=>by
  unfold qik
  congr 2
  refine qUv fun x hx=>?_
  have:=qlI hx;exact qxg n m x (by omega) (by omega)
theorem qHF (l:List D):Yz 1000 l=(l.map nsz).sum:=by
 induction l with
 | nil=>rfl|cons x l ih =>
  show qdq 1000 x+Yz 1000 l=_;rw[ih]; rfl
theorem qHG (d:D):nsz d=1+(toL (cel d 11)).length+Yz 1000 (toL (cel d 10)):=by
 rw[qHF];unfold nsz
 cases hn:SizeOf.sizeOf d with
 | zero=>cases d<;>simp at hn
 | succ n =>
  show 1+_+_=_
  congr 2
  refine qUv fun x hx=>?_
  have:=qlI hx;exact qxg n _ x (by omega) (qTF _)
theorem qqJ (k:Nat) (a b:List D):Yz k (a++b)=Yz k a+Yz k b:=by
 induction a with
 | nil=>simp[Yz]|cons x a ih=>simp only[qUR,Yz,ih]; omega
theorem qxh (k n:Nat) (l:List D):Yz k (l.take n)≤Yz k l:=by
 have:=qqJ k (l.take n) (l.drop n);rw[qUw]at this; omega
theorem qqK {k n:Nat} {l:List D} (h:n<l.length):Yz k (l.take (n+1))=Yz k (l.take n)+qdq k (l.getD n .nilp):=by
 have e:l.take (n+1)=l.take n++[l[n]]:=by simp[List.take_append_getElem]
 rw[e,qqJ,List.getD_eq_getElem?_getD,qTE h];rfl
theorem qxi (k:Nat):∀{l:List D} {x:D},x∈l→qdq k x≤Yz k l
 | y::r,x,h=>by
  show _≤qdq k y+Yz k r;rcases qTD.1 h with rfl|h
  ·omega
  ·have:=qxi k h; omega
end Go.Aev.R
end
