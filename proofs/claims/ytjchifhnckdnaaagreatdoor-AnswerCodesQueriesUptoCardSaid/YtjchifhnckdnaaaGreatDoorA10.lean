/- Lemmas for the statements of this seat: an abstract machine that the model follows, and contracts of functions. Conditions: none. -/
import Derived.Test.YtjchifhnckdnaaaGreatDoorA09
import Derived.KernelRfl
set_option linter.unusedVariables false
set_option linter.unusedSimpArgs false
set_option linter.unusedSectionVars false
section
namespace Go.Aev
variable [Glob]
open Go.RowKit (Below)
variable {w0:World} {own:Own} {m:Mp} {S:Nat→Prop} {w:World} {rows:Rows}
def conv0 (g:Look):V→Option V
 | .d x=>some (.d x)
 | .nil=>some .nil
 | .fn f []=>some (.fn f [])
 | .sl r k off len c ex=>match toD1 g (.sl r k off len c ex) with
  | some (x,_)=>some (.d x)
  | none=>none
 | _=>none
def convsBy (f:V→Option V):List V→Option (List V)
 | []=>some []
 | v :: r=>match f v,convsBy f r with
  | some x,some l=>some (x :: l)
  | _,_=>none
def conv1 (g:Look):V→Option V
 | .agg cs=>match toDs g cs with
  | some (ds,_)=>some (.d (.agg ds))
  | none=>(convsBy (conv0 g) cs).map V.agg
 | v=>conv0 g v
def frz (g:Look):Nat→V→Option V
 | 0,_=>none
 | n + 1,v=>match v with
  | .d x=>some (.d x)
  | .nil=>some .nil
  | .fp cs=>some (.fp cs)
  | .fm ks xs=>some (.fm ks xs)
  | .fn f cs=>(mapO (frz g n) cs).map (V.fn f)
  | .pt r k i f=>match g r with
   | some (.box cs _)=>if i * k + f = 0 then (mapO (frz g n) cs).map V.fp else none
   | _=>none
  | .mp r=>match g r with
   | some (.map es _ _)=>(mapO (frz g n) (es.map (·.2))).map (V.fm (es.map (·.1)))
   | _=>none
  | _=>none
def convV (g:Look):V→Option V
 | .tup vs=>(convsBy (conv1 g) vs).map V.tup
 | v=>match conv1 g v with
  | some x=>some x
  | none=>frz g 6 v
def GE (g:Look) (rows:Rows):Prop:=∀ r row,g r = some row→∃ row',rows[r]? = some (Slot.live row')∧row'.freeze = row.freeze
theorem freeze_rw {row:Row} (h:row.freeze.rw = false):row.rw = false→row.freeze = row:=by
 cases row <;> simp [Row.freeze,Row.rw] at h ⊢
theorem freezeG (inv:Inv w0 own m S w rows) {g:Look} (hg:GE g rows) {r:Nat} {row:Row} {b o:Nat} (hr:g r = some row) (hf:row.freeze.rw = false) (hm:m r = some (b,o)) :
  ∃ S',Inv w0 own m S' w (setSlot rows r (Slot.live row.freeze))∧Ext m S w m S' w∧S' b∧GE g (setSlot rows r (Slot.live row.freeze))∧∃ row',rows[r]? = some (Slot.live row')∧row'.freeze = row.freeze:=by
 obtain ⟨row',h1,h2⟩:=hg r row hr
 have hl:=slot_lt h1
 have hge:GE g (setSlot rows r (Slot.live row.freeze)):=by
  intro q row2 hq
  rw [setSlot_get (Nat.le_of_lt hl)]
  by_cases e:q = r
  ·subst e
   rw [hr] at hq; cases hq
   rw [if_pos rfl]
   exact ⟨_,rfl,by cases row <;> rfl⟩
  ·rw [if_neg e]; exact hg q row2 hq
 rw [← h2] at hf
 cases hw:row'.rw with
 | true =>
  obtain ⟨k1,k2⟩:=inv.freeze r row' b o h1 hf hw hm
  rw [h2] at k1
  exact ⟨_,k1,k2,.inr rfl,hge,row',h1,h2⟩
 | false =>
  have e:=freeze_rw hf hw
  have hsame:setSlot rows r (Slot.live row.freeze) = rows:=by rw [← h2,e]; exact setSlot_same h1
  rw [hsame]
  rw [hsame] at hge
  exact ⟨S,inv,Ext.refl ..,inv.rost r row' b o h1 hw hm,hge,row',h1,h2⟩
def FrzOK (f:V→Option V) (g:Look):Prop:=∀ {w0:World} {own:Own} {m:Mp} {S:Nat→Prop} {w:World} {rows:Rows},Inv w0 own m S w rows→GE g rows→∀ {v x:V} {u:Value},f v = some x→RV m S w v u →
  ∃ S' rows',Inv w0 own m S' w rows'∧Ext m S w m S' w∧RF S' w x u∧GE g rows'
theorem frzs_sound {f:V→Option V} {g:Look} (hf:FrzOK f g):∀ {cs xs:List V} {us:Nat→Value} {S:Nat→Prop} {rows:Rows},Inv w0 own m S w rows→GE g rows→mapO f cs = some xs→(∀ (j:Nat) (x:V),cs[j]? = some x→RV m S w x (us j)) →
  ∃ S' rows',Inv w0 own m S' w rows'∧Ext m S w m S' w∧(∀ (j:Nat) (x:V),xs[j]? = some x→RF S' w x (us j))∧GE g rows'∧xs.length = cs.length
 | [],xs,us,S,rows,inv,hg,h,hv=>by
  cases h
  exact ⟨S,rows,inv,Ext.refl ..,fun j x h=>by simp at h,hg,rfl⟩
 | v :: cs,xs,us,S,rows,inv,hg,h,hv=>by
  simp only [mapO] at h
  split at h
  ·rename_i x l h1 h2
   cases h
   obtain ⟨S1,rows1,i1,e1,r1,g1⟩:=hf inv hg h1 (hv 0 v rfl)
   obtain ⟨S2,rows2,i2,e2,r2,g2,l2⟩:=frzs_sound hf (us:=fun j=>us (j + 1)) i1 g1 h2 (fun j x hx=>(hv (j + 1) x (by simpa using hx)).ext e1)
   refine ⟨S2,rows2,i2,e1.trans e2,fun j y hy=>?_,g2,by simp [l2]⟩
   cases j with
   | zero=>simp at hy; subst hy; exact r1.ext e2
   | succ j=>simp at hy; exact r2 j y hy
  ·cases h
theorem frz_sound (g:Look) (n:Nat):FrzOK (frz g n) g:=by
 induction n with
 | zero=>intro w0 own m S w rows inv hg v x u h hv; cases h
 | succ n ih =>
  intro w0 own m S w rows inv hg v x u h hv
  cases v with
  | d y=>simp only [frz] at h; cases h; exact ⟨S,rows,inv,Ext.refl ..,.d _ _ (RV_d_inv hv),hg⟩
  | nil=>simp only [frz] at h; cases h; cases hv; exact ⟨S,rows,inv,Ext.refl ..,.nil,hg⟩
  | fp cs=>simp only [frz] at h; cases h; cases hv with | fp _ b o hf=>exact ⟨S,rows,inv,Ext.refl ..,hf,hg⟩
  | fm ks xs=>simp only [frz] at h; cases h; cases hv with | fm _ _ b hf=>exact ⟨S,rows,inv,Ext.refl ..,hf,hg⟩
  | fn f cs =>
   simp only [frz,Option.map_eq_some_iff] at h
   obtain ⟨xs,hx,rfl⟩:=h
   cases hv with
   | fn _ _ arr hlen hd =>
   have get:∀ (j:Nat),j < cs.length→arr[j]? = some (arr.getD j Go.undef):=fun j hj=>by
    have:j < arr.size:=by omega
    simp [Array.getD,this]
   obtain ⟨S1,rows1,i1,e1,r1,g1,l1⟩:=frzs_sound ih (us:=fun j=>arr.getD j Go.undef) inv hg hx (fun j x hx=>hd j x _ hx (get j (lt_of_get hx)))
   refine ⟨S1,rows1,i1,e1,.fn _ _ arr (by omega) (fun j x v hx hv=>?_),g1⟩
   have hj:=lt_of_get hx
   rw [get j (by omega)] at hv
   cases hv
   exact r1 j x hx
  | pt r k i f =>
   simp only [frz] at h
   split at h
   ·rename_i cs ro hgr
    split at h
    ·rename_i h0
     rw [Option.map_eq_some_iff] at h
     obtain ⟨xs,hx,rfl⟩:=h
     cases hv with
     | pt r k i f b o hm =>
     obtain ⟨S1,i1,e1,s1,g1,row',h1,h2⟩:=freezeG inv hg hgr rfl hm
     obtain ⟨c,e,hb,hcs⟩:RowRel m S w b o (.box cs ro):=by
      have:=live_rel inv h1 hm
      have h3:=this.freeze
      rw [h2] at h3
      exact h3
     obtain ⟨S2,rows2,i2,e2,r2,g2,l2⟩:=frzs_sound ih (us:=fun j=>(cl w b (o + j)).getD Go.undef) i1 g1 hx (fun j x hj=>by
      obtain ⟨v,hv,hr⟩:=hcs j x hj
      have:cl w b (o + j) = some v:=by rw [cl_cells hb]; exact hv
      simp only [this,Option.getD_some]
      exact hr.ext e1)
     have ea:o + i * k + f = o:=by omega
     rw [ea]
     refine ⟨S2,rows2,i2,e1.trans e2,.fp xs b o (fun j=>(cl w b (o + j)).getD Go.undef) (e2.sub b s1) (fun j x hj=>?_) r2,g2⟩
     have hjl:=lt_of_get hj
     obtain ⟨v,hv,_⟩:=hcs j (cs[j]'(by omega)) (by simp [show j < cs.length by omega])
     have:cl w b (o + j) = some v:=by rw [cl_cells hb]; exact hv
     simp [this]
    ·cases h
   ·cases h
  | mp r =>
   simp only [frz] at h
   split at h
   ·rename_i es clock ro hgr
    rw [Option.map_eq_some_iff] at h
    obtain ⟨xs,hx,rfl⟩:=h
    cases hv with
    | mp r b o hm =>
    obtain ⟨S1,i1,e1,s1,g1,row',h1,h2⟩:=freezeG inv hg hgr rfl hm
    obtain ⟨ents,hb,hsz,_,hcs⟩:RowRel m S w b o (.map es clock ro):=by
     have:=live_rel inv h1 hm
     have h3:=this.freeze
     rw [h2] at h3
     exact h3
    have get:∀ (j:Nat),j < es.length→∃ e,ents[j]? = some e:=fun j hj=>⟨ents[j]'(by omega),by simp [show j < ents.size by omega]⟩
    obtain ⟨S2,rows2,i2,e2,r2,g2,l2⟩:=frzs_sound ih (us:=fun j=>match ents[j]? with | some e=>e.val | none=>Go.undef) i1 g1 hx (fun j x hj=>by
     rw [List.getElem?_map,Option.map_eq_some_iff] at hj
     obtain ⟨e,he,rfl⟩:=hj
     obtain ⟨t,ht⟩:=get j (lt_of_get he)
     simp only [ht]
     exact ((hcs j e t he ht).2).ext e1)
    refine ⟨S2,rows2,i2,e1.trans e2,.fm _ xs b ents clock (e2.sub b s1) hb (by simp [hsz]) (by rw [l2]; simp) (fun j k e hk he=>?_) (fun j x e hj he=>?_),g2⟩
    ·rw [List.getElem?_map,Option.map_eq_some_iff] at hk
     obtain ⟨q,hq,rfl⟩:=hk
     exact ((hcs j q e hq he).1).ext (e1.trans e2)
    ·have:=r2 j x hj
     simp only [he] at this
     exact this
   ·cases h
  | _=>simp only [frz] at h; cases h
structure Base where
 P:Program
 T:TypeId→Option Ty
 F:FuncId→Option Func
 rc:FuncId→Bool
 po:FuncId→Bool
 fuel:Nat
 wc:FuncId→Bool:=fun _=>false
 tab:FuncId→List V→Rows→Option V:=fun _ _ _=>none
def convN (g:Look):V→Option (V × List (Nat × Slot))
 | .agg cs=>match toDs g cs with
  | some (ds,us)=>some (.d (.agg ds),us)
  | none=>none
 | .tup vs=>match toDs g vs with
  | some (ds,us)=>some (.tup (ds.map V.d),us)
  | none=>none
 | _=>none
def cvN (g:Look) (k:Nat) (v:V):V × List (Nat × Slot):=(convN (fun r=>if r < k then none else g r) v).getD (v,[])
def wcNorm (g:Look) (k:Nat) (v:V):Option (V × Rows) :=
 let v1:=(cvN g k v).1
 let rs:=List.range k ++ ((V.deepRefs 4 v1).eraseDups).filter (fun r=>decide (k ≤ r))
 if rs.eraseDups.length = rs.length then
  match mapO (fun r=>moveRow (fun r=>idxIn r rs 0) (g r)) rs,renV (fun r=>idxIn r rs 0) 8 v1 with
  | some rows0,some v0=>some (v0,rows0)
  | _,_=>none
 else none
def Base.cfg (b:Base):Nat→Cfg
 | 0=>{ P:=b.P,T:=b.T,F:=b.F,rc:=b.rc,po:=b.po,RC:=b.tab,WC:=fun _ _ _=>none }
 | n + 1 =>
  let c:=b.cfg n
  {P:=b.P,T:=b.T,F:=b.F,rc:=b.rc,po:=b.po,RC:=fun g args rows=>match b.tab g args rows with
   | some v=>some v
   | none=>if b.wc g then none else match enterA c g args with
    | some fr=>match aRun c b.fuel { fr,stack:=[],rows } with
     | .done v rows'=>convV (liveAt rows') v
     | _=>none
    | none=>none,
   WC:=fun g args rows=>if b.wc g then (match enterA c g args with
   | some fr=>match aRun c b.fuel { fr,stack:=[],rows } with
    | .done v rows'=>wcNorm (liveAt rows') rows.length v
    | _=>none
   | none=>none) else none }
structure BOK (b:Base):Prop where
 T:TOK b.P b.T
 F:∀ g gf,b.F g = some gf→b.P.funcs[g]? = some gf∧(gf.name == "runtime.NumGoroutine") = false
 rc:∀ g,b.rc g = true→∃ gf,b.P.funcs[g]? = some gf∧gf.body.isSome = true∧(gf.name == "runtime.NumGoroutine") = false
 mixed:b.P.follows .mixedOrders = true
 tab:RCOK b.P b.tab
def ConvOK (f:Look→V→Option V):Prop:=∀ {w0:World} {own:Own} {m:Mp} {S:Nat→Prop} {w:World} {rows:Rows},Inv w0 own m S w rows→∀ {g:Look} {v x:V} {u:Value},GD g rows→f g v = some x→RV m S w v u →
  ∃ S' rows',Inv w0 own m S' w rows'∧Ext m S w m S' w∧(∀ (m2:Mp),RV m2 S' w x u)∧GD g rows'
theorem conv0_sound:ConvOK conv0:=by
 intro w0 own m S w rows inv g v x u hg h hv
 unfold conv0 at h
 split at h
 ·cases h; exact ⟨S,rows,inv,Ext.refl ..,fun m2=>.d _ _ (RV_d_inv hv),hg⟩
 ·cases h; cases hv; exact ⟨S,rows,inv,Ext.refl ..,fun m2=>.nil,hg⟩
 ·cases h
  cases hv with
  | fn _ _ arr hlen hd =>
   exact ⟨S,rows,inv,Ext.refl ..,fun m2=>.fn _ _ arr hlen (fun j x v h=>by simp at h),hg⟩
 ·split at h
  ·rename_i y us hd
   cases h
   obtain ⟨S',i1,e1,r1,g1,_,_⟩:=toD1_sound inv hg hd hv
   exact ⟨S',_,i1,e1,fun m2=>.d _ _ r1,g1⟩
  ·cases h
 ·cases h
theorem convs_sound {f:Look→V→Option V} (hf:ConvOK f):∀ {vs xs:List V} {us:List Value} {S:Nat→Prop} {rows:Rows} {g:Look},Inv w0 own m S w rows→GD g rows→convsBy (f g) vs = some xs→RVs m S w vs us.toArray →
  ∃ S' rows',Inv w0 own m S' w rows'∧Ext m S w m S' w∧(∀ (m2:Mp),RVs m2 S' w xs us.toArray)∧GD g rows'
 | [],xs,us,S,rows,g,inv,hg,h,hv=>by
  simp [convsBy] at h; subst h
  exact ⟨S,rows,inv,Ext.refl ..,fun m2=>⟨by have:=hv.1; simpa using this,fun j x v h=>by simp at h⟩,hg⟩
 | v :: vs,xs,us,S,rows,g,inv,hg,h,hv=>by
  cases us with
  | nil=>have:=hv.1; simp at this
  | cons u us =>
   simp only [convsBy] at h
   split at h
   ·rename_i x l h1 h2
    cases h
    obtain ⟨S1,rows1,i1,e1,r1,g1⟩:=hf inv hg h1 (hv.2 0 v u rfl (by simp))
    obtain ⟨S2,rows2,i2,e2,r2,g2⟩:=convs_sound hf i1 g1 h2 ((RVs_tail hv).ext e1)
    refine ⟨S2,rows2,i2,e1.trans e2,fun m2=>?_,g2⟩
    have ht:=r2 m2
    refine ⟨by have:=ht.1; simpa using this,fun j y z hy hz=>?_⟩
    cases j with
    | zero =>
     simp at hy hz; subst hy; subst hz
     exact (r1 m2).ext ⟨fun _ _ h=>h,e2.sub,e2.obj,e2.size⟩
    | succ j=>simp at hy hz; exact ht.2 j y z hy (by simpa using hz)
   ·cases h
theorem conv1_sound:ConvOK conv1:=by
 intro w0 own m S w rows inv g v x u hg h hv
 unfold conv1 at h
 split at h
 ·rename_i cs
  split at h
  ·rename_i ds us hd
   cases h
   cases hv with
   | agg _ arr hlen hd' =>
   obtain ⟨S',i1,e1,⟨l1,r1⟩,g1,_,_⟩:=toDs_sound (arr:=arr.toList) inv hg hd (by rw [Array.toArray_toList]; exact ⟨hlen,hd'⟩)
   exact ⟨S',_,i1,e1,fun m2=>.d _ _ (.agg ds arr (by rw [← l1]; simp) (fun j d v a b=>r1 j d v a (by simpa using b))),g1⟩
  ·cases hc:convsBy (conv0 g) cs with
   | none=>rw [hc] at h; cases h
   | some xs =>
    rw [hc] at h; cases h
    cases hv with
    | agg _ arr hlen hd' =>
    obtain ⟨S',rows',i1,e1,r1,g1⟩:=convs_sound (us:=arr.toList) conv0_sound inv hg hc (by rw [Array.toArray_toList]; exact ⟨hlen,hd'⟩)
    refine ⟨S',rows',i1,e1,fun m2=>?_,g1⟩
    have:=r1 m2
    rw [Array.toArray_toList] at this
    exact .agg xs arr this.1 this.2
 ·exact conv0_sound inv hg h hv
theorem convV_sound (inv:Inv w0 own m S w rows) {v x:V} {u:Value} (h:convV (liveAt rows) v = some x) (hv:RV m S w v u) :
  ∃ S' rows',Inv w0 own m S' w rows'∧(∀ (m2:Mp),RV m2 S' w x u):=by
 unfold convV at h
 split at h
 ·rename_i vs
  cases hc:convsBy (conv1 (liveAt rows)) vs with
  | none=>rw [hc] at h; cases h
  | some xs =>
   rw [hc] at h; cases h
   cases hv with
   | tup _ arr hlen hd =>
   obtain ⟨S',rows',i1,e1,r1,_⟩:=convs_sound (us:=arr.toList) conv1_sound inv (liveAt_ok rows).gd hc (by rw [Array.toArray_toList]; exact ⟨hlen,hd⟩)
   refine ⟨S',rows',i1,fun m2=>?_⟩
   have:=r1 m2
   rw [Array.toArray_toList] at this
   exact .tup xs arr this.1 this.2
 ·split at h
  ·rename_i y hy
   cases h
   obtain ⟨S',rows',i1,e1,r1,_⟩:=conv1_sound inv (liveAt_ok rows).gd hy hv
   exact ⟨S',rows',i1,r1⟩
  ·obtain ⟨S',rows',i1,e1,r1,_⟩:=frz_sound (liveAt rows) 6 inv (fun r row hr=>⟨row,liveAt_ok rows r row hr,rfl⟩) h hv
   exact ⟨S',rows',i1,fun m2=>r1.toRV⟩
theorem Inv.rebase (inv:Inv w0 own m S w rows) (hro:∀ (r:Nat) (row:Row),rows[r]? = some (Slot.live row)→row.rw = false):Inv w ⟨fun _=>False,S⟩ m S w rows :=
 ⟨inv.none,inv.fre,inv.row,inv.bnd,fun r row b o h hw _=>(by rw [hro r row h] at hw; cases hw),inv.apart,inv.stab,inv.rost,inv.sbnd,fun b h=>.inl h,fun b h=>h,rfl,rfl,rfl,Nat.le_refl _,fun _ _ _=>rfl,inv.glb⟩
theorem toDs_us {g:Look}:∀ {vs:List V} {xs:List D} {us:List (Nat × Slot)},toDs g vs = some (xs,us)→∀ u ∈ us,∃ row,g u.1 = some row
 | [],xs,us,h=>by simp [toDs] at h; obtain ⟨_,rfl⟩:=h; intro u hu; cases hu
 | v :: vs,xs,us,h=>by
  simp only [toDs] at h
  split at h
  ·rename_i x u1 l us' h1 h2
   cases h
   intro u hu
   rcases List.mem_append.1 hu with h3 | h3
   ·unfold toD1 at h1
    split at h1
    ·cases h1; cases h3
    ·cases h1; cases h3
    ·split at h1
     ·rename_i hg
      split at h1
      ·cases h1
       rcases List.mem_singleton.1 h3 with rfl
       exact ⟨_,hg⟩
      ·cases h1
     ·cases h1
    ·cases h1
   ·exact toDs_us h2 u h3
  ·cases h
theorem convN_sound (inv:Inv w0 own m S w rows) {k:Nat} {v x:V} {us:List (Nat × Slot)} {u:Value} (h:convN (fun r=>if r < k then none else liveAt rows r) v = some (x,us)) (hv:RV m S w v u) :
  ∃ S' rows',Inv w0 own m S' w rows'∧RV m S' w x u∧(∀ r,r < k→liveAt rows' r = liveAt rows r)∧rows'.length = rows.length:=by
 have hg:GD (fun r=>if r < k then none else liveAt rows r) rows:=fun r kk es ro e=>by
  simp only at e
  split at e
  ·cases e
  ·exact ⟨ro,liveAt_look e,fun h=>h⟩
 have fin:∀ {vs:List V} {ds:List D} {us:List (Nat × Slot)} {arr:Array Value},toDs (fun r=>if r < k then none else liveAt rows r) vs = some (ds,us)→RVs m S w vs arr →
   ∃ S' rows',Inv w0 own m S' w rows'∧(arr.size = ds.length∧∀ (j:Nat) (d:D) (v:Value),ds[j]? = some d→arr[j]? = some v→RD S' w d v)∧(∀ r,r < k→liveAt rows' r = liveAt rows r)∧rows'.length = rows.length:=by
  intro vs ds us arr hd ha
  obtain ⟨S1,i1,e1,⟨l1,r1⟩,g1,k1,n1⟩:=toDs_sound (arr:=arr.toList) inv hg hd (by rw [Array.toArray_toList]; exact ha)
  refine ⟨S1,_,i1,⟨by rw [← l1]; simp,fun j d v a b=>r1 j d v a (by simpa using b)⟩,fun r hr=>?_,n1⟩
  refine liveAt_agree (k1 r fun u hu e=>?_)
  obtain ⟨row,hrow⟩:=toDs_us hd u hu
  rw [e] at hrow
  simp only [if_pos hr] at hrow
  cases hrow
 unfold convN at h
 split at h
 ·rename_i cs
  split at h
  ·rename_i ds us' hd
   cases h
   cases hv with
   | agg _ arr hlen hd' =>
   obtain ⟨S1,rows1,i1,⟨l1,r1⟩,k1,n1⟩:=fin hd ⟨hlen,hd'⟩
   exact ⟨S1,rows1,i1,.d _ _ (.agg ds arr l1 r1),k1,n1⟩
  ·cases h
 ·rename_i vs
  split at h
  ·rename_i ds us' hd
   cases h
   cases hv with
   | tup _ arr hlen hd' =>
   obtain ⟨S1,rows1,i1,⟨l1,r1⟩,k1,n1⟩:=fin hd ⟨hlen,hd'⟩
   refine ⟨S1,rows1,i1,.tup _ arr (by simpa using l1) (fun j y v hy hv=>?_),k1,n1⟩
   rw [List.getElem?_map,Option.map_eq_some_iff] at hy
   obtain ⟨d,hd2,rfl⟩:=hy
   exact .d _ _ (r1 j d v hd2 hv)
  ·cases h
 ·cases h
theorem Does.norm {P:Program} {g:FuncId} {args:List V} {rows:Rows} {R:V→Rows→Prop} {v0:V} {rows0:Rows} (h:Does P g rows.length args rows R) (hnn:∀ x y,R x y→wcNorm (liveAt y) rows.length x = some (v0,rows0)) :
  Does P g rows.length args rows (fun x y=>x = v0∧y = rows0):=by
 intro w0 own m S w vs inv ha cs
 obtain ⟨e,w',fr,⟨u,x,y,rfl,hR,m',S',i2,r2,hm',hsz⟩,h3⟩:=h w0 own m S w vs inv ha cs
 have hn:=hnn x y hR
 unfold wcNorm at hn
 simp only at hn
 split at hn
 ·rename_i hrs
  split at hn
  ·rename_i ra va h1 h2
   cases hn
   have key:∃ S2 rows2,Inv w0 own m' S2 w' rows2∧RV m' S2 w' (cvN (liveAt y) rows.length x).1 u∧mapO (fun r=>moveRow (fun r=>idxIn r (List.range rows.length ++ ((V.deepRefs 4 (cvN (liveAt y) rows.length x).1).eraseDups).filter (fun r=>decide (rows.length ≤ r))) 0) (liveAt rows2 r)) (List.range rows.length ++ ((V.deepRefs 4 (cvN (liveAt y) rows.length x).1).eraseDups).filter (fun r=>decide (rows.length ≤ r))) = some rows0:=by
    cases hc:convN (fun r=>if r < rows.length then none else (liveAt y) r) x with
    | none =>
     have hcv:cvN (liveAt y) rows.length x = (x,[]):=by unfold cvN; rw [hc]; rfl
     rw [hcv] at h1 ⊢
     exact ⟨S',y,i2,r2,h1⟩
    | some p =>
     obtain ⟨x1,us⟩:=p
     have hcv:cvN (liveAt y) rows.length x = (x1,us):=by unfold cvN; rw [hc]; rfl
     rw [hcv] at h1 ⊢
     obtain ⟨S2,rows2,i3,r3,k3,_⟩:=convN_sound i2 hc r2
     refine ⟨S2,rows2,i3,r3,?_⟩
     rw [← h1]
     have hdata:V.deepRefs 4 x1 = []:=by
      unfold convN at hc
      split at hc
      ·split at hc
       ·cases hc; rfl
       ·cases hc
      ·split at hc
       ·cases hc
        simp only [V.deepRefs,List.flatMap_map]
        exact List.flatMap_eq_nil_iff.2 fun d _=>rfl
       ·cases hc
      ·cases hc
     refine mapO_congr fun r hr=>?_
     simp only [hdata] at hr
     have hlt:r < rows.length:=by
      rcases List.mem_append.1 hr with h4 | h4
      ·simpa using h4
      ·simp at h4
     rw [k3 r hlt]
   obtain ⟨S2,rows2,i3,r3,hmap⟩:=key
   refine ⟨_,w',fr,⟨u,v0,rows0,rfl,⟨rfl,rfl⟩,renM m' _,S2,move_inv i3 hrs hmap,renV_rel h2 r3,fun r hr p hp=>?_,hsz⟩,h3⟩
   have hget:(List.range rows.length ++ ((V.deepRefs 4 (cvN (liveAt y) rows.length x).1).eraseDups).filter (fun r=>decide (rows.length ≤ r)))[r]? = some r:=by
    rw [List.getElem?_append_left (by simpa using hr)]
    exact List.getElem?_range hr
   simp only [renM,hget,Option.bind_some]
   exact hm' r hr p hp
  ·cases hn
 ·cases hn
theorem wcNorm_does {P:Program} {g:FuncId} {args:List V} {rows:Rows} {lk:Look} {v v0:V} {rows0:Rows} (h:Does P g rows.length args rows (fun x y=>x = v∧liveAt y = lk)) (hn:wcNorm lk rows.length v = some (v0,rows0)) :
  Does P g rows.length args rows (fun x y=>x = v0∧y = rows0) :=
 h.norm fun x y ⟨h1,h2⟩=>by rw [h1,h2]; exact hn
theorem Inv.start (w:World) {St:Nat→Prop} (hs:∀ b,St b→b < w.heap.size) (hg:Glb St w):Inv w ⟨fun _=>False,St⟩ (fun _=>Option.none) St w [] :=
 ⟨fun _ _=>rfl,fun r h=>(by simp at h),fun r row h=>(by simp at h),fun r b o h=>(by cases h),fun r row b o h=>(by simp at h),fun r r' row row' b o b' o' _ h=>(by simp at h),fun r row b o h=>(by simp at h),
  fun r row b o h=>(by simp at h),fun b h=>hs b h,fun b h=>.inl h,fun b h=>h,rfl,rfl,rfl,Nat.le_refl _,fun _ _ _=>rfl,hg⟩
theorem Inv.below {B:Own} (inv:Inv w0 B m S w rows) (hB:∀ b,¬ B b):Below w0.heap.size w0 w :=
 ⟨inv.os,inv.tape,inv.output,inv.grow,fun k hk=>inv.kept k hk (hB k)⟩
end Go.Aev
end
section
namespace Go.Aev
variable [Glob]
def AllP:List Prop→Prop
 | []=>True
 | p :: r=>p∧AllP r
theorem AllP_append {a b:List Prop} (h:AllP (a ++ b)):AllP a∧AllP b:=by
 induction a with
 | nil=>exact ⟨trivial,h⟩
 | cons p a ih=>exact ⟨⟨h.1,(ih h.2).1⟩,(ih h.2).2⟩
structure Hint where
 row:Nat→Option (Nat→D):=fun _=>none
 lst:Nat→Option (Nat→D):=fun _=>none
 md:Nat:=0
 gd:Nat→Option Bool:=fun _=>none
 ar:Bool:=false
 sh:Bool:=false
def Hint.at (h:Hint):Operand→Option (Nat→D)
 | .tmp t=>h.lst t
 | _=>none
def sIndexAddr (T:TypeId→Option Ty) (fh:Option (Nat→D)) (t:TypeId) (x ix:V):Option (List Prop × V) :=
 match T t,ix with
 | some y,.d (.int _ n)=>match y.desc with
  | .slice e=>match T e with
   | some z=>match x with
    | .sl r k off len _ _=>some ([k = z.size∧0 ≤ n∧n < (len:Int)],.pt r k (off + n.toNat) 0)
    | .d (.list es)=>match fh with
     | some fh=>some ([0 ≤ n∧n < (es.length:Int),es[n.toNat]? = some (fh n.toNat),(fh n.toNat).cells.length = z.size],.dp (fh n.toNat))
     | none=>none
    | _=>none
   | none=>none
  | _=>none
 | _,_=>none
theorem sIndexAddr_sound {T:TypeId→Option Ty} {h:Option (Nat→D)} {t:TypeId} {x ix v:V} {ps:List Prop} (e:sIndexAddr T h t x ix = some (ps,v)) (hp:AllP ps):indexAddrA T t x ix = some v:=by
 unfold sIndexAddr at e
 unfold indexAddrA
 split at e
 ·rename_i y q n hy
  rw [hy]
  simp only at e ⊢
  split at e
  ·rename_i el hd
   simp only [hd]
   split at e
   ·rename_i z hz
    simp only [hz]
    split at e
    ·cases e
     simp only
     rw [if_pos hp.1]
    ·split at e
     ·rename_i es fh
      cases e
      obtain ⟨h1,h2,h3,_⟩:=hp
      simp only
      rw [if_pos h1,h2]
      simp only
      rw [if_pos h3]
     ·cases e
    ·cases e
   ·cases e
  ·cases e
 ·cases e
def loadE (y:Ty) (k f:Nat) (e:D):Option V :=
 if y.agg then
  if f = 0∧y.size = k then some (.d (.agg e.cells))
  else if f + y.size ≤ k then some (.d (.agg ((e.cells.drop f).take y.size))) else none
 else match e.cells[f]? with
  | some c=>some (.d c)
  | none=>none
def sLoad (T:TypeId→Option Ty) (h:Hint) (g:Look) (t:TypeId) (a:V):Option (List Prop × V) :=
 match a with
 | .pt r k i f=>match h.row r with
  | some fh=>match T t,g r with
   | some y,some (.dat k' es _)=>match loadE y k f (fh i) with
    | some v=>some ([k = k'∧es[i]? = some (fh i)],v)
    | none=>none
   | _,_=>none
  | none=>none
 | _=>none
theorem sLoad_sound {T:TypeId→Option Ty} {h:Hint} {g:Look} {t:TypeId} {a v:V} {ps:List Prop} (e:sLoad T h g t a = some (ps,v)) (hp:AllP ps):loadA T g t a = some v:=by
 unfold sLoad at e
 split at e
 ·rename_i r k i f
  split at e
  ·rename_i fh hfh
   split at e
   ·rename_i y k' es ro hy hg
    split at e
    ·rename_i v' hl
     cases e
     obtain ⟨⟨h1,h2⟩,_⟩:=hp
     unfold loadA
     simp only [hy,hg]
     rw [if_pos h1,h2]
     exact hl
    ·cases e
   ·cases e
  ·cases e
 ·cases e
def sIdxArr (T:TypeId→Option Ty) (h:Hint) (t:TypeId) (x ix:V):Option (List Prop × V) :=
 match h.ar with
 | true=>match T t,ix with
  | some y,.d (.int _ n)=>match y.desc with
   | .array len e=>match T e with
    | some z=>match x with
     | .pt r k i f=>some ([0 ≤ n∧n < (len:Int)],.pt r k i (f + n.toNat * z.size))
     | _=>none
    | none=>none
   | _=>none
  | _,_=>none
 | false=>none
theorem sIdxArr_sound {T:TypeId→Option Ty} {h:Hint} {t:TypeId} {x ix v:V} {ps:List Prop} (e:sIdxArr T h t x ix = some (ps,v)) (hp:AllP ps):indexAddrA T t x ix = some v:=by
 unfold sIdxArr at e
 unfold indexAddrA
 split at e
 ·split at e
  ·rename_i y q n hy
   rw [hy]
   simp only
   split at e
   ·rename_i len el hd
    simp only [hd]
    split at e
    ·rename_i z hz
     simp only [hz]
     split at e
     ·cases e
      simp only
      rw [if_pos hp.1]
     ·cases e
    ·cases e
   ·cases e
  ·cases e
 ·cases e
def sLoadBox (T:TypeId→Option Ty) (h:Hint) (g:Look) (t:TypeId) (a:V):Option (List Prop × V) :=
 match h.ar with
 | true=>match a with
  | .pt r k i f=>match h.row r with
   | some fh=>match T t,g r with
    | some y,some (.box cs _)=>match y.agg with
     | true=>none
     | false=>some ([cs[i * k + f]? = some (.d (fh (i * k + f)))],.d (fh (i * k + f)))
    | _,_=>none
   | none=>none
  | _=>none
 | false=>none
theorem sLoadBox_sound {T:TypeId→Option Ty} {h:Hint} {g:Look} {t:TypeId} {a v:V} {ps:List Prop} (e:sLoadBox T h g t a = some (ps,v)) (hp:AllP ps):loadA T g t a = some v:=by
 unfold sLoadBox at e
 split at e
 ·split at e
  ·rename_i r k i f
   split at e
   ·rename_i fh hfh
    split at e
    ·rename_i y cs ro hy hg
     split at e
     ·cases e
     ·rename_i ha
      cases e
      unfold loadA
      simp only [hy,hg,ha]
      exact hp.1
    ·cases e
   ·cases e
  ·cases e
 ·cases e
def sIndexArr (T:TypeId→Option Ty) (fh:Option (Nat→D)) (t:TypeId) (x ix:V):Option (List Prop × V) :=
 match fh with
 | some fh=>match T t,ix with
  | some y,.d (.int _ n)=>match y.desc,x with
   | .array len e,.d (.agg cs)=>match T e with
    | some z=>match z.agg with
     | true=>none
     | false=>some ([0 ≤ n∧n < (len:Int),cs[n.toNat * z.size]? = some (fh n.toNat)],.d (fh n.toNat))
    | none=>none
   | _,_=>none
  | _,_=>none
 | none=>none
theorem sIndexArr_sound {T:TypeId→Option Ty} {fh:Option (Nat→D)} {t:TypeId} {x ix v:V} {ps:List Prop} (e:sIndexArr T fh t x ix = some (ps,v)) (hp:AllP ps):indexA T t x ix = some v:=by
 unfold sIndexArr at e
 unfold indexA
 split at e
 ·split at e
  ·rename_i y q n hy
   rw [hy]
   simp only
   split at e
   ·rename_i len el cs hd
    simp only [hd]
    split at e
    ·rename_i z hz
     simp only [hz]
     split at e
     ·cases e
     ·rename_i ha
      cases e
      obtain ⟨h1,h2,_⟩:=hp
      rw [if_pos h1]
      unfold partA
      simp only [ha,h2]
      rfl
    ·cases e
   ·cases e
  ·cases e
 ·cases e
def sStoreBox (T:TypeId→Option Ty) (h:Hint) (g:Look) (t:TypeId) (a x:V):Option (List Prop × Res) :=
 match h.ar with
 | true=>match a,T t with
  | .pt r k i f,some y=>match g r with
   | some (.box cs false)=>some ([x.cells.length = y.size∧0 < y.size∧x.cells.all V.one = true,i * k + f + y.size ≤ cs.length],
     {v:=V.undef,ups:=[(r,.live (.box (patch cs (i * k + f) x.cells) false))] })
   | _=>none
  | _,_=>none
 | false=>none
theorem sStoreBox_sound {T:TypeId→Option Ty} {h:Hint} {g:Look} {t:TypeId} {a x:V} {ps:List Prop} {res:Res} (e:sStoreBox T h g t a x = some (ps,res)) (hp:AllP ps):storeA T g t a x = some res:=by
 unfold sStoreBox at e
 unfold storeA
 split at e
 ·split at e
  ·rename_i r k i f y hy
   simp only [hy]
   split at e
   ·rename_i cs hg
    cases e
    obtain ⟨a1,a2,_⟩:=hp
    rw [if_pos a1]
    simp only [hg]
    rw [if_pos a2]
   ·cases e
  ·cases e
 ·cases e
def sNat (o:Option V) (d:Nat):Option (List Prop × Nat) :=
 match o with
 | none=>some ([],d)
 | some (.d (.int _ n))=>some ([0 ≤ n],n.toNat)
 | _=>none
theorem sNat_sound {o:Option V} {d n:Nat} {ps:List Prop} (e:sNat o d = some (ps,n)) (hp:AllP ps):natOf o d = some n:=by
 unfold sNat at e
 split at e
 ·cases e; rfl
 ·cases e
  simp only [natOf]
  rw [if_pos hp.1]
 ·cases e
def sSlice (T:TypeId→Option Ty) (t:TypeId) (x:V) (lo hi mx:Option V):Option (List Prop × V) :=
 match T t with
 | some y=>match y.desc,x with
  | .slice e,.sl r k off len c ex=>match T e,sNat lo 0,sNat hi len with
   | some z,some (p1,l),some (p2,h)=>match mx with
    | none=>some (p1 ++ (p2 ++ [k = z.size∧l ≤ h∧h ≤ len]),.sl r k (off + l) (h - l) (c - l) ex)
    | some _=>match sNat mx 0 with
     | some (p3,m)=>some (p1 ++ (p2 ++ (p3 ++ [k = z.size∧l ≤ h∧h ≤ len∧h ≤ m∧m ≤ c∧hi.isSome = true])),.sl r k (off + l) (h - l) (m - l) true)
     | none=>none
   | _,_,_=>none
  | .slice e,.d (.list es)=>match T e,sNat lo 0,sNat hi es.length,mx with
   | some z,some (p1,l),some (p2,h),none=>some (p1 ++ (p2 ++ [l ≤ h∧h ≤ es.length,es.all (fun e=>e.cells.length == z.size) = true]),.d (.list ((es.drop l).take (h - l))))
   | _,_,_,_=>none
  | _,_=>none
 | none=>none
theorem sSlice_sound {T:TypeId→Option Ty} {g:Look} {t:TypeId} {x v:V} {lo hi mx:Option V} {ps:List Prop} (e:sSlice T t x lo hi mx = some (ps,v)) (hp:AllP ps):sliceA T g t x lo hi mx = some v:=by
 unfold sSlice at e
 unfold sliceA
 split at e
 ·rename_i y hy
  rw [hy]
  simp only
  split at e
  ·rename_i el r k off len c ex hd
   simp only [hd]
   split at e
   ·rename_i z p1 l p2 h hz hlo hhi
    split at e
    ·cases e
     obtain ⟨h1,h2⟩:=AllP_append hp
     obtain ⟨h3,h4⟩:=AllP_append h2
     simp only [hz,sNat_sound hlo h1,sNat_sound hhi h3]
     rw [if_pos ⟨h4.1.1,h4.1.2.1,.inl h4.1.2.2⟩]
    ·split at e
     ·rename_i p3 m hmx
      cases e
      obtain ⟨h1,h2⟩:=AllP_append hp
      obtain ⟨h3,h4⟩:=AllP_append h2
      obtain ⟨h5,h6⟩:=AllP_append h4
      obtain ⟨⟨a1,a2,a3,a4,a5,a6⟩,_⟩:=h6
      simp only [hz,sNat_sound hlo h1,sNat_sound hhi h3]
      rw [if_pos ⟨a1,a2,.inl a3⟩]
      simp only [sNat_sound hmx h5]
      rw [if_pos ⟨a4,a5,a6⟩]
     ·cases e
   ·cases e
  ·rename_i el es hd
   simp only [hd]
   split at e
   ·rename_i z p1 l p2 h hz hlo hhi
    cases e
    obtain ⟨h1,h2⟩:=AllP_append hp
    obtain ⟨h3,⟨h4,h5⟩,h6,_⟩:=AllP_append h2
    simp only [hz,sNat_sound hlo h1,sNat_sound hhi h3]
    rw [if_pos ⟨h4,h5,h6⟩]
   ·cases e
  ·cases e
 ·cases e
def sSliceC (T:TypeId→Option Ty) (g:Look) (t:TypeId) (x:V) (lo hi mx:Option V):Option (List Prop × V) :=
 match T t with
 | some y=>match y.desc,x with
  | .slice e,.sl r k off len c ex=>match T e,sNat lo 0,sNat hi len,g r with
   | some z,some (p1,l),some (p2,h),some (.dat _ es _)=>match mx with
    | none=>some (p1 ++ (p2 ++ [k = z.size∧l ≤ h∧h ≤ c∧off + h ≤ es.length]),.sl r k (off + l) (h - l) (c - l) ex)
    | some _=>match sNat mx 0 with
     | some (p3,m)=>some (p1 ++ (p2 ++ (p3 ++ [k = z.size∧l ≤ h∧h ≤ c∧off + h ≤ es.length∧h ≤ m∧m ≤ c∧hi.isSome = true])),.sl r k (off + l) (h - l) (m - l) true)
     | none=>none
   | _,_,_,_=>none
  | _,_=>none
 | none=>none
theorem sSliceC_sound {T:TypeId→Option Ty} {g:Look} {t:TypeId} {x v:V} {lo hi mx:Option V} {ps:List Prop} (e:sSliceC T g t x lo hi mx = some (ps,v)) (hp:AllP ps):sliceA T g t x lo hi mx = some v:=by
 unfold sSliceC at e
 unfold sliceA
 split at e
 ·rename_i y hy
  rw [hy]
  simp only
  split at e
  ·rename_i el r k off len c ex hd
   simp only [hd]
   split at e
   ·rename_i z p1 l p2 h es ro hz hlo hhi hg
    split at e
    ·cases e
     obtain ⟨h1,h2⟩:=AllP_append hp
     obtain ⟨h3,⟨a1,a2,a3,a4⟩,_⟩:=AllP_append h2
     simp only [hz,sNat_sound hlo h1,sNat_sound hhi h3]
     rw [if_pos ⟨a1,a2,.inr ⟨a3,by simp only [rowHas,hg]; exact decide_eq_true a4⟩⟩]
    ·split at e
     ·rename_i p3 m hmx
      cases e
      obtain ⟨h1,h2⟩:=AllP_append hp
      obtain ⟨h3,h4⟩:=AllP_append h2
      obtain ⟨h5,h6⟩:=AllP_append h4
      obtain ⟨⟨a1,a2,a3,b3,a4,a5,a6⟩,_⟩:=h6
      simp only [hz,sNat_sound hlo h1,sNat_sound hhi h3]
      rw [if_pos ⟨a1,a2,.inr ⟨a3,by simp only [rowHas,hg]; exact decide_eq_true b3⟩⟩]
      simp only [sNat_sound hmx h5]
      rw [if_pos ⟨a4,a5,a6⟩]
     ·cases e
   ·cases e
  ·cases e
 ·cases e
def sElems (g:Look) (k:Nat):V→Option (List Prop × List D)
 | .nil=>some ([],[])
 | .d (.list es)=>some ([es.all (fun e=>e.cells.length == k) = true],es)
 | .d (.str s)=>some ([k = 1],bytesD s)
 | .sl r k' off len _ _=>match g r with
  | some (.dat k'' es _)=>some ([k = k'∧k' = k''∧off + len ≤ es.length],(es.drop off).take len)
  | _=>none
 | _=>none
theorem sElems_sound {g:Look} {k:Nat} {v:V} {ps:List Prop} {ds:List D} (e:sElems g k v = some (ps,ds)) (hp:AllP ps):elemsA g k v = some ds:=by
 unfold sElems at e
 unfold elemsA elemsS
 split at e
 ·cases e; rfl
 ·cases e
  simp only
  rw [if_pos hp.1]
 ·cases e
  simp only
  rw [if_pos hp.1]
 ·rename_i r k' off len c ex
  split at e
  ·rename_i k'' es ro hg
   cases e
   simp only [hg]
   rw [if_pos hp.1]
  ·cases e
 ·cases e
def sAppend (T:TypeId→Option Ty) (md:Nat) (g:Look) (slot:Nat) (t u:TypeId) (s x:V):Option (List Prop × Res) :=
 match T t,T u with
 | some y,some yu=>match y.desc,isSrc yu.desc with
  | .slice e,true=>match T e with
   | some z=>match sElems g z.size x with
    | some (p,ds)=>match s with
     | .nil=>some (p ++ [0 < z.size∧ds.length ≠ 0∧2 * ds.length * z.bytes ≤ 2 ^ 48∧ds.length ≤ 2 ^ 62],{ v:=.sl slot z.size 0 ds.length ds.length false,fresh:=some (.dat z.size ds false) })
     | .sl r k off len c ex=>match g r with
      | some (.dat k' es ro) =>
       if md = 3 then some (p ++ [0 < z.size∧ds.length = 0],{ v:=.sl r k off len c ex })
       else if md = 2 then
        match ro with
        | true=>none
        | false=>some (p ++ [0 < z.size∧ds.length ≠ 0∧k = z.size∧k' = k∧off + len ≤ es.length∧len + ds.length ≤ c],
          {v:=.sl r k off (len + ds.length) c ex,ups:=[(r,.live (.dat k' (es.take (off + len) ++ ds ++ es.drop (off + len + ds.length)) false))] })
       else match ex,ro with
        | true,_=>some (p ++ [0 < z.size∧ds.length ≠ 0∧k = z.size∧k' = k∧off + len ≤ es.length∧¬ len + ds.length ≤ c∧2 * (len + ds.length) * z.bytes ≤ 2 ^ 48∧len + ds.length ≤ 2 ^ 62],
          {v:=.sl slot k 0 (len + ds.length) (len + ds.length) false,fresh:=some (.dat k' ((es.drop off).take len ++ ds) false) })
        | false,false=>some (p ++ [0 < z.size∧ds.length ≠ 0∧k = z.size∧k' = k∧off + len ≤ es.length∧¬ len + ds.length ≤ c∧2 * (len + ds.length) * z.bytes ≤ 2 ^ 48∧len + ds.length ≤ 2 ^ 62],
          {v:=.sl slot k 0 (len + ds.length) (len + ds.length) false,ups:=[(r,.dead)],fresh:=some (.dat k' ((es.drop off).take len ++ ds) false) })
        | _,_=>none
      | _=>none
     | _=>none
    | none=>none
   | none=>none
  | _,_=>none
 | _,_=>none
theorem sAppend_sound {T:TypeId→Option Ty} {md:Nat} {g:Look} {slot:Nat} {t u:TypeId} {s x:V} {ps:List Prop} {res:Res} (e:sAppend T md g slot t u s x = some (ps,res)) (hp:AllP ps):appendA T g slot t u s x = some res:=by
 unfold sAppend at e
 unfold appendA
 split at e
 ·rename_i y yu hy hyu
  simp only [hy,hyu]
  split at e
  ·rename_i el hd hdu
   simp only [hd,hdu]
   split at e
   ·rename_i z hz
    simp only [hz]
    split at e
    ·rename_i p ds hel
     split at e
     ·cases e
      obtain ⟨h1,⟨a1,a2,a3,a4⟩,_⟩:=AllP_append hp
      simp only [sElems_sound hel h1]
      rw [if_pos a1,if_neg a2,if_pos ⟨a3,a4⟩]
     ·rename_i r k off len c ex
      split at e
      ·rename_i k' es ro hg
       split at e
       ·cases e
        obtain ⟨h1,⟨a1,a2⟩,_⟩:=AllP_append hp
        simp only [sElems_sound hel h1,hg]
        rw [if_pos a1,if_pos a2]
       split at e
       ·split at e
        ·cases e
        ·cases e
         obtain ⟨h1,⟨a1,a2,a3,a4,a5,a6⟩,_⟩:=AllP_append hp
         simp only [sElems_sound hel h1,hg]
         rw [if_pos a1,if_neg a2,if_pos ⟨a3,a4,a5⟩,if_pos a6]
         rfl
       ·split at e
        ·cases e
         obtain ⟨h1,⟨a1,a2,a3,a4,a5,a6,a7,a8⟩,_⟩:=AllP_append hp
         simp only [sElems_sound hel h1,hg]
         rw [if_pos a1,if_neg a2,if_pos ⟨a3,a4,a5⟩,if_neg a6,if_pos ⟨a7,a8⟩]
         rfl
        ·cases e
         obtain ⟨h1,⟨a1,a2,a3,a4,a5,a6,a7,a8⟩,_⟩:=AllP_append hp
         simp only [sElems_sound hel h1,hg]
         rw [if_pos a1,if_neg a2,if_pos ⟨a3,a4,a5⟩,if_neg a6,if_pos ⟨a7,a8⟩]
         rfl
        ·cases e
      ·cases e
     ·cases e
    ·cases e
   ·cases e
  ·cases e
 ·cases e
def sCopy (T:TypeId→Option Ty) (g:Look) (t:TypeId) (d s:V):Option (List Prop × Res) :=
 match T t with
 | some y=>match y.desc with
  | .slice e=>match T e with
   | some z=>match d,sElems g z.size s with
    | .sl r k off len _ _,some (p,ds)=>match g r with
     | some (.dat k' es false)=>some (p ++ [k = z.size∧k' = k∧off + len ≤ es.length],
       {v:=.d (.int .i64 (min ds.length len:Nat)),ups:=[(r,.live (.dat k' (es.take off ++ ds.take (min ds.length len) ++ es.drop (off + min ds.length len)) false))] })
     | _=>none
    | _,_=>none
   | none=>none
  | _=>none
 | none=>none
theorem sCopy_sound {T:TypeId→Option Ty} {g:Look} {t:TypeId} {d s:V} {ps:List Prop} {res:Res} (e:sCopy T g t d s = some (ps,res)) (hp:AllP ps):copyA T g t d s = some res:=by
 unfold sCopy at e
 unfold copyA
 split at e
 ·rename_i y hy
  simp only [hy]
  split at e
  ·rename_i el hd
   simp only [hd]
   split at e
   ·rename_i z hz
    simp only [hz]
    split at e
    ·rename_i r k off len c ex p ds hel
     split at e
     ·rename_i k' es hg
      cases e
      obtain ⟨h1,h2,_⟩:=AllP_append hp
      simp only [sElems_sound hel h1,hg]
      rw [if_pos h2]
     ·cases e
    ·cases e
   ·cases e
  ·cases e
 ·cases e
def sClear (T:TypeId→Option Ty) (g:Look) (t:TypeId) (d:V):Option (List Prop × Res) :=
 match T t with
 | some y=>match y.desc with
  | .slice e=>match T e with
   | some z=>match d with
    | .sl r k off len _ _=>match g r,ofVals z.zero.cells.toList with
     | some (.dat k' es false),some zs=>match toDs (fun _=>none) zs with
      | some (ds,_)=>some ([k = z.size∧k' = k∧0 < k∧off + len ≤ es.length∧zs.length = z.size],
        {v:=V.undef,ups:=[(r,.live (.dat k' (es.take off ++ List.replicate len (mkElem z.agg ds) ++ es.drop (off + len)) false))] })
      | none=>none
     | _,_=>none
    | _=>none
   | none=>none
  | _=>none
 | none=>none
theorem sClear_sound {T:TypeId→Option Ty} {g:Look} {t:TypeId} {d:V} {ps:List Prop} {res:Res} (e:sClear T g t d = some (ps,res)) (hp:AllP ps):clearA T g t d = some res:=by
 unfold sClear at e
 unfold clearA
 split at e
 ·rename_i y hy
  simp only [hy]
  split at e
  ·rename_i el hd
   simp only [hd]
   split at e
   ·rename_i z hz
    simp only [hz]
    split at e
    ·rename_i r k off len c ex
     split at e
     ·rename_i k' es zs hg hzs
      split at e
      ·rename_i ds us hds
       cases e
       simp only [hg,hzs,hds]
       rw [if_pos hp.1]
      ·cases e
     ·cases e
    ·cases e
   ·cases e
  ·cases e
 ·cases e
def sStore (T:TypeId→Option Ty) (h:Hint) (g:Look) (t:TypeId) (a x:V):Option (List Prop × Res) :=
 match a,T t with
 | .pt r k i f,some y=>match g r with
  | some (.dat k' es false)=>match toDs g x.cells with
   | some (ds,us)=>match (if f = 0∧y.size = k then none else h.row r) with
    | some fh=>some ([x.cells.length = y.size∧0 < y.size∧x.cells.all V.one = true,es[i]? = some (fh i),k = k'∧f + y.size ≤ k∧us.all (fun u=>u.1 != r) = true],
      {v:=V.undef,ups:=us ++ [(r,.live (.dat k' (es.set i (if f = 0∧y.size = k then mkElem y.agg ds else D.agg (patch (fh i).cells f ds))) false))] })
    | none=>some ([x.cells.length = y.size∧0 < y.size∧x.cells.all V.one = true,i < es.length,k = k'∧f = 0∧y.size = k∧us.all (fun u=>u.1 != r) = true],
      {v:=V.undef,ups:=us ++ [(r,.live (.dat k' (es.set i (mkElem y.agg ds)) false))] })
   | none=>none
  | _=>none
 | _,_=>none
theorem sStore_sound {T:TypeId→Option Ty} {h:Hint} {g:Look} {t:TypeId} {a x:V} {ps:List Prop} {res:Res} (e:sStore T h g t a x = some (ps,res)) (hp:AllP ps):storeA T g t a x = some res:=by
 unfold sStore at e
 unfold storeA
 split at e
 ·rename_i r k i f y hy
  simp only [hy]
  split at e
  ·rename_i k' es hg
   split at e
   ·rename_i ds us hds
    split at e
    ·rename_i fh hfh
     cases e
     obtain ⟨a1,a2,a3,_⟩:=hp
     rw [if_pos a1]
     simp only [hg,hds,a2]
     rw [if_pos a3]
    ·cases e
     obtain ⟨a1,a2,⟨b1,b2,b3,b4⟩,_⟩:=hp
     rw [if_pos a1]
     simp only [hg,hds,List.getElem?_eq_getElem a2]
     rw [if_pos ⟨b1,by omega,b4⟩,if_pos ⟨b2,b3⟩]
   ·cases e
  ·cases e
 ·cases e
def sNilEq (T:TypeId→Option Ty) (op:BinOp) (t:TypeId) (x y:V):Option (List Prop × V) :=
 match x,y with
 | .sl _ _ _ _ c _,.nil=>match T t with
  | some z=>match z.desc,op with
   | .slice _,.eql=>some ([0 < c],.d (.bool false))
   | .slice _,.neq=>some ([0 < c],.d (.bool true))
   | _,_=>none
  | none=>none
 | .d (.list es),.nil=>match T t with
  | some z=>match z.desc,op with
   | .slice _,.eql=>some ([es ≠ []],.d (.bool false))
   | .slice _,.neq=>some ([es ≠ []],.d (.bool true))
   | _,_=>none
  | none=>none
 | _,_=>none
theorem sNilEq_sound {T:TypeId→Option Ty} {op:BinOp} {t:TypeId} {x y v:V} {ps:List Prop} (e:sNilEq T op t x y = some (ps,v)) (hp:AllP ps):binA T op t x y = some v:=by
 unfold sNilEq at e
 split at e
 ·rename_i r k off len c ex
  split at e
  ·rename_i z hz
   split at e
   ·rename_i el hd
    cases e
    obtain ⟨c',rfl⟩:∃ c',c = c' + 1:=⟨c - 1,by have:=hp.1; omega⟩
    simp only [binA,eqA,hz,nilEq,hd]
   ·rename_i el hd
    cases e
    obtain ⟨c',rfl⟩:∃ c',c = c' + 1:=⟨c - 1,by have:=hp.1; omega⟩
    simp only [binA,eqA,hz,nilEq,hd]
    rfl
   ·cases e
  ·cases e
 ·rename_i es
  split at e
  ·rename_i z hz
   split at e
   ·rename_i el hd
    cases e
    cases es with
    | nil=>exact absurd rfl hp.1
    | cons x es =>
     simp only [binA,eqA,hz,nilEq,hd]
   ·rename_i el hd
    cases e
    cases es with
    | nil=>exact absurd rfl hp.1
    | cons x es =>
     simp only [binA,eqA,hz,nilEq,hd]
     rfl
   ·cases e
  ·cases e
 ·cases e
def inInt (n:Int):Prop:=-9223372036854775808 ≤ n∧n ≤ 9223372036854775807
theorem wrap_in {n:Int} (h:inInt n):IntKind.wrap .i64 n = n:=by
 unfold inInt at h
 simp [IntKind.wrap,IntKind.bits,IntKind.signed]
 omega
def sArith (op:BinOp) (x y:V):Option (List Prop × V) :=
 match x,y with
 | .d (.int .i64 a),.d (.int .i64 b)=>match op with
  | .add=>some ([inInt (a + b)],.d (.int .i64 (a + b)))
  | .sub=>some ([inInt (a - b)],.d (.int .i64 (a - b)))
  | .mul=>some ([inInt (a * b)],.d (.int .i64 (a * b)))
  | _=>none
 | _,_=>none
theorem sArith_sound {T:TypeId→Option Ty} {op:BinOp} {t:TypeId} {x y v:V} {ps:List Prop} (e:sArith op x y = some (ps,v)) (hp:AllP ps):binA T op t x y = some v:=by
 unfold sArith at e
 split at e
 ·split at e
  ·cases e; simp only [binA,if_true,intBin,Option.map_some,wrap_in hp.1]
  ·cases e; simp only [binA,if_true,intBin,Option.map_some,wrap_in hp.1]
  ·cases e; simp only [binA,if_true,intBin,Option.map_some,wrap_in hp.1]
  ·cases e
 ·cases e
def sShift (op:BinOp) (x y:V):Option (List Prop × V) :=
 match x,y with
 | .d (.int k a),.d (.int k' b)=>match op with
  | .shl=>some ([0 ≤ b],.d (.int k (k.wrap (a * 2 ^ (min b.toNat k.bits)))))
  | .shr=>some ([0 ≤ b],.d (.int k (a.fdiv (2 ^ (min b.toNat k.bits)))))
  | .quo=>some ([k = k',b ≠ 0],.d (.int k (k.wrap (a.tdiv b))))
  | .rem=>some ([k = k',b ≠ 0],.d (.int k (a.tmod b)))
  | _=>none
 | _,_=>none
theorem sShift_sound {T:TypeId→Option Ty} {op:BinOp} {t:TypeId} {x y v:V} {ps:List Prop} (e:sShift op x y = some (ps,v)) (hp:AllP ps):binA T op t x y = some v:=by
 unfold sShift at e
 split at e
 ·split at e
  ·cases e; simp only [binA]; rw [if_neg (by have:=hp.1; omega)]
  ·cases e; simp only [binA]; rw [if_neg (by have:=hp.1; omega)]
  ·cases e
   obtain ⟨h1,h2,_⟩:=hp
   simp only [binA]
   rw [if_pos h1]
   simp only [intBin]
   rw [if_neg h2]
   rfl
  ·cases e
   obtain ⟨h1,h2,_⟩:=hp
   simp only [binA]
   rw [if_pos h1]
   simp only [intBin]
   rw [if_neg h2]
   rfl
  ·cases e
 ·cases e
def sPick (h:Hint) (c:Operand) (b:Bool) (x y:V):Option (List Prop × V) :=
 match c with
 | .tmp t=>match h.gd t with
  | some v=>some ([b = v],match v with | true=>x | false=>y)
  | none=>none
 | _=>none
theorem sPick_sound {h:Hint} {c:Operand} {b:Bool} {x y v:V} {ps:List Prop} (e:sPick h c b x y = some (ps,v)) (hp:AllP ps):(if b then x else y) = v:=by
 unfold sPick at e
 split at e
 ·split at e
  ·rename_i bv _
   cases e
   have:=hp.1
   subst this
   cases b <;> rfl
  ·cases e
 ·cases e
def unB:D→UInt8
 | .int _ n=>UInt8.ofNat n.toNat
 | _=>0
theorem unB_byteD (c:UInt8):unB (byteD c) = c:=by simp [unB,byteD]
theorem unB_bytes (l:List UInt8):(bytesL l).map unB = l:=by
 unfold bytesL; rw [List.map_map]
 have:unB ∘ byteD = id:=by funext c; exact unB_byteD c
 rw [this,List.map_id]
def sConv (T:TypeId→Option Ty) (s d:TypeId) (x:V):Option (List Prop × V) :=
 match T s,T d with
 | some y,some z=>match y.desc,z.desc with
  | .slice e,.string=>match isU8 T e,x with
   | true,.d (.list ds)=>some ([ds = bytesL (ds.map unB)],.d (.str ⟨(ds.map unB).toArray⟩))
   | _,_=>none
  | _,_=>none
 | _,_=>none
def one (r:Option (List Prop × V)):Option (List Prop × Res):=r.map fun p=>(p.1,{ v:=p.2 })
def dflt (r:Option Res):Option (List Prop × Res):=r.map fun x=>([],x)
def orElse (a b:Option (List Prop × Res)):Option (List Prop × Res) :=
 match a with
 | some x=>some x
 | none=>b
def sAct (T:TypeId→Option Ty) (h:Hint) (g:Look) (slot:Nat) (o:Op) (vs:List V):Option (List Prop × Res) :=
 match o with
 | .indexAddr t a _=>match vs with
  | [x,i]=>orElse (one (sIndexAddr T (h.at a) t x i)) (orElse (one (sIdxArr T h t x i)) (dflt (act T g slot o vs)))
  | _=>none
 | .load t _=>match vs with
  | [a]=>orElse (one (sLoad T h g t a)) (orElse (one (sLoadBox T h g t a)) (dflt (act T g slot o vs)))
  | _=>none
 | .store t _ _=>match vs with
  | [a,x]=>orElse (sStore T h g t a x) (orElse (sStoreBox T h g t a x) (dflt (act T g slot o vs)))
  | _=>none
 | .index t a _=>match vs with
  | [x,i]=>orElse (one (sIndexArr T (h.at a) t x i)) (dflt (act T g slot o vs))
  | _=>none
 | .slice t _ l hh mx=>match vs with
  | x :: vs'=>orElse (match Nat.ble 2 h.md with
    | true=>one (sSliceC T g t x (takeOpt l vs').1 (takeOpt hh (takeOpt l vs').2).1 (takeOpt mx (takeOpt hh (takeOpt l vs').2).2).1)
    | false=>none) (orElse (one (sSlice T t x (takeOpt l vs').1 (takeOpt hh (takeOpt l vs').2).1 (takeOpt mx (takeOpt hh (takeOpt l vs').2).2).1)) (dflt (act T g slot o vs)))
  | _=>none
 | .binOp op t _ _ _=>match vs with
  | [x,y]=>orElse (one (sArith op x y)) (orElse (one (sNilEq T op t x y)) (orElse (match h.sh with
    | true=>one (sShift op x y)
    | false=>none) (dflt (act T g slot o vs))))
  | _=>none
 | .pick c _ _=>match vs with
  | [.d (.bool b),x,y]=>orElse (one (sPick h c b x y)) (dflt (act T g slot o vs))
  | _=>none
 | .convert a b _=>match vs with
  | [x]=>orElse (one (sConv T a b x)) (dflt (act T g slot o vs))
  | _=>none
 | .call c=>match c.callee with
  | .builtin .append=>match h.md with
   | 0=>dflt (act T g slot o vs)
   | md=>match c.argTypes.toList,vs with
    | [t,u],[s,x]=>sAppend T md g slot t u s x
    | _,_=>none
  | .builtin .copy=>match c.argTypes.toList,vs with
   | [t,_],[d,s]=>sCopy T g t d s
   | _,_=>none
  | .builtin .clear=>match c.argTypes.toList,vs with
   | [t],[d]=>orElse (sClear T g t d) (dflt (act T g slot o vs))
   | _,_=>none
  | _=>dflt (act T g slot o vs)
 | _=>dflt (act T g slot o vs)
theorem bytesOf_bytesL:∀ l:List UInt8,bytesOf (bytesL l) = some l
 | []=>rfl
 | c :: l=>by
  have e:byteOf (byteD c) = some c:=by
   unfold byteOf byteD
   simp [c.toNat_lt]
  show bytesOf (byteD c :: bytesL l) = _
  simp only [bytesOf,e,bytesOf_bytesL l]
theorem sConv_sound {T:TypeId→Option Ty} {g:Look} {s d:TypeId} {x v:V} {ps:List Prop} (e:sConv T s d x = some (ps,v)) (hp:AllP ps):convR T g s d x = some { v:=v }:=by
 unfold sConv at e
 split at e
 ·rename_i y z hy hz
  split at e
  ·rename_i el h1 h2
   split at e
   ·rename_i ds h8
    cases e
    have he:ds = bytesL (ds.map unB):=hp.1
    have hb:bytesOf ds = some (ds.map unB):=by
     have:=bytesOf_bytesL (ds.map unB)
     rw [← he] at this
     exact this
    have hall:ds.all (fun e=>e.cells.length == 1) = true:=by
     rw [List.all_eq_true]
     intro e hm
     rw [he] at hm
     obtain ⟨u,_,rfl⟩:=List.mem_map.1 hm
     rfl
    simp only [convR,hy,hz,h1,h2,h8,if_true,elemsS,hall,hb]
   ·cases e
  ·cases e
 ·cases e
theorem orElse_sound {a b:Option (List Prop × Res)} {r:Option Res} (ha:∀ ps res,a = some (ps,res)→AllP ps→r = some res) (hb:∀ ps res,b = some (ps,res)→AllP ps→r = some res) {ps:List Prop} {res:Res}
  (e:orElse a b = some (ps,res)) (hp:AllP ps):r = some res:=by
 unfold orElse at e
 split at e
 ·cases e; exact ha _ _ rfl hp
 ·exact hb _ _ e hp
theorem dflt_sound {r:Option Res} (ps:List Prop) (res:Res) (e:dflt r = some (ps,res)) (_:AllP ps):r = some res:=by
 unfold dflt at e
 cases r with
 | none=>cases e
 | some x=>cases e; rfl
theorem one_sound' {a:Option (List Prop × V)} {r:Option V} (h:∀ ps v,a = some (ps,v)→AllP ps→r = some v) (ps:List Prop) (res:Res) (e:one a = some (ps,res)) (hp:AllP ps):(r.map fun v=>({ v }:Res)) = some res:=by
 unfold one at e
 cases a with
 | none=>cases e
 | some p=>cases e; rw [h _ _ rfl hp]; rfl
theorem one_soundB {a:Option (List Prop × V)} {r:Option V} {d:Option Res} (h:∀ ps v,a = some (ps,v)→AllP ps→r = some v) (ps:List Prop) (res:Res) (e:one a = some (ps,res)) (hp:AllP ps):orD r d = some res:=by
 unfold one at e
 cases a with
 | none=>cases e
 | some p=>cases e; rw [h _ _ rfl hp]; rfl
theorem sAct_sound {T:TypeId→Option Ty} {h:Hint} {g:Look} {slot:Nat} {o:Op} {vs:List V} {ps:List Prop} {res:Res} (e:sAct T h g slot o vs = some (ps,res)) (hp:AllP ps):act T g slot o vs = some res:=by
 unfold sAct at e
 split at e
 ·split at e
  ·exact orElse_sound (one_sound' fun ps v e hp=>sIndexAddr_sound e hp) (fun ps res e hp=>orElse_sound (one_sound' fun ps v e hp=>sIdxArr_sound e hp) dflt_sound e hp) e hp
  ·cases e
 ·split at e
  ·exact orElse_sound (one_sound' fun ps v e hp=>sLoad_sound e hp) (fun ps res e hp=>orElse_sound (one_sound' fun ps v e hp=>sLoadBox_sound e hp) dflt_sound e hp) e hp
  ·cases e
 ·split at e
  ·exact orElse_sound (fun ps v e hp=>sStore_sound e hp) (fun ps res e hp=>orElse_sound (fun ps v e hp=>sStoreBox_sound e hp) dflt_sound e hp) e hp
  ·cases e
 ·split at e
  ·exact orElse_sound (one_sound' fun ps v e hp=>sIndexArr_sound e hp) dflt_sound e hp
  ·cases e
 ·split at e
  ·refine orElse_sound (fun ps res e hp=>?_) (fun ps res e hp=>orElse_sound (one_sound' fun ps v e hp=>sSlice_sound (g:=g) e hp) dflt_sound e hp) e hp
   split at e
   ·exact one_sound' (fun ps v e hp=>sSliceC_sound (g:=g) e hp) ps res e hp
   ·cases e
  ·cases e
 ·split at e
  ·exact orElse_sound (one_soundB fun ps v e hp=>sArith_sound e hp) (fun ps res e hp=>orElse_sound (one_soundB fun ps v e hp=>sNilEq_sound e hp) (fun ps res e hp=>orElse_sound (fun ps res e hp=>by
    split at e
    ·exact one_soundB (fun ps v e hp=>sShift_sound e hp) ps res e hp
    ·cases e) dflt_sound e hp) e hp) e hp
  ·cases e
 ·rename_i cnd _ _
  split at e
  ·rename_i b x y
   refine orElse_sound (fun ps res e hp=>?_) dflt_sound e hp
   unfold one at e
   cases hq:sPick h cnd b x y with
   | none=>rw [hq] at e; cases e
   | some p =>
    rw [hq] at e
    cases e
    have:=sPick_sound (v:=p.2) (ps:=p.1) hq hp
    simp only [act]
    rw [this]
  ·cases e
 ·split at e
  ·rename_i x
   refine orElse_sound (fun ps res e hp=>?_) dflt_sound e hp
   unfold one at e
   cases hq:sConv T _ _ x with
   | none=>rw [hq] at e; cases e
   | some p =>
    rw [hq] at e
    cases e
    simp only [act]
    exact sConv_sound (v:=p.2) (ps:=p.1) hq hp
  ·cases e
 ·rename_i c
  split at e
  ·rename_i hc
   split at e
   ·exact dflt_sound _ _ e hp
   ·split at e
    ·rename_i t u s x hts
     simp only [act,hc,hts]
     rw [sAppend_sound e hp]
    ·cases e
  ·rename_i hc
   split at e
   ·rename_i t u d s hts
    simp only [act,hc,hts]
    exact sCopy_sound e hp
   ·cases e
  ·rename_i hc
   split at e
   ·rename_i t d hts
    refine orElse_sound (fun ps v e hp=>?_) dflt_sound e hp
    simp only [act,hc,hts]
    exact sClear_sound e hp
   ·cases e
  ·exact dflt_sound _ _ e hp
 ·exact dflt_sound _ _ e hp
end Go.Aev
end
