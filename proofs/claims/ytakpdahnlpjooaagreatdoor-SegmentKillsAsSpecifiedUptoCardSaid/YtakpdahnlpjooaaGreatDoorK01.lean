/- Lemmas: a machine that the model follows, and contracts. Conditions: none. -/
import Derived.Test.YtakpdahnlpjooaaGreatDoorK00
import Derived.Calls
import Derived.Below
set_option linter.all false
set_option maxRecDepth 1000000
set_option maxHeartbeats 0
noncomputable section
namespace Go.Aev
section
inductive D where
 | int (k:IntKind) (n:Int)
 | bool (b:Bool)
 | str (s:ByteArray)
 | list (es:List D)
 | agg (cs:List D)
 | nilp
 | nilf
 | nilm
 | nili
 deriving Inhabited
def D.cells:D->List D
 | .agg cs=>cs|d=>[d]
def D.isAgg:D->Bool
 | .agg _=>true|_=>false
def qn (es:List D):List D:=es.flatMap D.cells
inductive V where
 | d (x:D)
 | nil
 | sl (r k off len c:Nat) (ex:Bool)
 | pt (r k i f:Nat)
 | dp (x:D)
 | fn (f:FuncId) (cs:List V)
 | bf (f:FuncId) (fs:List V)
 | yl (r:Nat)
 | mp (r:Nat)
 | agg (cs:List V)
 | tup (vs:List V)
 | top
 | any
 | ifc (t:TypeId) (v:V)
 | fp (cs:List V)
 | fm (ks:List D) (vs:List V)
 deriving Inhabited
abbrev V.undef:V:=.tup []
def V.cells:V->List V
 | .agg cs=>cs|.d (.agg cs)=>cs.map V.d|v=>[v]
inductive Row where
 | dat (k:Nat) (es:List D) (ro:Bool)
 | box (cs:List V) (ro:Bool)
 | map (es:List (D×V)) (clock:Nat) (ro:Bool)
 | loop (st:LoopState) (pend:Option Code) (fn:FuncId) (env:List V) (params:List Tmp) (assign body:Code) (dfr:Nat)
 | dfr
 | iter (es:List (D×V)) (seen:List Nat)
inductive qc where
 | free
 | dead
 | live (r:Row)
instance:Inhabited qc:=⟨.dead⟩
def Row.rw:Row->Bool
 | .dat _ _ ro | .box _ ro | .map _ _ ro=>!ro|_=>true
abbrev Rows:=List qc
def Yf (w:World) (b:Nat):Nat :=
 match w.heap[b]? with
 | some (.cells c _ _)=>c.size|_=>0
abbrev cl (w:World) (b o:Nat):Option Value:=w.cell? ⟨b,o,none⟩
inductive RD (S:Nat->Prop) (w:World):D->Value->Prop
 | int (k n):RD S w (.int k n) (.int k n)
 | bool (b):RD S w (.bool b) (.bool b)
 | str (s):RD S w (.str s) (.string s)
 | nilp:RD S w .nilp (.pointer none)
 | nilf:RD S w .nilf .nilFunc
 | nilm:RD S w .nilm (.map none)
 | nili:RD S w .nili .nilIface
 | emp (p cap):RD S w (.list []) (.slice p 0 cap)
 | row (es:List D) (b o cap k n:Nat) (vs:Nat->Value) (hn:n=es.length) (hcap:n<=cap) (hS:S b)
   (hk:∀e∈es,e.cells.length=k) (h1:∀d∈qn es,d.isAgg=false)
   (hc:∀(j:Nat) (d:D),(qn es)[j]?=some d->cl w b (o+j)=some (vs j))
   (hd:∀(j:Nat) (d:D),(qn es)[j]?=some d->RD S w d (vs j)) :
   RD S w (.list es) (.slice (some ⟨b,o,none⟩) n cap)
 | agg (cs:List D) (arr:Array Value) (hlen:arr.size=cs.length)
   (hd:∀(j:Nat) (d:D) (v:Value),cs[j]?=some d->arr[j]?=some v->RD S w d v):RD S w (.agg cs) (.agg arr)
inductive RF (S:Nat->Prop) (w:World):V->Value->Prop
 | d (x v) (h:RD S w x v):RF S w (.d x) v
 | nil:RF S w .nil (.slice none 0 0)
 | fn (f cs) (arr:Array Value) (hlen:arr.size=cs.length)
   (hd:∀(j:Nat) (x:V) (v:Value),cs[j]?=some x->arr[j]?=some v->RF S w x v):RF S w (.fn f cs) (.func (.func f) #[] arr)
 | fp (cs:List V) (b o:Nat) (vs:Nat->Value) (hS:S b)
   (hc:∀(j:Nat) (x:V),cs[j]?=some x->cl w b (o+j)=some (vs j))
   (hd:∀(j:Nat) (x:V),cs[j]?=some x->RF S w x (vs j)):RF S w (.fp cs) (.pointer (some ⟨b,o,none⟩))
 | fm (ks:List D) (xs:List V) (b:Nat) (ents:Array MapEntry) (clock:Nat) (hS:S b) (hb:w.heap[b]?=some (.map ents clock)) (h1:ents.size=ks.length) (h2:xs.length=ks.length)
   (hk:∀(j:Nat) (k:D) (e:MapEntry),ks[j]?=some k->ents[j]?=some e->RD S w k e.key)
   (hv:∀(j:Nat) (x:V) (e:MapEntry),xs[j]?=some x->ents[j]?=some e->RF S w x e.val):RF S w (.fm ks xs) (.map (some b))
abbrev Mp:=Nat->Option (Nat×Nat)
inductive RV (m:Mp) (S:Nat->Prop) (w:World):V->Value->Prop
 | d (x v) (h:RD S w x v):RV m S w (.d x) v
 | nil:RV m S w .nil (.slice none 0 0)
 | sl (r k off len c ex b o c' p) (hm:m r=some (b,o)) (hl:len<=c') (hc:c<=c') (he:ex=true->c'=c)
   (hp:c'=0\/p=some ⟨b,o+off*k,none⟩) (hb:o+(off+c')*k<=Yf w b):RV m S w (.sl r k off len c ex) (.slice p len c')
 | pt (r k i f b o) (hm:m r=some (b,o)):RV m S w (.pt r k i f) (.pointer (some ⟨b,o+i*k+f,none⟩))
 | dp (x:D) (b o:Nat) (vs:Nat->Value) (hS:S b)
   (hc:∀(j:Nat) (d:D),x.cells[j]?=some d->cl w b (o+j)=some (vs j))
   (hd:∀(j:Nat) (d:D),x.cells[j]?=some d->RD S w d (vs j)):RV m S w (.dp x) (.pointer (some ⟨b,o,none⟩))
 | fn (f cs) (arr:Array Value) (hlen:arr.size=cs.length)
   (hd:∀(j:Nat) (x:V) (v:Value),cs[j]?=some x->arr[j]?=some v->RV m S w x v):RV m S w (.fn f cs) (.func (.func f) #[] arr)
 | bf (f fs) (arr:Array Value) (hlen:arr.size=fs.length)
   (hd:∀(j:Nat) (x:V) (v:Value),fs[j]?=some x->arr[j]?=some v->RV m S w x v):RV m S w (.bf f fs) (.func (.func f) arr #[])
 | yl (r b o) (hm:m r=some (b,o)):RV m S w (.yl r) (.func (.yield b) #[] #[])
 | mp (r b o) (hm:m r=some (b,o)):RV m S w (.mp r) (.map (some b))
 | agg (cs) (arr:Array Value) (hlen:arr.size=cs.length)
   (hd:∀(j:Nat) (x:V) (v:Value),cs[j]?=some x->arr[j]?=some v->RV m S w x v):RV m S w (.agg cs) (.agg arr)
 | tup (vs) (arr:Array Value) (hlen:arr.size=vs.length)
   (hd:∀(j:Nat) (x:V) (v:Value),vs[j]?=some x->arr[j]?=some v->RV m S w x v):RV m S w (.tup vs) (.tuple arr)
 | top (v) (h:v.oneCell'=true):RV m S w .top v
 | ifc (t:TypeId) (x v) (h:RV m S w x v):RV m S w (.ifc t x) (.iface t v)
 | fp (cs b o) (h:RF S w (.fp cs) (.pointer (some ⟨b,o,none⟩))):RV m S w (.fp cs) (.pointer (some ⟨b,o,none⟩))
 | fm (ks xs b) (h:RF S w (.fm ks xs) (.map (some b))):RV m S w (.fm ks xs) (.map (some b))
def RVs (m:Mp) (S:Nat->Prop) (w:World) (xs:List V) (arr:Array Value):Prop :=
 arr.size=xs.length/\∀(j:Nat) (x:V) (v:Value),xs[j]?=some x->arr[j]?=some v->RV m S w x v
def RE (m:Mp) (S:Nat->Prop) (w:World) (x:V) (v:Value):Prop:=x=.any\/RV m S w x v
def REs (m:Mp) (S:Nat->Prop) (w:World) (xs:List V) (arr:Array Value):Prop :=
 arr.size=xs.length/\∀(j:Nat) (x:V) (v:Value),xs[j]?=some x->arr[j]?=some v->RE m S w x v
def RVs.toE {m:Mp} {S:Nat->Prop} {w:World} {xs:List V} {arr:Array Value} (h:RVs m S w xs arr):REs m S w xs arr:=⟨h.1,fun j x v a b=>.inr (h.2 j x v a b)⟩
def qFC {w w':World} {b:Nat} (h:w'.heap[b]?=w.heap[b]?) (o:Nat):cl w' b o=cl w b o:=by
 simp only[cl,World.cell?];rw[h]
structure Ext (m:Mp) (S:Nat->Prop) (w:World) (m':Mp) (S':Nat->Prop) (w':World):Prop where
 map:∀r p,m r=some p->m' r=some p
 sub:∀b,S b->S' b
 obj:∀b,S b->w'.heap[b]?=w.heap[b]?
 size:∀b,Yf w b<=Yf w' b
def Ext.cell {m S w m' S' w'} (e:Ext m S w m' S' w') (b:Nat) (h:S b) (o:Nat):cl w' b o=cl w b o:=qFC (e.obj b h) o
def Ext.refl (m S w):Ext m S w m S w:=⟨fun _ _ h=>h,fun _ h=>h,fun _ _=>rfl,fun _=>qTF _⟩
def Ext.trans {m S w m1 S1 w1 m2 S2 w2} (h:Ext m S w m1 S1 w1) (k:Ext m1 S1 w1 m2 S2 w2):Ext m S w m2 S2 w2 :=
 ⟨fun r p e=>k.map r p (h.map r p e),fun b e=>k.sub b (h.sub b e),fun b e=>(k.obj b (h.sub b e)).trans (h.obj b e),
  fun b=>qT2 (h.size b) (k.size b)⟩
def RD.mono {S S' w w' d v} (h:RD S w d v) (hs:∀b,S b->S' b) (hc:∀b,S b->∀o,cl w' b o=cl w b o):RD S' w' d v:=by
 induction h with
 | int k n=>exact .int k n|bool b=>exact .bool b|str s=>exact .str s|nilp=>exact .nilp|nilf=>exact .nilf|nilm=>exact .nilm|nili=>exact .nili|emp p cap=>exact .emp p cap|row es b o cap k n vs hn hcap hS hk h1 hcl _ ih =>
  exact .row es b o cap k n vs hn hcap (hs b hS) hk h1 (fun j d e=>(hc b hS (o+j)).trans (hcl j d e)) (fun j d e=>ih j d e)
 | agg cs arr hlen _ ih=>exact .agg cs arr hlen (fun j d v e e'=>ih j d v e e')
def RD.ext {m S w m' S' w' d v} (h:RD S w d v) (e:Ext m S w m' S' w'):RD S' w' d v:=h.mono e.sub e.cell
def RF.ext {m S w m' S' w' x v} (h:RF S w x v) (e:Ext m S w m' S' w'):RF S' w' x v:=by
 induction h with
 | d x v h=>exact .d x v (h.ext e)|nil=>exact .nil|fn f cs arr hlen _ ih=>exact .fn f cs arr hlen ih|fp cs b o vs hS hc _ ih=>exact .fp cs b o vs (e.sub b hS) (fun j x h=>(e.cell b hS (o+j)).trans (hc j x h)) ih
 | fm ks xs b ents clock hS hb h1 h2 hk _ ih=>exact .fm ks xs b ents clock (e.sub b hS) ((e.obj b hS).trans hb) h1 h2 (fun j k x a c=>(hk j k x a c).ext e) ih
def RF.toRV {m S w x v} (h:RF S w x v):RV m S w x v:=by
 induction h with
 | d x v h=>exact .d x v h|nil=>exact .nil|fn f cs arr hlen _ ih=>exact .fn f cs arr hlen ih|fp cs b o vs hS hc hd _=>exact .fp cs b o (.fp cs b o vs hS hc hd)|fm ks xs b ents clock hS hb h1 h2 hk hv _=>exact .fm ks xs b (.fm ks xs b ents clock hS hb h1 h2 hk hv)
def RV.ext {m S w m' S' w' x v} (h:RV m S w x v) (e:Ext m S w m' S' w'):RV m' S' w' x v:=by
 induction h with
 | d x v h=>exact .d x v (h.ext e)|nil=>exact .nil|sl r k off len c ex b o c' p hm hl hc he hp hb=>exact .sl r k off len c ex b o c' p (e.map r _ hm) hl hc he hp (qT2 hb (e.size b))|pt r k i f b o hm=>exact .pt r k i f b o (e.map r _ hm)|dp x b o vs hS hc hd=>exact .dp x b o vs (e.sub b hS) (fun j d h=>(e.cell b hS (o+j)).trans (hc j d h)) (fun j d h=>(hd j d h).ext e)
 | fn f cs arr hlen _ ih=>exact .fn f cs arr hlen (fun j x v a b=>ih j x v a b)
 | bf f cs arr hlen _ ih=>exact .bf f cs arr hlen (fun j x v a b=>ih j x v a b)
 | yl r b o hm=>exact .yl r b o (e.map r _ hm)|mp r b o hm=>exact .mp r b o (e.map r _ hm)|agg cs arr hlen _ ih=>exact .agg cs arr hlen (fun j x v a b=>ih j x v a b)
 | tup vs arr hlen _ ih=>exact .tup vs arr hlen (fun j x v a b=>ih j x v a b)
 | top v h=>exact .top v h|ifc t x v _ ih=>exact .ifc t x v ih|fp cs b o h=>exact .fp cs b o (h.ext e)|fm ks xs b h=>exact .fm ks xs b (h.ext e)
def RVs.ext {m S w m' S' w' xs arr} (h:RVs m S w xs arr) (e:Ext m S w m' S' w'):RVs m' S' w' xs arr :=
 ⟨h.1,fun j x v a b=>(h.2 j x v a b).ext e⟩
def RE.ext {m S w m' S' w' x v} (h:RE m S w x v) (e:Ext m S w m' S' w'):RE m' S' w' x v:=h.imp id (·.ext e)
def REs.ext {m S w m' S' w' xs arr} (h:REs m S w xs arr) (e:Ext m S w m' S' w'):REs m' S' w' xs arr :=
 ⟨h.1,fun j x v a b=>(h.2 j x v a b).ext e⟩
def YF (m:Mp) (S:Nat->Prop) (w:World) (b o:Nat):Row->Prop
 | .dat k es _=>∃c e,w.heap[b]?=some (.cells c e (0,0))/\(∀x∈es,x.cells.length=k)/\(∀d∈qn es,d.isAgg=false) /\
   ∀(j:Nat) (d:D),(qn es)[j]?=some d->∃v,c[o+j]?=some v/\RD S w d v
 | .box cs _=>∃c e,w.heap[b]?=some (.cells c e (0,0))/\∀(j:Nat) (x:V),cs[j]?=some x->∃v,c[o+j]?=some v/\RV m S w x v|.map es clock _=>∃ents,w.heap[b]?=some (.map ents clock)/\ents.size=es.length/\(clock=es.length/\∀(j:Nat) (x:MapEntry),ents[j]?=some x->x.born=j) /\
   ∀(j:Nat) (e:D×V) (x:MapEntry),es[j]?=some e->ents[j]?=some x->RD S w e.1 x.key/\RV m S w e.2 x.val
 | .loop st pend fn env params assign body dfr=>∃L:Loop,w.heap[b]?=some (.loop L)/\L.state=st/\L.pending=pend/\L.fn=fn /\
   REs m S w env L.tmps/\L.params.toList=params/\L.assign=assign/\L.body=body/\∃o',m dfr=some (L.defers,o')
 | .dfr=>w.heap[b]?=some (.deferred (some []))|.iter es seen=>o=0/\∃(mb:Nat) (ents:Array MapEntry),S mb/\w.heap[mb]?=some (.map ents es.length)/\ents.size=es.length/\(∀(j:Nat) (x:MapEntry),ents[j]?=some x->x.born=j) /\
   (∀(j:Nat) (e:D×V) (x:MapEntry),es[j]?=some e->ents[j]?=some x->RD S w e.1 x.key/\RV m S w e.2 x.val)/\w.heap[b]?=some (.mapIter (some mb) es.length seen.toArray es.length)
def YF.ext {m S w m' S' w' b o row} (h:YF m S w b o row) (e:Ext m S w m' S' w') (hb:w'.heap[b]?=w.heap[b]?):YF m' S' w' b o row:=by
 cases row with
 | dat k es ro =>
  obtain⟨c,t,h1,h2,hn,h3⟩:=h;exact⟨c,t,hb.trans h1,h2,hn,fun j d hj=>let ⟨v,hv,hr⟩:=h3 j d hj; ⟨v,hv,hr.ext e⟩⟩
 | box cs ro =>
  obtain⟨c,t,h1,h3⟩:=h;exact⟨c,t,hb.trans h1,fun j d hj=>let ⟨v,hv,hr⟩:=h3 j d hj; ⟨v,hv,hr.ext e⟩⟩
 | map es clock ro =>
  obtain⟨ents,h1,h2,hbn,h3⟩:=h;exact⟨ents,hb.trans h1,h2,hbn,fun j d x hj hx=>⟨(h3 j d x hj hx).1.ext e,(h3 j d x hj hx).2.ext e⟩⟩
 | loop st pend fn env params assign body dfr =>
  obtain⟨L,h1,h2,h3,h4,h5,h6,h7,h8,o',h9⟩:=h;exact⟨L,hb.trans h1,h2,h3,h4,h5.ext e,h6,h7,h8,o',e.map _ _ h9⟩
 | dfr=>exact hb.trans h|iter es seen =>
  obtain⟨h0,mb,ents,hS,h1,h2,hbn,h3,h4⟩:=h;exact⟨h0,mb,ents,e.sub mb hS,(e.obj mb hS).trans h1,h2,hbn,fun j d x hj hx=>⟨(h3 j d x hj hx).1.ext e,(h3 j d x hj hx).2.ext e⟩,hb.trans h4⟩
structure Own where
 wr:Nat->Prop
 st:Nat->Prop
instance:CoeFun Own (fun _=>Nat->Prop):=⟨Own.wr⟩
class Glob where
 gl:Nat->Option D
 mkb:Nat->Bool:=fun _=>false
variable [Glob]
def Glb (S:Nat->Prop) (w:World):Prop:=∀g x,Glob.gl g=some x->RV (fun _=>Option.none) S w (.dp x) (.pointer (some ⟨g,0,none⟩))
def Glb.ext {m m':Mp} {S S':Nat->Prop} {w w':World} (h:Glb S w) (e:Ext m S w m' S' w'):Glb S' w':=fun g x hx =>
 (h g x hx).ext (m:=fun _=>Option.none) (m':=fun _=>Option.none) ⟨fun _ _ e=>e,e.sub,e.obj,e.size⟩
def Glb.any {m:Mp} {S:Nat->Prop} {w:World} (h:Glb S w) {g:Nat} {x:D} (hx:Glob.gl g=some x):RV m S w (.dp x) (.pointer (some ⟨g,0,none⟩)) :=
 (h g x hx).ext (m:=fun _=>Option.none) ⟨fun _ _ e=>(by cases e),fun _ e=>e,fun _ _=>rfl,fun _=>qTF _⟩
structure Inv (w0:World) (own:Own) (m:Mp) (S:Nat->Prop) (w:World) (rows:Rows):Prop where
 none:∀r,rows.length<=r->m r=none
 fre:∀r,rows[r]?=some .free->m r=Option.none
 row:∀r row,rows[r]?=some (.live row)->∃b o,m r=some (b,o)/\YF m S w b o row
 bnd:∀r b o,m r=some (b,o)->b<w.heap.size
 new:∀r row b o,rows[r]?=some (.live row)->row.rw=true->m r=some (b,o)->w0.heap.size<=b\/own b
 apart:∀r r' row row' b o b' o',r≠r'->rows[r]?=some (.live row)->rows[r']?=some (.live row')->row.rw=true->m r=some (b,o)->m r'=some (b',o')->b≠b'
 stab:∀r row b o,rows[r]?=some (.live row)->row.rw=true->m r=some (b,o)->¬S b
 rost:∀r row b o,rows[r]?=some (.live row)->row.rw=false->m r=some (b,o)->S b
 sbnd:∀b,S b->b<w.heap.size
 base:∀b,S b->own.st b\/w0.heap.size<=b\/own b
 stb:∀b,own.st b->S b
 os:w.os=w0.os
 tape:w.tape=w0.tape
 output:w.output=w0.output
 grow:w0.heap.size<=w.heap.size
 kept:∀b,b<w0.heap.size->¬own b->w.heap[b]?=w0.heap[b]?
 glb:Glb S w
def qlk {w w':World} {b:Nat} (h:w'.heap[b]?=w.heap[b]?):Yf w' b=Yf w b:=by
 simp only[Yf];rw[h]
end
end Go.Aev
namespace Go.Aev
variable [Glob]
section
def qv (rows:Rows) (s:Nat) (x:qc):Rows:=if s<rows.length then rows.set s x else rows++[x]
def JJ {rows:Rows} {s:Nat} {x:qc} (h:s<=rows.length) (r:Nat):(qv rows s x)[r]?=if r=s then some x else rows[r]?:=by
 unfold qv
 by_cases hs:s<rows.length
 ·simp only[hs,if_true]
  by_cases hr:r=s
  ·subst hr; simp[hs]
  ·simp only[hr,if_false];rw[qUF (fun e=>hr e.symm)]
 ·have e:s=rows.length:=by omega
  subst e;simp only[Nat.lt_irrefl,if_false]
  by_cases hr:r=rows.length
  ·subst hr; simp
  ·simp only[hr,if_false];rcases qTQ r rows.length with h1|h1
   ·rw[qTZ h1]
   ·rw[qUc (by simp; omega),qUc h1]
def qU (m:Mp) (s:Nat) (p:Nat×Nat):Mp:=fun r=>if r=s then some p else m r
variable {w0:World} {own:Own} {m:Mp} {S:Nat->Prop} {w:World} {rows:Rows}
def Inv.same {w':World} (h:Inv w0 own m S w rows) (hh:w'.heap=w.heap) (ho:w'.os=w.os) (ht:w'.tape=w.tape) (hu:w'.output=w.output) :
  Inv w0 own m S w' rows/\Ext m S w m S w':=by
 have he:Ext m S w m S w':=⟨fun _ _ e=>e,fun _ e=>e,fun b _=>(by rw[hh]),fun b=>qVO (qlk (by rw[hh])).symm⟩
 refine⟨⟨h.none,h.fre,fun r row hr=>?_,fun r b o e=>by rw[hh]; exact h.bnd r b o e,h.new,h.apart,h.stab,h.rost,fun b e=>by rw[hh]; exact h.sbnd b e,h.base,h.stb,
  ho.trans h.os,ht.trans h.tape,hu.trans h.output,by rw[hh]; exact h.grow,fun b hb hn=>by rw[hh]; exact h.kept b hb hn,h.glb.ext he⟩,he⟩
 obtain⟨b,o,hm,hrel⟩:=h.row r row hr;exact⟨b,o,hm,hrel.ext he (by rw[hh])⟩
def Inv.kill (h:Inv w0 own m S w rows) (s:Nat) (hs:s<rows.length):Inv w0 own m S w (qv rows s qc.dead):=by
 have hl:(qv rows s qc.dead).length=rows.length:=by unfold qv; simp[hs]
 have hg:=fun(r:Nat)=>JJ (x:=qc.dead) (qUo hs) r
 have live:∀(r:Nat) (row:Row),(qv rows s qc.dead)[r]?=some (qc.live row)->rows[r]?=some (qc.live row):=by
  intro r row e;rw[hg]at e
  by_cases c:r=s
  ·simp[c]at e
  ·simpa[c]using e
 refine⟨fun r hr=>h.none r (by omega),fun r hr=>?_,fun r row hr=>h.row r row (live r row hr),h.bnd,fun r row b o h1=>h.new r row b o (live _ _ h1),
  fun r r' row row' b o b' o' hne h1 h2=>h.apart r r' row row' b o b' o' hne (live _ _ h1) (live _ _ h2),fun r row b o h1=>h.stab r row b o (live _ _ h1),
  fun r row b o h1=>h.rost r row b o (live _ _ h1),h.sbnd,h.base,h.stb,h.os,h.tape,h.output,h.grow,h.kept,h.glb⟩
 rw[hg]at hr
 by_cases c:r=s
 ·simp[c]at hr
 ·simp only[c,if_false]at hr; exact h.fre r hr
def Inv.scratch {w':World} (h:Inv w0 own m S w rows) (b:Nat) (hs:w.heap.size<=w'.heap.size)
  (hb:∀c,c<w.heap.size->c≠b->w'.heap[c]?=w.heap[c]?) (hnl:∀(r:Nat) (row:Row) (c o:Nat),rows[r]?=some (qc.live row)->m r=some (c,o)->c≠b) (hnS:¬S b)
  (hp:w0.heap.size<=b\/own b) (hbs:Yf w b<=Yf w' b) (ho:w'.os=w.os) (ht:w'.tape=w.tape) (hu:w'.output=w.output) :
  Inv w0 own m S w' rows/\Ext m S w m S w':=by
 have he:Ext m S w m S w':=by
  refine⟨fun _ _ e=>e,fun _ e=>e,fun c hc=>hb c (h.sbnd c hc) (fun e=>hnS (e ▸ hc)),fun c=>?_⟩
  by_cases e:c=b
  ·subst e; exact hbs
  ·rcases qTQ c w.heap.size with hl|hl
   ·exact qVO (qlk (hb c hl e)).symm
   ·have:Yf w c=0:=by unfold Yf; rw[qVP hl]
    omega
 refine⟨⟨h.none,h.fre,fun r row hr=>?_,fun r c o e=>qUn (h.bnd r c o e) hs,h.new,h.apart,h.stab,h.rost,fun c e=>qUn (h.sbnd c e) hs,h.base,h.stb,
  ho.trans h.os,ht.trans h.tape,hu.trans h.output,qT2 h.grow hs,fun c hc hn=>?_,h.glb.ext he⟩,he⟩
 ·obtain⟨c,o,hm,hrel⟩:=h.row r row hr;exact⟨c,o,hm,hrel.ext he (hb c (h.bnd r c o hm) (hnl r row c o hr hm))⟩
 ·have hne:c≠b:=by rintro rfl; rcases hp with hp|hp; omega; exact hn hp
  exact(hb c (qUn hc h.grow) hne).trans (h.kept c hc hn)
def Inv.adopt (h:Inv w0 own m S w rows) (s:Nat) (row:Row) (b o:Nat) (hs:s<=rows.length) (hd:∀row',rows[s]?≠some (qc.live row'))
  (hm:m s=Option.none\/m s=some (b,o)) (hnl:∀(r:Nat) (row:Row) (c o:Nat),rows[r]?=some (qc.live row)->m r=some (c,o)->c≠b) (hnS:¬S b) (hb:b<w.heap.size)
  (hp:w0.heap.size<=b\/own b) (hrw:row.rw=true) (hrel:YF (qU m s (b,o)) S w b o row) :
  Inv w0 own (qU m s (b,o)) S w (qv rows s (qc.live row))/\Ext m S w (qU m s (b,o)) S w:=by
 have hext:∀r p,m r=some p->qU m s (b,o) r=some p:=by
  intro r p e;unfold qU
  by_cases c:r=s
  ·subst c;rcases hm with hm|hm
   ·rw[hm]at e; cases e
   ·rw[hm]at e; cases e; simp
  ·simp[c,e]
 have he:Ext m S w (qU m s (b,o)) S w:=⟨hext,fun _ e=>e,fun _ _=>rfl,fun _=>qTF _⟩
 have hg:=fun(r:Nat)=>JJ (x:=qc.live row) hs r
 have hlen:rows.length<=(qv rows s (qc.live row)).length:=by unfold qv; split<;>simp
 have hlen':s<(qv rows s (qc.live row)).length:=by unfold qv; split<;>simp<;>omega
 have um:∀r,r≠s->qU m s (b,o) r=m r:=fun r c=>by unfold qU; simp[c]
 have us:qU m s (b,o) s=some (b,o):=by unfold qU; simp
 refine⟨⟨fun r hr=>?_,fun r hr=>?_,fun r row' hr=>?_,fun r c o' e=>?_,fun r row' c o' h1 hw e=>?_,fun r r' row1 row2 b1 o1 b2 o2 hne h1 h2 hw e1 e2=>?_,
  fun r row' c o' h1 hw e=>?_,fun r row' c o' h1 hw e=>?_,h.sbnd,h.base,h.stb,h.os,h.tape,h.output,h.grow,h.kept,h.glb.ext he⟩,he⟩
 ·rw[um r (by omega)]; exact h.none r (by omega)
 ·rw[hg]at hr
  by_cases c:r=s
  ·simp[c]at hr
  ·simp only[c,if_false]at hr; rw[um r c]; exact h.fre r hr
 ·rw[hg]at hr
  by_cases c:r=s
  ·subst c; simp at hr; subst hr; exact⟨b,o,us,hrel⟩
  ·simp only[c,if_false]at hr;obtain⟨b',o',hm',hr'⟩:=h.row r row' hr;exact⟨b',o',by rw[um r c]; exact hm',hr'.ext he rfl⟩
 ·by_cases c':r=s
  ·subst c'; rw[us]at e; cases e; exact hb
  ·rw[um r c']at e; exact h.bnd r c o' e
 ·rw[hg]at h1
  by_cases c':r=s
  ·subst c'; rw[us]at e; cases e; exact hp
  ·simp only[c',if_false]at h1; rw[um r c']at e; exact h.new r row' c o' h1 hw e
 ·rw[hg]at h1 h2
  by_cases c1:r=s
  ·subst c1;have c2:r'≠r:=fun e=>hne e.symm
   simp only[c2,if_false]at h2;rw[us]at e1; cases e1;rw[um r' c2]at e2;exact fun e=>hnl r' row2 b2 o2 h2 e2 e.symm
  ·simp only[c1,if_false]at h1;rw[um r c1]at e1
   by_cases c2:r'=s
   ·subst c2;rw[us]at e2; cases e2;exact hnl r row1 b1 o1 h1 e1
   ·simp only[c2,if_false]at h2;rw[um r' c2]at e2;exact h.apart r r' row1 row2 b1 o1 b2 o2 hne h1 h2 hw e1 e2
 ·rw[hg]at h1
  by_cases c':r=s
  ·subst c'; rw[us]at e; cases e; exact hnS
  ·simp only[c',if_false]at h1; rw[um r c']at e; exact h.stab r row' c o' h1 hw e
 ·rw[hg]at h1
  by_cases c':r=s
  ·subst c'; simp at h1; subst h1; rw[hrw]at hw; cases hw
  ·simp only[c',if_false]at h1; rw[um r c']at e; exact h.rost r row' c o' h1 hw e
def Row.freeze:Row->Row
 | .dat k es _=>.dat k es true|.box cs _=>.box cs true|.map es c _=>.map es c true|r=>r
def YF.freeze {b o:Nat} {row:Row} (h:YF m S w b o row):YF m S w b o row.freeze:=by cases row<;>exact h
def Inv.freeze (h:Inv w0 own m S w rows) (s:Nat) (row:Row) (b o:Nat) (hr:rows[s]?=some (qc.live row)) (hf:row.freeze.rw=false) (hw:row.rw=true) (hm:m s=some (b,o)) :
  Inv w0 own m (fun c=>S c\/c=b) w (qv rows s (qc.live row.freeze))/\Ext m S w m (fun c=>S c\/c=b) w:=by
 have hs:s<rows.length:=by
  rcases qTQ s rows.length with hl|hl
  ·exact hl
  ·rw[qUc hl]at hr; cases hr
 have hl:(qv rows s (qc.live row.freeze)).length=rows.length:=by unfold qv; simp[hs]
 have hg:=fun(r:Nat)=>JJ (x:=qc.live row.freeze) (qUo hs) r
 have he:Ext m S w m (fun c=>S c\/c=b) w:=⟨fun _ _ e=>e,fun _ e=>.inl e,fun _ _=>rfl,fun _=>qTF _⟩
 refine⟨⟨fun r hr'=>h.none r (by omega),fun r hr'=>?_,fun r row2 hr'=>?_,h.bnd,fun r row2 c o' h1 hw2 e=>?_,fun r r' row1 row2 b1 o1 b2 o2 hne h1 h2 hw2 e1 e2=>?_,
  fun r row2 c o' h1 hw2 e=>?_,fun r row2 c o' h1 hw2 e=>?_,fun c hc=>?_,fun c hc=>?_,fun c hc=>.inl (h.stb c hc),h.os,h.tape,h.output,h.grow,h.kept,h.glb.ext he⟩,he⟩
 ·rw[hg]at hr'
  by_cases c:r=s
  ·simp[c]at hr'
  ·simp only[c,if_false]at hr'; exact h.fre r hr'
 ·rw[hg]at hr'
  by_cases c:r=s
  ·subst c; simp at hr'; subst hr';obtain⟨b',o',hm',hrel⟩:=h.row r _ hr;exact⟨b',o',hm',(hrel.ext he rfl).freeze⟩
  ·simp only[c,if_false]at hr';obtain⟨b',o',hm',hrel⟩:=h.row r _ hr';exact⟨b',o',hm',hrel.ext he rfl⟩
 ·rw[hg]at h1
  by_cases c1:r=s
  ·subst c1; simp at h1; subst h1; rw[hf]at hw2; cases hw2
  ·simp only[c1,if_false]at h1; exact h.new r row2 c o' h1 hw2 e
 ·rw[hg]at h1 h2
  by_cases c1:r=s
  ·subst c1; simp at h1; subst h1; rw[hf]at hw2; cases hw2
  ·simp only[c1,if_false]at h1
   by_cases c2:r'=s
   ·subst c2;exact h.apart r r' row1 _ b1 o1 b2 o2 hne h1 hr hw2 e1 e2
   ·simp only[c2,if_false]at h2;exact h.apart r r' row1 row2 b1 o1 b2 o2 hne h1 h2 hw2 e1 e2
 ·rw[hg]at h1
  by_cases c1:r=s
  ·subst c1; simp at h1; subst h1; rw[hf]at hw2; cases hw2
  ·simp only[c1,if_false]at h1
   rintro(h2|rfl)
   ·exact h.stab r row2 c o' h1 hw2 e h2
   ·exact h.apart r s row2 _ c o' c o c1 h1 hr hw2 e hm rfl
 ·rw[hg]at h1
  by_cases c1:r=s
  ·subst c1; rw[hm]at e; cases e; exact .inr rfl
  ·simp only[c1,if_false]at h1; exact .inl (h.rost r row2 c o' h1 hw2 e)
 ·rcases hc with hc|rfl
  ·exact h.sbnd c hc
  ·exact h.bnd s c o hm
 ·rcases hc with hc|rfl
  ·exact h.base c hc
  ·exact .inr (h.new s row c o hr hw hm)
def Inv.called {w':World} {S':Nat->Prop} (h:Inv w0 own m S w rows) (hb:∀c,c<w.heap.size->w'.heap[c]?=w.heap[c]?) (hs:w.heap.size<=w'.heap.size)
  (sub:∀c,S c->S' c) (sup:∀c,S' c->S c\/(w.heap.size<=c/\c<w'.heap.size)) (ho:w'.os=w.os) (ht:w'.tape=w.tape) (hu:w'.output=w.output) :
  Inv w0 own m S' w' rows/\Ext m S w m S' w':=by
 have he:Ext m S w m S' w':=by
  refine⟨fun _ _ e=>e,sub,fun c hc=>hb c (h.sbnd c hc),fun c=>?_⟩;rcases qTQ c w.heap.size with hl|hl
  ·exact qVO (qlk (hb c hl)).symm
  ·have:Yf w c=0:=by unfold Yf; rw[qVP hl]
   omega
 refine⟨⟨h.none,h.fre,fun r row hr=>?_,fun r c o e=>qUn (h.bnd r c o e) hs,h.new,h.apart,fun r row c o h1 hw e hc=>?_,fun r row c o h1 hw e=>sub c (h.rost r row c o h1 hw e),
  fun c hc=>?_,fun c hc=>?_,fun c hc=>sub c (h.stb c hc),ho.trans h.os,ht.trans h.tape,hu.trans h.output,qT2 h.grow hs,fun c hc hn=>(hb c (qUn hc h.grow)).trans (h.kept c hc hn),h.glb.ext he⟩,he⟩
 ·obtain⟨c,o,hm,hrel⟩:=h.row r row hr;exact⟨c,o,hm,hrel.ext he (hb c (h.bnd r c o hm))⟩
 ·rcases sup c hc with h2|h2
  ·exact h.stab r row c o h1 hw e h2
  ·have:=h.bnd r c o e; omega
 ·rcases sup c hc with h2|h2
  ·exact qUn (h.sbnd c h2) hs
  ·exact h2.2
 ·rcases sup c hc with h2|h2
  ·exact h.base c h2
  ·exact .inr (.inl (qT2 h.grow h2.1))
end
structure Ty where
 desc:TypeDesc
 size:Nat
 bytes:Nat
 zero:Value
 held:Bool
def q8 (P:Program) (t:TypeId):Option Ty :=
 match P.underlying t,P.info? t with
 | some d,some i=>match i.zero with
  | some z=>if z.cells.size=i.size then some ⟨d,i.size,i.bytes,z,P.stoodInHeld t⟩else none
  | none=>none
 | _,_=>none
def Ty.agg (y:Ty):Bool :=
 match y.desc with
 | .struct _ | .array _ _=>true|_=>false
def TOK (P:Program) (T:TypeId->Option Ty):Prop:=∀t y,T t=some y->q8 P t=some y
def qat:List V->Option (List D)
 | []=>some []|.d x::r=>match qat r with
  | some l=>some (x::l)|none=>none
 | _::_=>none
def qc2 (cs:List V):V :=
 match qat cs with
 | some ds=>.d (.agg ds)|none=>.agg cs
def qhP:Value->Option V
 | .int k n=>some (.d (.int k n))|.bool b=>some (.d (.bool b))|.string s=>some (.d (.str s))|.pointer none=>some (.d .nilp)|.slice none 0 0=>some .nil|.map none=>some (.d .nilm)|.nilIface=>some (.d .nili)|.nilFunc=>some (.d .nilf)|_=>none
def Js:List Value->Option (List V)
 | []=>some []|v::r=>match qhP v,Js r with
  | some x,some l=>some (x::l)|_,_=>none
def qhQ:Value->Option V
 | .agg cs=>(Js cs.toList).map qc2|.tuple cs=>(Js cs.toList).map V.tup|v=>qhP v
def V.one:V->Bool
 | .d x=>!x.isAgg|.agg _ | .tup _=>false|_=>true
def V.refs1:V->List Nat
 | .sl r _ _ _ _ _=>[r]|.pt r _ _ _=>[r]|.mp r=>[r]|_=>[]
def V.refs:V->List Nat
 | .agg cs=>cs.flatMap V.refs1|v=>v.refs1
structure Res where
 v:V
 ups:List (Nat×qc):=[]
 fresh:Option Row:=none
abbrev qq:=Nat->Option Row
def orD (r:Option V) (d:Option Res):Option Res :=
 match r with
 | some v=>some {v}|none=>d
def qbY (g:qq):V->Option (D×List (Nat×qc))
 | .d x=>some (x,[])|.nil=>some (.list [],[])|.sl r k off len _ _=>match g r with
  | some (.dat k' es _)=>if k=k'/\off+len<=es.length then some (.list ((es.drop off).take len),[(r,.live (.dat k' es true))])else none
  | _=>none
 | _=>none
def YS (g:qq):List V->Option (List D×List (Nat×qc))
 | []=>some ([],[])|v::r=>match qbY g v,YS g r with
  | some (x,u),some (l,us)=>some (x::l,u++us)|_,_=>none
def JK (agg:Bool) (ds:List D):D :=
 if agg then .agg ds else match ds with
  | [d]=>d|_=>.agg ds
def qf8 (agg:Bool) (k:Nat):(n:Nat)->List D->List D
 | 0,_=>[]|n+1,ds=>JK agg (ds.take k)::qf8 agg k n (ds.drop k)
def Yi {α:Type} (cs:List α) (f:Nat) (new:List α):List α:=cs.take f++new++cs.drop (f+new.length)
def qa4 (T:TypeId->Option Ty) (g:qq) (t:TypeId):V->Option V
 | .pt r k i f=>match T t,g r with
  | some y,some (.dat k' es _) =>
   if k=k' then match es[i]? with
    | some e =>
     if y.agg then
      if f=0/\y.size=k then some (.d (.agg e.cells))
      else if f+y.size<=k then some (.d (.agg ((e.cells.drop f).take y.size)))else none
     else match e.cells[f]? with
      | some c=>some (.d c)|none=>none
    | none=>none
   else none
  | some y,some (.box cs _) =>
   if y.agg then(if i*k+f+y.size<=cs.length then some (qc2 ((cs.drop (i*k+f)).take y.size))else none)
   else cs[i*k+f]?
  | _,_=>none
 | .dp x=>match T t with
  | some y =>
   if y.agg then(if y.size=x.cells.length then some (.d (.agg x.cells))else none)
   else match x.cells[0]? with
    | some c=>some (.d c)|none=>none
  | none=>none
 | .fp cs=>match T t with
  | some y=>if y.agg then none else cs[0]?
  | none=>none
 | _=>none
def qaM (T:TypeId->Option Ty) (g:qq) (t:TypeId) (a x:V):Option Res :=
 match a,T t with
 | .pt r k i f,some y =>
  if x.cells.length=y.size/\0<y.size/\x.cells.all V.one then
   match g r with
   | some (.dat k' es false) =>
    match YS g x.cells,es[i]? with
    | some (ds,us),some e =>
     if k=k'/\f+y.size<=k/\us.all (fun u=>u.1 != r)then
      some {v:=V.undef,ups:=us++[(r,.live (.dat k' (es.set i
       (if f=0/\y.size=k then JK y.agg ds else D.agg (Yi e.cells f ds))) false))]}
     else none
    | _,_=>none
   | some (.box cs false)=>if i*k+f+y.size<=cs.length then some {v:=V.undef,ups:=[(r,.live (.box (Yi cs (i*k+f) x.cells) false))]}else none
   | _=>none
  else none
 | _,_=>none
def qko (T:TypeId->Option Ty) (s:TypeId) (f:Nat) (x:V):Option V :=
 match T s with
 | some y=>match y.desc with
  | .struct fs=>match fs[f]? with
   | some fl=>match T fl.type with
    | some z =>
     if z.size=0 then none else
     match x with
     | .pt r k i f0=>some (.pt r k i (f0+fl.offset))|.dp d=>if fl.offset+z.size<=d.cells.length then some (.dp (.agg ((d.cells.drop fl.offset).take z.size)))else none
     | _=>none
    | none=>none
   | none=>none
  | _=>none
 | none=>none
def qa5 (T:TypeId->Option Ty) (t:TypeId) (x ix:V):Option V :=
 match T t,ix with
 | some y,.d (.int _ n) =>
  match y.desc with
  | .slice e=>match T e with
   | some z=>match x with
    | .sl r k off len _ _=>if k=z.size/\0<=n/\n<(len:Int)then some (.pt r k (off+n.toNat) 0)else none
    | .d (.list es)=>if 0<=n/\n<(es.length:Int)then match es[n.toNat]? with
     | some d=>if d.cells.length=z.size then some (.dp d)else none
     | none=>none else none
    | _=>none
   | none=>none
  | .array len e=>match T e with
   | some z=>match x with
    | .pt r k i f=>if 0<=n/\n<(len:Int)then some (.pt r k i (f+n.toNat*z.size))else none
    | .dp d=>if 0<=n/\n<(len:Int)/\z.size=1 then match d.cells[n.toNat]? with
     | some c=>if c.cells.length=1/\c.isAgg=false then some (.dp c)else none
     | none=>none else none
    | _=>none
   | none=>none
  | _=>none
 | _,_=>none
def qdL (z:Ty) (x:V) (off:Nat):Option V :=
 match x with
 | .d (.agg cs) =>
  if z.agg then(if off+z.size<=cs.length then some (.d (.agg ((cs.drop off).take z.size)))else none)
  else match cs[off]? with
   | some c=>some (.d c)|none=>none
 | .agg cs =>
  if z.agg then(if off+z.size<=cs.length then some (qc2 ((cs.drop off).take z.size))else none)
  else cs[off]?
 | _=>none
def qkp (T:TypeId->Option Ty) (t:TypeId) (f:Nat) (x:V):Option V :=
 match T t with
 | some y=>match y.desc with
  | .struct fs=>match fs[f]? with
   | some fl=>match T fl.type with
    | some z=>qdL z x fl.offset|none=>none
   | none=>none
  | _=>none
 | none=>none
def qdM (T:TypeId->Option Ty) (t:TypeId) (x ix:V):Option V :=
 match T t,ix with
 | some y,.d (.int _ n)=>match y.desc,x with
  | .array len e,x=>match T e with
   | some z=>if 0<=n/\n<(len:Int)then qdL z x (n.toNat*z.size)else none
   | none=>none
  | .string,.d (.str s)=>if 0<=n then match s[n.toNat]? with
   | some b=>some (.d (.int .u8 b.toNat))|none=>none else none
  | _,_=>none
 | _,_=>none
def qc3 (op:BinOp) (k:IntKind) (a b:Int):Option D :=
 match op with
 | .add=>some (.int k (k.wrap (a+b)))|.sub=>some (.int k (k.wrap (a - b)))|.mul=>some (.int k (k.wrap (a*b)))|.quo=>if b=0 then none else some (.int k (k.wrap (a.tdiv b)))
 | .rem=>if b=0 then none else some (.int k (a.tmod b))
 | .and=>some (.int k (k.wrap (BitVec.ofInt k.bits a&&&BitVec.ofInt k.bits b).toNat))|.or=>some (.int k (k.wrap (BitVec.ofInt k.bits a|||BitVec.ofInt k.bits b).toNat))|.xor=>some (.int k (k.wrap (BitVec.ofInt k.bits a^^^BitVec.ofInt k.bits b).toNat))|.andNot=>some (.int k (k.wrap (BitVec.ofInt k.bits a&&&~~~ BitVec.ofInt k.bits b).toNat))|.eql=>some (.bool (a==b))|.neq=>some (.bool (a != b))|.lss=>some (.bool (decide (a<b)))|.leq=>some (.bool (decide (a<=b)))|.gtr=>some (.bool (decide (a>b)))|.geq=>some (.bool (decide (a>=b)))|_=>none
def qkq (op:BinOp) (a b:ByteArray):Option D :=
 match op with
 | .add=>if ((a.size+b.size:Nat):Int)>IntKind.i64.max then none else some (.str (a++b))
 | .eql=>some (.bool (a.toList==b.toList))|.neq=>some (.bool (!(a.toList==b.toList)))|.lss=>some (.bool (Op.bytesLess a.toList b.toList))|.leq=>some (.bool (Op.bytesLess a.toList b.toList||a.toList==b.toList))|.gtr=>some (.bool (!(Op.bytesLess a.toList b.toList||a.toList==b.toList)))|.geq=>some (.bool (!Op.bytesLess a.toList b.toList))|_=>none
def qdN (d:TypeDesc) (x y:V):Option Bool :=
 match d,x,y with
 | .slice _,.nil,.nil=>some true|.slice _,.sl _ _ _ _ (_+1) _,.nil=>some false|.slice _,.d (.list (_::_)),.nil=>some false|.pointer _,.d .nilp,.d .nilp=>some true|.pointer _,.pt _ _ _ _,.d .nilp=>some false|.pointer _,.dp _,.d .nilp=>some false|.func _ _ _,.d .nilf,.d .nilf=>some true|.func _ _ _,.fn _ _,.d .nilf=>some false|.func _ _ _,.bf _ _,.d .nilf=>some false|.map _ _,.d .nilm,.d .nilm=>some true|.map _ _,.mp _,.d .nilm=>some false|.interface ms,.d .nili,.d .nili=>if ms.isEmpty then some true else none
 | _,_,_=>none
def eqA (T:TypeId->Option Ty) (op:BinOp) (t:TypeId) (x y:V):Option V :=
 match T t with
 | some z=>match qdN z.desc x y,op with
  | some b,.eql=>some (.d (.bool b))|some b,.neq=>some (.d (.bool (!b)))|_,_=>none
 | none=>none
def Jt (T:TypeId->Option Ty) (op:BinOp) (t:TypeId) (x y:V):Option V :=
 match x,y with
 | .d (.int k a),.d (.int k' b) =>
  match op with
  | .shl=>if b<0 then none else some (.d (.int k (k.wrap (a*2 ^ (min b.toNat k.bits)))))
  | .shr=>if b<0 then none else some (.d (.int k (a.fdiv (2 ^ (min b.toNat k.bits)))))
  | _=>if k=k' then(qc3 op k a b).map V.d else none
 | .d (.str a),.d (.str b)=>(qkq op a b).map V.d|.d (.bool a),.d (.bool b)=>match T t with
  | some y=>match y.desc,op with
   | .bool,.eql=>some (.d (.bool (a==b)))|.bool,.neq=>some (.d (.bool (!(a==b))))|_,_=>none
  | none=>none
 | _,_=>eqA T op t x y
def unA (op:UnOp) (x:V):Option V :=
 match op,x with
 | .neg,.d (.int k n)=>some (.d (.int k (k.wrap (0 - n))))|.not,.d (.bool b)=>some (.d (.bool (!b)))|.xor,.d (.int k n)=>some (.d (.int k (k.wrap (BitVec.ofInt k.bits (if k.signed then -1 else k.max)^^^BitVec.ofInt k.bits n).toNat)))
 | _,_=>none
def qc4 (place:Nat->Option (Nat×Nat)):List V->List (Nat×V)->Option (List V)
 | cs,[]=>some cs|cs,(i,v)::rest=>match place i with
  | some (off,size)=>if v.cells.length=size/\off+size<=cs.length then qc4 place (Yi cs off v.cells) rest else none
  | none=>none
def qhR (T:TypeId->Option Ty):List Field->Option (List (Nat×Nat))
 | []=>some []|f::r=>match T f.type,qhR T r with
  | some z,some l=>some ((f.offset,z.size)::l)|_,_=>none
def qkr (T:TypeId->Option Ty) (t:TypeId) (idx:List Nat) (vs:List V):Option V :=
 match T t with
 | some y=>match Js y.zero.cells.toList with
  | some zs=>match y.desc with
   | .struct fs=>match qhR T fs.toList with
    | some pl=>(qc4 (pl[·]?) zs (idx.zip vs)).map qc2|none=>none
   | .array _ e=>match T e with
    | some z=>(qc4 (fun i=>some (i*z.size,z.size)) zs (idx.zip vs)).map qc2
    | none=>none
   | _=>none
  | none=>none
 | none=>none
def qdO (zs:List V):Nat->List V
 | 0=>[]|n+1=>zs++qdO zs n
def qpy (T:TypeId->Option Ty) (g:qq) (slot:Nat) (t:TypeId) (len:Nat) (idx:List Nat) (vs:List V):Option Res :=
 match T t with
 | some y=>match y.desc with
  | .slice e=>match T e with
   | some z=>match Js z.zero.cells.toList with
    | some zs =>
     if len*z.size<=2 ^ 24/\zs.length=z.size/\0<z.size then
      match qc4 (fun i=>some (i*z.size,z.size)) (qdO zs len) (idx.zip vs)with
      | some cs =>
       if cs.all V.one then
        match YS g cs with
        | some (ds,us)=>some {v:=.sl slot z.size 0 len len true,ups:=us,fresh:=some (.dat z.size (qf8 z.agg z.size len ds) false)}|none=>some {v:=.sl slot z.size 0 len len true,fresh:=some (.box cs false)}
       else none
      | none=>none
     else none
    | none=>none
   | none=>none
  | _=>none
 | none=>none
def qeW (T:TypeId->Option Ty) (slot:Nat) (t:TypeId) (l c:V):Option Res :=
 match T t,l,c with
 | some y,.d (.int _ l),.d (.int _ c)=>match y.desc with
  | .slice e=>match T e with
   | some z=>match Js z.zero.cells.toList with
    | some zs=>match Glob.mkb t with
     | true=>match zs with
      | [.nil] =>
       if 0<=l/\l=c/\c<2 ^ 62/\(z.bytes:Int)*c<=2 ^ 48/\z.size=1 then
        some {v:=.sl slot 1 0 l.toNat l.toNat true,fresh:=some (.box (List.replicate l.toNat .nil) false)}
       else none
      | _=>none
     | false=>match YS (fun _=>none) zs with
     | some (ds,_) =>
      if 0<=l/\l<=c/\c<2 ^ 62/\(z.bytes:Int)*c<=2 ^ 48/\zs.length=z.size/\0<z.size then
       some {v:=.sl slot z.size 0 l.toNat c.toNat true,fresh:=some (.dat z.size (List.replicate l.toNat (JK z.agg ds)) false)}
      else none
     | none=>none
    | none=>none
   | none=>none
  | _=>none
 | _,_,_=>none
def YK:Option V->Nat->Option Nat
 | none,d=>some d|some (.d (.int _ n)),_=>if 0<=n then some n.toNat else none
 | _,_=>none
def qpz (g:qq) (r n:Nat):Bool :=
 match g r with
 | some (.dat _ es _)=>decide (n<=es.length)|_=>false
def qcw (T:TypeId->Option Ty) (g:qq) (t:TypeId) (x:V) (lo hi mx:Option V):Option V :=
 match T t with
 | some y=>match y.desc,x with
  | .slice e,.sl r k off len c ex=>match T e,YK lo 0,YK hi len with
   | some z,some l,some h =>
    if k=z.size/\l<=h/\(h<=len\/h<=c/\qpz g r (off+h)=true)then
     match mx with
     | none=>some (.sl r k (off+l) (h - l) (c - l) ex)|some _=>match YK mx 0 with
      | some m=>if h<=m/\m<=c/\hi.isSome then some (.sl r k (off+l) (h - l) (m - l) true)else none
      | none=>none
    else none
   | _,_,_=>none
  | .slice e,.d (.list es)=>match T e,YK lo 0,YK hi es.length with
   | some z,some l,some h =>
    if l<=h/\h<=es.length/\es.all (fun e=>e.cells.length==z.size)then
     match mx with
     | none=>some (.d (.list ((es.drop l).take (h - l))))|some _=>match YK mx 0 with
      | some m=>if h<=m/\m<=es.length/\hi.isSome then some (.d (.list ((es.drop l).take (h - l))))else none
      | none=>none
    else none
   | _,_,_=>none
  | .slice e,.nil=>match T e,YK lo 0,YK hi 0,mx with
   | some _,some 0,some 0,none=>some .nil|_,_,_,_=>none
  | .string,.d (.str s)=>match YK lo 0,YK hi s.size,mx with
   | some l,some h,none=>if l<=h/\h<=s.size then some (.d (.str (s.extract l h)))else none
   | _,_,_=>none
  | .array n e,.pt r k i f=>match T e,YK lo 0,YK hi n,mx,g r with
   | some z,some l,some h,none,some (.box cs _) =>
    if z.size=1/\l<=h/\h<=n/\i*k+f+n<=cs.length/\0<n then some (.sl r 1 (i*k+f+l) (h - l) (n - l) true)else none
   | _,_,_,_,_=>none
  | _,_=>none
 | none=>none
def qks (T:TypeId->Option Ty) (t:TypeId) (x:V):Option V :=
 match T t with
 | some y=>match y.desc with
  | .interface _=>none|_=>some (.ifc t x)
 | none=>none
def qkt (T:TypeId->Option Ty) (t:TypeId) (ok:Bool) (x:V):Option V :=
 match T t with
 | some y=>match y.desc with
  | .interface _=>none|_=>match x with
   | .ifc t' v=>if t'=t then some (if ok then .tup [v,.d (.bool true)]else v)else none
   | _=>none
 | none=>none
def qku (T:TypeId->Option Ty) (t:TypeId) (x:V):Option V :=
 match T t with
 | some y=>match y.desc with
  | .array n _=>match x with
   | .sl r k off len _ _=>if 0<n/\n<=len then some (.pt r k off 0)else none
   | .d (.list es)=>if 0<n/\n<=es.length/\es.all (fun e=>e.cells.length==1)then some (.dp (.agg ((qn es).take n)))else none
   | _=>none
  | _=>none
 | none=>none
def Yq (b:UInt8):D:=.int .u8 (b.toNat:Int)
def qe (l:List UInt8):List D:=l.map Yq
def Ye (s:ByteArray):List D:=qe s.data.toList
def qpA:TypeDesc->Bool
 | .slice _=>true|.string=>true|_=>false
def JL:List V->Option (List D)
 | []=>some []|.d x::r=>if x.isAgg then none else(JL r).map (x::·)
 | _=>none
def qdP (g:qq) (k:Nat):V->Option (List D)
 | .nil=>some []|.d (.list es)=>if es.all (fun e=>e.cells.length==k)then some es else none
 | .sl r k' off len _ _=>match g r with
  | some (.dat k'' es _)=>if k=k'/\k'=k''/\off+len<=es.length then some ((es.drop off).take len)else none
  | some (.box cs _)=>if k=1/\k'=1/\off+len<=cs.length then JL ((cs.drop off).take len)else none
  | _=>none
 | _=>none
def qdQ (g:qq) (k:Nat) (x:V):Option (List D) :=
 match x with
 | .d (.str s)=>if k=1 then some (Ye s)else none
 | x=>qdP g k x
def qhS (T:TypeId->Option Ty) (g:qq) (slot:Nat) (t u:TypeId) (s x:V):Option Res :=
 match T t,T u with
 | some y,some yu=>match y.desc,qpA yu.desc with
  | .slice e,true=>match T e with
   | some z=>match qdQ g z.size x with
    | some ds =>
     if 0<z.size then
      match s with
      | .nil=>if ds.length=0 then some {v:=.nil}else
       if 2*ds.length*z.bytes<=2 ^ 48/\ds.length<=2 ^ 62 then some {v:=.sl slot z.size 0 ds.length ds.length false,fresh:=some (.dat z.size ds false)}else none
      | .sl r k off len c ex=>match g r with
       | some (.dat k' es ro) =>
        if ds.length=0 then some {v:=.sl r k off len c ex}
        else if k=z.size/\k'=k/\off+len<=es.length then
         if len+ds.length<=c then
          (if ro then none else
          some {v:=.sl r k off (len+ds.length) c ex,ups:=[(r,.live (.dat k' (es.take (off+len)++ds++es.drop (off+len+ds.length)) false))]})
         else if 2*(len+ds.length)*z.bytes<=2 ^ 48/\len+ds.length<=2 ^ 62 then
          (if ex then some {v:=.sl slot k 0 (len+ds.length) (len+ds.length) false,fresh:=some (.dat k' ((es.drop off).take len++ds) false)}
          else if ro then none
          else some {v:=.sl slot k 0 (len+ds.length) (len+ds.length) false,ups:=[(r,.dead)],fresh:=some (.dat k' ((es.drop off).take len++ds) false)})
         else none
        else none
       | _=>none
      | _=>none
     else none
    | none=>none
   | none=>none
  | _,_=>none
 | _,_=>none
def qhT (T:TypeId->Option Ty) (g:qq) (t:TypeId) (d s:V):Option Res :=
 match T t with
 | some y=>match y.desc with
  | .slice e=>match T e with
   | some z=>match d,qdQ g z.size s with
    | .sl r k off len _ _,some ds=>match g r with
     | some (.dat k' es false) =>
      if k=z.size/\k'=k/\off+len<=es.length then
       some {v:=.d (.int .i64 (min ds.length len:Nat)),ups:=[(r,.live (.dat k' (es.take off++ds.take (min ds.length len)++es.drop (off+min ds.length len)) false))]}
      else none
     | some (.box cs false) =>
      if k=z.size/\z.size=1/\off+len<=cs.length then
       some {v:=.d (.int .i64 (min ds.length len:Nat)),ups:=[(r,.live (.box (Yi cs off ((qn (ds.take (min ds.length len))).map V.d)) false))]}
      else none
     | _=>none
    | _,_=>none
   | none=>none
  | _=>none
 | none=>none
def qhU (T:TypeId->Option Ty) (g:qq) (t:TypeId) (d:V):Option Res :=
 match T t with
 | some y=>match y.desc with
  | .slice e=>match T e with
   | some z=>match d with
    | .nil=>some {v:=V.undef}|.sl r k off len _ _=>match g r,Js z.zero.cells.toList with
     | some (.dat k' es false),some zs=>match YS (fun _=>none) zs with
      | some (ds,_) =>
       if k=z.size/\k'=k/\0<k/\off+len<=es.length/\zs.length=z.size then
        some {v:=V.undef,ups:=[(r,.live (.dat k' (es.take off++List.replicate len (JK z.agg ds)++es.drop (off+len)) false))]}
       else none
      | none=>none
     | _,_=>none
    | _=>none
   | none=>none
  | _=>none
 | none=>none
def qkv (T:TypeId->Option Ty) (t:TypeId) (x:V):Option V :=
 match T t with
 | some y=>match y.desc,x with
  | .slice _,.sl _ _ _ len _ _=>some (.d (.int .i64 len))|.slice _,.nil=>some (.d (.int .i64 0))|.slice _,.d (.list es)=>some (.d (.int .i64 es.length))|.string,.d (.str s)=>some (.d (.int .i64 s.size))|.array n _,_=>some (.d (.int .i64 n))|_,_=>none
 | none=>none
def qkw (T:TypeId->Option Ty) (t:TypeId) (x:V):Option V :=
 match T t with
 | some y=>match y.desc,x with
  | .slice _,.sl _ _ _ _ c true=>some (.d (.int .i64 c))|.slice _,.nil=>some (.d (.int .i64 0))|_,_=>none
 | none=>none
def qeX (k:IntKind) (x:Int):List V->Option V
 | []=>some (.d (.int k x))|.d (.int _ y)::r=>qeX k (if y>x then y else x) r
 | _=>none
def qkx:List V->Option V
 | .d (.int k x)::r=>qeX k x r|_=>none
def qeY (k:IntKind) (x:Int):List V->Option V
 | []=>some (.d (.int k x))|.d (.int _ y)::r=>qeY k (if y<x then y else x) r
 | _=>none
def qky:List V->Option V
 | .d (.int k x)::r=>qeY k x r|_=>none
end Go.Aev
end
