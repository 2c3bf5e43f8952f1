/- Lemmas: a machine that the model follows, and contracts. Conditions: none. -/
import Derived.Test.YtakpdahnlpjooaaGreatDoorK06
import Derived.Laws.IdiomStrings
set_option linter.all false
set_option maxRecDepth 1000000
set_option maxHeartbeats 0
noncomputable section
namespace Go.Aev
variable [Glob]
section
def qhB:D->Option UInt8
 | .int .u8 (.ofNat n)=>if n<256 then some (UInt8.ofNat n)else none
 | _=>none
def qcq:List D->Option (List UInt8)
 | []=>some []|d::r=>match qhB d with
  | some b=>match qcq r with
   | some l=>some (b::l)|none=>none
  | none=>none
def qcW (T:TypeId->Option Ty) (e:TypeId):Bool :=
 match T e with
 | some z=>match z.desc with
  | .int .u8=>true|_=>false
 | none=>false
def qdH (T:TypeId->Option Ty) (g:qq) (src dst:TypeId) (x:V):Option Res :=
 match T src,T dst with
 | some s,some y=>match s.desc,y.desc with
  | .int _,.int k=>match x with
   | .d (.int _ n)=>some {v:=.d (.int k (k.wrap n))}|_=>none
  | .string,.string=>match x with
   | .d (.str b)=>some {v:=.d (.str b)}|_=>none
  | .string,.slice e=>match x with
   | .d (.str b)=>if qcW T e then some {v:=.d (.list (Ye b))}else none
   | _=>none
  | .slice e,.string=>if qcW T e then match qdP g 1 x with
   | some ds=>match qcq ds with
    | some l=>some {v:=.d (.str ⟨l.toArray⟩)}|none=>none
   | none=>none
   else none
  | _,_=>none
 | _,_=>none
variable {P:Program} {T:TypeId->Option Ty} {w0:World} {own:Own} {m:Mp} {S:Nat->Prop} {w:World} {rows:Rows} {g:qq}
def qj0 (hT:TOK P T) {e:TypeId} (h:qcW T e=true):P.underlying e=some (.int .u8):=by
 unfold qcW at h;split at h
 ·rename_i z hz;split at h
  ·rename_i hd;rw[(Jk (hT e z hz)).1,hd]
  ·cases h
 ·cases h
def qCx {d:D} {b:UInt8} (h:qhB d=some b):d=Yq b:=by
 unfold qhB at h;split at h
 ·rename_i n;split at h
  ·rename_i hn;cases h;simp[Yq,qVN hn]
  ·cases h
 ·cases h
def quQ:∀{ds:List D} {l:List UInt8},qcq ds=some l->ds=qe l
 | [],l,h=>by simp[qcq]at h; subst h; rfl
 | d::r,l,h=>by
  simp only[qcq]at h;split at h
  ·rename_i b hb;split at h
   ·rename_i l' hl;cases h;rw[qCx hb,quQ hl]; rfl
   ·cases h
  ·cases h
def Inv.laid (h:Inv w0 own m S w rows) (obj:Obj):Inv w0 own m (fun c=>S c\/c=w.heap.size) (w.alloc obj) rows/\Ext m S w m (fun c=>S c\/c=w.heap.size) (w.alloc obj):=by
 have hb:∀c,c<w.heap.size->(w.alloc obj).heap[c]?=w.heap[c]?:=fun c hc=>by
  show(w.heap.push obj)[c]?=_;rw[qVu];rw[if_neg (by omega)]
 have hs:(w.alloc obj).heap.size=w.heap.size+1:=by show(w.heap.push obj).size=_; simp
 have he:Ext m S w m (fun c=>S c\/c=w.heap.size) (w.alloc obj):=by
  refine⟨fun _ _ e=>e,fun _ e=>.inl e,fun c hc=>hb c (h.sbnd c hc),fun c=>?_⟩;rcases qTQ c w.heap.size with hl|hl
  ·exact qVO (qlk (hb c hl)).symm
  ·have:Yf w c=0:=by unfold Yf; rw[qVP hl]
   omega
 refine⟨⟨h.none,h.fre,fun r row hr=>?_,fun r c o e=>by rw[hs]; exact Nat.lt_succ_of_lt (h.bnd r c o e),h.new,h.apart,fun r row b o h1 hw e hn=>?_,fun r row b o h1 hw e=>.inl (h.rost r row b o h1 hw e),
  fun c e=>?_,fun c e=>?_,fun c e=>.inl (h.stb c e),h.os,h.tape,h.output,by rw[hs]; exact Nat.le_succ_of_le h.grow,fun c hc hn=>(hb c (qUn hc h.grow)).trans (h.kept c hc hn),h.glb.ext he⟩,he⟩
 ·obtain⟨c,o,hm,hrel⟩:=h.row r row hr;exact⟨c,o,hm,hrel.ext he (hb c (h.bnd r c o hm))⟩
 ·rcases hn with hn|hn
  ·exact h.stab r row b o h1 hw e hn
  ·have:=h.bnd r b o e; omega
 ·rw[hs];rcases e with e|e
  ·exact Nat.lt_succ_of_lt (h.sbnd c e)
  ·omega
 ·rcases e with e|e
  ·exact h.base c e
  ·right; left; rw[e]; exact h.grow
def qCy {S:Nat->Prop} {w:World} {b o cap:Nat} {l:List UInt8} (hS:S b) (hc:l.length<=cap) (h:∀j (hj:j<l.length),cl w b (o+j)=some (.int .u8 (l[j].toNat:Int))) :
  RD S w (.list (qe l)) (.slice (some ⟨b,o,none⟩) l.length cap):=by
 refine .row (qe l) b o cap 1 l.length (fun j=>.int .u8 ((l.getD j 0).toNat:Int)) (by simp[qe]) hc hS (fun e he=>?_) (fun d hd=>?_) (fun j d hj=>?_) (fun j d hj=>?_)
 ·obtain⟨u,_,rfl⟩:=qTV.1 he; rfl
 ·rw[qcv]at hd;obtain⟨u,_,rfl⟩:=qTV.1 hd; rfl
 ·rw[qcv]at hj;have hl:j<l.length:=by have:=q7 hj; simpa[qe]using this
  rw[h j hl];simp[List.getD,hl]
 ·rw[qcv]at hj;have hl:j<l.length:=by have:=q7 hj; simpa[qe]using this
  simp only[qe,qT3,qTE hl,qUj,qT4]at hj;subst hj;simp only[List.getD,qTE hl,qTT];exact .int _ _
def qCz (s:ByteArray) (cap j:Nat) (hj:j<s.data.toList.length):(bytesRow s cap)[j]?=some (.int .u8 (s.data.toList[j].toNat:Int)):=by
 unfold bytesRow;rw[qU9 (by simpa using hj)];simp at hj;simp[hj]
def qCA (hT:TOK P T) (hg:GOK g rows) (inv:Inv w0 own m S w rows) {slot:Nat} {s t:TypeId} {x:V} {xr:Value} {res:Res} (h:qdH T g s t x=some res) (hx:RV m S w x xr) :
  qbV P w0 own m S w rows slot (convert s t xr) res:=by
 unfold qdH at h;split at h
 ·rename_i y z hy hz;have hu1:=YD (w:=w) (hT s y hy);have hu2:=YD (w:=w) (hT t z hz);have hp1:=(Jk (hT s y hy)).1;have hp2:=(Jk (hT t z hz)).1;split at h
  ·rename_i h1 h2;rw[h1]at hu1; rw[h2]at hu2;split at h
   ·cases h; have e:=qax hx; subst e;exact⟨_,w,m,S,by simp[convert,hu1,hu2,Conv.intToInt],inv,Ext.refl ..,.d _ _ (.int _ _)⟩
   ·cases h
  ·rename_i h1 h2;rw[h1]at hu1; rw[h2]at hu2;split at h
   ·cases h; have e:=qdZ hx; subst e;exact⟨_,w,m,S,by simp[convert,hu1,hu2],inv,Ext.refl ..,.d _ _ (.str _)⟩
   ·cases h
  ·rename_i e h1 h2;rw[h1]at hp1; rw[h2]at hp2;split at h
   ·split at h
    ·rename_i b h8;cases h; have e':=qdZ hx; subst e';have hrun:=run_bytes_of_string (P:=P) w s t e b hp1 hp2 (qj0 hT h8);obtain⟨k0,e0⟩:=inv.same (w':=w.drew) rfl rfl rfl rfl;obtain⟨k1,k2⟩:=k0.laid (.cells (bytesRow b (grownCap w b.size 0 e)) e ((bytesRow b (grownCap w b.size 0 e)).size,(bytesRow b (grownCap w b.size 0 e)).size+1));refine⟨_,_,m,_,hrun,k1,e0.trans k2,.d _ _ ?_⟩;have hsz:b.data.toList.length=b.size:=by rw[qVv]; rfl
     have hh:(w.drew.alloc (.cells (bytesRow b (grownCap w b.size 0 e)) e ((bytesRow b (grownCap w b.size 0 e)).size,(bytesRow b (grownCap w b.size 0 e)).size+1))).heap[w.heap.size]?=some (.cells (bytesRow b (grownCap w b.size 0 e)) e ((bytesRow b (grownCap w b.size 0 e)).size,(bytesRow b (grownCap w b.size 0 e)).size+1)):=qcu w.drew _;have key:=qCy (S:=fun c=>S c\/c=w.drew.heap.size) (w:=w.drew.alloc (.cells (bytesRow b (grownCap w b.size 0 e)) e ((bytesRow b (grownCap w b.size 0 e)).size,(bytesRow b (grownCap w b.size 0 e)).size+1))) (b:=w.heap.size) (o:=0) (cap:=grownCap w b.size 0 e) (l:=b.data.toList) (.inr rfl) (by rw[hsz]; exact grownCap_ge w b.size 0 e) (fun j hj=>by
      rw[qT6,qaw hh];exact qCz b _ j hj)
     rw[hsz]at key;exact key
    ·cases h
   ·cases h
  ·rename_i e h1 h2;rw[h1]at hp1; rw[h2]at hp2;split at h
   ·rename_i h8;split at h
    ·rename_i ds hds;split at h
     ·rename_i l hl;cases h;have hl':=quQ hl;subst hl';obtain⟨q1,q2,p,c,rfl,hc,h3⟩:=qvv hg inv hds hx;have hlen:(qe l).length=l.length:=by simp[qe]
      rw[hlen]at hc ⊢;refine⟨.string ⟨l.toArray⟩,w,m,S,?_,inv,Ext.refl ..,.d _ _ (.str _)⟩;rcases h3 with⟨h3,_⟩|⟨b,o,rfl,h3⟩
      ·have:l=[]:=by simpa[qe]using h3
       subst this
       cases p with
       | none=>rw[run_convert_bytes_string w s t e none _ c hp1 (qj0 hT h8) hp2]; rfl|some a=>exact run_convert_bytes_back w s t e a c [] hp1 (qj0 hT h8) hp2 (fun j hj=>by simp at hj)
      ·refine run_convert_bytes_back w s t e _ c l hp1 (qj0 hT h8) hp2 (fun j hj=>?_);obtain⟨v,hv,hrd⟩:=h3 j (Yq l[j]) (by rw[qcv]; simp[qe,hj]);rw[Jz];have:v=.int .u8 (l[j].toNat:Int):=by cases hrd; rfl
       subst this;exact hv
     ·cases h
    ·cases h
   ·cases h
  ·cases h
 ·cases h
end
section
def qcs (n:Nat) (seen:List Nat):List Nat:=(List.range n).filter fun j=>!seen.contains j
def qo4 (T:TypeId->Option Ty) (g:qq) (slot:Nat) (t:TypeId) (x:V):Option Res :=
 match T t,x with
 | some y,.mp r=>match y.desc,g r with
  | .map _ _,some (.map es c _)=>some {v:=.pt slot 0 0 0,ups:=[(r,.live (.map es c true))],fresh:=some (.iter es [])}|_,_=>none
 | _,_=>none
def qj8 (es:List (D×V)) (seen:List Nat) (r j:Nat):Option Res :=
 match es[j]? with
 | some e=>some {v:=.tup [.d (.bool true),.d e.1,e.2],ups:=[(r,.live (.iter es (seen++[j])))]}|none=>none
def qhF (g:qq):V->Option (Nat×List (D×V)×List Nat)
 | .pt r k i f=>if i*k+f=0 then match g r with
  | some (.iter es seen)=>some (r,es,seen)|_=>none else none
 | _=>none
def qo5 (g:qq) (x:V):Option Res :=
 match qhF g x with
 | some (r,es,seen)=>match qcs es.length seen with
  | []=>some {v:=.tup [.d (.bool false)]}|[j]=>qj8 es seen r j|_=>none
 | none=>none
def qj9 (g:qq) (x:V):Option V :=
 match qhF g x with
 | some (_,es,seen)=>match seen.getLast? with
  | some j=>match es[j]? with
   | some e=>some (.tup [.d e.1,e.2])|none=>none
  | none=>none
 | none=>none
variable {P:Program} {T:TypeId->Option Ty} {w0:World} {own:Own} {m:Mp} {S:Nat->Prop} {w:World} {rows:Rows} {g:qq}
def qo6 {n:Nat} {seen:List Nat} {j:Nat}:j∈qcs n seen↔j<n/\j∉seen:=by
 simp[qcs]
def qu0 {r mb n:Nat} {ents:Array MapEntry} {seen:List Nat} {ty:TypeId} (hr:w.heap[r]?=some (.mapIter (some mb) n seen.toArray n)) (hm:w.heap[mb]?=some (.map ents n)) (hsz:ents.size=n)
  (hb:∀(j:Nat) (x:MapEntry),ents[j]?=some x->x.born=j) :
  (qcs n seen=[]->(Instr.next (.pointer (some ⟨r,0,none⟩)) false ty).run P w=.ok (.tuple #[.bool false]) w) /\
  (qcs n seen≠[]->∃j e wd,j∈qcs n seen/\ents[j]?=some e/\(wd=w\/wd=w.drew)/\(Instr.next (.pointer (some ⟨r,0,none⟩)) false ty).run P w =
   .ok (.tuple #[.bool true,e.key,e.val]) {wd with heap:=wd.heap.setIfInBounds r (.mapIter (some mb) n (seen++[j]).toArray n)}):=by
 have hgo1:=qct (P:=P) hr (by simp);have hgo2:=qct (P:=P) hm (by simp);have hlt:∀e∈ents,e.born<n:=by
  intro e he;obtain⟨j,hj,rfl⟩:=qWb.1 he;have:=hb j ents[j] (by simp[hj]);omega
 have hcond:(!seen.toArray.isEmpty&&!ents.isEmpty&&ents.all (fun e=>decide (e.born>=n)))=false:=by
  by_cases h0:ents.size=0
  ·have:ents=#[]:=qVs h0;subst this; simp
  ·have hall:ents.all (fun e=>decide (e.born>=n))=false:=by
    rw[Array.all_eq_false];refine⟨0,by omega,?_⟩;have:=hlt ents[0] (by simp);simp; omega
   rw[hall]; simp
 have hold:(ents.filter fun e=>!seen.toArray.contains e.born).filter (fun e=>decide (e.born<n))=ents.filter fun e=>!seen.toArray.contains e.born:=by
  rw[Array.filter_eq_self];intro e he;rw[qWc]at he;simpa using hlt e he.1
 have hnew:(ents.filter fun e=>!seen.toArray.contains e.born).filter (fun e=>decide (e.born>=n))=#[]:=by
  rw[Array.filter_eq_empty_iff];intro e he;rw[qWc]at he;have:=hlt e he.1;simp; omega
 have hmem:∀e,e∈(ents.filter fun e=>!seen.toArray.contains e.born)↔∃j,j∈qcs n seen/\ents[j]?=some e:=by
  intro e;rw[qWc];constructor
  ·rintro⟨he,hs⟩
   obtain⟨j,hj,rfl⟩:=qWb.1 he;have hbj:=hb j ents[j] (by simp[hj]);refine⟨j,qo6.2 ⟨by omega,?_⟩,by simp[hj]⟩;rw[hbj]at hs;simpa using hs
  ·rintro⟨j,hj,he⟩
   have hbj:=hb j e he;refine⟨qVR he,?_⟩;rw[hbj];simpa using(qo6.1 hj).2
 generalize hF:(ents.filter fun e=>!seen.toArray.contains e.born)=F at hold hnew hmem;have hempty:F.size=0↔qcs n seen=[]:=by
  constructor
  ·intro h;have:F=#[]:=qVs h;subst this;rw[List.eq_nil_iff_forall_not_mem];intro j hj;have hjn:=(qo6.1 hj).1;have:=(hmem ents[j]).2 ⟨j,hj,by simp[show j<ents.size by omega]⟩;simp at this
  ·intro h;apply Nat.eq_zero_of_not_pos;intro hp;obtain⟨j,hj,_⟩:=(hmem F[0]).1 (by simp);rw[h]at hj; cases hj
 have hhead:(Instr.next (.pointer (some ⟨r,0,none⟩)) false ty).run P w=(do
   match ((if F.isEmpty then #[none]else #[])++F.map some)[<-choose (.mapNext ((if F.isEmpty then #[none]else #[])++F.map some).size)]? with
   | some (some e) =>
    setObj r (.mapIter (some mb) n (seen.toArray.push e.born) n)
    pure (.tuple #[.bool true,e.key,e.val])
   | some none=>pure (.tuple #[.bool false])|none=>stuck "Next: no such candidate":Sem Value).run P w:=by
  simp only[Instr.next,Sem.run_bind,hgo1,hgo2,Result.andThen_ok];rw[if_neg (by rw[hcond]; simp)];simp only[hF,hold,hnew,Array.append_empty];rw[Sem.run_bind]
  congr 1
 refine⟨fun h0=>?_,fun h0=>?_⟩
 ·have:F=#[]:=qVs (hempty.2 h0);subst this;rw[hhead];simp[Question.forced]
 ·have hp:0<F.size:=by
   apply Nat.pos_of_ne_zero;intro h; exact h0 (hempty.1 h)
  have hne:F.isEmpty=false:=by
   cases h:F.isEmpty with
   | false=>rfl|true=>have:=Array.isEmpty_iff.1 h; subst this; simp at hp
  have key:∀(c:Nat) (wd:World),c<F.size->(wd=w\/wd=w.drew)->(choose (.mapNext F.size)).run P w=.ok c wd->∃j e wd,j∈qcs n seen/\ents[j]?=some e/\(wd=w\/wd=w.drew)/\(Instr.next (.pointer (some ⟨r,0,none⟩)) false ty).run P w =
    .ok (.tuple #[.bool true,e.key,e.val]) {wd with heap:=wd.heap.setIfInBounds r (.mapIter (some mb) n (seen++[j]).toArray n)}:=by
   intro c wd hc hwd hch;obtain⟨j,hj,he⟩:=(hmem F[c]).1 (by simp);refine⟨j,F[c],wd,hj,he,hwd,?_⟩;rw[hhead];have hbj:=hb j _ he;have hr':wd.heap[r]?=some (.mapIter (some mb) n seen.toArray n):=by rcases hwd with rfl|rfl<;>exact hr
   have hso:=qeU (P:=P) (o':=.mapIter (some mb) n (seen.toArray.push F[c].born) n) hr' (by simp);have hcand:((if F.isEmpty=true then #[none]else #[])++F.map some:Array (Option MapEntry))=F.map some:=by rw[hne]; simp
   have hsize:(F.map some:Array (Option MapEntry)).size=F.size:=by simp
   simp only[hcand,hsize,Sem.run_bind,hch,Result.andThen_ok];have hget:(F.map some:Array (Option MapEntry))[c]?=some (some F[c]):=by simp[hc]
   simp only[hget,Sem.run_bind,hso,Result.andThen_ok,Sem.run_pure];rw[hbj];simp
  by_cases h1:F.size<=1
  ·exact key 0 w hp (.inl rfl) (by simp[Question.forced,h1])
  ·exact key _ w.drew (qUX _ hp) (.inr rfl) (by simp[Question.forced,h1,Question.cut]; rfl)
def qo7 (hg:GOK g rows) (inv:Inv w0 own m S w rows) {x:V} {xr:Value} {r:Nat} {es:List (D×V)} {seen:List Nat} (h:qhF g x=some (r,es,seen)) (hx:RV m S w x xr) :
  ∃b,m r=some (b,0)/\rows[r]?=some (qc.live (.iter es seen))/\xr=.pointer (some ⟨b,0,none⟩)/\YF m S w b 0 (.iter es seen):=by
 unfold qhF at h;split at h
 ·rename_i r' k i f;split at h
  ·rename_i h0;split at h
   ·rename_i es' seen' hgr;cases h
    cases hx with
    | pt r k i f b o hm =>
    have hrow:=hg r _ hgr;have hrel:=Y8 inv hrow hm;have ho:=hrel.1;subst ho;refine⟨b,hm,hrow,?_,hrel⟩;have:0+i*k+f=0:=by omega
    rw[this]
   ·cases h
  ·cases h
 ·cases h
def qu1 (inv:Inv w0 own m S w rows) {r b mb:Nat} {es:List (D×V)} {seen:List Nat} {ents:Array MapEntry} (hm:m r=some (b,0)) (hr:rows[r]?=some (qc.live (.iter es seen))) (hS:S mb)
  (h1:w.heap[mb]?=some (.map ents es.length)) (h2:ents.size=es.length) (hbn:∀(j:Nat) (x:MapEntry),ents[j]?=some x->x.born=j)
  (h3:∀(j:Nat) (e:D×V) (x:MapEntry),es[j]?=some e->ents[j]?=some x->RD S w e.1 x.key/\RV m S w e.2 x.val) (h4:w.heap[b]?=some (.mapIter (some mb) es.length seen.toArray es.length))
  {wd:World} (hwd:wd=w\/wd=w.drew) (j:Nat) :
  Inv w0 own m S {wd with heap:=wd.heap.setIfInBounds b (.mapIter (some mb) es.length (seen++[j]).toArray es.length)} (qv rows r (qc.live (.iter es (seen++[j])))) /\
   Ext m S w m S {wd with heap:=wd.heap.setIfInBounds b (.mapIter (some mb) es.length (seen++[j]).toArray es.length)}:=by
 have hlt:=inv.bnd r b 0 hm;have hne:mb≠b:=fun e=>inv.stab r _ b 0 hr rfl hm (e ▸ hS)
 have hh:wd.heap=w.heap:=by rcases hwd with rfl|rfl<;>rfl
 have ho:wd.os=w.os:=by rcases hwd with rfl|rfl<;>rfl
 have ht:wd.tape=w.tape:=by rcases hwd with rfl|rfl<;>rfl
 have hu:wd.output=w.output:=by rcases hwd with rfl|rfl<;>rfl
 refine inv.writeG (row:=.iter es seen) (row':=.iter es (seen++[j])) (b:=b) (o:=0) hr hm rfl rfl (by simp[hh]) (fun c hc=>?_) ?_ ho ht hu (fun ext=>?_)
 ·show(wd.heap.setIfInBounds b _)[c]?=_;rw[hh,qVy (fun e=>hc e.symm)]
 ·have e0:Yf w b=0:=by unfold Yf; rw[h4]
  omega
 ·refine⟨rfl,mb,ents,hS,?_,h2,hbn,fun j e x a c=>⟨(h3 j e x a c).1.ext ext,(h3 j e x a c).2.ext ext⟩,?_⟩
  ·show(wd.heap.setIfInBounds b _)[mb]?=_;rw[hh,qVy (fun e=>hne e.symm)]; exact h1
  ·show(wd.heap.setIfInBounds b _)[b]?=_;rw[hh,qWd hlt]
def qu2 {a b c:V} {u v x:Value} (h1:RV m S w a u) (h2:RV m S w b v) (h3:RV m S w c x):RV m S w (.tup [a,b,c]) (.tuple #[u,v,x]):=.tup _ _ rfl (fun j x y e1 e2=>by
 match j with
 | 0=>simp at e1 e2; subst e1; subst e2; exact h1|1=>simp at e1 e2; subst e1; subst e2; exact h2|2=>simp at e1 e2; subst e1; subst e2; exact h3|_+3=>simp at e1)
def qCR {a:V} {u:Value} (h1:RV m S w a u):RV m S w (.tup [a]) (.tuple #[u]):=.tup _ _ rfl (fun j x y e1 e2=>by
 match j with
 | 0=>simp at e1 e2; subst e1; subst e2; exact h1|_+1=>simp at e1)
def qCS (hg:GOK g rows) (inv:Inv w0 own m S w rows) {slot:Nat} {ty:TypeId} {x:V} {xr:Value} {res:Res} (h:qo5 g x=some res) (hx:RV m S w x xr) :
  qbV P w0 own m S w rows slot (Instr.next xr false ty) res:=by
 unfold qo5 at h;split at h
 ·rename_i r es seen hi;obtain⟨b,hm,hrow,rfl,hrel⟩:=qo7 hg inv hi hx;obtain⟨_,mb,ents,hS,h1,h2,hbn,h3,h4⟩:=hrel;obtain⟨n1,n2⟩:=qu0 (P:=P) (ty:=ty) h4 h1 h2 hbn;split at h
  ·rename_i hrem;cases h;exact⟨_,w,m,S,n1 hrem,inv,Ext.refl ..,qCR (.d _ _ (.bool _))⟩
  ·rename_i j hrem;obtain⟨j',e,wd,hj',he,hwd,hrun⟩:=n2 (by rw[hrem]; simp);rw[hrem]at hj';have:j'=j:=by simpa using hj'
   subst this;unfold qj8 at h;split at h
   ·rename_i e' he';cases h;obtain⟨k1,k2⟩:=qu1 inv hm hrow hS h1 h2 hbn h3 h4 hwd j';obtain⟨r1,r2⟩:=h3 j' e' e he' he;exact⟨_,_,m,S,hrun,k1,k2,qu2 (.d _ _ (.bool _)) (.d _ _ (r1.ext k2)) (r2.ext k2)⟩
   ·cases h
  ·cases h
 ·cases h
def qCT (hg:GOK g rows) (inv:Inv w0 own m S w rows) {x v:V} {xr:Value} (h:qj9 g x=some v) (hx:RV m S w x xr):∃u,(Instr.entry xr).run P w=.ok u w/\RV m S w v u:=by
 unfold qj9 at h;split at h
 ·rename_i r es seen hi;obtain⟨b,hm,hrow,rfl,hrel⟩:=qo7 hg inv hi hx;obtain⟨_,mb,ents,hS,h1,h2,hbn,h3,h4⟩:=hrel;split at h
  ·rename_i j hj;split at h
   ·rename_i e he;cases h;have hjl:=q7 he;have hent:ents[j]?=some (ents[j]'(by omega)):=by simp[show j<ents.size by omega]
    obtain⟨r1,r2⟩:=h3 j e _ he hent;have hborn:=hbn j _ hent;have hgo1:=qct (P:=P) h4 (by simp);have hgo2:=qct (P:=P) h1 (by simp);have hback:seen.toArray.back?=some j:=by simpa using hj
    have hfind:ents.find? (fun e=>e.born==j)=some (ents[j]'(by omega)):=by
     cases hf:ents.find? (fun e=>e.born==j)with
     | none =>
      rw[Array.find?_eq_none]at hf;have:=hf (ents[j]'(by omega)) (by simp);rw[hborn]at this;simp at this
     | some q =>
      have hq:=Array.find?_some hf;have hqm:=Array.mem_of_find?_eq_some hf;obtain⟨i,hi',rfl⟩:=qWb.1 hqm;have hbi:=hbn i ents[i] (by simp[hi']);have:i=j:=by simpa[hbi]using hq
      subst this;rfl
    refine⟨.tuple #[(ents[j]'(by omega)).key,(ents[j]'(by omega)).val],?_,qpc (.d _ _ r1) r2⟩;simp only[Instr.entry,Sem.run_bind,hgo1,hgo2,Result.andThen_ok,hback,hfind,Sem.run_pure];simp
   ·cases h
  ·cases h
 ·cases h
def qCU (hT:TOK P T) (hg:GOK g rows) (inv:Inv w0 own m S w rows) {slot:Nat} (hs:Yn m rows slot) {t:TypeId} {x:V} {xr:Value} {res:Res} (h:qo4 T g slot t x=some res) (hx:RV m S w x xr) :
  qbV P w0 own m S w rows slot (Instr.range t xr) res:=by
 unfold qo4 at h;split at h
 ·rename_i y r hy;have hu:=YD (w:=w) (hT t y hy);split at h
  ·rename_i kt et es c ro hd hgr;rw[hd]at hu;cases h
   cases hx with
   | mp _ b o hm =>
   have hrow:=hg r _ hgr;obtain⟨ents,h1,h2,⟨hc,hbn⟩,h3⟩:=Y8 inv hrow hm;have hfz:∃S1,Inv w0 own m S1 w (qv rows r (qc.live (.map es c true)))/\Ext m S w m S1 w/\S1 b:=by
    cases ro with
    | false =>
     obtain⟨k1,k2⟩:=inv.freeze r _ b o hrow rfl rfl hm;exact⟨_,k1,k2,.inr rfl⟩
    | true =>
     have:=qdJ hrow;rw[this];exact⟨S,inv,Ext.refl ..,inv.rost r _ b o hrow rfl hm⟩
   obtain⟨S1,i1,e1,s1⟩:=hfz;have hl:=qbU hrow;have hs1:Yn m (qv rows r (qc.live (.map es c true))) slot:=Yn.mk' i1 (by simp[qv,hl]; exact hs.le) hs.new;subst hc;obtain⟨k1,k2⟩:=i1.fresh hs1 (.mapIter (some b) es.length #[] es.length) (.iter es []) rfl (fun ext=>⟨rfl,b,ents,s1,(ext.obj b s1).trans h1,h2,hbn,fun j e x a q=>⟨((h3 j e x a q).1.ext e1).ext ext,((h3 j e x a q).2.ext e1).ext ext⟩,qcu w _⟩);have hgo:=qct (P:=P) h1 (by simp);refine⟨_,_,_,S1,?_,k1,e1.trans k2,qpf slot w.heap.size _⟩;simp only[Instr.range,Sem.run_bind,hu,Result.andThen_ok,hgo,Sem.run_pure,run_newObj,World.alloc_eq]
  ·cases h
 ·cases h
end
section
def qeK:V->Option V
 | .any=>none|v=>some v
def qCn {v x:V} (h:qeK v=some x):x=v/\v≠.any:=by
 unfold qeK at h;split at h
 ·cases h
 ·rename_i hv; cases h; exact⟨rfl,hv⟩
def YX (env:List V):Operand->Option V
 | .tmp t=>qeK (env.getD t V.undef)|.const v=>qhQ v|.global g=>match Glob.gl g with
  | some x=>some (.dp x)|none=>none
 | .func f=>some (.fn f [])
def YR (env:List V):List Operand->Option (List V)
 | []=>some []|x::r=>match YX env x,YR env r with
  | some v,some l=>some (v::l)|_,_=>none
def qO:Op->List Operand
 | .move x | .assign x | .box _ x | .load _ x | .nilCheck x | .unOp _ _ x | .convert _ _ x | .fieldAddr _ x _ | .field _ x _ | .extract x _ | .sliceToArrayPointer _ x | .makeInterface _ x | .typeAssert x _ _ _ | .range _ x | .next x _ | .entry x=>[x]|.pick c a b=>[c,a,b]|.build _ ps | .buildSlice _ _ ps=>ps.toList.map (·.2)|.lookup _ a v _=>[a,v]|.mapUpdate _ a k v | .insert _ a k v=>[a,k,v]|.store _ a v | .binOp _ _ a v _ | .makeSlice _ a v | .indexAddr _ a v | .index _ a v=>[a,v]|.makeFunc _ f c=>f.toList++c.toList|.slice _ x l h m=>x::(l.toList++(h.toList++m.toList))|.call c=>c.args.toList|_=>[]
def Yx (o:Option Operand) (vs:List V):Option V×List V :=
 match o,vs with
 | some _,v::r=>(some v,r)|_,vs=>(none,vs)
def act (T:TypeId->Option Ty) (g:qq) (slot:Nat) (o:Op) (vs:List V):Option Res :=
 match o,vs with
 | .move _,[v]=>some {v}|.assign _,[v]=>some {v}|.pick _ _ _,[.d (.bool b),x,y]=>some {v:=if b then x else y}
 | .alloc e,[]=>match T e with
  | some y=>match Js y.zero.cells.toList with
   | some zs=>some {v:=.pt slot 0 0 0,fresh:=some (.box zs false)}|none=>none
  | none=>none
 | .box _ _,[v]=>some {v:=.pt slot 0 0 0,fresh:=some (.box v.cells false)}|.build t ps,vs=>(qkr T t (ps.toList.map (·.1)) vs).map fun v=>{v}
 | .buildSlice t len ps,vs=>qpy T g slot t len (ps.toList.map (·.1)) vs|.makeMap _ none,[]=>some {v:=.mp slot,fresh:=some (.map [] 0 false)}|.lookup t _ _ ok,[x,k]=>(qf4 T g t x k ok).map fun v=>{v}
 | .mapUpdate t _ _ _,[x,k,v]=>qf5 T g t x k v|.insert t _ _ _,[x,k,v]=>qf5 T g t x k v|.load t _,[a]=>(qa4 T g t a).map fun v=>{v}
 | .store t _ _,[a,x]=>qaM T g t a x|.nilCheck _,[v]=>match v with
  | .pt .. | .dp _ | .fn .. | .fp _=>some {v}|_=>none
 | .binOp op t _ _ _,[x,y]=>orD (Jt T op t x y) ((qdI T op t x y).map fun v=>{v})
 | .unOp op _ _,[x]=>(unA op x).map fun v=>{v}
 | .convert s d _,[x]=>qdH T g s d x|.makeFunc (.func f) first caps,vs=>if first.size=0 then some {v:=.fn f vs}else if caps.size=0 then some {v:=.bf f vs}else none
 | .makeSlice t _ _,[l,c]=>qeW T slot t l c|.slice t _ l h mx,x::vs =>
  let (lo,r1):=Yx l vs
  let (hi,r2):=Yx h r1
  let (m3,_):=Yx mx r2
  (qcw T g t x lo hi m3).map fun v=>{v}
 | .sliceToArrayPointer t _,[x]=>(qku T t x).map fun v=>{v}
 | .makeInterface t _,[x]=>(qks T t x).map fun v=>{v}
 | .typeAssert _ _ t ok,[x]=>(qkt T t ok x).map fun v=>{v}
 | .range t _,[x]=>qo4 T g slot t x|.next _ false,[x]=>qo5 g x|.entry _,[x]=>(qj9 g x).map fun v=>{v}
 | .fieldAddr s _ f,[x]=>(qko T s f x).map fun v=>{v}
 | .field t _ f,[x]=>(qkp T t f x).map fun v=>{v}
 | .indexAddr t _ _,[x,i]=>(qa5 T t x i).map fun v=>{v}
 | .index t _ _,[x,i]=>(qdM T t x i).map fun v=>{v}
 | .extract _ i,[.tup vs]=>match vs[i]? with
  | some v=>some {v}|none=>none
 | .call c,vs=>match c.callee with
  | .builtin .len=>match c.argTypes.toList,vs with
   | [t],[x]=>(qkv T t x).map fun v=>{v}
   | _,_=>none
  | .builtin .cap=>match c.argTypes.toList,vs with
   | [t],[x]=>(qkw T t x).map fun v=>{v}
   | _,_=>none
  | .builtin .max=>(qkx vs).map fun v=>{v}
  | .builtin .min=>(qky vs).map fun v=>{v}
  | .builtin .append=>match c.argTypes.toList,vs with
   | [t,u],[s,x]=>match qhS T g slot t u s x with
    | some r=>some r|none=>match qpn T g slot t u s x with
     | some r=>some r|none=>qpp T slot t u s x
   | _,_=>none
  | .builtin .copy=>match c.argTypes.toList,vs with
   | [t,_],[d,s]=>qhT T g t d s|_,_=>none
  | .builtin .clear=>match c.argTypes.toList,vs with
   | [t],[d]=>qhU T g t d|_,_=>none
  | _=>none
 | _,_=>none
variable {P:Program} {T:TypeId->Option Ty} {w0:World} {own:Own} {m:Mp} {S:Nat->Prop} {w:World} {rows:Rows} {g:qq}
def qf0 (m:Mp) (S:Nat->Prop) (w:World) (env:List V) (U:Operand->Value):Prop:=∀x v,YX env x=some v->RV m S w v (U x)
def qjT {env:List V} {U:Operand->Value} (h:qf0 m S w env U):∀{xs:List Operand} {vs:List V},YR env xs=some vs->RVs m S w vs (xs.map U).toArray
 | [],vs,e=>by simp[YR]at e; subst e; exact RVs.nil
 | x::xs,vs,e=>by
  simp only[YR]at e;split at e
  ·rename_i v l h1 h2;cases e;have ih:=qjT h h2;refine⟨by have:=ih.1; simpa using this,fun j y u hy hu=>?_⟩
   cases j with
   | zero=>simp at hy hu; subst hy; subst hu; exact h x _ h1|succ j=>simp at hy hu; exact ih.2 j y u hy (by simpa using hu)
  ·cases e
def Yg (P:Program) (w0:World) (own:Own) (m:Mp) (S:Nat->Prop) (w:World) (rows:Rows) (slot:Nat) (s:Sem Next) (res:Res):Prop :=
 ∃nx u w' m' S',s.run P w=.ok nx w'/\(nx=.value u\/(nx=.skip/\u=Go.undef))/\Inv w0 own m' S' w' (qag slot res rows)/\Ext m S w m' S' w'/\RV m' S' w' res.v u
def qco:RV m S w V.undef Go.undef:=.tup [] #[] rfl (fun j x v h=>by simp at h)
def Yg.ofPure (inv:Inv w0 own m S w rows) {slot:Nat} {s:Sem Value} {v:V} {u:Value} (h:s.run P w=.ok u w) (hr:RV m S w v u) :
  Yg P w0 own m S w rows slot (do pure (.value (<-s))) {v} :=
 ⟨.value u,u,w,m,S,by simp[h],.inl rfl,inv,Ext.refl ..,hr⟩
def Yg.left {slot:Nat} {s:Sem Value} {res:Res} (h:qbV P w0 own m S w rows slot s res):Yg P w0 own m S w rows slot (do pure (.value (<-s))) res:=by
 obtain⟨u,w',m',S',h1,h2,h3,h4⟩:=h;exact⟨.value u,u,w',m',S',by simp[h1],.inl rfl,h2,h3,h4⟩
def qdC {x y:V} {arr:Array Value} (h:RVs m S w [x,y] arr):∃a b,arr=#[a,b]/\RV m S w x a/\RV m S w y b:=by
 obtain⟨l⟩:=arr
 match l,h with
 | [a,b],h=>exact⟨a,b,rfl,h.2 0 x a rfl rfl,h.2 1 y b rfl rfl⟩|[],h=>have:=h.1; simp at this
 | [_],h=>have:=h.1; simp at this
 | _::_::_::_,h=>have:=h.1; simp at this
def Jh {x:V} {arr:Array Value} (h:RVs m S w [x] arr):∃a,arr=#[a]/\RV m S w x a:=by
 obtain⟨l⟩:=arr
 match l,h with
 | [a],h=>exact⟨a,rfl,h.2 0 x a rfl rfl⟩|[],h=>have:=h.1; simp at this
 | _::_::_,h=>have:=h.1; simp at this
def qjU {x:V} {xs:List V} {a:Value} {l:List Value} (h:RVs m S w (x::xs) (a::l).toArray):RVs m S w xs l.toArray :=
 ⟨by have:=h.1; simpa using this,fun j y u hy hu=>h.2 (j+1) y u (by simpa using hy) (by simpa using hu)⟩
def qoS {o:Option Operand} {U:Operand->Value} {vs:List V} {rest:List Value} (h:RVs m S w vs ((o.map U).toList++rest).toArray) :
  qd0 m S w (Yx o vs).1 (o.map U)/\RVs m S w (Yx o vs).2 rest.toArray:=by
 cases o with
 | none=>cases vs<;>exact⟨trivial,by simpa[Yx]using h⟩
 | some x =>
  cases vs with
  | nil=>have:=h.1; simp at this
  | cons v vs =>
   have h':RVs m S w (v::vs) (U x::rest).toArray:=by simpa using h
   exact⟨h'.2 0 v _ rfl (by simp),qjU h'⟩
def quI {α:Type} {a:Array α} {x y:α} (h:a.toList=[x,y]):a=#[x,y]:=by apply qUD; simpa using h
def qoT {α:Type} {a:Array α} {x:α} (h:a.toList=[x]):a=#[x]:=by apply qUD; simpa using h
set_option maxHeartbeats 1000000 in
def qoU (hT:TOK P T) (hg:GOK g rows) (inv:Inv w0 own m S w rows) {slot:Nat} (hs:Yn m rows slot) {env:List V} {U:Operand->Value} (hU:qf0 m S w env U) {o:Oper} {vs:List V} {res:Res}
  (hv:YR env (qO o.op)=some vs) (h:act T g slot o.op vs=some res):Yg P w0 own m S w rows slot (execOp U o) res:=by
 have hvs:=qjT hU hv;obtain⟨dst,op,type,pos,after,guard⟩:=o;simp only at hv h hvs;unfold act at h;split at h
 ·cases h; obtain⟨a,e,hr⟩:=Jh hvs;simp[qO]at e; subst e;exact⟨.value _,_,w,m,S,rfl,.inl rfl,inv,Ext.refl ..,hr⟩
 ·cases h; obtain⟨a,e,hr⟩:=Jh hvs;simp[qO]at e; subst e;exact⟨.value _,_,w,m,S,rfl,.inl rfl,inv,Ext.refl ..,hr⟩
 ·cases h;rename_i c a b bb x y;have h0:=hvs.2 0 _ (U c) rfl (by simp[qO]);have h1:=hvs.2 1 _ (U a) rfl (by simp[qO]);have h2:=hvs.2 2 _ (U b) rfl (by simp[qO]);have e:=qdb h0;refine⟨.value (if bb then U a else U b),_,w,m,S,by simp[execOp,e,asBool],.inl rfl,inv,Ext.refl ..,?_⟩;cases bb<;>simpa
 ·rename_i e;split at h
  ·rename_i y hy;split at h
   ·rename_i zs hz;cases h;obtain⟨u,w',m',h1,h2,h3,h4⟩:=qDu hT inv hs hy hz;exact Yg.left (res:={v:=.pt slot 0 0 0,fresh:=some (.box zs false)}) ⟨u,w',m',S,h1,h2,h3,h4⟩
   ·cases h
  ·cases h
 ·cases h;rename_i e x v;obtain⟨a,ea,hr⟩:=Jh hvs;simp[qO]at ea; subst ea;obtain⟨u,w',m',h1,h2,h3,h4⟩:=qDt (P:=P) (e:=e) inv hs hr;exact Yg.left (res:={v:=.pt slot 0 0 0,fresh:=some (.box v.cells false)}) ⟨u,w',m',S,h1,h2,h3,h4⟩
 ·rename_i t ps
  cases hb:qkr T t (ps.toList.map (·.1)) vs with
  | none=>rw[hb]at h; cases h
  | some v =>
   rw[hb]at h; cases h;have e1:(ps.toList.map fun p=>(p.1,U p.2)).map (·.1)=ps.toList.map (·.1):=by simp
   have e2:(ps.toList.map fun p=>(p.1,U p.2)).map (·.2)=(ps.toList.map (·.2)).map U:=by simp
   obtain⟨u,h1,h2⟩:=qDw (P:=P) (m:=m) (S:=S) (w:=w) (parts:=ps.toList.map fun p=>(p.1,U p.2)) hT (by rw[e1]; exact hb) (by rw[e2]; exact hvs);have e3:(ps.toList.map fun p=>(p.1,U p.2)).toArray=ps.map fun p=>(p.1,U p.2):=by apply qUD; simp
   rw[e3]at h1;exact Yg.ofPure inv h1 h2
 ·rename_i t len ps;have e1:(ps.toList.map fun p=>(p.1,U p.2)).map (·.1)=ps.toList.map (·.1):=by simp
  have e2:(ps.toList.map fun p=>(p.1,U p.2)).map (·.2)=(ps.toList.map (·.2)).map U:=by simp
  have key:=qDz (P:=P) (parts:=ps.toList.map fun p=>(p.1,U p.2)) hT hg inv hs (by rw[e1]; exact h) (by rw[e2]; exact hvs);have e3:(ps.toList.map fun p=>(p.1,U p.2)).toArray=ps.map fun p=>(p.1,U p.2):=by apply qUD; simp
  rw[e3]at key;exact Yg.left key
 ·rename_i t;cases h;obtain⟨u,w',m',h1,h2,h3,h4⟩:=qDq (P:=P) inv hs t;exact Yg.left (res:={v:=.mp slot,fresh:=some (.map [] 0 false)}) ⟨u,w',m',S,h1,h2,h3,h4⟩
 ·rename_i t xo ko ok x k;obtain⟨ar,br,ea,hr1,hr2⟩:=qdC hvs;simp[qO]at ea;obtain⟨ea,eb⟩:=ea;subst ea; subst eb
  cases hb:qf4 T g t x k ok with
  | none=>rw[hb]at h; cases h
  | some v =>
   rw[hb]at h; cases h;obtain⟨u,h1,h2⟩:=qCZ (P:=P) hT hg inv hb hr1 hr2;exact Yg.ofPure inv h1 h2
 ·rename_i t xo ko vo x k v;have h0:=hvs.2 0 _ (U xo) rfl (by simp[qO]);have h1:=hvs.2 1 _ (U ko) rfl (by simp[qO]);have h2:=hvs.2 2 _ (U vo) rfl (by simp[qO]);obtain⟨w',e1,e2,e3,e4,e5⟩:=qva (P:=P) hT hg inv h h0 h1 h2;refine⟨.skip,Go.undef,w',m,S,by simp[execOp,e1],.inr ⟨rfl,rfl⟩,?_,e3,by rw[e4]; exact qco⟩;unfold qag; rw[e5]; exact e2
 ·rename_i t xo ko vo x k v;have h0:=hvs.2 0 _ (U xo) rfl (by simp[qO]);have h1:=hvs.2 1 _ (U ko) rfl (by simp[qO]);have h2:=hvs.2 2 _ (U vo) rfl (by simp[qO]);obtain⟨w',e1,e2,e3,e4,e5⟩:=qva (P:=P) hT hg inv h h0 h1 h2;refine⟨.skip,Go.undef,w',m,S,by simp[execOp,e1],.inr ⟨rfl,rfl⟩,?_,e3,by rw[e4]; exact qco⟩;unfold qag; rw[e5]; exact e2
 ·rename_i t x a;obtain⟨ar,ea,hr⟩:=Jh hvs;simp[qO]at ea; subst ea
  cases hb:qa4 T g t a with
  | none=>rw[hb]at h; cases h
  | some v =>
   rw[hb]at h; cases h;obtain⟨u,h1,h2⟩:=qpW (P:=P) hT hg inv hb hr;exact Yg.ofPure inv h1 h2
 ·rename_i t x y a v;obtain⟨ar,br,ea,hr1,hr2⟩:=qdC hvs;simp[qO]at ea;obtain⟨ea,eb⟩:=ea;subst ea; subst eb;obtain⟨w',S',h1,h2,h3,h4,h5⟩:=qDs (P:=P) hT hg inv h hr1 hr2;refine⟨.skip,Go.undef,w',m,S',by simp[execOp,h1],.inr ⟨rfl,rfl⟩,?_,h3,by rw[h4]; exact qco⟩;unfold qag; rw[h5]; exact h2
 ·rename_i x v;obtain⟨ar,ea,hr⟩:=Jh hvs;simp[qO]at ea; subst ea;split at h
  ·cases h;have hr':=hr;generalize hx:U x=xv at hr hr';cases hr;exact⟨.value _,_,w,m,S,by simp[execOp,hx],.inl rfl,inv,Ext.refl ..,hr'⟩
  ·cases h;have hr':=hr;generalize hx:U x=xv at hr hr';cases hr;exact⟨.value _,_,w,m,S,by simp[execOp,hx],.inl rfl,inv,Ext.refl ..,hr'⟩
  ·cases h;have hr':=hr;generalize hx:U x=xv at hr hr';cases hr;exact⟨.value _,_,w,m,S,by simp[execOp,hx],.inl rfl,inv,Ext.refl ..,hr'⟩
  ·cases h;have hr':=hr;generalize hx:U x=xv at hr hr';cases hr;exact⟨.value _,_,w,m,S,by simp[execOp,hx],.inl rfl,inv,Ext.refl ..,hr'⟩
  ·cases h
 ·rename_i bop t xo yo yt x y;obtain⟨ar,br,ea,hr1,hr2⟩:=qdC hvs;simp[qO]at ea;obtain⟨ea,eb⟩:=ea;subst ea; subst eb
  cases hb:Jt T bop t x y with
  | none =>
   rw[hb]at h;simp only[orD]at h
   cases hb2:qdI T bop t x y with
   | none=>rw[hb2]at h; cases h
   | some v =>
    rw[hb2]at h; cases h;obtain⟨u,h1,h2⟩:=qCN (P:=P) (xo:=xo) (yo:=yo) hT hb2 hr1 hr2;exact Yg.ofPure inv h1 h2
  | some v =>
   rw[hb]at h; cases h;obtain⟨u,h1,h2⟩:=qEx (P:=P) (xo:=xo) (yo:=yo) hT hb hr1 hr2;exact Yg.ofPure inv h1 h2
 ·rename_i uop t xo x;obtain⟨ar,ea,hr⟩:=Jh hvs;simp[qO]at ea; subst ea
  cases hb:unA uop x with
  | none=>rw[hb]at h; cases h
  | some v =>
   rw[hb]at h; cases h;obtain⟨u,h1,h2⟩:=qEy (P:=P) hb hr;exact Yg.ofPure inv h1 h2
 ·rename_i s d xo x;obtain⟨ar,ea,hr⟩:=Jh hvs;simp[qO]at ea; subst ea;exact Yg.left (qCA (P:=P) hT hg inv h hr)
 ·rename_i f first captured;split at h
  ·rename_i hf;cases h;have hfe:first=#[]:=qVs hf;subst hfe;have hcap:RVs m S w vs (captured.map U):=by
    have:(captured.toList.map U).toArray=captured.map U:=by apply qUD; simp
    rw[<-this]; simpa[qO]using hvs
   exact Yg.ofPure inv (s:=Instr.makeFunc (.func f) ((#[]:Array Operand).map U) (captured.map U)) (by simp[Instr.makeFunc]) (.fn f vs _ hcap.1 hcap.2)
  ·split at h
   ·rename_i hf;cases h;have hfe:captured=#[]:=qVs hf;subst hfe;have hcap:RVs m S w vs (first.map U):=by
     have:(first.toList.map U).toArray=first.map U:=by apply qUD; simp
     rw[<-this]; simpa[qO]using hvs
    exact Yg.ofPure inv (s:=Instr.makeFunc (.func f) (first.map U) ((#[]:Array Operand).map U)) (by simp[Instr.makeFunc]) (.bf f vs _ hcap.1 hcap.2)
   ·cases h
 ·rename_i t lo co l c;obtain⟨ar,br,ea,hr1,hr2⟩:=qdC hvs;simp[qO]at ea;obtain⟨ea,eb⟩:=ea;subst ea; subst eb;exact Yg.left (qDA hT inv hs h hr1 hr2)
 ·rename_i t xo l hh mx x vs;have hx:=hvs.2 0 x (U xo) rfl (by simp[qO]);have hrest:RVs m S w vs (((l.map U).toList++((hh.map U).toList++((mx.map U).toList++[]))).toArray):=by
   have:RVs m S w (x::vs) (U xo::((l.map U).toList++((hh.map U).toList++((mx.map U).toList++[])))).toArray:=by
    have e:(qO (.slice t xo l hh mx)).map U=U xo::((l.map U).toList++((hh.map U).toList++((mx.map U).toList++[]))):=by
     cases l<;>cases hh<;>cases mx<;>rfl
    rw[<-e]; exact hvs
   exact qjU this
  obtain⟨a1,r1⟩:=qoS hrest;obtain⟨a2,r2⟩:=qoS r1;obtain⟨a3,r3⟩:=qoS r2;simp only at h
  cases hb:qcw T g t x (Yx l vs).1 (Yx hh (Yx l vs).2).1 (Yx mx (Yx hh (Yx l vs).2).2).1 with
  | none=>rw[hb]at h; cases h
  | some v =>
   rw[hb]at h; cases h;obtain⟨u,h1,h2⟩:=qED (P:=P) hT hg inv hb hx a1 a2 a3;exact Yg.ofPure inv h1 h2
 ·rename_i t xo x;obtain⟨ar,ea,hr⟩:=Jh hvs;simp[qO]at ea; subst ea
  cases hb:qku T t x with
  | none=>rw[hb]at h; cases h
  | some v =>
   rw[hb]at h; cases h;obtain⟨u,h1,h2⟩:=qEC (P:=P) hT hb hr;exact Yg.ofPure inv h1 h2
 ·rename_i t xo x;obtain⟨ar,ea,hr⟩:=Jh hvs;simp[qO]at ea; subst ea
  cases hb:qks T t x with
  | none=>rw[hb]at h; cases h
  | some v =>
   rw[hb]at h; cases h;obtain⟨u,h1,h2⟩:=qEA (P:=P) hT hb hr;exact Yg.ofPure inv h1 h2
 ·rename_i xo xt t ok x;obtain⟨ar,ea,hr⟩:=Jh hvs;simp[qO]at ea; subst ea
  cases hb:qkt T t ok x with
  | none=>rw[hb]at h; cases h
  | some v =>
   rw[hb]at h; cases h;obtain⟨u,h1,h2⟩:=qEB (P:=P) (xt:=xt) hT hb hr;exact Yg.ofPure inv h1 h2
 ·rename_i t xo x;obtain⟨ar,ea,hr⟩:=Jh hvs;simp[qO]at ea; subst ea;exact Yg.left (qCU (P:=P) hT hg inv hs h hr)
 ·rename_i xo x;obtain⟨ar,ea,hr⟩:=Jh hvs;simp[qO]at ea; subst ea;exact Yg.left (qCS (P:=P) hg inv h hr)
 ·rename_i xo x;obtain⟨ar,ea,hr⟩:=Jh hvs;simp[qO]at ea; subst ea
  cases hb:qj9 g x with
  | none=>rw[hb]at h; cases h
  | some v =>
   rw[hb]at h; cases h;obtain⟨u,h1,h2⟩:=qCT (P:=P) hg inv hb hr;exact Yg.ofPure inv h1 h2
 ·rename_i s xo f x;obtain⟨ar,ea,hr⟩:=Jh hvs;simp[qO]at ea; subst ea
  cases hb:qko T s f x with
  | none=>rw[hb]at h; cases h
  | some v =>
   rw[hb]at h; cases h;obtain⟨u,h1,h2⟩:=qEq (P:=P) hT hb hr;exact Yg.ofPure inv h1 h2
 ·rename_i s xo f x;obtain⟨ar,ea,hr⟩:=Jh hvs;simp[qO]at ea; subst ea
  cases hb:qkp T s f x with
  | none=>rw[hb]at h; cases h
  | some v =>
   rw[hb]at h; cases h;obtain⟨u,h1,h2⟩:=qEs (P:=P) hT hb hr;exact Yg.ofPure inv h1 h2
 ·rename_i t xo io x i;obtain⟨ar,br,ea,hr1,hr2⟩:=qdC hvs;simp[qO]at ea;obtain⟨ea,eb⟩:=ea;subst ea; subst eb
  cases hb:qa5 T t x i with
  | none=>rw[hb]at h; cases h
  | some v =>
   rw[hb]at h; cases h;obtain⟨u,h1,h2⟩:=qEr (P:=P) hT hb hr1 hr2;exact Yg.ofPure inv h1 h2
 ·rename_i t xo io x i;obtain⟨ar,br,ea,hr1,hr2⟩:=qdC hvs;simp[qO]at ea;obtain⟨ea,eb⟩:=ea;subst ea; subst eb
  cases hb:qdM T t x i with
  | none=>rw[hb]at h; cases h
  | some v =>
   rw[hb]at h; cases h;obtain⟨u,h1,h2⟩:=qEt (P:=P) hT hb hr1 hr2;exact Yg.ofPure inv h1 h2
 ·rename_i xo i vs;obtain⟨ar,ea,hr⟩:=Jh hvs;simp[qO]at ea; subst ea;split at h
  ·rename_i v hvi;cases h;generalize hx:U xo=xv at hr
   cases hr with
   | tup _ arr hlen hd =>
   obtain⟨u,hu,hru⟩:=RVs.get (m:=m) (S:=S) (w:=w) ⟨hlen,hd⟩ hvi;exact Yg.ofPure inv (s:=Instr.extract (U xo) i) (by rw[hx]; simp[Instr.extract,hu]) hru
  ·cases h
 ·rename_i c;obtain⟨callee,args,ats⟩:=c;have hargs:RVs m S w vs (args.map U):=by
   have:(args.toList.map U).toArray=args.map U:=by apply qUD; simp
   rw[<-this]; exact hvs
  simp only at h;split at h
  ·split at h
   ·rename_i t x hat;have:=qoT hat; subst this
    cases hb:qkv T t x with
    | none=>rw[hb]at h; cases h
    | some v =>
     rw[hb]at h; cases h;obtain⟨a,ea,hr⟩:=Jh hargs;obtain⟨u,h1,h2⟩:=qEE (P:=P) (ty:=type) (ats:=#[t]) (args:=args.map U) hT hb hr rfl (by rw[ea]; rfl);exact Yg.ofPure inv h1 h2
   ·cases h
  ·split at h
   ·rename_i t x hat;have:=qoT hat; subst this
    cases hb:qkw T t x with
    | none=>rw[hb]at h; cases h
    | some v =>
     rw[hb]at h; cases h;obtain⟨a,ea,hr⟩:=Jh hargs;obtain⟨u,h1,h2⟩:=qEF (P:=P) (ty:=type) (ats:=#[t]) (args:=args.map U) hT hb hr rfl (by rw[ea]; rfl);exact Yg.ofPure inv h1 h2
   ·cases h
  ·cases hb:qkx vs with
   | none=>rw[hb]at h; cases h
   | some v =>
    rw[hb]at h; cases h;obtain⟨u,h1,h2⟩:=qEG (P:=P) (ty:=type) (ats:=ats) hb hargs;exact Yg.ofPure inv h1 h2
  ·cases hb:qky vs with
   | none=>rw[hb]at h; cases h
   | some v =>
    rw[hb]at h; cases h;obtain⟨u,h1,h2⟩:=qEH (P:=P) (ty:=type) (ats:=ats) hb hargs;exact Yg.ofPure inv h1 h2
  ·split at h
   ·rename_i t u s x hat;have:=quI hat; subst this;obtain⟨a,b,ea,hr1,hr2⟩:=qdC hargs;split at h
    ·rename_i r ha;cases h;have key:=qDD (P:=P) (ty:=type) hT hg inv hs ha hr1 hr2;rw[<-ea]at key;exact Yg.left key
    ·split at h
     ·rename_i r ha;cases h;have key:=qDI (P:=P) (ty:=type) hT hg inv hs ha hr1 hr2;rw[<-ea]at key;exact Yg.left key
     ·have key:=qDK (P:=P) (ty:=type) hT inv hs h hr1 hr2;rw[<-ea]at key;exact Yg.left key
   ·cases h
  ·split at h
   ·rename_i t u s x hat;have:=quI hat; subst this;obtain⟨a,b,ea,hr1,hr2⟩:=qdC hargs;have key:=qDF (P:=P) (u:=u) (ty:=type) (slot:=slot) hT hg inv h hr1 hr2;rw[<-ea]at key;exact Yg.left key
   ·cases h
  ·split at h
   ·rename_i t x hat;have:=qoT hat; subst this;obtain⟨a,ea,hr1⟩:=Jh hargs;have key:=qDG (P:=P) (ty:=type) (slot:=slot) hT hg inv h hr1;rw[<-ea]at key;exact Yg.left key
   ·cases h
  ·cases h
 ·cases h
end
end Go.Aev
namespace Go.Aev
variable [Glob]
mutual
def D.plain:D->Bool
 | .list _=>false|.agg cs=>D.plains cs|_=>true
def D.plains:List D->Bool
 | []=>true|d::r=>d.plain&&D.plains r
end
def V.plain1:V->Bool
 | .d x=>x.plain|.nil=>true|_=>false
def V.plain:V->Bool
 | .tup vs=>vs.all V.plain1|v=>v.plain1
structure Cfg where
 P:Program
 T:TypeId->Option Ty
 F:FuncId->Option Func
 rc:FuncId->Bool
 po:FuncId->Bool
 RC:FuncId->List V->Rows->Option V
 WC:FuncId->List V->Rows->Option (V×Rows)
def qp (rows:Rows) (r:Nat):Option Row :=
 match rows[r]? with
 | some (.live row)=>some row|_=>none
def qah (rows:Rows) (vs:List V):qq:=fun r=>if (vs.flatMap V.refs).contains r then qp rows r else none
def V.deepRefs:Nat->V->List Nat
 | 0,_=>[]|n+1,v=>match v with
  | .sl r _ _ _ _ _ | .pt r _ _ _ | .mp r | .yl r=>[r]|.fn _ cs | .bf _ cs | .agg cs | .tup cs=>cs.flatMap (V.deepRefs n)|.ifc _ v=>V.deepRefs n v|_=>[]
def qpB:Option Row->List Nat
 | some (.box cs _)=>cs.flatMap (V.deepRefs 4)|some (.map es _ _)=>es.flatMap fun e=>V.deepRefs 4 e.2
 | some (.loop _ _ _ env _ _ _ d)=>d::env.flatMap (V.deepRefs 4)|_=>[]
def qc5 (rows:Rows) (rs:List Nat):List Nat:=(rs++rs.flatMap fun r=>qpB (qp rows r)).eraseDups
def qaN (rows:Rows) (vs:List V):List Nat:=qc5 rows (qc5 rows (qc5 rows ((vs.flatMap (V.deepRefs 4)).eraseDups)))
def qdR {rows rows':Rows} {r:Nat} (h:rows'[r]?=rows[r]?):qp rows' r=qp rows r:=by simp only[qp,h]
def qf9 {rows:Rows} {rs:List Nat}:∀r∈rs,r∈qc5 rows rs:=by
 intro r hr;simp[qc5,List.mem_eraseDups,hr]
def qvR {f g:Nat->List Nat}:∀{rs:List Nat},(∀r∈rs,f r=g r)->rs.flatMap f=rs.flatMap g
 | [],_=>rfl|r::rs,h=>by
  simp only[qUq,h r (by simp),qvR fun x hx=>h x (qTG _ hx)]
def qpC {rows rows':Rows} {rs:List Nat} (h:∀r∈rs,rows'[r]?=rows[r]?):qc5 rows' rs=qc5 rows rs:=by
 unfold qc5;have:(rs.flatMap fun r=>qpB (qp rows' r))=rs.flatMap fun r=>qpB (qp rows r):=qvR fun r hr=>by rw[qdR (h r hr)]
 rw[this]
def qpD {rows rows':Rows} {vs:List V} (h:∀r∈qaN rows vs,rows'[r]?=rows[r]?):qaN rows' vs=qaN rows vs:=by
 unfold qaN at h ⊢;have h1:=qpC (rows:=rows) (rows':=rows') (rs:=(vs.flatMap (V.deepRefs 4)).eraseDups) (fun r hr=>h r (qf9 _ (qf9 _ (qf9 _ hr))));rw[h1];have h2:=qpC (rows:=rows) (rows':=rows') (rs:=qc5 rows ((vs.flatMap (V.deepRefs 4)).eraseDups)) (fun r hr=>h r (qf9 _ (qf9 _ hr)));rw[h2];exact qpC (fun r hr=>h r (qf9 _ hr))
def JM (rows:Rows):List Nat->List (Nat×qc)
 | []=>[]|r::rs=>match qp rows r with
  | some row=>if row.rw&&!row.freeze.rw then(r,.live row.freeze)::JM rows rs else JM rows rs
  | none=>JM rows rs
def qvS {rows rows':Rows}:∀{rs:List Nat},(∀r∈rs,rows'[r]?=rows[r]?)->JM rows' rs=JM rows rs
 | [],_=>rfl|r::rs,h=>by
  simp only[JM,qdR (h r (by simp)),qvS fun x hx=>h x (qTG _ hx)]
def q9 (r:Nat):List Nat->Nat->Option Nat
 | [],_=>none|x::l,i=>if x=r then some i else q9 r l (i+1)
def qz {α γ:Type} (f:α->Option γ):List α->Option (List γ)
 | []=>some []|x::l=>match f x,qz f l with
  | some y,some r=>some (y::r)|_,_=>none
def qA (f:Nat->Option Nat):Nat->V->Option V
 | n,v=>match v with
  | .d x=>some (.d x)|.nil=>some .nil|.dp x=>some (.dp x)|.top=>some .top|.any=>none|.sl r k off len c ex=>(f r).map fun r=>.sl r k off len c ex
  | .pt r k i g=>(f r).map fun r=>.pt r k i g
  | .mp r=>(f r).map .mp|.yl r=>(f r).map .yl|.fp cs=>some (.fp cs)|.fm ks xs=>some (.fm ks xs)|.ifc t v=>match n with
   | 0=>none|n+1=>(qA f n v).map (.ifc t)
  | .fn g cs=>match n with
   | 0=>if cs.isEmpty then some (.fn g [])else none
   | n+1=>(qz (qA f n) cs).map (.fn g)
  | .bf g cs=>match n with
   | 0=>none|n+1=>(qz (qA f n) cs).map (.bf g)
  | .agg cs=>match n with
   | 0=>none|n+1=>(qz (qA f n) cs).map .agg
  | .tup cs=>match n with
   | 0=>if cs.isEmpty then some (.tup [])else none
   | n+1=>(qz (qA f n) cs).map .tup
def qbv (f:Nat->Option Nat):Option Row->Option qc
 | some (.dat k es _)=>some (.live (.dat k es true))|some (.box cs _)=>(qz (qA f 4) cs).map fun cs=>.live (.box cs true)
 | some (.map es c _)=>(qz (fun e=>(qA f 4 e.2).map fun v=>(e.1,v)) es).map fun es=>.live (.map es c true)
 | _=>some .dead
def qeZ (g:Nat->Option Row) (rs:List Nat) (args:List V):Option (List V×Rows) :=
 let f:=fun r=>q9 r rs 0
 match qz (qA f 4) args,qz (fun r=>qbv f (g r)) rs with
 | some args,some rows=>some (args,rows)|_,_=>none
def qkz {α γ:Type} {f g:α->Option γ}:∀{l:List α},(∀x∈l,f x=g x)->qz f l=qz g l
 | [],_=>rfl|x::l,h=>by simp only[qz,h x (by simp),qkz fun y hy=>h y (qTG _ hy)]
def qDQ {g g':Nat->Option Row} {rs:List Nat} {args:List V} (h:∀r∈rs,g' r=g r):qeZ g' rs args=qeZ g rs args:=by
 unfold qeZ;simp only;rw[qkz (f:=fun r=>qbv (fun r=>q9 r rs 0) (g' r)) (g:=fun r=>qbv (fun r=>q9 r rs 0) (g r)) fun r hr=>by rw[h r hr]]
def qbw (c:Cfg) (g:FuncId) (args:List V) (rows:Rows):Option Res :=
 let rs:=qaN rows args
 match qeZ (qp rows) rs args with
 | some (args',rows')=>match c.RC g args' rows' with
  | some v=>if v.plain then some {v}else some {v,ups:=JM rows rs}
  | none=>none
 | none=>none
def qDR {c:Cfg} {g:FuncId} {args:List V} {rows rows':Rows} (h:∀r∈qaN rows args,rows'[r]?=rows[r]?):qbw c g args rows'=qbw c g args rows:=by
 unfold qbw;simp only[qpD h,qDQ fun r hr=>qdR (h r hr),qvS h]
def qkA (f:Nat->Option Nat) (v:V):V:=(qA f 8 v).getD .any
def qP (f:Nat->Option Nat):Option Row->Option qc
 | some (.dat k es ro)=>some (.live (.dat k es ro))|some (.box cs ro)=>(qz (qA f 8) cs).map fun cs=>.live (.box cs ro)
 | some (.map es c ro)=>(qz (fun e=>(qA f 8 e.2).map fun v=>(e.1,v)) es).map fun es=>.live (.map es c ro)
 | some (.loop st pend fn env ps as bd d)=>match f d with
  | some d'=>some (.live (.loop st pend fn (env.map (qkA f)) ps as bd d'))|none=>some .dead
 | some .dfr=>some (.live .dfr)|_=>some .dead
def qkB:qc->Bool
 | .live _=>true|_=>false
def qhV (rs:List Nat):Nat->Rows->Option (List (Nat×qc))
 | _,[]=>some []|i,x::l=>match rs[i]? with
  | none=>some []|some r=>match x with
   | .live row=>match qP (fun j=>rs[j]?) (some row)with
    | some (.live row')=>(qhV rs (i+1) l).map fun us=>(r,.live row')::us
    | _=>none
   | _=>none
def qpE:List qc->Option (Option Row)
 | []=>some none|[.live (.dat k es false)]=>some (some (.dat k es false))|_=>none
def qkC (rs:List Nat) (slot:Nat) (fresh:Bool) (j:Nat):Option Nat:=if j<rs.length then rs[j]? else if fresh&&j==rs.length then some slot else none
def qkD (look:Nat->Option Row) (rs:List Nat) (args:List V):Option (List V×Rows) :=
 if rs.eraseDups.length=rs.length then
  match qz (qA (fun r=>q9 r rs 0) 8) args,qz (fun r=>qP (fun r=>q9 r rs 0) (look r)) rs with
  | some args',some rows'=>if rows'.all qkB then some (args',rows')else none
  | _,_=>none
 else none
def qpF (rs:List Nat) (slot:Nat) (v:V) (rows2:Rows):Option Res :=
 match qhV rs 0 (rows2.take rs.length),qpE (rows2.drop rs.length)with
 | some us,some fr=>match qA (qkC rs slot fr.isSome) 8 v with
  | some v'=>some {v:=v',ups:=us,fresh:=fr}|none=>none
 | _,_=>none
def qc6 (c:Cfg) (look:Nat->Option Row) (rs:List Nat) (slot:Nat) (g:FuncId) (args:List V):Option Res :=
 match qkD look rs args with
 | some (args',rows')=>match c.WC g args' rows' with
  | some (v,rows2)=>qpF rs slot v rows2|none=>none
 | none=>none
def qDS {c:Cfg} {g g':Nat->Option Row} {rs:List Nat} {slot:Nat} {f:FuncId} {args:List V} (h:∀r∈rs,g' r=g r):qc6 c g' rs slot f args=qc6 c g rs slot f args:=by
 unfold qc6 qkD;rw[qkz (f:=fun r=>qP (fun r=>q9 r rs 0) (g' r)) (g:=fun r=>qP (fun r=>q9 r rs 0) (g r)) fun r hr=>by rw[h r hr]]
def qcx (c:Cfg) (slot:Nat) (g:FuncId) (args:List V) (rows:Rows):Option Res :=
 match qbw c g args rows with
 | some res=>some res|none=>qc6 c (qp rows) (qaN rows args) slot g args
def qDT {c:Cfg} {slot:Nat} {g:FuncId} {args:List V} {rows rows':Rows} (h:∀r∈qaN rows args,rows'[r]?=rows[r]?):qcx c slot g args rows'=qcx c slot g args rows:=by
 unfold qcx;rw[qDR h,qpD h,qDS fun r hr=>qdR (h r hr)]
def qa6:Op->Option (Operand×List Operand)
 | .call {callee:=.value f,args,..}=>some (f,args.toList)|_=>none
def qcy:V->List V->Option (FuncId×List V)
 | .fn g caps,vs=>some (g,vs++caps)|.bf g fs,vs=>some (g,fs++vs)|_,_=>none
def qe0 (c:Cfg) (env:List V) (rows:Rows) (slot:Nat) (o:Op):Option Res :=
 match qa6 o with
 | some (f,args)=>match YX env f,YR env args with
  | some fv,some vs=>match qcy fv vs with
   | some (g,as)=>if c.rc g then qcx c slot g as rows else none
   | none=>none
  | _,_=>none
 | none=>match YR env (qO o)with
  | some vs=>act c.T (qah rows vs) slot o vs|none=>none
def qaO (ops:Array Oper) (env:List V) (o:Oper):Option Bool :=
 match o.guard with
 | none=>some true|some (j,want)=>match ((ops[j]?).bind (·.dst))with
  | some d=>match env[d]? with
   | some (.d (.bool b))=>some (b==want)|some (.tup _)=>some false|_=>none
  | none=>none
structure St where
 env:List V
 rows:Rows
structure Rec where
 dst:Option Nat
 v:V
 ups:List (Nat×qc):=[]
 fresh:Option Row:=none
 slot:Nat
 rdT:List Nat
 rdR:Option (List Nat)
def qdS (xs:List Operand):List Nat:=xs.filterMap fun | .tmp t=>some t|_=>none
def qcz (ops:Array Oper) (o:Oper):List Nat :=
 (match o.guard with
  | some (j,_)=>((ops[j]?).bind (·.dst)).toList|none=>[]) ++
 (match qa6 o.op with
  | some (f,args)=>qdS [f]++qdS args|none=>qdS (qO o.op))
def qkE:Op->Bool
 | .move _ | .assign _ | .pick _ _ _ | .alloc _ | .box _ _ | .build _ _ | .nilCheck _ | .binOp _ _ _ _ _ | .unOp _ _ _ | .makeFunc _ _ _
 | .makeSlice _ _ _ | .fieldAddr _ _ _ | .field _ _ _ | .indexAddr _ _ _ | .index _ _ _ | .extract _ _=>true|.call {callee:=.builtin .len,..}=>true|.call {callee:=.builtin .cap,..}=>true|.call {callee:=.builtin .max,..}=>true|.call {callee:=.builtin .min,..}=>true|_=>false
def qDU {T:TypeId->Option Ty} {o:Op} (h:qkE o=true) (g g':qq) (slot:Nat) (vs:List V):act T g slot o vs=act T g' slot o vs:=by
 unfold qkE at h;split at h<;>first
  | rfl
  | (rename_i fn _ _; cases fn<;>rfl)
  | (rcases vs with _|⟨a,_|⟨b,_|⟨c,_|⟨d,vs⟩⟩⟩⟩<;>first
    | rfl
    | (rcases a with d|_|_|_|_|_|_|_|_|_|_|_<;>first
      | rfl
      | (cases d<;>rfl)))
  | (cases h; done)
def qga (rows:Rows) (o:Op) (vs:List V):List Nat :=
 if qkE o then[]else match o,vs with
  | .store _ _ _,.pt r k i f::xs=>match qp rows r with
   | some (.box _ _)=>[r]|_=>(V.pt r k i f::xs).flatMap V.refs
  | _,vs=>vs.flatMap V.refs
def qdT (env:List V) (rows:Rows) (o:Op):Option (List Nat) :=
 match qa6 o with
 | some (f,args)=>match YX env f,YR env args with
  | some fv,some vs=>match qcy fv vs with
   | some (_,as)=>some (qaN rows as)|none=>some []
  | _,_=>some []
 | none=>match YR env (qO o)with
  | some vs=>some (qga rows o vs)|none=>some []
def Rec.wr (a:Rec):List Nat:=a.ups.map (·.1)++(if a.fresh.isSome then[a.slot]else[])
def qc7 (c:Cfg) (ops:Array Oper) (slot0:Nat) (i:Nat) (s:St):Option Rec :=
 match ops[i]? with
 | none=>none|some o=>match qaO ops s.env o with
  | none=>none|some false=>some {dst:=o.dst,v:=V.undef,slot:=slot0+i,rdT:=qcz ops o,rdR:=some []}|some true=>match qe0 c s.env s.rows (slot0+i) o.op with
   | none=>none|some res =>
    let a:Rec:={dst:=o.dst,v:=res.v,ups:=res.ups,fresh:=res.fresh,slot:=slot0+i,rdT:=qcz ops o,rdR:=qdT s.env s.rows o.op}
    if a.wr.all (fun r=>decide (r<s.rows.length))then some a else none
def qI (us:List (Nat×qc)) (rows:Rows):Rows:=us.foldl (fun rs u=>rs.set u.1 u.2) rows
def Rec.all (a:Rec):List (Nat×qc):=a.ups++(match a.fresh with|some row=>[(a.slot,.live row)] | none=>[])
def Rec.exec (a:Rec) (s:St):St :=
 {env:=match a.dst with|some d=>s.env.set d a.v|none=>s.env,rows:=qI a.all s.rows}
def qcA (a b:List Nat):Bool:=a.all fun x=>!b.contains x
def qhW (rd:Option (List Nat)) (wr:List Nat):Bool :=
 match rd with
 | some l=>qcA l wr|none=>wr.isEmpty
def qgb (a b:Rec):Bool :=
 qcA a.dst.toList b.rdT&&qcA b.dst.toList a.rdT&&qcA a.dst.toList b.dst.toList &&
 qhW b.rdR a.wr&&qhW a.rdR b.wr&&qcA a.wr b.wr
def qkF {a b:List Nat} (h:qcA a b=true):∀x,x∈a->x∉b:=by
 intro x hx hb;have:=(qTI.1 h) x hx;simp[hb]at this
def Rec.all_wr (a:Rec):a.all.map (·.1)=a.wr:=by
 unfold Rec.all Rec.wr;cases a.fresh<;>simp
def qhX (us:List (Nat×qc)) (rows:Rows):(qI us rows).length=rows.length:=by
 induction us generalizing rows with
 | nil=>rfl|cons u us ih=>simp only[qI,qUK]; rw[<-qI,ih]; simp
def qpG {us:List (Nat×qc)} {rows:Rows} {r:Nat} (h:r∉us.map (·.1)):(qI us rows)[r]?=rows[r]?:=by
 induction us generalizing rows with
 | nil=>rfl|cons u us ih =>
  simp only[qUa,qTD,not_or]at h;simp only[qI,qUK];rw[<-qI,ih h.2,qUF (fun e=>h.1 e.symm)]
def qDV {us:List (Nat×qc)} {rows:Rows} {r:Nat} {x:qc} (h:r∉us.map (·.1)):qI us (rows.set r x)=(qI us rows).set r x:=by
 induction us generalizing rows with
 | nil=>rfl|cons u us ih =>
  simp only[qUa,qTD,not_or]at h;simp only[qI,qUK];rw[List.set_comm _ _ (fun e=>h.1 e),<-qI,ih h.2]; rfl
def qDW {us vs:List (Nat×qc)} {rows:Rows} (h:∀x,x∈us.map (·.1)->x∉vs.map (·.1)):qI us (qI vs rows)=qI vs (qI us rows):=by
 induction us generalizing rows with
 | nil=>rfl|cons u us ih =>
  have h1:u.1∉vs.map (·.1):=h u.1 (by simp);show qI us ((qI vs rows).set u.1 u.2)=qI vs (qI us (rows.set u.1 u.2));rw[<-qDV h1,ih (fun x hx=>h x (by simp only[qUa,qTD]; exact .inr hx))]
structure qpH (a:Rec) (s t:St):Prop where
 tmp:∀x∈a.rdT,t.env[x]?=s.env[x]?
 row:match a.rdR with
  | some l=>∀r∈l,t.rows[r]?=s.rows[r]?|none=>t.rows=s.rows
 len:t.rows.length=s.rows.length
def qvT {s t:St} {x:Operand} (h:∀y∈qdS [x],t.env[y]?=s.env[y]?):YX t.env x=YX s.env x:=by
 cases x with
 | tmp y=>simp only[YX,List.getD,h y (by simp[qdS])]
 | _=>rfl
def qvU {s t:St} {xs:List Operand} (h:∀y∈qdS xs,t.env[y]?=s.env[y]?):YR t.env xs=YR s.env xs:=by
 induction xs with
 | nil=>rfl|cons x xs ih =>
  simp only[YR];rw[qvT (s:=s) (t:=t) (fun y hy=>h y (by cases x<;>simp_all [qdS])),ih (fun y hy=>h y (by cases x<;>simp_all [qdS]))]
def qvV {rows rows':Rows} {vs:List V} (h:∀r∈vs.flatMap V.refs,rows'[r]?=rows[r]?):qah rows' vs=qah rows vs:=by
 funext r
 unfold qah;split
 ·rename_i hr;have:=h r (by simpa using hr);simp only[qp,this]
 ·rfl
def qDX {T:TypeId->Option Ty} {g g':qq} {t:TypeId} {r k i f:Nat} {x:V} {cs:List V} {ro:Bool} (h:g r=some (.box cs ro)) (h':g' r=some (.box cs ro)) :
  qaM T g t (.pt r k i f) x=qaM T g' t (.pt r k i f) x:=by
 unfold qaM
 cases T t with
 | none=>rfl|some y =>
  simp only[h,h'];cases ro<;>rfl
def qvW {T:TypeId->Option Ty} {slot:Nat} {rows rows':Rows} {o:Op} {vs:List V} (h:∀r∈qga rows o vs,rows'[r]?=rows[r]?) :
  act T (qah rows' vs) slot o vs=act T (qah rows vs) slot o vs/\qga rows' o vs=qga rows o vs:=by
 by_cases hnl:qkE o=true
 ·exact⟨qDU hnl _ _ _ _,by unfold qga; rw[if_pos hnl,if_pos hnl]⟩
 ·unfold qga at h ⊢;rw[if_neg hnl]at h;rw[if_neg hnl,if_neg hnl];split at h
  ·rename_i t a b r k i f xs;split at h
   ·rename_i cs ro hl;have hr:=h r (by simp);have e1:qah rows (V.pt r k i f::xs) r=some (.box cs ro):=by
     simp[qah,V.refs,V.refs1,hl]
    have e2:qah rows' (V.pt r k i f::xs) r=some (.box cs ro):=by
     simp[qah,V.refs,V.refs1,qdR hr,hl]
    refine⟨?_,by simp only[qdR hr,hl]⟩;rcases xs with _|⟨x,_|⟨y,xs⟩⟩
    ·rfl
    ·simp only[act];exact qDX e2 e1
    ·rfl
   ·rename_i hl;have hr:=h r (by simp[V.refs,V.refs1]);refine⟨by rw[qvV h],?_⟩;simp only[qdR hr]
  ·exact⟨by rw[qvV h],rfl⟩
def qvX {c:Cfg} {ops:Array Oper} {slot0 i:Nat} {s t:St} {a:Rec} (h:qc7 c ops slot0 i s=some a) (ag:qpH a s t):qc7 c ops slot0 i t=some a:=by
 unfold qc7 at h ⊢;split at h
 ·cases h
 ·rename_i o ho;have hwant:∀{a':Rec},a'.rdT=qcz ops o->(∀x∈a'.rdT,t.env[x]?=s.env[x]?)->qaO ops t.env o=qaO ops s.env o:=by
   intro a' h1 h2;unfold qaO;split
   ·rfl
   ·rename_i j want hg;split
    ·rename_i d hd;have:t.env[d]?=s.env[d]?:=h2 d (by rw[h1]; unfold qcz; rw[hg]; simp[hd]);rw[this]
    ·rfl
  split at h
  ·cases h
  ·rename_i hw;cases h;rw[hwant (a':={dst:=o.dst,v:=V.undef,slot:=slot0+i,rdT:=qcz ops o,rdR:=some []}) rfl ag.tmp,hw]
  ·rename_i hw;split at h
   ·cases h
   ·rename_i res hres;simp only at h;split at h
    ·rename_i hlt;cases h;have hT:=ag.tmp;have hR:=ag.row;simp only at hT hR;have hop:qe0 c t.env t.rows (slot0+i) o.op=qe0 c s.env s.rows (slot0+i) o.op/\qdT t.env t.rows o.op=qdT s.env s.rows o.op:=by
      unfold qe0 qdT;unfold qcz at hT;unfold qdT at hR
      cases hcv:qa6 o.op with
      | some fa =>
       obtain⟨f,args⟩:=fa;rw[hcv]at hT hR;simp only at hT hR;have e1:=qvT (s:=s) (t:=t) (x:=f) (fun y hy=>hT y (qTH.2 (.inr (qTH.2 (.inl hy)))));have e2:=qvU (s:=s) (t:=t) (xs:=args) (fun y hy=>hT y (qTH.2 (.inr (qTH.2 (.inr hy)))));simp only[e1,e2]
       cases hf:YX s.env f with
       | none=>simp|some fv =>
        cases hvs:YR s.env args with
        | none=>simp|some vs =>
         rw[hf,hvs]at hR;simp only at hR
         cases hfa:qcy fv vs with
         | none=>simp[hfa]|some ga =>
          rw[hfa]at hR;simp only at hR;simp only[hfa,qDT hR,qpD hR,and_self]
      | none =>
       rw[hcv]at hT hR;simp only at hT hR;have e2:=qvU (s:=s) (t:=t) (xs:=qO o.op) (fun y hy=>hT y (qTH.2 (.inr hy)));simp only[e2]
       cases hvs:YR s.env (qO o.op)with
       | none=>simp|some vs =>
        rw[hvs]at hR;simp only at hR;simp only[(qvW (T:=c.T) (slot:=slot0+i) hR).1,(qvW (T:=c.T) (slot:=slot0+i) hR).2,and_self]
     rw[hwant (a':={dst:=o.dst,v:=res.v,ups:=res.ups,fresh:=res.fresh,slot:=slot0+i,rdT:=qcz ops o,rdR:=qdT s.env s.rows o.op}) rfl ag.tmp,hw];simp only[hop.1,hres,hop.2];have hlen:=ag.len;rw[hlen,if_pos hlt]
    ·cases h
def qDY {a:Rec} {s:St} {x:Nat} (h:x∉a.dst.toList):(a.exec s).env[x]?=s.env[x]?:=by
 unfold Rec.exec
 cases hd:a.dst with
 | none=>rfl|some d =>
  rw[hd]at h;simp only[Option.toList_some,qUJ]at h;simp only[qUF (fun e=>h e.symm)]
def qvY {a:Rec} {s:St} {r:Nat} (h:r∉a.wr):(a.exec s).rows[r]?=s.rows[r]?:=by
 unfold Rec.exec;exact qpG (by rw[a.all_wr]; exact h)
def qvZ {a:Rec} {s:St}:(a.exec s).rows.length=s.rows.length:=qhX ..
def qv0 {a b:Rec} {s:St} (h1:qcA a.dst.toList b.rdT=true) (h2:qhW b.rdR a.wr=true):qpH b s (a.exec s):=by
 refine⟨fun x hx=>qDY (fun hd=>qkF h1 x hd hx),?_,qvZ⟩;unfold qhW at h2;split at h2
 ·rename_i l hl;exact fun r hr=>qvY (qkF h2 r hr)
 ·rename_i hl;have hw:a.wr=[]:=by simpa using h2
  have:a.all=[]:=by
   have:=a.all_wr;rw[hw]at this;simpa using this
  show(a.exec s).rows=s.rows;unfold Rec.exec;rw[this]; rfl
def qDZ {a b:Rec} {s:St} (h1:qcA a.dst.toList b.rdT=true) (h2:qhW b.rdR a.wr=true):qpH b (a.exec s) s:=by
 have:=qv0 (s:=s) h1 h2;refine⟨fun x hx=>(this.tmp x hx).symm,?_,this.len.symm⟩;have hr:=this.row;split
 ·rename_i l hl;rw[hl]at hr;exact fun r h=>(hr r h).symm
 ·rename_i hl;rw[hl]at hr;exact hr.symm
def qD0 {a b:Rec} (s:St) (h1:qcA a.dst.toList b.dst.toList=true) (h2:qcA a.wr b.wr=true):a.exec (b.exec s)=b.exec (a.exec s):=by
 unfold Rec.exec;have hr:qI a.all (qI b.all s.rows)=qI b.all (qI a.all s.rows):=qDW (by rw[a.all_wr,b.all_wr]; exact qkF h2);have he:(match a.dst with|some d=>List.set (match b.dst with|some d=>s.env.set d b.v|none=>s.env) d a.v|none=>(match b.dst with|some d=>s.env.set d b.v|none=>s.env)) =
   (match b.dst with|some d=>List.set (match a.dst with|some d=>s.env.set d a.v|none=>s.env) d b.v|none=>(match a.dst with|some d=>s.env.set d a.v|none=>s.env)):=by
  cases ha:a.dst with
  | none=>cases b.dst<;>rfl
  | some d =>
   cases hb:b.dst with
   | none=>rfl|some e =>
    rw[ha,hb]at h1;have hne:d≠e:=by
     intro h3; subst h3;exact qkF h1 d (by simp) (by simp)
    simp only;rw[List.set_comm _ _ (fun h=>hne h.symm)]
 simp only[St.mk.injEq];exact⟨he,hr⟩
def qe1 (c:Cfg) (ops:Array Oper) (slot0:Nat) (R:Nat->Rec):List Nat->St->St->Prop
 | [],s,s'=>s'=s|i::l,s,s'=>qc7 c ops slot0 i s=some (R i)/\qe1 c ops slot0 R l ((R i).exec s) s'
def qe1.move {c:Cfg} {ops:Array Oper} {slot0:Nat} {R:Nat->Rec} {k:Nat} {B:List Nat}:∀{A:List Nat} {s s':St},qe1 c ops slot0 R (A++k::B) s s'->(∀a∈A,qgb (R a) (R k)=true)->qe1 c ops slot0 R (k::(A++B)) s s'
 | [],s,s',h,_=>h|a::A,s,s',h,hi=>by
  obtain⟨h1,h2⟩:=h;obtain⟨h3,h4⟩:=qe1.move h2 (fun x hx=>hi x (qTG _ hx));have hind:=hi a (by simp);simp only[qgb,qTC]at hind;obtain⟨⟨⟨⟨⟨i1,i2⟩,i3⟩,i4⟩,i5⟩,i6⟩:=hind;refine⟨qvX h3 (qDZ i1 i4),qvX h1 (qv0 i2 i5),?_⟩;rw[qD0 s i3 i6];exact h4
def Ji (ops:Array Oper) (k:Nat):List Nat :=
 match ops[k]? with
 | some o=>(o.after.toList.filter fun e=>Region.binds .any e).map (·.on)
 | none=>[]
inductive qa7 (ops:Array Oper):List Nat->List Nat->Prop
 | nil:qa7 ops [] []
 | cons (k:Nat) (A B J:List Nat) (hr:∀j∈Ji ops k,j∉A++k::B) (h:qa7 ops (A++B) J):qa7 ops (A++k::B) (k::J)
inductive Anc (ops:Array Oper):Nat->Nat->Prop
 | one {i k:Nat} (h:i∈Ji ops k):Anc ops i k
 | more {i j k:Nat} (h:j∈Ji ops k) (h':Anc ops i j):Anc ops i k
end Go.Aev
end
