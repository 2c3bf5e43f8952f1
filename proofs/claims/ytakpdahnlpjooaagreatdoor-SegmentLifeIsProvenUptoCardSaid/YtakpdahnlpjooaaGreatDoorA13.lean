/- Lemmas for the statements of this seat: an abstract machine that the model follows, and contracts of functions. Conditions: none. -/
import Derived.Test.YtakpdahnlpjooaaGreatDoorA12
import Derived.ChangeArms
import Derived.ChangeOld
import Derived.RowKit
set_option linter.all false
set_option maxRecDepth 1000000
set_option maxHeartbeats 0
section
namespace Go.Aev.R29
open Go Go.Aev Go.Aev.R
open Go.RowKit (Below)
set_option maxRecDepth 100000
abbrev SW (W:World):Nat→Prop:=fun b=>b<W.heap.size
def RDs (W:World) (ds:List D) (cs:List Value):Prop:=cs.length=ds.length∧∀(j:Nat) (d:D) (v:Value),ds[j]?=some d→cs[j]?=some v→RD (SW W) W d v
theorem RDs.nil {W:World}:RDs W [] []:=⟨rfl,fun j d v h=>by simp at h⟩
theorem RDs.cons {W:World} {d:D} {v:Value} {ds:List D} {cs:List Value} (h:RD (SW W) W d v) (t:RDs W ds cs):RDs W (d::ds) (v::cs) :=
 ⟨by simp[t.1],fun j x y hx hy=>by
  cases j with
  | zero=>simp at hx hy; subst hx; subst hy; exact h|succ j=>simp at hx hy; exact t.2 j x y hx hy⟩
theorem RDs.append {W:World}:∀{ds ds':List D} {cs cs':List Value},RDs W ds cs→RDs W ds' cs'→RDs W (ds++ds') (cs++cs')
 | [],ds',[],cs',_,h2=>h2|[],_,c::cs,_,h1,_=>by have:=h1.1; simp at this
 | d::ds,_,[],_,h1,_=>by have:=h1.1; simp at this
 | d::ds,ds',c::cs,cs',h1,h2=>.cons (h1.2 0 d c rfl rfl) (RDs.append ⟨by have:=h1.1; simpa using this,fun j x y hx hy=>h1.2 (j+1) x y (by simpa using hx) (by simpa using hy)⟩ h2)
theorem qyg {α:Type} {Q:Nat→α→Prop}:∀(n:Nat),(∀i,i<n→∃a,Q i a)→∃l:List α,l.length=n∧∀(i:Nat) (a:α),l[i]?=some a→Q i a
 | 0,_=>⟨[],rfl,fun i a h=>by simp at h⟩
 | n+1,h=>by
  obtain⟨l,h1,h2⟩:=qyg n (fun i hi=>h i (by omega));obtain⟨a,ha⟩:=h n (by omega);refine⟨l++[a],by simp[h1],fun i x hx=>?_⟩;rcases qTQ i l.length with hl|hl
  ·rw[qTZ hl]at hx; exact h2 i x hx
  ·rw[qT1 hl]at hx;have hi:i=n:=by
    rcases qTQ (i - l.length) 1 with h3|h3
    ·omega
    ·rw[qUc (by simpa using h3)]at hx; cases hx
   subst hi;have:i - l.length=0:=by omega
   rw[this]at hx;simp at hx; subst hx; exact ha
structure Bulk (H:Type) where
 f:DataW H→Nat
 fs:List (DataW H)→Nat
 str:∀b,f (.lit (.string b))=b.length+1
 agg:∀l,f (.agg l)=fs l+1
 slice:∀e s,f (.slice e s)=fs e+fs s+1
 nil:fs []=0
 cons:∀d r,fs (d::r)=f d+fs r
 pos:∀d,1≤f d
section
variable {H:Type} {en:TypeId×Value→H} {W:World}
theorem Bulk.len (K:Bulk H):∀l:List (DataW H),l.length≤K.fs l
 | []=>by simp
 | d::r=>by
  have h1:=K.pos d;have h2:=Bulk.len K r;rw[K.cons,qT9]; omega
theorem Bulk.mem (K:Bulk H):∀{l:List (DataW H)} {i:Nat} {d:DataW H},l[i]?=some d→K.f d≤K.fs l
 | [],i,d,h=>by simp at h
 | x::l,0,d,h=>by
  simp at h; subst h;rw[K.cons]; omega
 | x::l,i+1,d,h=>by
  have:=Bulk.mem K (l:=l) (i:=i) (d:=d) (by simpa using h);rw[K.cons]; omega
theorem qJy {α:Type} (toD:α→D) (Q:α→DataW H→Prop) {t e:TypeId} {k fuel:Nat} {cs:List Value} {x:DataW H×List MemPlace} (ht:PP.underlying t=some (.slice e)) (hk:PP.cellsOf e=k) (hk0:0<k)
  (hc:∀a,(toD a).cells.length=k) (hn:∀a,∀c∈(toD a).cells,c.isAgg=false) (h:DataW.trod en PP W 0 (fun _=>true) true fuel t cs=some x)
  (el:∀n cs' y,n<fuel→DataW.trod en PP W 0 (fun _=>true) true n e cs'=some y→∃a,RDs W (toD a).cells cs'∧Q a y.1) :
  ∃(l:List α) (v:Value),cs=[v]∧RD (SW W) W (.list (l.map toD)) v∧l.length≤maxLen∧((x.1=.nil∧l=[])∨∃els spare,x.1=.slice els spare∧els.length=l.length∧∀(i:Nat) (a:α) (d:DataW H),l[i]?=some a→els[i]?=some d→Q a d):=by
 rcases DataW.trod_slice ht h with⟨rfl,rfl⟩|⟨a,len,cap,elems,rest,n,rfl,rfl,rfl,hb,hl,hm,hlen,hel,_,_⟩
 ·exact⟨[],_,rfl,.emp none 0,by simp,.inl ⟨rfl,rfl⟩⟩
 ·rw[hk]at hel;have each:∀i,i<len→∃a',(∃cs',W.cells? 0 (a.add (i*k)) k=some cs'∧RDs W (toD a').cells cs')∧∃y,elems[i]?=some y∧Q a' y.1:=by
   intro i hi;have hi':i<elems.length:=by omega
   have h1:=(hel i hi).trans (qTE hi');obtain⟨cs',h2,h3⟩:=qVT.1 h1;obtain⟨a',r,q⟩:=el n cs' _ (by omega) h3;exact⟨a',⟨cs',h2,r⟩,_,qTE hi',q⟩
  obtain⟨l,l1,l2⟩:=qyg len each;refine⟨l,_,rfl,?_,by omega,.inr ⟨_,_,rfl,by simp; omega,fun i a' d ha hd=>?_⟩⟩
  ·by_cases h0:len=0
   ·subst h0;have:l=[]:=qUr l1;subst this;exact .emp _ _
   ·obtain⟨a0,⟨cs0,c1,c2⟩,_⟩:=each 0 (by omega);obtain⟨b,o,spot⟩:=a;have hblk:b<W.heap.size:=by
     have:=World.cells?_block c1 hk0;simpa[Addr.add]using this
    have hspot:spot=none:=by
     obtain⟨_,g1,g2⟩:=World.cells?_some c1;have g3:=g2 0 hk0;have:∃v,cs0[0]?=some v:=⟨cs0[0]'(by omega),qTE _⟩
     obtain⟨v,hv⟩:=this;have e0:(((⟨b,o,spot⟩:Addr).add (0*k)).add 0)=⟨b,o,spot⟩:=by simp[Addr.add]
     rw[hv,e0]at g3;unfold World.cell? at g3;split at g3
     ·cases spot with
      | none=>rfl|some s=>simp at g3
     ·cases g3
    subst hspot;have hcells:∀e∈l.map toD,e.cells.length=k:=fun e he=>by
     obtain⟨a',_,rfl⟩:=qTV.1 he;exact hc a'
    have hfl:(qq (l.map toD)).length=len*k:=by rw[Jp hcells,qTS,l1]
    have key:∀(j:Nat) (d:D),(qq (l.map toD))[j]?=some d→∃v,cl W b (o+j)=some v∧RD (SW W) W d v:=by
     intro j d hd;have hj:j<len*k:=by
      have:=qL hd;omega
     have hi:j / k<len:=Nat.div_lt_of_lt_mul (by rw[Nat.mul_comm]; exact hj);have hf:j % k<k:=qUX _ hk0;have hdm:j / k*k+j % k=j:=Nat.div_add_mod' j k;obtain⟨ai,hai⟩:∃ai,l[j / k]?=some ai:=⟨l[j / k]'(by omega),qTE _⟩
     have hmi:(l.map toD)[j / k]?=some (toD ai):=by rw[qT3,hai]; rfl
     have hg:=qdB hcells hmi hf;rw[hdm,hd]at hg;obtain⟨⟨cs',g1,g2⟩,_⟩:=l2 (j / k) ai hai;obtain⟨_,g3,g4⟩:=World.cells?_some g1;have g5:=g4 (j % k) hf;obtain⟨v,hv⟩:∃v,cs'[j % k]?=some v:=⟨cs'[j % k]'(by omega),qTE _⟩
     rw[hv,Jy,Jy]at g5;have e1:o+j / k*k+j % k=o+j:=by omega
     rw[e1]at g5;exact⟨v,g5,g2.2 _ d v hg.symm hv⟩
    refine .row (l.map toD) b o cap k len (fun j=>(W.cell? ⟨b,o+j,none⟩).getD Go.undef) (by simp[l1]) hl hblk hcells (fun d hd=>?_) (fun j d hd=>?_) (fun j d hd=>?_)
    ·obtain⟨e,he,hce⟩:=qUd.1 hd;obtain⟨a',_,rfl⟩:=qTV.1 he;exact hn a' d hce
    ·obtain⟨v,hv,_⟩:=key j d hd;have hv':W.cell? ⟨b,o+j,none⟩=some v:=hv;rw[hv,hv']; rfl
    ·obtain⟨v,hv,hr⟩:=key j d hd;have hv':W.cell? ⟨b,o+j,none⟩=some v:=hv;rw[hv']; exact hr
  ·obtain⟨_,y,hy,hq⟩:=l2 i a' ha;rw[qT3,hy]at hd;cases hd; exact hq
theorem qJz {t:TypeId} {fs:Array Field} (ht:PP.underlying t=some (.struct fs)) {fuel:Nat} {cs:List Value} {x:DataW H×List MemPlace} (h:DataW.trod en PP W 0 (fun _=>true) true fuel t cs=some x) :
  ∃(xs:List (DataW H×List MemPlace)) (n:Nat),fuel=n+1∧x.1=.agg (xs.map (·.1))∧cs.length=PP.cellsOf t∧xs.length=fs.size ∧
   ∀(i:Nat) (f:Field),fs.toList[i]?=some f→∃y,xs[i]?=some y∧DataW.trod en PP W 0 (fun _=>true) true n f.type ((cs.drop f.offset).take (PP.cellsOf f.type))=some y:=by
 obtain⟨xs,n,h1,h2,h3,h4,h5⟩:=DataW.trod_struct ht h;refine⟨xs,n,h1,by rw[h2],h3,h4,fun i f hf=>?_⟩;have hf1:fs[i]?=some f:=by simpa using hf
 have hi:i<xs.length:=by rw[h4]; exact(qUY.1 hf1).1
 exact⟨xs[i],qTE hi,(h5 i f hf1).trans (qTE hi)⟩
end
def qfs:Y→List Y
 | .ec c r=>c::qfs r|_=>[]
def wfc:Y→Bool
 | .ec _ r=>wfc r|.e0=>true|_=>false
def BG:Nat:=140737488355328
def qJA (k:IntKind):Bool:=match k with
 | .i64=>true|_=>false
def qfM (k k':IntKind):Bool:=decide (k=k')
def qiu:TypeId:=36
def qcf:Y→List Y×Bool
 | .g r=>(qfs r,true)|.nm _=>(qfs (unG (RT.body BG)),true)|y=>([y],false)
where unG:Y→Y
 | .g r=>r|y=>y
def qJB (e:TypeId):Y→Bool
 | .g r=>wfc r|.nm n=>Nat.beq n BG&&Nat.beq e qiu|_=>true
noncomputable def qlY (P:TypeId→List Y→Bool):List Field→Nat→List Y→Bool
 | [],_,ys=>ys.isEmpty|f::r,o,ys=>Nat.beq f.offset o&&(Nat.ble (PP.cellsOf f.type) ys.length&&(P f.type (ys.take (PP.cellsOf f.type))&&qlY P r (o+PP.cellsOf f.type) (ys.drop (PP.cellsOf f.type))))
noncomputable def fit:Nat→TypeId→List Y→Bool
 | 0,_,_=>false|d+1,t,ys=>match PP.underlying t with
  | some (.int k)=>match ys with
   | [.i k']=>qfM k k'|[.rg a b]=>qJA k&&(decide (a≤-9223372036854775808)&&decide (9223372036854775807≤b))|_=>false
  | some .string=>match ys with
   | [.s n]=>Nat.ble BG n|_=>false
  | some (.slice e)=>match ys with
   | [.l n y]=>Nat.ble BG n&&(Nat.beq (PP.cellsOf e) (qcf y).1.length&&(Nat.blt 0 (PP.cellsOf e)&&(qJB e y&&match y with
    | .nm _=>true|y=>fit d e (qcf y).1)))
   | _=>false
  | some (.struct fs)=>Nat.beq (PP.cellsOf t) ys.length&&qlY (fit d) fs.toList 0 ys|_=>false
theorem qJC:fit 8 qiu (qfs (qcf.unG (RT.body BG)))=true:=by kernel_rfl
inductive Tys:List Y→List D→Prop
 | nil:Tys [] []
 | cons {y:Y} {d:D} {ys:List Y} {ds:List D} (h:qj y d) (t:Tys ys ds):Tys (y::ys) (d::ds)
theorem Tys.append:∀{ys ys':List Y} {ds ds':List D},Tys ys ds→Tys ys' ds'→Tys (ys++ys') (ds++ds')
 | _,_,_,_,.nil,h=>h|_,_,_,_,.cons h t,h2=>.cons h (t.append h2)
theorem qiv:∀{r:Y} {ds:List D},wfc r=true→Tys (qfs r) ds→qj r (.list ds)
 | .ec c r,ds,h,ht=>by
  cases ht with
  | cons h1 h2=>exact⟨_,_,rfl,h1,qiv (r:=r) h h2⟩
 | .e0,ds,_,ht=>by
  cases ht;rfl
section
variable {H:Type} {en:TypeId×Value→H} {W:World}
structure Got (K:Bulk H) (W:World) (ys:List Y) (cs:List Value) (x:DataW H) (ds:List D):Prop where
 rd:RDs W ds cs
 len:ds.length=ys.length
 na:∀d∈ds,d.isAgg=false
 ty:K.f x≤BG→Tys ys ds
theorem qlZ {K:Bulk H} {y:Y} {v:Value} {x:DataW H} {d:D} (h:RD (SW W) W d v) (hn:d.isAgg=false) (ht:K.f x≤BG→qj y d):Got K W [y] [v] x [d] :=
 ⟨.cons h .nil,rfl,fun e he=>by rw[qUJ.1 he]; exact hn,fun hb=>.cons (ht hb) .nil⟩
theorem qJD {d:D} (h:d.isAgg=false):d.cells=[d]:=by cases d<;>first|rfl|cases h
theorem ql0 (K:Bulk H):∀(fuel d:Nat) (t:TypeId) (ys:List Y) (cs:List Value) (x:DataW H×List MemPlace),fit d t ys=true→DataW.trod en PP W 0 (fun _=>true) true fuel t cs=some x→∃ds,Got K W ys cs x.1 ds:=by
 intro fuel
 induction fuel using Nat.strongRecOn with
 | _ fuel ih =>
  intro d t ys cs x hf h
  cases d with
  | zero=>exact absurd (show false=true from hf) (by decide)
  | succ d =>
   unfold fit at hf;split at hf
   ·rename_i k hu;obtain⟨z,h1,h2,h3⟩:=DataW.trod_int hu h;subst h1;have hw:k.min≤z∧z≤k.max:=by simpa only[Lit.wf,qTC,decide_eq_true_eq]using h3
    split at hf
    ·rename_i k';have hk:k=k':=of_decide_eq_true hf;subst hk;exact⟨[.int k z],qlZ (.int _ _) rfl fun _=>⟨z,rfl⟩⟩
    ·rename_i a b;rw[qTC,qTC]at hf;have hk:k=.i64:=by
      have:=hf.1;cases k<;>first|rfl|cases this
     subst hk;have e1:IntKind.i64.min=-9223372036854775808:=by decide
     have e2:IntKind.i64.max=9223372036854775807:=by decide
     rw[e1,e2]at hw;have q1:=of_decide_eq_true hf.2.1;have q2:=of_decide_eq_true hf.2.2;exact⟨[.int .i64 z],qlZ (.int _ _) rfl fun _=>⟨z,rfl,by omega,by omega⟩⟩
    ·cases hf
   ·rename_i hu;obtain⟨s,h1,h2,_⟩:=DataW.trod_string hu h;subst h1;split at hf
    ·rename_i n;refine⟨[.str s],qlZ (.str _) rfl fun hb=>⟨s.data.toList,by cases s; rfl,?_⟩⟩;rw[h2,K.str]at hb;have:=qT5 hf;omega
    ·cases hf
   ·rename_i e hu;split at hf
    ·rename_i n y;simp only[qTC]at hf;obtain⟨f1,f2,f3,f4,f5⟩:=hf;have f2:=qTO f2;have f3:0<PP.cellsOf e:=by
      have:=qT5 f3;omega
     have el:∀m cs' (y':DataW H×List MemPlace),m<fuel→DataW.trod en PP W 0 (fun _=>true) true m e cs'=some y'→∃ds,Got K W (qcf y).1 cs' y'.1 ds:=fun m cs' y' hm hy=>by
      cases y with
      | nm nn =>
       have g1:(Nat.beq nn BG&&Nat.beq e qiu)=true:=f4;rw[qTC]at g1;have g2:=qTO g1.2;subst g2;exact ih m hm 8 qiu _ cs' y' qJC hy
      | _=>exact ih m hm d e _ cs' y' f5 hy
     obtain⟨l,v,h1,h2,h3,h4⟩:=qJy (α:={a:D // a.cells.length=PP.cellsOf e∧∀c∈a.cells,c.isAgg=false}) (·.1) (fun a yd=>K.f yd≤BG→qj y a.1) hu rfl f3 (fun a=>a.2.1) (fun a=>a.2.2) h (fun m cs' y' hm hy=>by
      obtain⟨ds,hg⟩:=el m cs' y' hm hy;have hlen:ds.length=PP.cellsOf e:=by rw[hg.len,f2]
      cases hag:(qcf y).2 with
      | true =>
       refine⟨⟨.agg ds,hlen,hg.na⟩,hg.rd,fun hb=>?_⟩;have ht:=hg.ty hb
       cases y with
       | g r=>exact⟨ds,rfl,qiv f4 ht⟩|nm nn =>
        have g1:(Nat.beq nn BG&&Nat.beq e qiu)=true:=f4;rw[qTC]at g1;have g2:=qTO g1.1;subst g2;exact JO.fold ⟨ds,rfl,qiv (by kernel_rfl) ht⟩
       | _=>cases hag
      | false =>
       obtain⟨a,rfl⟩:∃a,ds=[a]:=by
        have hl:=hg.len;have e1:(qcf y).1.length=1:=by
         cases y<;>first|rfl|cases hag
        rw[e1]at hl;exact List.length_eq_one_iff.1 hl
       have hna:=hg.na a qTR;have hc:=qJD hna;refine⟨⟨a,by rw[hc]; exact hlen,fun c hcm=>by rw[hc]at hcm; rw[qUJ.1 hcm]; exact hna⟩,by show RDs W a.cells cs'; rw[hc]; exact hg.rd,fun hb=>?_⟩;have ht:=hg.ty hb;have e1:(qcf y).1=[y]:=by
        cases y<;>first|rfl|cases hag
       rw[e1]at ht
       cases ht with
       | cons q _=>exact q)
     rw[h1];refine⟨[.list (l.map (·.1))],qlZ h2 rfl fun hb=>⟨_,rfl,?_,fun a ha=>?_⟩⟩
     ·rw[qTS];have:=qT5 f1;rcases h4 with⟨_,rfl⟩|⟨els,sp,e1,e2,_⟩
      ·simp
      ·rw[e1,K.slice]at hb;have:=K.len els;omega
     ·obtain⟨a',ha',rfl⟩:=qTV.1 ha;obtain⟨i,hi⟩:=qUS ha';rcases h4 with⟨_,rfl⟩|⟨els,sp,e1,e2,e3⟩
      ·cases ha'
      ·have hl:i<els.length:=by
        have:=qL hi;omega
       have hq:=e3 i a' _ hi (qTE hl);refine hq ?_;have:=K.mem (qTE hl);rw[e1,K.slice]at hb;omega
    ·cases hf
   ·rename_i fs hu;rw[qTC]at hf;have hcl:=qTO hf.1;obtain⟨xs,n,hfu,hx,hlen,hxs,hfld⟩:=qJz hu h;have key:∀(fl:List Field) (o i:Nat) (ys:List Y),fs.toList.drop i=fl→qlY (fit d) fl o ys=true→(cs.drop o).length=ys.length→∃ds,RDs W ds (cs.drop o)∧ds.length=ys.length∧(∀a∈ds,a.isAgg=false)∧(K.f x.1≤BG→Tys ys ds):=by
     intro fl
     induction fl with
     | nil =>
      intro o i ys _ hy hl;have hy:ys=[]:=qVe.1 hy;subst hy;have:cs.drop o=[]:=qUr hl;rw[this];exact⟨[],RDs.nil,rfl,(fun a ha=>by cases ha),fun _=>Tys.nil⟩
     | cons f r ihf =>
      intro o i ys hd hy hl;have hy:(Nat.beq f.offset o&&(Nat.ble (PP.cellsOf f.type) ys.length&&(fit d f.type (ys.take (PP.cellsOf f.type))&&qlY (fit d) r (o+PP.cellsOf f.type) (ys.drop (PP.cellsOf f.type)))))=true:=hy;simp only[qTC]at hy;obtain⟨y1,y2,y3,y4⟩:=hy;have y1:=qTO y1;have y2:=qT5 y2;have hfi:fs.toList[i]?=some f:=by
       have:(fs.toList.drop i)[0]?=some f:=by rw[hd]; rfl
       rw[qUk]at this;exact this
      have hdr:fs.toList.drop (i+1)=r:=by
       rw[←List.drop_drop,hd]; rfl
      obtain⟨yx,g1,g2⟩:=hfld i f hfi;rw[y1]at g2;obtain⟨ds1,hg⟩:=ih n (by omega) d f.type _ _ _ y3 g2;have hl2:(cs.drop (o+PP.cellsOf f.type)).length=(ys.drop (PP.cellsOf f.type)).length:=by
       rw[qT8]at hl ⊢;rw[qT8]; omega
      obtain⟨ds2,k1,k2,k3,k4⟩:=ihf (o+PP.cellsOf f.type) (i+1) (ys.drop (PP.cellsOf f.type)) hdr y4 hl2;have ecs:cs.drop o=(cs.drop o).take (PP.cellsOf f.type)++cs.drop (o+PP.cellsOf f.type):=by
       rw[←List.drop_drop,qUw]
      refine⟨ds1++ds2,by rw[ecs]; exact hg.rd.append k1,?_,fun a ha=>?_,fun hb=>?_⟩
      ·rw[qTN,hg.len,k2,qTU,qT8]; omega
      ·rcases qTH.1 ha with ha|ha
       ·exact hg.na a ha
       ·exact k3 a ha
      ·have hb1:K.f yx.1≤BG:=by
        have h1:(xs.map (·.1))[i]?=some yx.1:=by rw[qT3,g1]; rfl
        have h2:=K.mem h1;rw[hx,K.agg]at hb;omega
       have:=(hg.ty hb1).append (k4 hb);rw[qUw]at this;exact this
    obtain⟨ds,k1,k2,k3,k4⟩:=key fs.toList 0 0 ys rfl hf.2 (by rw[qTY,hlen,hcl]);rw[qTY]at k1;exact⟨ds,k1,k2,k3,k4⟩
   ·cases hf
end
end Go.Aev.R29
end
noncomputable section
namespace Go.Aev.R29
open Go Go.Aev Go.Aev.R
variable [PW]
def qry:Con:={pts:=[Zaw,.i .i64],pre:=[],rts:=[.b],post:=[.imp Zb (.pre ZaC ZF (qkI 300 300)),.imp Zb (.le ZF Zc)]}
def qMU:RFn:=mF 75 qry [⟨2,[(1,ZbK),(2,Zc4),(5,Zbr)],[Zp],[Zaw,.i .i64,.i .i64],[Zib,ZZ],(Za,.w 1 ZF Zb,Zk,Za,Za,Za)⟩,⟨8,[(1,ZbK),(2,Zc4),(5,Zbr),(6,ZbL),(7,Zbb)],[Zp,.box [.c .s (.u 1 0 Zdr),.c (.i .i64) (.u 1 1 Zdr),.c (.i .i64) (.u 1 2 Zdr),.c (.i .i64) (.u 1 3 Zdr),.c .l (.u 1 4 Zdr)] false],[Zaw,.i .i64,.i .i64,.i .i64],[Zib,.pre (.u 1 4 Zdr) Zd (.s 300),ZZ,.lt Zb ZF,Z6,.bool (.w 12 (.u 0 0 (.u 1 4 Zdr)) ZbJ) false,.bool (.w 12 (.u 7 0 (.u 1 0 Zdr)) (.i 100)) false],(Za,.w 1 ZF Zb,Za,.w 1 (.u 0 0 (.u 1 4 Zdr)) Zd,Zk,Za)⟩]
def qMV:Tab:=[]
theorem qMW:qp PP 75 qry:=(fe qMU qMV qu (by kernel_rfl) (by refine⟨?_,?_,?_,trivial⟩<;>intro<;>kernel_rfl)).ok
def qnb:Con:={pts:=[Ys,Ys],pre:=[Zci],rts:=[qkH],post:=[]}
def qnc:RFn:=mF 305 qnb [⟨3,[(0,.o (.c .l Ze)),(1,.o (.c .l Zc)),(5,Zbo),(6,Zbc)],[],[Ys,Ys],[],(Za,.w 1 Zt Za,Zk,Za,Za,Za)⟩,⟨3,[(0,.o (.c .l Ze)),(1,.o (.c .l Zc)),(5,.o (.sl 0 1 Za Zb Zd false)),(6,Zcj)],[.dat 1 Zj false],[Ys,Ys,.i .i64,.i .i64,.i .i64,qkH],[Zim,Zfd,.le Zca Zf],(Za,.w 1 Zt Zf,Zk,Za,Za,Za)⟩]
def qnd:Tab:=[]
theorem qSh:Ye PP 305 qnb (Ev0 PP qnc qnd):=fe qnc qnd qu (by kernel_rfl) (by refine⟨?_,?_,?_,trivial⟩<;>intro<;>kernel_rfl)
def qzG:Con:={qnb with post:=qnb.post++[.ifF (.eqD Ze Zc) (.rows 2 Zb Zw Zg)]}
def qzH:TQ:=.next [] 0 [Ze,Zc]
def qzI:TQ:=.fork (.w 10 Za Zt) (.next [] 1 [Ze,Zc,.u 0 0 Zjy,.u 0 0 Zjy,Zgx,Zjy]) (.done [] .z)
def qzJ:TQ:=.fork (.w 10 Zf Zt) (.next [] 1 [Ze,Zc,.w 8 Zb (.u 0 0 Zjz),.w 8 Zb (.u 0 0 Zjz),ZdP,.w 5 ZgI Zjz]) (.done [] ZgI)
theorem qSi:YF PP qnc qnd=[qzH,qzI,qzJ]:=by kernel_rfl
theorem qSj {ds:List D} {d:D} (h:Ev0 PP qnc qnd ds d) (he:qa ds 0=qa ds 1):∀x∈toL d,toI x=0:=by
 refine Jf qSi (I:=fun k ρ=>k=0∨∀x∈(toL (ρ 5)).take (toN (ρ 2)),toI x=0) (Q:=fun d=>∀x∈toL d,toI x=0) ?_ ?_ h
 ·intro k st q ρ d hst hq hg hi ht;have h0:=hg.arg 0 (by decide);have h1:=hg.arg 1 (by decide);have hv:ρ 0=ρ 1:=by rw[h0,h1,he]
  rcases k with _|_|k
  ·simp at hq;subst hq;simp[qzI,Yi,Yo,T.den,T.un,T.bi,qV,hv]at ht;rcases ht with⟨_,h⟩|⟨_,rfl⟩
   ·exact h
   ·intro x hx; cases hx
  ·simp at hq;subst hq;simp[qzJ,Yi,Yo,T.den,T.un,T.bi,qV,hv]at ht;have hi:=hi.resolve_left (by omega);rcases ht with⟨_,h⟩|⟨_,rfl⟩
   ·refine h fun x hx=>?_
    rcases qTH.1 (qUg hx)with hx|hx
    ·exact hi x hx
    ·simp at hx; subst hx; rfl
   ·exact hi
  ·simp at hq
 ·intro d ht;simp[qzH,Yi,Yo,qV]at ht;exact ht
theorem qSk:qp PP 305 qzG:=qSh.more fun ds d hp _ h=>⟨fun f hf=>by
 simp at hf;subst hf;intro he j _ hj;have hj':j<(toL (T.den PW.wV (qa (ds++[d])) (.v 2))).length:=hj;have hl:ds.length=2:=hp.1.1;obtain⟨a,b,rfl⟩:∃a b,ds=[a,b]:=by
  match ds,hl with
  | [a,b],_=>exact⟨a,b,rfl⟩
 have:=qSj h he ((toL d).getD j .nilp) (by
  rw[List.getD_eq_getElem?_getD,qTE (show j<(toL d).length from hj)]; exact qTL _)
 have e:toI ((toL d).getD j .nilp)=0:=this;show 0≤toI ((toL d).getD j .nilp)∧toI ((toL d).getD j .nilp)<_;rw[e];exact⟨qVY _,show(0:Int)<((1:Nat):Int) by decide⟩,trivial⟩
def qsv:Con:={pts:=[.i .i64],pre:=[.le (.i (-2000)) Ze,.le Ze (.i 2000)],rts:=[.i .i64],post:=[Z5,.le Zc (.i 2000),.imp (.w 14 Ze Za) (.le Zc Za)]}
def qRR:RFn:=mF 399 qsv []
def qRS:Tab:=[]
theorem qRT:qp PP 399 qsv:=(fe qRR qRS qu (by kernel_rfl) ⟨fun ρ=>by kernel_rfl,trivial⟩).ok
def qr9:Con:={pts:=[.i .i64,qkH],pre:=[],rts:=[.i .i64],post:=[ZZ,.le Zb (.i 128000000),ZiU]}
def qQl:RFn:=mF 304 qr9 [⟨3,[(0,.o (.c (.i .i64) Ze)),(1,.o (.c .l Zc)),(5,Zbr),(6,Zbb)],[],[.i .i64,qkH,.i .i64,.i .i64],[ZZ,.le Zb (.w 2 (.i 4000000) Zd),ZiU,.le Zd Zi],(Za,ZfV,Zk,Za,Za,Za)⟩]
def qQm:Tab:=[(399,qsv)]
theorem qQn:qp PP 304 qr9:=(fe qQl qQm (qm qRT (qu)) (by kernel_rfl) (by refine⟨?_,?_,trivial⟩<;>intro<;>kernel_rfl)).ok
def KEY (m x v:D):Int:=toI (PW.wV 1000222 [(K.i .i64).den m,K.l.den x,K.l.den v])
def qdw:Con:={pts:=[.i .i64,Ys,Ys],pre:=[.nle Zi Zw],rts:=[.i .i64],post:=[Z6,.le Zd (.i 128000000),.ifF (.eqD Z7 ZbQ) (.le Zd Za)]}
def qO8:RFn:=mF 222 qdw []
def qO9:Tab:=[(305,qzG),(304,qr9)]
theorem qPa:qp PP 222 qdw:=(fe qO8 qO9 (qm qSk (qm qQn (qu))) (by kernel_rfl) ⟨fun ρ=>by kernel_rfl,trivial⟩).ok
def qev:Con:={qdw with post:=qdw.post++[.eqD Zd (.u 3 1000222 (.w 4 Ze (.w 4 Z7 (.w 4 ZbQ .z))))]}
theorem qrS {tab:Tab} (ht:tab.get 222=some qev) {m x v:D} (h:∀c,tab.get 222=some c→qM c [(K.i .i64).den m,K.l.den x,K.l.den v]∧J0 c [(K.i .i64).den m,K.l.den x,K.l.den v] (wOf PP tab 222 [(K.i .i64).den m,K.l.den x,K.l.den v])) :
  toI (wOf PP tab 222 [(K.i .i64).den m,K.l.den x,K.l.den v])=KEY m x v∧0≤KEY m x v∧(toL x=toL v→KEY m x v=0):=by
 obtain⟨_,⟨_,h⟩,_⟩:=h _ ht;have e:=h (.eqD (.v 3) (.u 3 1000222 (qW [.v 0,.mk .l (.v 1),.mk .l (.v 2)]))) (List.mem_append_right _ (by simp[qW]));have e:wOf PP tab 222 [(K.i .i64).den m,K.l.den x,K.l.den v]=PW.wV 1000222 [(K.i .i64).den m,K.l.den x,K.l.den v]:=e;have h0:=h (.le (.i 0) (.v 3)) (by simp[qev,qdw]);have h0:0≤toI (wOf PP tab 222 [(K.i .i64).den m,K.l.den x,K.l.den v]):=h0;have h1:=h (.ifF (.eqD (.mk .l (.v 1)) (.mk .l (.v 2))) (.le (.v 3) (.i 0))) (by simp[qev,qdw]);have h1:K.l.den (K.l.den x)=K.l.den (K.l.den v)→toI (wOf PP tab 222 [(K.i .i64).den m,K.l.den x,K.l.den v])≤0:=h1;rw[e]at h0 h1 ⊢;refine⟨rfl,h0,fun hx=>qVM (h1 ?_) h0⟩;show D.list (toL x)=D.list (toL v);rw[hx]
def qr3:Con:={pts:=[.i .i64],pre:=[],rts:=[.b],post:=[.imp Zc Zch,.imp Zc Zdf]}
def qPW:RFn:=mF 73 qr3 []
def qPX:Tab:=[]
theorem qPY:qp PP 73 qr3:=(fe qPW qPX qu (by kernel_rfl) ⟨fun ρ=>by kernel_rfl,trivial⟩).ok
def qmy:Con:={pts:=[Ze7,Zbw],pre:=[],rts:=[.b],post:=[]}
def qOK:RFn:=mF 210 qmy [⟨2,[(0,.o (.c .l Ze)),(1,.o (.c .s Zc)),(5,Zbr)],[],[Ze7,Zbw,.i .i64],[ZZ],(Za,.w 1 Zt Zb,Zk,Za,Za,Za)⟩]
def qOL:Tab:=[]
theorem qy6:qp PP 210 qmy:=(fe qOK qOL qu (by kernel_rfl) (by refine⟨?_,?_,trivial⟩<;>intro<;>kernel_rfl)).ok
def qmL:Con:={pts:=[Zbw],pre:=[],rts:=[.b],post:=[]}
def qP6:RFn:=mF 135 qmL [⟨2,[(0,.o (.c .s Ze)),(3,ZbK)],[],[Zbw,.i .i64],[Z5],(Za,.w 1 (.u 7 0 Ze) Zc,Zk,Za,Za,Za)⟩]
def qP7:Tab:=[(210,qmy)]
theorem qzj:qp PP 135 qmL:=(fe qP6 qP7 (qm qy6 (qu)) (by kernel_rfl) (by refine⟨?_,?_,trivial⟩<;>intro<;>kernel_rfl)).ok
def qsI:Con:={pts:=[Ze7],pre:=[],rts:=[.i .i64],post:=[]}
def qTe:RFn:=mF 136 qsI [⟨4,Zds,[],[Ze7,.i .i64],[Z5,.bool (.w 10 Zt Zg) false,.bool (.w 12 Zt (.i 50)) false],(Zg,.w 1 Zt Zc,Zk,Za,Za,Za)⟩,⟨9,[(0,.o (.c .l Ze)),(4,ZbK)],[],[Ze7,.i .i64],[.le Zg Zc],(Za,.w 1 Zt Zc,Zk,Za,Za,Za)⟩]
def qTf:Tab:=[(135,qmL)]
theorem qTg:qp PP 136 qsI:=(fe qTe qTf (qm qzj (qu)) (by kernel_rfl) (by refine⟨?_,?_,?_,trivial⟩<;>intro<;>kernel_rfl)).ok
def qrn:Con:={pts:=[ZhJ,Zbw],pre:=[],rts:=[.i .i64],post:=[]}
def qMb:RFn:=mF 74 qrn []
def qMc:Tab:=[(135,qmL),(136,qsI)]
theorem qMd:qp PP 74 qrn:=(fe qMb qMc (qm qzj (qm qTg (qu))) (by kernel_rfl) ⟨fun ρ=>by kernel_rfl,trivial⟩).ok
def qbi:Con:={pts:=[Zaw],pre:=[],rts:=[.i .i64],post:=[.imp ZfZ (.le Zg Z3),.imp ZfZ (.le Zg ZaR),.imp ZfZ (.le ZaR Zad)]}
def qLM:RFn:=mF 30 qbi [⟨7,[(1,Zc4),(3,.o (.c .s Zc)),(4,Zbr)],[Zp],[Zaw,Zbw,.i .i64],[ZZ,.bool (.w 10 Z3 Zg) false,.le Zg ZbN,.le ZbN Zad],(Za,.w 1 ZF Zb,Zk,Za,Za,Za)⟩]
def qLN:Tab:=[(73,qr3),(74,qrn)]
theorem qyC:qp PP 30 qbi:=(fe qLM qLN (qm qPY (qm qMd (qu))) (by kernel_rfl) (by refine⟨?_,?_,trivial⟩<;>intro<;>kernel_rfl)).ok
def qfy:Con:={qbi with post:=qbi.post++[.le Zc Zec,.le Zec Zc]}
def qgX:Con:={pts:=[Zac],pre:=[],rts:=[.b],post:=[.imp Zc Zd4,.imp Zc ZcZ,.ifF (.and Zd4 ZcZ) ZeN]}
def qSF:RFn:=mF 115 qgX [⟨2,Zds,[],[Zac,.i .i64],[.pre Ze Zc (.rg (-1000) 1000),Z5],(Za,.w 1 Zt Zc,Zk,Za,Za,Za)⟩]
def qSG:Tab:=[]
theorem qni:qp PP 115 qgX:=(fe qSF qSG qu (by kernel_rfl) (by refine⟨?_,?_,trivial⟩<;>intro<;>kernel_rfl)).ok
def qrA:Con:={pts:=[Zaw,Zbw],pre:=[],rts:=[.i .i64],post:=[.lt Zb ZF]}
def qM0:RFn:=mF 196 qrA [⟨2,[(1,.o (.c .s Zc)),(2,Zc4),(5,Zbr)],[Zp],[Zaw,Zbw,.i .i64],[ZZ],(Za,.w 1 ZF Zb,Zk,Za,Za,Za)⟩]
def qM1:Tab:=[]
theorem qM2:qp PP 196 qrA:=(fe qM0 qM1 qu (by kernel_rfl) (by refine⟨?_,?_,trivial⟩<;>intro<;>kernel_rfl)).ok
def qsF:Con:={pts:=[ZhJ,Zic],pre:=[],rts:=[.i .i64],post:=[]}
def qSY:RFn:=mF 393 qsF []
def qSZ:Tab:=[(210,qmy)]
theorem qS0:qp PP 393 qsF:=(fe qSY qSZ (qm qy6 (qu)) (by kernel_rfl) ⟨fun ρ=>by kernel_rfl,trivial⟩).ok
def qrD:Con:={pts:=[Zaw,.l 140737488355328 Zic],pre:=[],rts:=[.i .i64],post:=[]}
def qM8:RFn:=mF 296 qrD [⟨2,[(1,.o (.c .l Zc)),(2,Zc4),(5,Zbr)],[Zp],[Zaw,.l 140737488355328 Zic,.i .i64],[ZZ],(Za,.w 1 Zi Zb,Zk,Za,Za,Za)⟩]
def qM9:Tab:=[(196,qrA),(393,qsF)]
theorem qNa:qp PP 296 qrD:=(fe qM8 qM9 (qm qM2 (qm qS0 (qu))) (by kernel_rfl) (by refine⟨?_,?_,trivial⟩<;>intro<;>kernel_rfl)).ok
def qaG:Con:={pts:=[Zv,Zc9],pre:=[],rts:=[.i .i64],post:=[.imp ZeJ (.has ZbZ Ys),.imp ZeJ (.nle Zg (.u 0 0 ZbZ)),.imp ZeJ (.nle (.u 0 0 ZbZ) Z3),.imp ZeJ (.nle Z3 (.u 0 0 ZbZ))]}
def qMB:RFn:=mF 212 qaG []
def qMC:Tab:=[(115,qgX),(296,qrD)]
theorem qyR:qp PP 212 qaG:=(fe qMB qMC (qm qni (qm qNa (qu))) (by kernel_rfl) ⟨fun ρ=>by kernel_rfl,trivial⟩).ok
def qyS:Con:={qaG with post:=qaG.post++[.eqD Zb Zgt,.le Zb Zgt,.le Zgt Zb]}
def qex:Con:={pts:=[Zv,ZK],pre:=[],rts:=[.b],post:=[.imp Zb ZgU,.imp Zb ZdV,.imp Zb ZgV]}
def qQ2:RFn:=mF 76 qex [⟨2,[(1,.o (.c .l Zc)),(2,Zc4),(5,Zbr)],[Zp],[Zv,ZK,.i .i64],[.rows 0 Zc Zb Z3,.pre Zc Zb Ys,ZZ],(Za,.w 1 Zi Zb,Zk,Za,Za,Za)⟩]
def qQ3:Tab:=[(115,qgX)]
theorem qQ4:qp PP 76 qex:=(fe qQ2 qQ3 (qm qni (qu)) (by kernel_rfl) (by refine⟨?_,?_,trivial⟩<;>intro<;>kernel_rfl)).ok
def qsl:Con:={qex with post:=qex.post++[.imp Zb Zcu,.imp (.u 6 0 Zb) (.bool Zhc false)]}
def qrw:Con:={pts:=[ZcK],pre:=[],rts:=[.b],post:=[.imp Zc (.has Ze (qvH 300 300))]}
def qMO:RFn:=mF 77 qrw [⟨4,ZeL,[.box [.c .l Z3] false],[ZcK,.i .i64],[.pre Z3 Zc (qd3 300 300),Z5,.bool (.w 12 Zdq (.i 30)) false],(Za,.w 1 Zdq Zc,Zk,Za,Za,Za)⟩]
def qMP:Tab:=[]
theorem qMQ:qp PP 77 qrw:=(fe qMO qMP qu (by kernel_rfl) (by refine⟨?_,?_,trivial⟩<;>intro<;>kernel_rfl)).ok
def qfz:Con:={pts:=[ZhH,.i .i64,.i .i64],pre:=[Z5,.le Zc (.i 1000000),.le Zb (.i 100)],rts:=[.i .i64],post:=[ZhI,Zbs,.imp Zgf (.le ZeB Zd),.imp Zgf (.lt (.w 0 Zcr ZcC) Zd)]}
def qmi:RFn:={g:=137,con:=qfz,wr:=false,pn:=14,rec':={ms:=[(137,Zb)],cur:=Zb},sts:=[{id:=5,env:=[(1,ZbK),(2,Zbr),(3,Zc4),(7,Zbb),(8,Zcj)],rows:=[Zc7],tys:=[ZhH,.i .i64,.i .i64,.i .i64,.i .i64],inv:=[ZaH,.imp Zgf (.le (.w 0 (.w 0 Zg ZcC) (.u 12 1000 (.w 6 Zf Zbe))) Zd),ZhI,.lt (.w 0 ZcC Zf) Zd,ZbU],ms:=(Za,.w 1 Zcr Zf,Zk,Za,Za,Za)}]}
def qmj:Tab:=[]
theorem qL6:qaU PP qmj:=qu
theorem qL7:qaj PP qmi ((137,qfz)::qmj)=true:=by kernel_rfl
theorem qL8:qak PP qmi ((137,qfz)::qmj) (qI PP qmi):=by refine⟨?_,?_,trivial⟩<;>intro<;>kernel_rfl
theorem qL9:Ye PP 137 qfz (Ev0 PP qmi ((137,qfz)::qmj)):=qgn YN mixed qL6 rfl qL7 qL8
theorem qMa:qp PP 137 qfz:=qL9.ok
def qrv:Con:={pts:=[Zgu],pre:=[],rts:=[.b],post:=[.imp Zc (.has Ze (qkJ 300 300))]}
def qMG:RFn:=mF 138 qrv [⟨4,ZeL,[Zgh],[Zgu,.i .i64],[Zh4,Z5,Zh5,Zh6,Zh7,Zh8],(Za,.w 1 ZaN Zc,Zk,Za,Za,Za)⟩,⟨9,[(1,Zc4),(3,ZbK),(4,Zbr)],[Zgh],[Zgu,.i .i64,.i .i64],[Zh4,.pre (.u 1 3 (.w 3 ZaD Zc)) Zb (.s 300),Z5,.lt Zc ZaN,ZZ,Zh5,Zh6,Zh7,Zh8,.bool (.w 12 Zh9 ZbJ) false],(Za,.w 1 ZaN Zc,Za,.w 1 Zh9 Zb,Zk,Za)⟩]
def qMH:Tab:=[]
theorem qMI:qp PP 138 qrv:=(fe qMG qMH qu (by kernel_rfl) (by refine⟨?_,?_,?_,trivial⟩<;>intro<;>kernel_rfl)).ok
def qru:Con:={pts:=[Zc3],pre:=[],rts:=[.b],post:=[.imp Zc (.has Ze ZcG)]}
def qMD:RFn:=mF 211 qru [⟨2,ZeL,[Zgg],[Zc3,.i .i64],[.pre Zcp Zc (qge 12000 300),Z5],(Za,.w 1 Zdi Zc,Zk,Za,Za,Za)⟩]
def qME:Tab:=[]
theorem qMF:qp PP 211 qru:=(fe qMD qME qu (by kernel_rfl) (by refine⟨?_,?_,trivial⟩<;>intro<;>kernel_rfl)).ok
def qrz:Con:={pts:=[Zdh,.i .i64],pre:=[],rts:=[.b],post:=[.imp Zb (.pre Ze Zt ZcG),.imp Zb (.le Zt Zc)]}
def qMX:RFn:=mF 139 qrz [⟨4,[(0,.o (.c .l Ze)),(5,Zbr)],[],[Zdh,.i .i64,.i .i64],[.pre Ze Zb ZcG,ZZ,.bool (.w 12 Zt Zc) false],(Za,.w 1 Zt Zb,Zk,Za,Za,Za)⟩]
def qMY:Tab:=[(211,qru)]
theorem qMZ:qp PP 139 qrz:=(fe qMX qMY (qm qMF (qu)) (by kernel_rfl) (by refine⟨?_,?_,trivial⟩<;>intro<;>kernel_rfl)).ok
def qfC:Con:={pts:=[Zia,.i .i64,.i .i64],pre:=[Z5,.le Zc (.i 250),.le Zb (.i 100)],rts:=[.b],post:=[.imp Zd (.has Ze Zd3),.imp Zd (.le ZeB Zc)]}
def qmq:RFn:={g:=78,con:=qfC,wr:=false,pn:=14,rec':={ms:=[(78,Zb)],cur:=Zb},sts:=[{id:=4,env:=[(1,ZbK),(2,Zbr),(3,Zc4),(7,Zbb)],rows:=[Zc7],tys:=[Zia,.i .i64,.i .i64,.i .i64],inv:=[.le ZeB Zc,.pre Zbe Zd (.nm 300),.nle Zcr (.i 250),ZbU,Z6,.has Zgv (qkJ 300 300),.pre Zcq ZcC ZcG,.le ZcC Zbi],ms:=(Za,.w 1 Zcr Zd,Zk,Za,Za,Za)}]}
def qmr:Tab:=[(137,qfz),(138,qrv),(139,qrz)]
theorem qMJ:qaU PP qmr:=qm qMa (qm qMI (qm qMZ (qu)))
theorem qMK:qaj PP qmq ((78,qfC)::qmr)=true:=by kernel_rfl
theorem qML:qak PP qmq ((78,qfC)::qmr) (qI PP qmq):=by refine⟨?_,?_,trivial⟩<;>intro<;>kernel_rfl
theorem qMM:Ye PP 78 qfC (Ev0 PP qmq ((78,qfC)::qmr)):=qgn YN mixed qMJ rfl qMK qML
theorem qMN:qp PP 78 qfC:=qMM.ok
def qrx:Con:={pts:=[Zb1,.i .i64],pre:=[Z5,.le Zc (.i 250)],rts:=[.b],post:=[.imp Zb (.has Ze Zcg),.imp Zb (.le Zgq Zc)]}
def qMR:RFn:=mF 32 qrx [⟨4,[(1,ZbK),(2,Zc4),(5,Zbr)],[.box [Zc5,ZfO,Zd7,.c (.i .i64) Zbd,.c .l Zcm,.c .l Zcn,.c .l Zco,ZfI,ZfJ,.c (.i .i64) ZaD,.c (.i .i64) Zbe,.c (.i .i64) Zcq,.c .l (.u 1 12 Ze),.c .l (.u 1 13 Ze),.c .l (.u 1 14 Ze),.c .l (.u 1 15 Ze),.c .l Zd2] false],[Zb1,.i .i64,.i .i64],[.pre ZaC Zb ZbY,ZZ,.bool (.w 12 ZF Zbn) false,.bool (.w 12 ZaB (.i 200)) false],(Za,.w 1 ZF Zb,Zk,Za,Za,Za)⟩]
def qMS:Tab:=[(77,qrw),(78,qfC)]
theorem qMT:qp PP 32 qrx:=(fe qMR qMS (qm qMQ (qm qMN (qu))) (by kernel_rfl) (by refine⟨?_,?_,trivial⟩<;>intro<;>kernel_rfl)).ok
def qfB:Con:={pts:=[Zgp],pre:=[.le ZeB (.i 100000)],rts:=[.l 100000 ZcG],post:=[.le Zi ZeB]}
def qmo:RFn:={g:=94,con:=qfB,wr:=false,pn:=14,rec':={ms:=[(94,Zd6)],cur:=Zd6},sts:=[{id:=3,env:=[(1,Zc4),(3,.o (.sl 1 9 Za Za Za true)),(4,ZbK)],rows:=[Zc7,.dat 9 .z false],tys:=[Zgp,.i .i64],inv:=[Z5],ms:=(Za,.w 1 Zcr Zc,Zk,Za,Za,Za)},{id:=3,env:=[(1,Zc4),(3,.o (.sl 1 9 Za Zc Zb false)),(4,Zbb)],rows:=[Zc7,.dat 9 Zf false],tys:=[Zgp,.i .i64,.i .i64,.i .i64,.l 100000 ZcG],inv:=[Z6,.le ZX (.w 0 ZcC (.u 12 1000 (.w 6 Zd Zbe))),Zcs,ZbM],ms:=(Za,.w 1 Zcr Zd,Zk,Za,Za,Za)}]}
def qmp:Tab:=[]
theorem qMt:qaU PP qmp:=qu
theorem qMu:qaj PP qmo ((94,qfB)::qmp)=true:=by kernel_rfl
theorem qMv:qak PP qmo ((94,qfB)::qmp) (qI PP qmo):=by refine⟨?_,?_,?_,trivial⟩<;>intro<;>kernel_rfl
theorem qMw:Ye PP 94 qfB (Ev0 PP qmo ((94,qfB)::qmp)):=qgn YN mixed qMt rfl qMu qMv
theorem qMx:qp PP 94 qfB:=qMw.ok
def qrt:Con:={pts:=[.g (.ec (.i .i64) (.ec (.i .i64) (.ec (.l 300 ZbY) (.ec (.i .i64) (.ec ZbY (.ec ZbY (.ec (.l 300 ZhG) (.ec (.i .i64) (.ec (.i .i64) (.ec (.i .i64) (.ec (.i .i64) (.ec (.i .i64) (.ec Zh3 (.ec (.l 300 (.nm 300)) (.ec (.l 300 ZcG) (.ec (.l 300 (qd3 300 300)) (.ec ZbY .e0)))))))))))))))))],pre:=[.le Zgq (.i 100000)],rts:=[.l 100000 ZcG],post:=[.le Zi Zgq]}
def qMy:RFn:=mF 39 qrt []
def qMz:Tab:=[(94,qfB)]
theorem qMA:qp PP 39 qrt:=(fe qMy qMz (qm qMx (qu)) (by kernel_rfl) ⟨fun ρ=>by kernel_rfl,trivial⟩).ok
def qrE:Con:={pts:=[.l 301 (qge 301 301),Zcf],pre:=[],rts:=[qFW 301 301],post:=[]}
def qNb:RFn:=mF 297 qrE [⟨2,[(0,.o (.c .l Ze)),(1,.o (.c .s Zc)),(4,Zc4),(5,Zbr)],[.box [.c .s (.s []),Zq,Zq,.c .s (.s []),.c .b (.t false)] false],[.l 301 (qge 301 301),Zcf,.i .i64],[ZZ],(Za,.w 1 Zt Zb,Zk,Za,Za,Za)⟩]
def qNc:Tab:=[]
theorem qNd:qp PP 297 qrE:=(fe qNb qNc qu (by kernel_rfl) (by refine⟨?_,?_,trivial⟩<;>intro<;>kernel_rfl)).ok
def qnm:Con:={pts:=[Zac],pre:=[],rts:=[.b],post:=[]}
def qS1:RFn:=mF 444 qnm [⟨2,Zds,[],[Zac,.i .i64],[Z5],(Za,.w 1 Zt Zc,Zk,Za,Za,Za)⟩]
def qS2:Tab:=[]
theorem qzP:qp PP 444 qnm:=(fe qS1 qS2 qu (by kernel_rfl) (by refine⟨?_,?_,trivial⟩<;>intro<;>kernel_rfl)).ok
def qsC:Con:={pts:=[Zd5],pre:=[],rts:=[.b],post:=[]}
def qSH:RFn:=mF 443 qsC [⟨4,ZeL,[.box [.c .l Z3,.c .l ZaR] false],[Zd5,.i .i64],[Z5,.nle Zdq Zdl],(Za,.w 1 Zdq Zc,Zk,Za,Za,Za)⟩]
def qSI:Tab:=[(444,qnm)]
theorem qSJ:qp PP 443 qsC:=(fe qSH qSI (qm qzP (qu)) (by kernel_rfl) (by refine⟨?_,?_,trivial⟩<;>intro<;>kernel_rfl)).ok
def qrc:Con:={pts:=[Zd5,Zd5],pre:=[],rts:=[.b],post:=[]}
def qKG:RFn:=mF 394 qrc []
def qKH:Tab:=[(443,qsC)]
theorem qKI:qp PP 394 qrc:=(fe qKG qKH (qm qSJ (qu)) (by kernel_rfl) ⟨fun ρ=>by kernel_rfl,trivial⟩).ok
def qsc:Con:={pts:=[ZK],pre:=[],rts:=[qvI 301 301],post:=[]}
def qbM:RFn:=mF 395 qsc [⟨2,[(0,.o (.c .l Ze)),(2,Zc4),(3,ZbK)],[Zfl],[ZK,.i .i64],[.rows 0 Ze Zc Zb2,Z5],(Zg,.w 1 Zt Zc,Zk,Za,Za,Za)⟩,⟨10,[(0,.o (.c .l Ze)),(2,Zc4),(4,ZbL),(5,Zbc)],[Zfl,.box [.nil,.nil] false],[ZK],[ZcL,Zfm],(Za,.w 1 Zb2 Za,Zk,Za,Za,Za)⟩,⟨15,[(0,.o (.c .l Ze)),(2,Zc4),(4,ZbL),(5,Zbc),(6,ZbK),(7,Zbr),(8,Zbb)],[Zfl,.box [.nil,.nil] false],[ZK,.i .i64,.i .i64,.i .i64],[ZcL,Z6,Zfm,.bool (.w 10 Za Zb2) true],(Za,.w 1 Zb2 Za,Za,ZfE,Zk,Za)⟩,⟨10,[(0,.o (.c .l Ze)),(2,Zc4),(4,ZbL),(5,ZbK)],[Zfl,.box [.sl 2 1 Za Zb Zd false,.sl 3 1 Za Zf Zj false] false,Zdj,Zc0],[ZK,.i .i64,.i .i64,.i .i64,.i .i64,.i .i64,ZH,ZH],[ZcL,.le Zg Zc,ZiW,Zfd,ZfA,Zck,.le Zbq Zc,Zfm,.nle Zb Zf,.le Zc Zca],(Za,.w 1 Zb2 Zc,Zk,Za,Za,Za)⟩,⟨15,[(0,.o (.c .l Ze)),(2,Zc4),(4,ZbL),(5,ZbK),(6,Zbr),(7,Zbb),(8,Zcj)],[Zfl,.box [Zhq,Zhn] false,ZJ,.dat 1 Z2 false],[ZK,.i .i64,.i .i64,.i .i64,.i .i64,.i .i64,.i .i64,.i .i64,.i .i64,ZH,ZH],[ZcL,.lt Zc Zb2,ZaH,.nle Zf2 Zay,Zf3,.nle (.w 8 Za Zh) Zes,ZfY,.le Zen Zc,Zfm,.nle Zj Zh,.le Zc ZP],(Za,.w 1 Zb2 Zc,Za,.w 1 Zt Zf,Zk,Za)⟩]
def qfG:Tab:=[(444,qnm)]
theorem qQs:qaT PP qbM qfG=true:=by kernel_rfl
theorem qQt:qy PP qbM qfG (qbM.sts.getD 0 default)=true:=by kernel_rfl
theorem qQu:qy PP qbM qfG (qbM.sts.getD 1 default)=true:=by kernel_rfl
theorem qQv:qy PP qbM qfG (qbM.sts.getD 2 default)=true:=by kernel_rfl
theorem qQw:qy PP qbM qfG (qbM.sts.getD 3 default)=true:=by kernel_rfl
theorem qQx:qy PP qbM qfG (qbM.sts.getD 4 default)=true:=by kernel_rfl
theorem qQy:qp PP 395 qsc:=(fe qbM qfG (qm qzP (qu)) (qbC qQs ⟨qQt,qQu,qQv,qQw,qQx,trivial⟩) (by refine⟨?_,?_,?_,?_,?_,?_,trivial⟩<;>intro<;>kernel_rfl)).ok
def qrP:Con:={pts:=[qpE 301 301,qpE 301 301],pre:=[],rts:=[qvI 301 301],post:=[]}
def qOV:RFn:=mF 298 qrP []
def qOW:Tab:=[(394,qrc),(395,qsc)]
theorem qOX:qp PP 298 qrP:=(fe qOV qOW (qm qKI (qm qQy (qu))) (by kernel_rfl) ⟨fun ρ=>by kernel_rfl,trivial⟩).ok
def qsD:Con:={pts:=[Zak],pre:=[],rts:=[.b],post:=[ZeN]}
def qSK:RFn:=mF 396 qsD [⟨2,Zds,[],[Zak,.i .i64],[Z5],(Za,.w 1 Zt Zc,Zk,Za,Za,Za)⟩]
def qSL:Tab:=[]
theorem qSM:qp PP 396 qsD:=(fe qSK qSL qu (by kernel_rfl) (by refine⟨?_,?_,trivial⟩<;>intro<;>kernel_rfl)).ok
def qrQ:Con:={pts:=[Zak,Zak],pre:=[],rts:=[qFX 301 301],post:=[.imp (.w 14 Zt Zi) (.le (.u 0 0 ZbB) Zt),.imp (.w 14 Zt Zi) (.le Zt (.u 0 0 ZbB))]}
def qOY:RFn:=mF 299 qrQ [⟨5,[(0,.o (.c .l Ze)),(1,.o (.c .l Zc)),(4,Zc4),(5,Zbo),(6,Zbc)],[Zbt],[Zak,Zak],[.bool (.w 15 Zt Zi) false],(Za,.w 1 Zt Za,Zk,Za,Za,Za)⟩,⟨5,[(0,.o (.c .l Ze)),(1,.o (.c .l Zc)),(4,Zc4),(5,.o (.sl 1 2 Za Zb Zd false)),(6,Zcj)],[Zbt,.dat 2 Zj false],[Zak,Zak,.i .i64,.i .i64,.i .i64,Zak],[.le Zf Zt,Zim,Zfd,.le Zca Zf,Zci,.le Zf Zca],(Za,.w 1 Zt Zf,Zk,Za,Za,Za)⟩]
def qOZ:Tab:=[(396,qsD)]
theorem qO0:qp PP 299 qrQ:=(fe qOY qOZ (qm qSM (qu)) (by kernel_rfl) (by refine⟨?_,?_,?_,trivial⟩<;>intro<;>kernel_rfl)).ok
def qsJ:Con:={pts:=[ZcY,ZcY],pre:=[.le Zfv Zdk],rts:=[ZcY],post:=[.le Zw Zfv]}
def qTh:RFn:=mF 397 qsJ [⟨4,[(0,.o (.c .l Ze)),(1,.o (.c .l Zc)),(5,Zbo),(6,Zbc),(7,Zbc)],[],[ZcY,ZcY],[],(Za,.w 1 Zfv (.w 0 Za Za),Zk,Za,Za,Za)⟩,⟨4,[(0,.o (.c .l Ze)),(1,.o (.c .l Zc)),(5,.o (.sl 0 1 Za Zb Zd false)),(6,Zcj),(7,ZbS)],[Zdj],[ZcY,ZcY,.i .i64,.i .i64,.i .i64,.i .i64,ZcY],[.le Zca (.w 0 Zf Zj),ZaH,.le Zf Zt,Zcz,.le Zj Zi,ZiW,Zfd],(Za,.w 1 Zfv (.w 0 Zf Zj),Zk,Za,Za,Za)⟩]
def qTi:Tab:=[]
theorem qTj:qp PP 397 qsJ:=(fe qTh qTi qu (by kernel_rfl) (by refine⟨?_,?_,?_,trivial⟩<;>intro<;>kernel_rfl)).ok
def qrR:Con:={pts:=[Zfe,Zfe],pre:=[.le (.w 0 ZbX ZaQ) Zdk],rts:=[Zfe],post:=[.le ZdO (.w 0 ZbX ZaQ)]}
def qO3:RFn:={g:=300,con:=qrR,wr:=true,pn:=14,sts:=[]}
def qO4:Tab:=[(397,qsJ)]
theorem qO5:qp PP 300 qrR:=(fe qO3 qO4 (qm qTj (qu)) (by kernel_rfl) ⟨fun ρ=>by kernel_rfl,trivial⟩).ok
def qmC:Con:={pts:=[Zv,ZbC,ZbC],pre:=[.le ZF ZdQ,.le ZdQ ZF,Ze8,Ze9],rts:=ZgJ,post:=[.imp Zat ZfQ,.imp Zat ZfR,.imp Zat (.le ZaE ZcS),.imp Zat (.le ZcS ZaE),.imp Zat (.le ZaQ Zei),Zcx,ZfS,.le ZaE ZaF,.le Za (.u 1 10 Zd),.imp (.w 14 ZaQ ZdO) (.imp (.w 11 ZcS ZaF) (.le (.u 1 10 Zd) Za)),.le Zei ZaQ]}
def qO1:RFn:=mF 214 qmC [⟨14,[(3,Zc4),(4,ZbL),(5,ZbT),(6,.o (.pt 3 0 Za 0)),(9,.o (.pt 4 0 Za 0)),(10,Zbc)],[Zp,Zin,Zip,ZdS,.box [.c (.i .i64) ZcS,.c .l Zd,Zef,Zde,Ziq,Zir,Zis,Zit,Ziu,.nil] false],[Zv,ZbC,ZbC,ZH,ZH,Zak],[.le Zav ZaQ,.le ZaQ Zav,.bool (.w 15 ZaQ ZdO) false,Ziv],(Za,.w 1 ZF Za,Zk,Za,Za,Za)⟩,⟨14,[(3,Zc4),(4,ZbL),(5,ZbT),(6,.o (.pt 3 0 Za 0)),(9,.o (.pt 4 0 Za 0)),(10,Zbb)],[Zp,Zin,Zip,ZdS,.box [.c (.i .i64) ZcS,Zef,Zde,ZeP,Ziq,Zir,Zis,Zit,Ziu,.sl 5 4 Za Zh ZD false] false,.dat 4 Z9 false],[Zv,ZbC,ZbC,.i .i64,ZH,ZH,Zak,.i .i64,.i .i64,ZdT],[.rows 6 Z9 Zay ZcS,.le Z4 ZaQ,.le ZaQ Z4,.le Zd ZF,Zho,ZfY,.le Zen Zd,Ziv,.le Zd Zen],(Za,.w 1 ZF Zd,Zk,Za,Za,Za)⟩]
def qO2:Tab:=[(298,qrP),(299,qrQ),(300,qrR)]
theorem qzb:qp PP 214 qmC:=(fe qO1 qO2 (qm qOX (qm qO0 (qm qO5 (qu)))) (by kernel_rfl) (by refine⟨?_,?_,?_,trivial⟩<;>intro<;>kernel_rfl)).ok
end Go.Aev.R29
end
