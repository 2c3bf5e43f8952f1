/- Lemmas: a machine that the model follows, and contracts. Conditions: none. -/
import Derived.Test.YtakpdahnlpjooaaGreatDoorK12
import Derived.ChangeArms
import Derived.ChangeOld
import Derived.RowKit
set_option linter.all false
set_option maxRecDepth 1000000
set_option maxHeartbeats 0
noncomputable section
namespace Go.Aev.R29
open Go Go.Aev Go.Aev.R
open Go.RowKit (Below)
abbrev SW (W:World):Nat->Prop:=fun b=>b<W.heap.size
def RDs (W:World) (ds:List D) (cs:List Value):Prop:=cs.length=ds.length/\∀(j:Nat) (d:D) (v:Value),ds[j]?=some d->cs[j]?=some v->RD (SW W) W d v
def RDs.nil {W:World}:RDs W [] []:=⟨rfl,fun j d v h=>by simp at h⟩
def RDs.cons {W:World} {d:D} {v:Value} {ds:List D} {cs:List Value} (h:RD (SW W) W d v) (t:RDs W ds cs):RDs W (d::ds) (v::cs) :=
 ⟨by simp[t.1],fun j x y hx hy=>by
  cases j with
  | zero=>simp at hx hy; subst hx; subst hy; exact h|succ j=>simp at hx hy; exact t.2 j x y hx hy⟩
def RDs.append {W:World}:∀{ds ds':List D} {cs cs':List Value},RDs W ds cs->RDs W ds' cs'->RDs W (ds++ds') (cs++cs')
 | [],ds',[],cs',_,h2=>h2|[],_,c::cs,_,h1,_=>by have:=h1.1; simp at this
 | d::ds,_,[],_,h1,_=>by have:=h1.1; simp at this
 | d::ds,ds',c::cs,cs',h1,h2=>.cons (h1.2 0 d c rfl rfl) (RDs.append ⟨by have:=h1.1; simpa using this,fun j x y hx hy=>h1.2 (j+1) x y (by simpa using hx) (by simpa using hy)⟩ h2)
def qAk {α:Type} {Q:Nat->α->Prop}:∀(n:Nat),(∀i,i<n->∃a,Q i a)->∃l:List α,l.length=n/\∀(i:Nat) (a:α),l[i]?=some a->Q i a
 | 0,_=>⟨[],rfl,fun i a h=>by simp at h⟩
 | n+1,h=>by
  obtain⟨l,h1,h2⟩:=qAk n (fun i hi=>h i (by omega));obtain⟨a,ha⟩:=h n (by omega);refine⟨l++[a],by simp[h1],fun i x hx=>?_⟩;rcases qTQ i l.length with hl|hl
  ·rw[qTZ hl]at hx; exact h2 i x hx
  ·rw[qT1 hl]at hx;have hi:i=n:=by
    rcases qTQ (i - l.length) 1 with h3|h3
    ·omega
    ·rw[qUc (by simpa using h3)]at hx; cases hx
   subst hi;have:i - l.length=0:=by omega
   rw[this]at hx;simp at hx; subst hx; exact ha
structure Bulk (H:Type) where
 f:DataW H->Nat
 fs:List (DataW H)->Nat
 str:∀b,f (.lit (.string b))=b.length+1
 agg:∀l,f (.agg l)=fs l+1
 slice:∀e s,f (.slice e s)=fs e+fs s+1
 nil:fs []=0
 cons:∀d r,fs (d::r)=f d+fs r
 pos:∀d,1<=f d
section
variable {H:Type} {en:TypeId×Value->H} {W:World}
def Bulk.len (K:Bulk H):∀l:List (DataW H),l.length<=K.fs l
 | []=>by simp
 | d::r=>by
  have h1:=K.pos d;have h2:=Bulk.len K r;rw[K.cons,qT9]; omega
def Bulk.mem (K:Bulk H):∀{l:List (DataW H)} {i:Nat} {d:DataW H},l[i]?=some d->K.f d<=K.fs l
 | [],i,d,h=>by simp at h
 | x::l,0,d,h=>by
  simp at h; subst h;rw[K.cons]; omega
 | x::l,i+1,d,h=>by
  have:=Bulk.mem K (l:=l) (i:=i) (d:=d) (by simpa using h);rw[K.cons]; omega
def qL4 {α:Type} (toD:α->D) (Q:α->DataW H->Prop) {t e:TypeId} {k fuel:Nat} {cs:List Value} {x:DataW H×List MemPlace} (ht:PP.underlying t=some (.slice e)) (hk:PP.cellsOf e=k) (hk0:0<k)
  (hc:∀a,(toD a).cells.length=k) (hn:∀a,∀c∈(toD a).cells,c.isAgg=false) (h:DataW.trod en PP W 0 (fun _=>true) true fuel t cs=some x)
  (el:∀n cs' y,n<fuel->DataW.trod en PP W 0 (fun _=>true) true n e cs'=some y->∃a,RDs W (toD a).cells cs'/\Q a y.1) :
  ∃(l:List α) (v:Value),cs=[v]/\RD (SW W) W (.list (l.map toD)) v/\l.length<=maxLen/\((x.1=.nil/\l=[])\/∃els spare,x.1=.slice els spare/\els.length=l.length/\∀(i:Nat) (a:α) (d:DataW H),l[i]?=some a->els[i]?=some d->Q a d):=by
 rcases DataW.trod_slice ht h with⟨rfl,rfl⟩|⟨a,len,cap,elems,rest,n,rfl,rfl,rfl,hb,hl,hm,hlen,hel,_,_⟩
 ·exact⟨[],_,rfl,.emp none 0,by simp,.inl ⟨rfl,rfl⟩⟩
 ·rw[hk]at hel;have each:∀i,i<len->∃a',(∃cs',W.cells? 0 (a.add (i*k)) k=some cs'/\RDs W (toD a').cells cs')/\∃y,elems[i]?=some y/\Q a' y.1:=by
   intro i hi;have hi':i<elems.length:=by omega
   have h1:=(hel i hi).trans (qTE hi');obtain⟨cs',h2,h3⟩:=qVT.1 h1;obtain⟨a',r,q⟩:=el n cs' _ (by omega) h3;exact⟨a',⟨cs',h2,r⟩,_,qTE hi',q⟩
  obtain⟨l,l1,l2⟩:=qAk len each;refine⟨l,_,rfl,?_,by omega,.inr ⟨_,_,rfl,by simp; omega,fun i a' d ha hd=>?_⟩⟩
  ·by_cases h0:len=0
   ·subst h0;have:l=[]:=qUr l1;subst this;exact .emp _ _
   ·obtain⟨a0,⟨cs0,c1,c2⟩,_⟩:=each 0 (by omega);obtain⟨b,o,spot⟩:=a;have hblk:b<W.heap.size:=by
     have:=World.cells?_block c1 hk0;simpa[Addr.add]using this
    have hspot:spot=none:=by
     obtain⟨_,g1,g2⟩:=World.cells?_some c1;have g3:=g2 0 hk0;have:∃v,cs0[0]?=some v:=⟨cs0[0]'(by omega),qTE _⟩
     obtain⟨v,hv⟩:=this;have e0:(((⟨b,o,spot⟩:Addr).add (0*k)).add 0)=⟨b,o,spot⟩:=by simp[Addr.add]
     rw[hv,e0]at g3;unfold World.cell? at g3;split at g3
     ·cases spot with
      | none=>rfl|some s=>simp at g3
     ·cases g3
    subst hspot;have hcells:∀e∈l.map toD,e.cells.length=k:=fun e he=>by
     obtain⟨a',_,rfl⟩:=qTV.1 he;exact hc a'
    have hfl:(qn (l.map toD)).length=len*k:=by rw[Jr hcells,qTS,l1]
    have key:∀(j:Nat) (d:D),(qn (l.map toD))[j]?=some d->∃v,cl W b (o+j)=some v/\RD (SW W) W d v:=by
     intro j d hd;have hj:j<len*k:=by
      have:=q7 hd;omega
     have hi:j / k<len:=Nat.div_lt_of_lt_mul (by rw[Nat.mul_comm]; exact hj);have hf:j % k<k:=qUX _ hk0;have hdm:j / k*k+j % k=j:=Nat.div_add_mod' j k;obtain⟨ai,hai⟩:∃ai,l[j / k]?=some ai:=⟨l[j / k]'(by omega),qTE _⟩
     have hmi:(l.map toD)[j / k]?=some (toD ai):=by rw[qT3,hai]; rfl
     have hg:=qdE hcells hmi hf;rw[hdm,hd]at hg;obtain⟨⟨cs',g1,g2⟩,_⟩:=l2 (j / k) ai hai;obtain⟨_,g3,g4⟩:=World.cells?_some g1;have g5:=g4 (j % k) hf;obtain⟨v,hv⟩:∃v,cs'[j % k]?=some v:=⟨cs'[j % k]'(by omega),qTE _⟩
     rw[hv,Jz,Jz]at g5;have e1:o+j / k*k+j % k=o+j:=by omega
     rw[e1]at g5;exact⟨v,g5,g2.2 _ d v hg.symm hv⟩
    refine .row (l.map toD) b o cap k len (fun j=>(W.cell? ⟨b,o+j,none⟩).getD Go.undef) (by simp[l1]) hl hblk hcells (fun d hd=>?_) (fun j d hd=>?_) (fun j d hd=>?_)
    ·obtain⟨e,he,hce⟩:=qUd.1 hd;obtain⟨a',_,rfl⟩:=qTV.1 he;exact hn a' d hce
    ·obtain⟨v,hv,_⟩:=key j d hd;have hv':W.cell? ⟨b,o+j,none⟩=some v:=hv;rw[hv,hv']; rfl
    ·obtain⟨v,hv,hr⟩:=key j d hd;have hv':W.cell? ⟨b,o+j,none⟩=some v:=hv;rw[hv']; exact hr
  ·obtain⟨_,y,hy,hq⟩:=l2 i a' ha;rw[qT3,hy]at hd;cases hd; exact hq
def qL5 {t:TypeId} {fs:Array Field} (ht:PP.underlying t=some (.struct fs)) {fuel:Nat} {cs:List Value} {x:DataW H×List MemPlace} (h:DataW.trod en PP W 0 (fun _=>true) true fuel t cs=some x) :
  ∃(xs:List (DataW H×List MemPlace)) (n:Nat),fuel=n+1/\x.1=.agg (xs.map (·.1))/\cs.length=PP.cellsOf t/\xs.length=fs.size /\
   ∀(i:Nat) (f:Field),fs.toList[i]?=some f->∃y,xs[i]?=some y/\DataW.trod en PP W 0 (fun _=>true) true n f.type ((cs.drop f.offset).take (PP.cellsOf f.type))=some y:=by
 obtain⟨xs,n,h1,h2,h3,h4,h5⟩:=DataW.trod_struct ht h;refine⟨xs,n,h1,by rw[h2],h3,h4,fun i f hf=>?_⟩;have hf1:fs[i]?=some f:=by simpa using hf
 have hi:i<xs.length:=by rw[h4]; exact(qUY.1 hf1).1
 exact⟨xs[i],qTE hi,(h5 i f hf1).trans (qTE hi)⟩
end
def qfF:Y->List Y
 | .ec c r=>c::qfF r|_=>[]
def wfc:Y->Bool
 | .ec _ r=>wfc r|.e0=>true|_=>false
def BG:Nat:=140737488355328
def qL6 (k:IntKind):Bool:=match k with
 | .i64=>true|_=>false
def qeS (k k':IntKind):Bool:=decide (k=k')
def qi8:TypeId:=36
def qch:Y->List Y×Bool
 | .g r=>(qfF r,true)|.nm _=>(qfF (unG (RT.body BG)),true)|y=>([y],false)
where unG:Y->Y
 | .g r=>r|y=>y
def qL7 (e:TypeId):Y->Bool
 | .g r=>wfc r|.nm n=>Nat.beq n BG&&Nat.beq e qi8|_=>true
def qmK (P:TypeId->List Y->Bool):List Field->Nat->List Y->Bool
 | [],_,ys=>ys.isEmpty|f::r,o,ys=>Nat.beq f.offset o&&(Nat.ble (PP.cellsOf f.type) ys.length&&(P f.type (ys.take (PP.cellsOf f.type))&&qmK P r (o+PP.cellsOf f.type) (ys.drop (PP.cellsOf f.type))))
def fit:Nat->TypeId->List Y->Bool
 | 0,_,_=>false|d+1,t,ys=>match PP.underlying t with
  | some (.int k)=>match ys with
   | [.i k']=>qeS k k'|[.rg a b]=>qL6 k&&(decide (a<=-9223372036854775808)&&decide (9223372036854775807<=b))|_=>false
  | some .string=>match ys with
   | [.s n]=>Nat.ble BG n|_=>false
  | some (.slice e)=>match ys with
   | [.l n y]=>Nat.ble BG n&&(Nat.beq (PP.cellsOf e) (qch y).1.length&&(Nat.blt 0 (PP.cellsOf e)&&(qL7 e y&&match y with
    | .nm _=>true|y=>fit d e (qch y).1)))
   | _=>false
  | some (.struct fs)=>Nat.beq (PP.cellsOf t) ys.length&&qmK (fit d) fs.toList 0 ys|_=>false
def qL8:fit 8 qi8 (qfF (qch.unG (RT.body BG)))=true:=by kernel_rfl
inductive Tys:List Y->List D->Prop
 | nil:Tys [] []
 | cons {y:Y} {d:D} {ys:List Y} {ds:List D} (h:qd y d) (t:Tys ys ds):Tys (y::ys) (d::ds)
def Tys.append:∀{ys ys':List Y} {ds ds':List D},Tys ys ds->Tys ys' ds'->Tys (ys++ys') (ds++ds')
 | _,_,_,_,.nil,h=>h|_,_,_,_,.cons h t,h2=>.cons h (t.append h2)
def qi9:∀{r:Y} {ds:List D},wfc r=true->Tys (qfF r) ds->qd r (.list ds)
 | .ec c r,ds,h,ht=>by
  cases ht with
  | cons h1 h2=>exact⟨_,_,rfl,h1,qi9 (r:=r) h h2⟩
 | .e0,ds,_,ht=>by
  cases ht;rfl
section
variable {H:Type} {en:TypeId×Value->H} {W:World}
structure Got (K:Bulk H) (W:World) (ys:List Y) (cs:List Value) (x:DataW H) (ds:List D):Prop where
 rd:RDs W ds cs
 len:ds.length=ys.length
 na:∀d∈ds,d.isAgg=false
 ty:K.f x<=BG->Tys ys ds
def qmL {K:Bulk H} {y:Y} {v:Value} {x:DataW H} {d:D} (h:RD (SW W) W d v) (hn:d.isAgg=false) (ht:K.f x<=BG->qd y d):Got K W [y] [v] x [d] :=
 ⟨.cons h .nil,rfl,fun e he=>by rw[qUJ.1 he]; exact hn,fun hb=>.cons (ht hb) .nil⟩
def qL9 {d:D} (h:d.isAgg=false):d.cells=[d]:=by cases d<;>first|rfl|cases h
def qja (K:Bulk H):∀(fuel d:Nat) (t:TypeId) (ys:List Y) (cs:List Value) (x:DataW H×List MemPlace),fit d t ys=true->DataW.trod en PP W 0 (fun _=>true) true fuel t cs=some x->∃ds,Got K W ys cs x.1 ds:=by
 intro fuel
 induction fuel using Nat.strongRecOn with
 | _ fuel ih =>
  intro d t ys cs x hf h
  cases d with
  | zero=>exact absurd (show false=true from hf) (by decide)
  | succ d =>
   unfold fit at hf;split at hf
   ·rename_i k hu;obtain⟨z,h1,h2,h3⟩:=DataW.trod_int hu h;subst h1;have hw:k.min<=z/\z<=k.max:=by simpa only[Lit.wf,qTC,decide_eq_true_eq]using h3
    split at hf
    ·rename_i k';have hk:k=k':=of_decide_eq_true hf;subst hk;exact⟨[.int k z],qmL (.int _ _) rfl fun _=>⟨z,rfl⟩⟩
    ·rename_i a b;rw[qTC,qTC]at hf;have hk:k=.i64:=by
      have:=hf.1;cases k<;>first|rfl|cases this
     subst hk;have e1:IntKind.i64.min=-9223372036854775808:=by decide
     have e2:IntKind.i64.max=9223372036854775807:=by decide
     rw[e1,e2]at hw;have q1:=of_decide_eq_true hf.2.1;have q2:=of_decide_eq_true hf.2.2;exact⟨[.int .i64 z],qmL (.int _ _) rfl fun _=>⟨z,rfl,by omega,by omega⟩⟩
    ·cases hf
   ·rename_i hu;obtain⟨s,h1,h2,_⟩:=DataW.trod_string hu h;subst h1;split at hf
    ·rename_i n;refine⟨[.str s],qmL (.str _) rfl fun hb=>⟨s.data.toList,by cases s; rfl,?_⟩⟩;rw[h2,K.str]at hb;have:=qT5 hf;omega
    ·cases hf
   ·rename_i e hu;split at hf
    ·rename_i n y;simp only[qTC]at hf;obtain⟨f1,f2,f3,f4,f5⟩:=hf;have f2:=qTO f2;have f3:0<PP.cellsOf e:=by
      have:=qT5 f3;omega
     have el:∀m cs' (y':DataW H×List MemPlace),m<fuel->DataW.trod en PP W 0 (fun _=>true) true m e cs'=some y'->∃ds,Got K W (qch y).1 cs' y'.1 ds:=fun m cs' y' hm hy=>by
      cases y with
      | nm nn =>
       have g1:(Nat.beq nn BG&&Nat.beq e qi8)=true:=f4;rw[qTC]at g1;have g2:=qTO g1.2;subst g2;exact ih m hm 8 qi8 _ cs' y' qL8 hy
      | _=>exact ih m hm d e _ cs' y' f5 hy
     obtain⟨l,v,h1,h2,h3,h4⟩:=qL4 (α:={a:D // a.cells.length=PP.cellsOf e/\∀c∈a.cells,c.isAgg=false}) (·.1) (fun a yd=>K.f yd<=BG->qd y a.1) hu rfl f3 (fun a=>a.2.1) (fun a=>a.2.2) h (fun m cs' y' hm hy=>by
      obtain⟨ds,hg⟩:=el m cs' y' hm hy;have hlen:ds.length=PP.cellsOf e:=by rw[hg.len,f2]
      cases hag:(qch y).2 with
      | true =>
       refine⟨⟨.agg ds,hlen,hg.na⟩,hg.rd,fun hb=>?_⟩;have ht:=hg.ty hb
       cases y with
       | g r=>exact⟨ds,rfl,qi9 f4 ht⟩|nm nn =>
        have g1:(Nat.beq nn BG&&Nat.beq e qi8)=true:=f4;rw[qTC]at g1;have g2:=qTO g1.1;subst g2;exact JR.fold ⟨ds,rfl,qi9 (by kernel_rfl) ht⟩
       | _=>cases hag
      | false =>
       obtain⟨a,rfl⟩:∃a,ds=[a]:=by
        have hl:=hg.len;have e1:(qch y).1.length=1:=by
         cases y<;>first|rfl|cases hag
        rw[e1]at hl;exact List.length_eq_one_iff.1 hl
       have hna:=hg.na a qTR;have hc:=qL9 hna;refine⟨⟨a,by rw[hc]; exact hlen,fun c hcm=>by rw[hc]at hcm; rw[qUJ.1 hcm]; exact hna⟩,by show RDs W a.cells cs'; rw[hc]; exact hg.rd,fun hb=>?_⟩;have ht:=hg.ty hb;have e1:(qch y).1=[y]:=by
        cases y<;>first|rfl|cases hag
       rw[e1]at ht
       cases ht with
       | cons q _=>exact q)
     rw[h1];refine⟨[.list (l.map (·.1))],qmL h2 rfl fun hb=>⟨_,rfl,?_,fun a ha=>?_⟩⟩
     ·rw[qTS];have:=qT5 f1;rcases h4 with⟨_,rfl⟩|⟨els,sp,e1,e2,_⟩
      ·simp
      ·rw[e1,K.slice]at hb;have:=K.len els;omega
     ·obtain⟨a',ha',rfl⟩:=qTV.1 ha;obtain⟨i,hi⟩:=qUS ha';rcases h4 with⟨_,rfl⟩|⟨els,sp,e1,e2,e3⟩
      ·cases ha'
      ·have hl:i<els.length:=by
        have:=q7 hi;omega
       have hq:=e3 i a' _ hi (qTE hl);refine hq ?_;have:=K.mem (qTE hl);rw[e1,K.slice]at hb;omega
    ·cases hf
   ·rename_i fs hu;rw[qTC]at hf;have hcl:=qTO hf.1;obtain⟨xs,n,hfu,hx,hlen,hxs,hfld⟩:=qL5 hu h;have key:∀(fl:List Field) (o i:Nat) (ys:List Y),fs.toList.drop i=fl->qmK (fit d) fl o ys=true->(cs.drop o).length=ys.length->∃ds,RDs W ds (cs.drop o)/\ds.length=ys.length/\(∀a∈ds,a.isAgg=false)/\(K.f x.1<=BG->Tys ys ds):=by
     intro fl
     induction fl with
     | nil =>
      intro o i ys _ hy hl;have hy:ys=[]:=qVe.1 hy;subst hy;have:cs.drop o=[]:=qUr hl;rw[this];exact⟨[],RDs.nil,rfl,(fun a ha=>by cases ha),fun _=>Tys.nil⟩
     | cons f r ihf =>
      intro o i ys hd hy hl;have hy:(Nat.beq f.offset o&&(Nat.ble (PP.cellsOf f.type) ys.length&&(fit d f.type (ys.take (PP.cellsOf f.type))&&qmK (fit d) r (o+PP.cellsOf f.type) (ys.drop (PP.cellsOf f.type)))))=true:=hy;simp only[qTC]at hy;obtain⟨y1,y2,y3,y4⟩:=hy;have y1:=qTO y1;have y2:=qT5 y2;have hfi:fs.toList[i]?=some f:=by
       have:(fs.toList.drop i)[0]?=some f:=by rw[hd]; rfl
       rw[qUk]at this;exact this
      have hdr:fs.toList.drop (i+1)=r:=by
       rw[<-List.drop_drop,hd]; rfl
      obtain⟨yx,g1,g2⟩:=hfld i f hfi;rw[y1]at g2;obtain⟨ds1,hg⟩:=ih n (by omega) d f.type _ _ _ y3 g2;have hl2:(cs.drop (o+PP.cellsOf f.type)).length=(ys.drop (PP.cellsOf f.type)).length:=by
       rw[qT8]at hl ⊢;rw[qT8]; omega
      obtain⟨ds2,k1,k2,k3,k4⟩:=ihf (o+PP.cellsOf f.type) (i+1) (ys.drop (PP.cellsOf f.type)) hdr y4 hl2;have ecs:cs.drop o=(cs.drop o).take (PP.cellsOf f.type)++cs.drop (o+PP.cellsOf f.type):=by
       rw[<-List.drop_drop,qUw]
      refine⟨ds1++ds2,by rw[ecs]; exact hg.rd.append k1,?_,fun a ha=>?_,fun hb=>?_⟩
      ·rw[qTN,hg.len,k2,qTU,qT8]; omega
      ·rcases qTH.1 ha with ha|ha
       ·exact hg.na a ha
       ·exact k3 a ha
      ·have hb1:K.f yx.1<=BG:=by
        have h1:(xs.map (·.1))[i]?=some yx.1:=by rw[qT3,g1]; rfl
        have h2:=K.mem h1;rw[hx,K.agg]at hb;omega
       have:=(hg.ty hb1).append (k4 hb);rw[qUw]at this;exact this
    obtain⟨ds,k1,k2,k3,k4⟩:=key fs.toList 0 0 ys rfl hf.2 (by rw[qTY,hlen,hcl]);rw[qTY]at k1;exact⟨ds,k1,k2,k3,k4⟩
   ·cases hf
end
end Go.Aev.R29
namespace Go.Aev.R29
open Go Go.Aev Go.Aev.R
variable [PW]
def qoC:Con:={pts:=[Yr,Yr],pre:=[Zds],rts:=[qlA],post:=[]}
def qoD:RFn:=mF 305 qoC [⟨3,[ZJ,Zs,(5,ZcL),(6,ZbQ)],[],[Yr,Yr],[],(Za,.w 1 Zu Za,Zk,Za,Za,Za)⟩,⟨3,[ZJ,Zs,Zh0,(6,.o ZgP)],[.dat 1 Zj false],[Yr,Yr,.i .i64,.i .i64,.i .i64,qlA],[Zh1,ZeV,.le Zdd Zf],(Za,.w 1 Zu Zf,Zk,Za,Za,Za)⟩]
def qoE:Tab:=[]
def qX2:qH PP 305 qoC (Ev0 PP qoD qoE):=fe qoD qoE qo (by kernel_rfl) (by refine⟨?_,?_,?_,trivial⟩<;>intro<;>kernel_rfl)
def qCa:Con:={qoC with post:=qoC.post++[.ifF (.eqD Ze Zc) (.rows 2 Zb Zx Zg)]}
def qCb:TQ:=.next [] 0 [Ze,Zc]
def qCc:TQ:=.fork Zif (.next [] 1 [Ze,Zc,.u 0 0 Zlw,.u 0 0 Zlw,ZcZ,Zlw]) (.done [] .z)
def qCd:TQ:=.fork (.w 10 Zf Zu) (.next [] 1 [Ze,Zc,.w 8 Zb (.u 0 0 Zlx),.w 8 Zb (.u 0 0 Zlx),ZeU,.w 5 Zgo Zlx]) (.done [] Zgo)
def qX3:qN PP qoD qoE=[qCb,qCc,qCd]:=by kernel_rfl
def qX4 {ds:List D} {d:D} (h:Ev0 PP qoD qoE ds d) (he:qa ds 0=qa ds 1):∀x∈toL d,toI x=0:=by
 refine Yc qX3 (I:=fun k U=>k=0\/∀x∈(toL (U 5)).take (toN (U 2)),toI x=0) (Q:=fun d=>∀x∈toL d,toI x=0) ?_ ?_ h
 ·intro k st q U d hst hq hg hi ht;have h0:=hg.arg 0 (by decide);have h1:=hg.arg 1 (by decide);have hv:U 0=U 1:=by rw[h0,h1,he]
  rcases k with _|_|k
  ·simp at hq;subst hq;simp[qCc,YP,YO,T.den,T.un,T.bi,Ym,hv]at ht;rcases ht with⟨_,h⟩|⟨_,rfl⟩
   ·exact h
   ·intro x hx; cases hx
  ·simp at hq;subst hq;simp[qCd,YP,YO,T.den,T.un,T.bi,Ym,hv]at ht;have hi:=hi.resolve_left (by omega);rcases ht with⟨_,h⟩|⟨_,rfl⟩
   ·refine h fun x hx=>?_
    rcases qTH.1 (qUg hx)with hx|hx
    ·exact hi x hx
    ·simp at hx; subst hx; rfl
   ·exact hi
  ·simp at hq
 ·intro d ht;simp[qCb,YP,YO,Ym]at ht;exact ht
def qX5:qm PP 305 qCa:=qX2.more fun ds d hp _ h=>⟨fun f hf=>by
 simp at hf;subst hf;intro he j _ hj;have hj':j<(toL (T.den PW.wV (qa (ds++[d])) (.v 2))).length:=hj;have hl:ds.length=2:=hp.1.1;obtain⟨a,b,rfl⟩:∃a b,ds=[a,b]:=by
  match ds,hl with
  | [a,b],_=>exact⟨a,b,rfl⟩
 have:=qX4 h he ((toL d).getD j .nilp) (by
  rw[zzG,qTE (show j<(toL d).length from hj)]; exact qTL _)
 have e:toI ((toL d).getD j .nilp)=0:=this;show 0<=toI ((toL d).getD j .nilp)/\toI ((toL d).getD j .nilp)<_;rw[e];exact⟨qVY _,show(0:Int)<((1:Nat):Int) by decide⟩,trivial⟩
def quq:Con:={pts:=[.i .i64],pre:=[.le (.i (-2000)) Ze,.le Ze (.i 2000)],rts:=[.i .i64],post:=[Zaa,.le Zc (.i 2000),.imp (.w 14 Ze Za) (.le Zc Za)]}
def qXn:RFn:=mF 399 quq []
def qXo:Tab:=[]
def qXp:qm PP 399 quq:=(fe qXn qXo qo (by kernel_rfl) ⟨fun U=>by kernel_rfl,trivial⟩).ok
def qt2:Con:={pts:=[.i .i64,qlA],pre:=[],rts:=[.i .i64],post:=[Z3,.le Zb (.i 128000000),ZkF]}
def qSC:RFn:=mF 304 qt2 [⟨3,[ZaX,Zs,ZaP,(6,ZbP)],[],[.i .i64,qlA,.i .i64,.i .i64],[Z3,.le Zb (.w 2 (.i 4000000) Zd),ZkF,.le Zd Zi],(Za,Zg6,Zk,Za,Za,Za)⟩]
def qSD:Tab:=[(399,quq)]
def qSE:qm PP 304 qt2:=(fe qSC qSD (qj qXp (qo)) (by kernel_rfl) (by refine⟨?_,?_,trivial⟩<;>intro<;>kernel_rfl)).ok
def KEY (m x v:D):Int:=toI (PW.wV 1000222 [(K.i .i64).den m,K.l.den x,K.l.den v])
def qdw:Con:={pts:=[.i .i64,Yr,Yr],pre:=[.nle Zi Zx],rts:=[.i .i64],post:=[Zah,.le Zd (.i 128000000),.ifF (.eqD Zae ZcS) (.le Zd Za)]}
def qRl:RFn:=mF 222 qdw []
def qRm:Tab:=[(305,qCa),(304,qt2)]
def qRn:qm PP 222 qdw:=(fe qRl qRm (qj qX5 (qj qSE (qo))) (by kernel_rfl) ⟨fun U=>by kernel_rfl,trivial⟩).ok
def qeA:Con:={qdw with post:=qdw.post++[.eqD Zd (.u 3 1000222 (.w 4 Ze (.w 4 Zae (.w 4 ZcS .z))))]}
def qtN {tab:Tab} (ht:tab.get 222=some qeA) {m x v:D} (h:∀c,tab.get 222=some c->qG c [(K.i .i64).den m,K.l.den x,K.l.den v]/\JZ c [(K.i .i64).den m,K.l.den x,K.l.den v] (wOf PP tab 222 [(K.i .i64).den m,K.l.den x,K.l.den v])) :
  toI (wOf PP tab 222 [(K.i .i64).den m,K.l.den x,K.l.den v])=KEY m x v/\0<=KEY m x v/\(toL x=toL v->KEY m x v=0):=by
 obtain⟨_,⟨_,h⟩,_⟩:=h _ ht;have e:=h (.eqD (.v 3) (.u 3 1000222 (qX [.v 0,.mk .l (.v 1),.mk .l (.v 2)]))) (List.mem_append_right _ (by simp[qX]));have e:wOf PP tab 222 [(K.i .i64).den m,K.l.den x,K.l.den v]=PW.wV 1000222 [(K.i .i64).den m,K.l.den x,K.l.den v]:=e;have h0:=h (.le (.i 0) (.v 3)) (by simp[qeA,qdw]);have h0:0<=toI (wOf PP tab 222 [(K.i .i64).den m,K.l.den x,K.l.den v]):=h0;have h1:=h (.ifF (.eqD (.mk .l (.v 1)) (.mk .l (.v 2))) (.le (.v 3) (.i 0))) (by simp[qeA,qdw]);have h1:K.l.den (K.l.den x)=K.l.den (K.l.den v)->toI (wOf PP tab 222 [(K.i .i64).den m,K.l.den x,K.l.den v])<=0:=h1;rw[e]at h0 h1 ⊢;refine⟨rfl,h0,fun hx=>qVM (h1 ?_) h0⟩;show D.list (toL x)=D.list (toL v);rw[hx]
def qtW:Con:={pts:=[.i .i64],pre:=[],rts:=[.b],post:=[.imp Zc Zee,.imp Zc Zef]}
def qSd:RFn:=mF 73 qtW []
def qSe:Tab:=[]
def qSf:qm PP 73 qtW:=(fe qSd qSe qo (by kernel_rfl) ⟨fun U=>by kernel_rfl,trivial⟩).ok
def qns:Con:={pts:=[Zgi,Zcp],pre:=[],rts:=[.b],post:=[]}
def qQX:RFn:=mF 210 qns [⟨2,[ZJ,ZhN,ZaP],[],[Zgi,Zcp,.i .i64],[Z3],(Za,.w 1 Zu Zb,Zk,Za,Za,Za)⟩]
def qQY:Tab:=[]
def qBj:qm PP 210 qns:=(fe qQX qQY qo (by kernel_rfl) (by refine⟨?_,?_,trivial⟩<;>intro<;>kernel_rfl)).ok
def qnR:Con:={pts:=[Zcp],pre:=[],rts:=[.b],post:=[]}
def qSn:RFn:=mF 135 qnR [⟨2,[(0,.o (.c .s Ze)),(3,ZcU)],[],[Zcp,.i .i64],[Zaa],(Za,.w 1 (.u 7 0 Ze) Zc,Zk,Za,Za,Za)⟩]
def qSo:Tab:=[(210,qns)]
def qBw:qm PP 135 qnR:=(fe qSn qSo (qj qBj (qo)) (by kernel_rfl) (by refine⟨?_,?_,trivial⟩<;>intro<;>kernel_rfl)).ok
def quF:Con:={pts:=[Zgi],pre:=[],rts:=[.i .i64],post:=[]}
def qYY:RFn:=mF 136 quF [⟨4,Zey,[],[Zgi,.i .i64],[Zaa,.bool (.w 10 Zu Zg) false,.bool (.w 12 Zu (.i 50)) false],(Zg,.w 1 Zu Zc,Zk,Za,Za,Za)⟩,⟨9,[ZJ,(4,ZcU)],[],[Zgi,.i .i64],[.le Zg Zc],(Za,.w 1 Zu Zc,Zk,Za,Za,Za)⟩]
def qYZ:Tab:=[(135,qnR)]
def qY0:qm PP 136 quF:=(fe qYY qYZ (qj qBw (qo)) (by kernel_rfl) (by refine⟨?_,?_,?_,trivial⟩<;>intro<;>kernel_rfl)).ok
def qtk:Con:={pts:=[Zjq,Zcp],pre:=[],rts:=[.i .i64],post:=[]}
def qOh:RFn:=mF 74 qtk []
def qOi:Tab:=[(135,qnR),(136,quF)]
def qOj:qm PP 74 qtk:=(fe qOh qOi (qj qBw (qj qY0 (qo))) (by kernel_rfl) ⟨fun U=>by kernel_rfl,trivial⟩).ok
def qbl:Con:={pts:=[Zbt],pre:=[],rts:=[.i .i64],post:=[.imp ZfA (.le Zg Z6),.imp ZfA (.le Zg Zbb),.imp ZfA (.le Zbb Zai)]}
def qNN:RFn:=mF 30 qbl [⟨7,[Zal,(3,.o (.c .s Zc)),(4,Zck)],[Zq],[Zbt,Zcp,.i .i64],[Z3,.bool (.w 10 Z6 Zg) false,.le Zg Zad,.le Zad Zai],(Za,.w 1 ZG Zb,Zk,Za,Za,Za)⟩]
def qNO:Tab:=[(73,qtW),(74,qtk)]
def qAL:qm PP 30 qbl:=(fe qNN qNO (qj qSf (qj qOj (qo))) (by kernel_rfl) (by refine⟨?_,?_,trivial⟩<;>intro<;>kernel_rfl)).ok
def qtg:Con:={qbl with post:=qbl.post++[.le Zc Zfk,.le Zfk Zc]}
def qhx:Con:={pts:=[Zbe],pre:=[],rts:=[.b],post:=[.imp Zc Zfa,.imp Zc Zdk,.ifF (.and Zfa Zdk) ZfW]}
def qYq:RFn:=mF 115 qhx [⟨2,Zey,[],[Zbe,.i .i64],[.pre Ze Zc (.rg (-1000) 1000),Zaa],(Za,.w 1 Zu Zc,Zk,Za,Za,Za)⟩]
def qYr:Tab:=[]
def qoJ:qm PP 115 qhx:=(fe qYq qYr qo (by kernel_rfl) (by refine⟨?_,?_,trivial⟩<;>intro<;>kernel_rfl)).ok
def qtw:Con:={pts:=[Zbt,Zcp],pre:=[],rts:=[.i .i64],post:=[.lt Zb ZG]}
def qPd:RFn:=mF 196 qtw [⟨2,[ZhN,Z2,ZaP],[Zq],[Zbt,Zcp,.i .i64],[Z3],(Za,.w 1 ZG Zb,Zk,Za,Za,Za)⟩]
def qPe:Tab:=[]
def qPf:qm PP 196 qtw:=(fe qPd qPe qo (by kernel_rfl) (by refine⟨?_,?_,trivial⟩<;>intro<;>kernel_rfl)).ok
def quC:Con:={pts:=[Zjq,ZjX],pre:=[],rts:=[.i .i64],post:=[]}
def qYN:RFn:=mF 393 quC []
def qYO:Tab:=[(210,qns)]
def qYP:qm PP 393 quC:=(fe qYN qYO (qj qBj (qo)) (by kernel_rfl) ⟨fun U=>by kernel_rfl,trivial⟩).ok
def qtz:Con:={pts:=[Zbt,.l 140737488355328 ZjX],pre:=[],rts:=[.i .i64],post:=[]}
def qPl:RFn:=mF 296 qtz [⟨2,[Zs,Z2,ZaP],[Zq],[Zbt,.l 140737488355328 ZjX,.i .i64],[Z3],(Za,.w 1 Zi Zb,Zk,Za,Za,Za)⟩]
def qPm:Tab:=[(196,qtw),(393,quC)]
def qPn:qm PP 296 qtz:=(fe qPl qPm (qj qPf (qj qYP (qo))) (by kernel_rfl) (by refine⟨?_,?_,trivial⟩<;>intro<;>kernel_rfl)).ok
def JH:Con:={pts:=[Zw,ZcP],pre:=[],rts:=[.i .i64],post:=[.imp Zer (.has Zc3 Yr),.imp Zer (.nle Zg (.u 0 0 Zc3)),.imp Zer (.nle (.u 0 0 Zc3) Z6),.imp Zer (.nle Z6 (.u 0 0 Zc3)),.imp Zer (.le Zg ZdH)]}
def qOK:RFn:=mF 212 JH []
def qOL:Tab:=[(115,qhx),(296,qtz)]
def qtp:qm PP 212 JH:=(fe qOK qOL (qj qoJ (qj qPn (qo))) (by kernel_rfl) ⟨fun U=>by kernel_rfl,trivial⟩).ok
def qA4:Con:={JH with post:=JH.post++[.eqD Zb ZhI,.le Zb ZhI,.le ZhI Zb]}
def qeF:Con:={pts:=[Zw,ZK],pre:=[],rts:=[.b],post:=[.imp Zb Zid,.imp Zb Ze0,.imp Zb Zie]}
def qTk:RFn:=mF 76 qeF [⟨2,[Zs,Z2,ZaP],[Zq],[Zw,ZK,.i .i64],[.rows 0 Zc Zb Z6,.pre Zc Zb Yr,Z3],(Za,.w 1 Zi Zb,Zk,Za,Za,Za)⟩]
def qTl:Tab:=[(115,qhx)]
def qTm:qm PP 76 qeF:=(fe qTk qTl (qj qoJ (qo)) (by kernel_rfl) (by refine⟨?_,?_,trivial⟩<;>intro<;>kernel_rfl)).ok
def que:Con:={qeF with post:=qeF.post++[.imp Zb Zdu,.imp (.u 6 0 Zb) (.bool ZiA false)]}
def qtu:Con:={pts:=[Zbt,.i .i64],pre:=[],rts:=[.b],post:=[.imp Zb (.pre ZaR ZG (qlB 300 300)),.imp Zb (.le ZG Zc)]}
def qO7:RFn:=mF 75 qtu [⟨2,[ZbW,Z2,ZaP],[Zq],[Zbt,.i .i64,.i .i64],[ZjW,Z3],(Za,.w 1 ZG Zb,Zk,Za,Za,Za)⟩,⟨8,[ZbW,Z2,ZaP,(6,ZcM),(7,ZbP)],[Zq,.box [.c .s (.u 1 0 Zex),.c (.i .i64) (.u 1 1 Zex),.c (.i .i64) (.u 1 2 Zex),.c (.i .i64) (.u 1 3 Zex),.c .l (.u 1 4 Zex)] false],[Zbt,.i .i64,.i .i64,.i .i64],[ZjW,.pre (.u 1 4 Zex) Zd (.s 300),Z3,.lt Zb ZG,Zah,.bool (.w 12 (.u 0 0 (.u 1 4 Zex)) ZbM) false,.bool (.w 12 (.u 7 0 (.u 1 0 Zex)) (.i 100)) false],(Za,.w 1 ZG Zb,Za,.w 1 (.u 0 0 (.u 1 4 Zex)) Zd,Zk,Za)⟩]
def qO8:Tab:=[]
def qO9:qm PP 75 qtu:=(fe qO7 qO8 qo (by kernel_rfl) (by refine⟨?_,?_,?_,trivial⟩<;>intro<;>kernel_rfl)).ok
def qts:Con:={pts:=[ZdJ],pre:=[],rts:=[.b],post:=[.imp Zc (.has Ze (qxS 300 300))]}
def qO1:RFn:=mF 77 qts [⟨4,[Zal,(3,ZcU)],[.box [.c .l Z6] false],[ZdJ,.i .i64],[.pre Z6 Zc (qdi 300 300),Zaa,.bool (.w 12 Zc4 (.i 30)) false],(Za,.w 1 Zc4 Zc,Zk,Za,Za,Za)⟩]
def qO2:Tab:=[]
def qO3:qm PP 77 qts:=(fe qO1 qO2 qo (by kernel_rfl) (by refine⟨?_,?_,trivial⟩<;>intro<;>kernel_rfl)).ok
def qfN:Con:={pts:=[Zjo,.i .i64,.i .i64],pre:=[Zaa,.le Zc (.i 1000000),.le Zb (.i 100)],rts:=[.i .i64],post:=[Zjp,Zcj,.imp Zht (.le Zd0 Zd),.imp Zht (.lt (.w 0 Zch Zcr) Zd)]}
def qm3:RFn:={g:=137,con:=qfN,wr:=false,pn:=14,rec':={ms:=[(137,Zb)],cur:=Zb},sts:=[{id:=5,env:=[ZbW,ZaO,Z5,(7,ZbP),(8,.o ZgP)],rows:=[Zd6],tys:=[Zjo,.i .i64,.i .i64,.i .i64,.i .i64],inv:=[Zbf,.imp Zht (.le (.w 0 (.w 0 Zg Zcr) (.u 12 1000 (.w 6 Zf Za9))) Zd),Zjp,.lt (.w 0 Zcr Zf) Zd,ZcX],ms:=(Za,.w 1 Zch Zf,Zk,Za,Za,Za)}]}
def qm4:Tab:=[]
def qOc:qaA PP qm4:=qo
def qOd:J8 PP qm3 ((137,qfN)::qm4)=true:=by kernel_rfl
def qOe:J9 PP qm3 ((137,qfN)::qm4) (qJ PP qm3):=by refine⟨?_,?_,trivial⟩<;>intro<;>kernel_rfl
def qOf:qH PP 137 qfN (Ev0 PP qm3 ((137,qfN)::qm4)):=qgH Yz mixed qOc rfl qOd qOe
def qOg:qm PP 137 qfN:=qOf.ok
def qtr:Con:={pts:=[ZhJ],pre:=[],rts:=[.b],post:=[.imp Zc (.has Ze (qlC 300 300))]}
def qOT:RFn:=mF 138 qtr [⟨4,[Zal,(3,ZcU)],[Zhv],[ZhJ,.i .i64],[ZjP,Zaa,ZjQ,ZjR,ZjS,ZjT],(Za,.w 1 Zbj Zc,Zk,Za,Za,Za)⟩,⟨9,[Zal,(3,ZcU),(4,Zck)],[Zhv],[ZhJ,.i .i64,.i .i64],[ZjP,.pre (.u 1 3 (.w 3 ZaW Zc)) Zb (.s 300),Zaa,.lt Zc Zbj,Z3,ZjQ,ZjR,ZjS,ZjT,.bool (.w 12 ZjU ZbM) false],(Za,.w 1 Zbj Zc,Za,.w 1 ZjU Zb,Zk,Za)⟩]
def qOU:Tab:=[]
def qOV:qm PP 138 qtr:=(fe qOT qOU qo (by kernel_rfl) (by refine⟨?_,?_,?_,trivial⟩<;>intro<;>kernel_rfl)).ok
def qtq:Con:={pts:=[Zd3],pre:=[],rts:=[.b],post:=[.imp Zc (.has Ze ZcC)]}
def qOQ:RFn:=mF 211 qtq [⟨2,[Zal,(3,ZcU)],[Zhu],[Zd3,.i .i64],[.pre ZcF Zc (qff 12000 300),Zaa],(Za,.w 1 Zem Zc,Zk,Za,Za,Za)⟩]
def qOR:Tab:=[]
def qOS:qm PP 211 qtq:=(fe qOQ qOR qo (by kernel_rfl) (by refine⟨?_,?_,trivial⟩<;>intro<;>kernel_rfl)).ok
def qtv:Con:={pts:=[Zel,.i .i64],pre:=[],rts:=[.b],post:=[.imp Zb (.pre Ze Zu ZcC),.imp Zb (.le Zu Zc)]}
def qPa:RFn:=mF 139 qtv [⟨4,[ZJ,ZaP],[],[Zel,.i .i64,.i .i64],[.pre Ze Zb ZcC,Z3,.bool (.w 12 Zu Zc) false],(Za,.w 1 Zu Zb,Zk,Za,Za,Za)⟩]
def qPb:Tab:=[(211,qtq)]
def qPc:qm PP 139 qtv:=(fe qPa qPb (qj qOS (qo)) (by kernel_rfl) (by refine⟨?_,?_,trivial⟩<;>intro<;>kernel_rfl)).ok
def qfP:Con:={pts:=[ZjV,.i .i64,.i .i64],pre:=[Zaa,.le Zc (.i 250),.le Zb (.i 100)],rts:=[.b],post:=[.imp Zd (.has Ze ZdZ),.imp Zd (.le Zd0 Zc)]}
def qnk:RFn:={g:=78,con:=qfP,wr:=false,pn:=14,rec':={ms:=[(78,Zb)],cur:=Zb},sts:=[{id:=4,env:=[ZbW,ZaO,Z5,(7,ZbP)],rows:=[Zd6],tys:=[ZjV,.i .i64,.i .i64,.i .i64],inv:=[.le Zd0 Zc,.pre Za9 Zd (.nm 300),.nle Zch (.i 250),ZcX,Zah,.has ZhK (qlC 300 300),.pre ZcG Zcr ZcC,.le Zcr Zag],ms:=(Za,.w 1 Zch Zd,Zk,Za,Za,Za)}]}
def qnl:Tab:=[(137,qfN),(138,qtr),(139,qtv)]
def qOW:qaA PP qnl:=qj qOg (qj qOV (qj qPc (qo)))
def qOX:J8 PP qnk ((78,qfP)::qnl)=true:=by kernel_rfl
def qOY:J9 PP qnk ((78,qfP)::qnl) (qJ PP qnk):=by refine⟨?_,?_,trivial⟩<;>intro<;>kernel_rfl
def qOZ:qH PP 78 qfP (Ev0 PP qnk ((78,qfP)::qnl)):=qgH Yz mixed qOW rfl qOX qOY
def qO0:qm PP 78 qfP:=qOZ.ok
def qtt:Con:={pts:=[ZhL,.i .i64],pre:=[Zaa,.le Zc (.i 250)],rts:=[.b],post:=[.imp Zb (.has Ze ZaN),.imp Zb (.le Ze9 Zc)]}
def qO4:RFn:=mF 32 qtt [⟨4,[ZbW,Z2,ZaP],[ZhM],[ZhL,.i .i64,.i .i64],[.pre ZaR Zb Za8,Z3,.bool (.w 12 ZG Zb5) false,.bool (.w 12 Z7 (.i 200)) false],(Za,.w 1 ZG Zb,Zk,Za,Za,Za)⟩]
def qO5:Tab:=[(77,qts),(78,qfP)]
def qO6:qm PP 32 qtt:=(fe qO4 qO5 (qj qO3 (qj qO0 (qo))) (by kernel_rfl) (by refine⟨?_,?_,trivial⟩<;>intro<;>kernel_rfl)).ok
def qtA:Con:={pts:=[.l 301 (qff 301 301),Zdl],pre:=[],rts:=[qIT 301 301],post:=[]}
def qPo:RFn:=mF 297 qtA [⟨2,[ZJ,ZhN,Zbg,ZaP],[.box [.c .s (.s []),Zp,Zp,.c .s (.s []),.c .b (.t false)] false],[.l 301 (qff 301 301),Zdl,.i .i64],[Z3],(Za,.w 1 Zu Zb,Zk,Za,Za,Za)⟩]
def qPp:Tab:=[]
def qPq:qm PP 297 qtA:=(fe qPo qPp qo (by kernel_rfl) (by refine⟨?_,?_,trivial⟩<;>intro<;>kernel_rfl)).ok
def qoP:Con:={pts:=[Zbe],pre:=[],rts:=[.b],post:=[]}
def qYQ:RFn:=mF 444 qoP [⟨2,Zey,[],[Zbe,.i .i64],[Zaa],(Za,.w 1 Zu Zc,Zk,Za,Za,Za)⟩]
def qYR:Tab:=[]
def qCk:qm PP 444 qoP:=(fe qYQ qYR qo (by kernel_rfl) (by refine⟨?_,?_,trivial⟩<;>intro<;>kernel_rfl)).ok
def quy:Con:={pts:=[Zfb],pre:=[],rts:=[.b],post:=[]}
def qYs:RFn:=mF 443 quy [⟨4,[Zal,(3,ZcU)],[.box [.c .l Z6,.c .l Zbb] false],[Zfb,.i .i64],[Zaa,.nle Zc4 Zep],(Za,.w 1 Zc4 Zc,Zk,Za,Za,Za)⟩]
def qYt:Tab:=[(444,qoP)]
def qYu:qm PP 443 quy:=(fe qYs qYt (qj qCk (qo)) (by kernel_rfl) (by refine⟨?_,?_,trivial⟩<;>intro<;>kernel_rfl)).ok
def qs6:Con:={pts:=[Zfb,Zfb],pre:=[],rts:=[.b],post:=[]}
def qMO:RFn:=mF 394 qs6 []
def qMP:Tab:=[(443,quy)]
def qMQ:qm PP 394 qs6:=(fe qMO qMP (qj qYu (qo)) (by kernel_rfl) ⟨fun U=>by kernel_rfl,trivial⟩).ok
def qt5:Con:={pts:=[ZK],pre:=[],rts:=[qxT 301 301],post:=[]}
def qfS:RFn:=mF 395 qt5 [⟨2,[ZJ,Z2,(3,ZcU)],[Zgt],[ZK,.i .i64],[.rows 0 Ze Zc Zc5,Zaa],(Zg,.w 1 Zu Zc,Zk,Za,Za,Za)⟩,⟨10,[ZJ,Z2,ZbY,(5,ZbQ)],[Zgt,.box [.nil,.nil] false],[ZK],[ZdK,Zgu],(Za,.w 1 Zc5 Za,Zk,Za,Za,Za)⟩,⟨15,[ZJ,Z2,ZbY,(5,ZbQ),(6,ZcU),(7,Zck),(8,ZbP)],[Zgt,.box [.nil,.nil] false],[ZK,.i .i64,.i .i64,.i .i64],[ZdK,Zah,Zgu,.bool (.w 10 Za Zc5) true],(Za,.w 1 Zc5 Za,Za,Zh9,Zk,Za)⟩,⟨10,[ZJ,Z2,ZbY,(5,ZcU)],[Zgt,.box [.sl 2 1 Za Zb Zd false,.sl 3 1 Za Zf Zj false] false,Zen,Zd1],[ZK,.i .i64,.i .i64,.i .i64,.i .i64,.i .i64,ZP,ZP],[ZdK,.le Zg Zc,ZkH,ZeV,ZgQ,Zdt,.le Zd2 Zc,Zgu,.nle Zb Zf,.le Zc Zdd],(Za,.w 1 Zc5 Zc,Zk,Za,Za,Za)⟩,⟨15,[ZJ,Z2,ZbY,(5,ZcU),(6,Zck),(7,ZbP),(8,.o ZgP)],[Zgt,.box [Zi9,ZiL] false,ZM,.dat 1 Zac false],[ZK,.i .i64,.i .i64,.i .i64,.i .i64,.i .i64,.i .i64,.i .i64,.i .i64,ZP,ZP],[ZdK,.lt Zc Zc5,Zbf,.nle Zhg Za0,Zhh,.nle (.w 8 Za Zh) (.u 0 0 Zac),Zhb,.le Zfu Zc,Zgu,.nle Zj Zh,.le Zc ZU],(Za,.w 1 Zc5 Zc,Za,.w 1 Zu Zf,Zk,Za)⟩]
def qfT:Tab:=[(444,qoP)]
def qSI:qbh PP qfS qfT=true:=by kernel_rfl
def qSJ:chX PP qfS qfT 0=true:=by kernel_rfl
def qSK:chX PP qfS qfT 1=true:=by kernel_rfl
def qSL:chX PP qfS qfT 2=true:=by kernel_rfl
def qSM:chX PP qfS qfT 3=true:=by kernel_rfl
def qSN:chX PP qfS qfT 4=true:=by kernel_rfl
def qSO:qm PP 395 qt5:=(fe qfS qfT (qj qCk (qo)) (qb8 qSI ⟨qSJ,qSK,qSL,qSM,qSN,trivial⟩) (by refine⟨?_,?_,?_,?_,?_,?_,trivial⟩<;>intro<;>kernel_rfl)).ok
def qtK:Con:={pts:=[qrh 301 301,qrh 301 301],pre:=[],rts:=[qxT 301 301],post:=[]}
def qQ8:RFn:=mF 298 qtK []
def qQ9:Tab:=[(394,qs6),(395,qt5)]
def qRa:qm PP 298 qtK:=(fe qQ8 qQ9 (qj qMQ (qj qSO (qo))) (by kernel_rfl) ⟨fun U=>by kernel_rfl,trivial⟩).ok
def quz:Con:={pts:=[Zau],pre:=[],rts:=[.b],post:=[ZfW]}
def qYv:RFn:=mF 396 quz [⟨2,Zey,[],[Zau,.i .i64],[Zaa],(Za,.w 1 Zu Zc,Zk,Za,Za,Za)⟩]
def qYw:Tab:=[]
def qYx:qm PP 396 quz:=(fe qYv qYw qo (by kernel_rfl) (by refine⟨?_,?_,trivial⟩<;>intro<;>kernel_rfl)).ok
def qtL:Con:={pts:=[Zau,Zau],pre:=[],rts:=[qIU 301 301],post:=[.imp (.w 14 Zu Zi) (.le (.u 0 0 Zcv) Zu),.imp (.w 14 Zu Zi) (.le Zu (.u 0 0 Zcv))]}
def qRb:RFn:=mF 299 qtL [⟨5,[ZJ,Zs,Zbg,(5,ZcL),(6,ZbQ)],[Zcl],[Zau,Zau],[.bool (.w 15 Zu Zi) false],(Za,.w 1 Zu Za,Zk,Za,Za,Za)⟩,⟨5,[ZJ,Zs,Zbg,(5,.o (.sl 1 2 Za Zb Zd false)),(6,.o ZgP)],[Zcl,.dat 2 Zj false],[Zau,Zau,.i .i64,.i .i64,.i .i64,Zau],[.le Zf Zu,Zh1,ZeV,.le Zdd Zf,Zds,.le Zf Zdd],(Za,.w 1 Zu Zf,Zk,Za,Za,Za)⟩]
def qRc:Tab:=[(396,quz)]
def qRd:qm PP 299 qtL:=(fe qRb qRc (qj qYx (qo)) (by kernel_rfl) (by refine⟨?_,?_,?_,trivial⟩<;>intro<;>kernel_rfl)).ok
def quG:Con:={pts:=[ZdY,ZdY],pre:=[.le ZgL Zeo],rts:=[ZdY],post:=[.le Zx ZgL]}
def qY1:RFn:=mF 397 quG [⟨4,[ZJ,Zs,(5,ZcL),(6,ZbQ),(7,ZbQ)],[],[ZdY,ZdY],[],(Za,.w 1 ZgL (.w 0 Za Za),Zk,Za,Za,Za)⟩,⟨4,[ZJ,Zs,Zh0,(6,.o ZgP),(7,Zdy)],[Zen],[ZdY,ZdY,.i .i64,.i .i64,.i .i64,.i .i64,ZdY],[.le Zdd (.w 0 Zf Zj),Zbf,.le Zf Zu,Zea,.le Zj Zi,ZkH,ZeV],(Za,.w 1 ZgL (.w 0 Zf Zj),Zk,Za,Za,Za)⟩]
def qY2:Tab:=[]
def qY3:qm PP 397 quG:=(fe qY1 qY2 qo (by kernel_rfl) (by refine⟨?_,?_,?_,trivial⟩<;>intro<;>kernel_rfl)).ok
def qtM:Con:={pts:=[Zgp,Zgp],pre:=[.le (.w 0 Zc1 Zbo) Zeo],rts:=[Zgp],post:=[.le ZeT (.w 0 Zc1 Zbo)]}
def qRg:RFn:={g:=300,con:=qtM,wr:=true,pn:=14,sts:=[]}
def qRh:Tab:=[(397,quG)]
def qRi:qm PP 300 qtM:=(fe qRg qRh (qj qY3 (qo)) (by kernel_rfl) ⟨fun U=>by kernel_rfl,trivial⟩).ok
def qnx:Con:={pts:=[Zw,Zcw,Zcw],pre:=[.le ZG ZeW,.le ZeW ZG,Zgj,Zgk],rts:=Zh2,post:=[.imp ZaL Zg1,.imp ZaL Zg2,.imp ZaL (.le ZaS ZdR),.imp ZaL (.le ZdR ZaS),.imp ZaL (.le Zbo Zfp),ZcJ,Zg3,.le ZaS ZaY,.le Za (.u 1 10 Zd),.imp (.w 14 Zbo ZeT) (.imp (.w 11 ZdR ZaY) (.le (.u 1 10 Zd) Za)),.le Zfp Zbo]}
def qRe:RFn:=mF 214 qnx [⟨14,[Z5,ZbY,(5,ZcV),Zhl,(9,.o (.pt 4 0 Za 0)),(10,ZbQ)],[Zq,Zkb,Zkd,ZeY,.box [.c (.i .i64) ZdR,.c .l Zd,Zfm,Zec,Zke,Zkf,Zkg,Zkh,Zki,.nil] false],[Zw,Zcw,Zcw,ZP,ZP,Zau],[.le Zan Zbo,.le Zbo Zan,.bool (.w 15 Zbo ZeT) false,Zkj],(Za,.w 1 ZG Za,Zk,Za,Za,Za)⟩,⟨14,[Z5,ZbY,(5,ZcV),Zhl,(9,.o (.pt 4 0 Za 0)),(10,ZbP)],[Zq,Zkb,Zkd,ZeY,.box [.c (.i .i64) ZdR,Zfm,Zec,ZfZ,Zke,Zkf,Zkg,Zkh,Zki,.sl 5 4 Za Zh Z9 false] false,.dat 4 Zaj false],[Zw,Zcw,Zcw,.i .i64,ZP,ZP,Zau,.i .i64,.i .i64,ZeZ],[.rows 6 Zaj Za0 ZdR,.le Zab Zbo,.le Zbo Zab,.le Zd ZG,ZiM,Zhb,.le Zfu Zd,Zkj,.le Zd Zfu],(Za,.w 1 ZG Zd,Zk,Za,Za,Za)⟩]
def qRf:Tab:=[(298,qtK),(299,qtL),(300,qtM)]
def qBo:qm PP 214 qnx:=(fe qRe qRf (qj qRa (qj qRd (qj qRi (qo)))) (by kernel_rfl) (by refine⟨?_,?_,?_,trivial⟩<;>intro<;>kernel_rfl)).ok
def quD:Con:={pts:=[Zv],pre:=[],rts:=[ZK],post:=[.le Zi Zu,.le Zu Zi]}
def qYS:RFn:=mF 143 quD [⟨3,[ZJ,(3,ZcL),(4,ZbQ)],[],[Zv],[],(Za,.w 1 Zu Za,Zk,Za,Za,Za)⟩,⟨3,[ZJ,Zig,ZbR],[Zfg],[Zv,.i .i64,.i .i64,.i .i64,ZK],[Zgs,ZcN,Zci,ZcO,ZdF],(Za,Zh9,Zk,Za,Za,Za)⟩]
def qYT:Tab:=[]
def qYU:qm PP 143 quD:=(fe qYS qYT qo (by kernel_rfl) (by refine⟨?_,?_,?_,trivial⟩<;>intro<;>kernel_rfl)).ok
def qjv:Con:={pts:=[.i .i64],pre:=[],rts:=[.b],post:=[.ifF (.and Zee Zef) ZfW]}
def qSg:RFn:=mF 215 qjv []
def qSh:Tab:=[]
def qtX:qm PP 215 qjv:=(fe qSg qSh qo (by kernel_rfl) ⟨fun U=>by kernel_rfl,trivial⟩).ok
def qjo:Con:={pts:=[ZK],pre:=[],rts:=[.b],post:=[.imp Zc Zdk,.imp Zc (.nle Zu ZaY),.imp Zc ZdK,.imp Zc (.has Ze Z1),.ifF (.and (.has Ze Z1) (.and ZdK (.and Zdk (.nle Zg Zc5)))) ZfW]}
def qPj:RFn:=mF 216 qjo [⟨2,Zey,[],[ZK,.i .i64],[.rows 0 Ze Zc Zc5,.pre Ze Zc Yr,Zaa],(Za,.w 1 Zu Zc,Zk,Za,Za,Za)⟩]
def qPk:Tab:=[(115,qhx)]
def qty:qm PP 216 qjo:=(fe qPj qPk (qj qoJ (qo)) (by kernel_rfl) (by refine⟨?_,?_,trivial⟩<;>intro<;>kernel_rfl)).ok
def qs8:Con:={pts:=[Zd3,Zd3],pre:=[],rts:=[.b],post:=[]}
def qMU:RFn:=mF 302 qs8 []
def qMV:Tab:=[]
def qMW:qm PP 302 qs8:=(fe qMU qMV qo (by kernel_rfl) ⟨fun U=>by kernel_rfl,trivial⟩).ok
def qt7:Con:={pts:=[Zv],pre:=[],rts:=[Zv],post:=[.rows 940 Zc Zi Zdg,.le Zi Zu,.le Zu Zi]}
def qaJ:RFn:=mF 219 qt7 [⟨3,[ZJ,(3,ZcL),(4,ZbQ)],[],[Zv],[],(Za,.w 1 Zu Za,Zk,Za,Za,Za)⟩,⟨6,[ZJ,(3,ZcL),(4,ZbQ),(5,ZbQ)],[],[Zv],[.bool Zif true],(Za,.w 1 Zu Za,Za,.w 1 Za Za,Zk,Za)⟩,⟨3,[ZJ,ZkJ,ZbR],[.dat 9 Zf false],[Zv,.i .i64,.i .i64,.i .i64,Zv],[ZcO,ZdF,.nle ZQ ZL,Zhw,.rows 940 Zf ZL Zdg,Zcj,Zgs,Zci,ZkK],(Za,Zh9,Zk,Za,Za,Za)⟩,⟨6,[ZJ,ZkJ,ZbR,(5,.o ZgP)],[.dat 9 Zj false],[Zv,.i .i64,.i .i64,.i .i64,.i .i64,Zv],[ZcO,ZdF,.nle ZQ Zan,.rows 940 Zj Zan Zdg,.lt Zd Zu,Zbf,ZkK,.le Zf ZQ],(Za,Zh9,Za,.w 1 Zf Za,Zk,Za)⟩]
def qaK:Tab:=[(302,qs8)]
def qSR:qbh PP qaJ qaK=true:=by kernel_rfl
def qSS:chX PP qaJ qaK 0=true:=by kernel_rfl
def qST:chX PP qaJ qaK 1=true:=by kernel_rfl
def qSU:chX PP qaJ qaK 2=true:=by kernel_rfl
def qSV:lqX PP qaJ qaK 3 0=true:=by kernel_rfl
def qSW:lqX PP qaJ qaK 3 1=true:=by kernel_rfl
def qSX:lqX PP qaJ qaK 3 2=true:=by kernel_rfl
def qSY:lqX PP qaJ qaK 3 3=true:=by kernel_rfl
def qSZ:lqX PP qaJ qaK 3 4=true:=by kernel_rfl
def qS0:lqX PP qaJ qaK 3 5=true:=by kernel_rfl
def qS1:lqX PP qaJ qaK 3 6=true:=by kernel_rfl
def qS2:lqX PP qaJ qaK 3 7=true:=by kernel_rfl
def qS3:lqX PP qaJ qaK 3 8=true:=by kernel_rfl
def qS4:chX PP qaJ qaK 3=true:=qiH (n:=9) (by kernel_rfl) ⟨qS3,qS2,qS1,qS0,qSZ,qSY,qSX,qSW,qSV,trivial⟩
def qS5:qm PP 219 qt7:=(fe qaJ qaK (qj qMW (qo)) (qb8 qSR ⟨qSS,qST,qSU,qS4,trivial⟩) (by refine⟨?_,?_,?_,?_,?_,trivial⟩<;>intro<;>kernel_rfl)).ok
def qud:Con:={pts:=[.i .i64,ZK],pre:=[],rts:=[.b],post:=[.imp Zb Zcq,.imp Zb Zbr,.imp Zb (.has Zc Z1),.ifF (.and Zee (.and Zef (.and Ze0 Zhd))) (.bool Zb true)]}
def qTh:RFn:=mF 445 qud []
def qTi:Tab:=[(215,qjv),(216,qjo)]
def qTj:qm PP 445 qud:=(fe qTh qTi (qj qtX (qj qty (qo))) (by kernel_rfl) ⟨fun U=>by kernel_rfl,trivial⟩).ok
def qs5:Con:={pts:=[Zbe,Zbe],pre:=[],rts:=[.b],post:=[.imp Zb Zds,.imp Zb ZgN,.imp Zb Zfa,.imp Zb (.has Zc Yr),.ifF (.and Zfa (.and (.has Zc Yr) (.and Zdk (.and Zds ZgN)))) (.bool Zb true)]}
def qML:RFn:=mF 446 qs5 []
def qMM:Tab:=[(115,qhx)]
def qMN:qm PP 446 qs5:=(fe qML qMM (qj qoJ (qo)) (by kernel_rfl) ⟨fun U=>by kernel_rfl,trivial⟩).ok
def qoI:Con:={pts:=[Zd9],pre:=[Zdk,.rows 904 Ze Zu Ziw],rts:=[Zgq],post:=[Zcq,.le Zi Zu,.le Zu Zi,.rows 904 Zc Zi Ziw,.le ZeR (.u 12 1 Ze),.le (.u 12 1 Ze) ZeR,.ifF (.rows 912 Ze Zu Zix) (.rows 912 Zc Zi Zix)]}
def qYm:RFn:=mF 226 qoI [⟨3,[ZJ,(3,ZcL),(4,ZbQ)],[],[Zd9],[],(Za,.w 1 Zu Za,Zk,Za,Za,Za)⟩,⟨3,[ZJ,(3,.o (.sl 0 10 Za Zc Zb false)),ZbR],[.dat 10 Zf false],[Zd9,.i .i64,.i .i64,.i .i64,Zgq],[Zgs,.rows 904 Zf ZL Ziw,ZdF,Zhw,ZcO,.le (.u 12 1 Zf) (.u 12 1 (.w 6 Zd Ze)),.le (.u 12 1 (.w 6 Zd Ze)) (.u 12 1 Zf),.ifF (.rows 912 Ze Zu Zix) (.rows 912 Zf ZL Zix),ZcN,Zci],(Za,Zh9,Zk,Za,Za,Za)⟩]
def qYn:Tab:=[]
def qCi:qm PP 226 qoI:=(fe qYm qYn qo (by kernel_rfl) (by refine⟨?_,?_,?_,trivial⟩<;>intro<;>kernel_rfl)).ok
end Go.Aev.R29
end
