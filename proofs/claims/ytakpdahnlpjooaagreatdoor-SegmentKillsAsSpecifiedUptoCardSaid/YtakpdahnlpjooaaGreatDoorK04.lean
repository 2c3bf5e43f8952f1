/- Lemmas: a machine that the model follows, and contracts. Conditions: none. -/
import Derived.Test.YtakpdahnlpjooaaGreatDoorK03
import Derived.Deep.Upon
set_option linter.all false
set_option maxRecDepth 1000000
set_option maxHeartbeats 0
noncomputable section
namespace Go.Aev
variable [Glob]
variable {P:Program} {T:TypeId->Option Ty} {w0:World} {own:Own} {m:Mp} {S:Nat->Prop} {w:World} {rows:Rows} {g:qq}
def qpj {L:List D} {b o:Nat} (h1:∀d∈L,d.isAgg=false) (h:∀(j:Nat) (d:D),L[j]?=some d->∃v,cl w b (o+j)=some v/\RD S w d v) :
  ∃vs:List Value,vs.length=L.length/\(∀(j:Nat) (v:Value),vs[j]?=some v->cl w b (o+j)=some v)/\(∀(j:Nat) (d:D) (v:Value),L[j]?=some d->vs[j]?=some v->RD S w d v) /\
   ∀v∈vs,v.oneCell'=true:=by
 induction L generalizing o with
 | nil=>exact⟨[],rfl,fun j v h=>by simp at h,fun j d v h=>by simp at h,fun v h=>by cases h⟩
 | cons x L ih =>
  obtain⟨v,hv,hr⟩:=h 0 x rfl;obtain⟨vs,e1,e2,e3,e4⟩:=ih (o:=o+1) (fun d hd=>h1 d (qTG _ hd)) (fun j d hj=>by have:=h (j+1) d (by simpa using hj); rwa[show o+(j+1)=o+1+j by omega]at this);refine⟨v::vs,by simp[e1],fun j u hu=>?_,fun j d u hd hu=>?_,fun u hu=>?_⟩
  ·cases j with
   | zero=>simp at hu; subst hu; exact hv|succ j=>simp at hu; have:=e2 j u hu; rwa[show o+(j+1)=o+1+j by omega]
  ·cases j with
   | zero=>simp at hd hu; subst hd; subst hu; exact hr|succ j=>simp at hd hu; exact e3 j d u hd hu
  ·rcases qTD.1 hu with rfl|hu
   ·exact qjV (m:=fun _=>none) (.d _ _ hr) (by simpa[V.one]using h1 x (by simp))
   ·exact e4 u hu
def qvq:∀{vs:List V} {ds:List D},JL vs=some ds->∀(j:Nat) (d:D),ds[j]?=some d->vs[j]?=some (.d d)
 | [],ds,h,j,d,hj=>by simp[JL]at h; subst h; simp at hj
 | v::r,ds,h,j,d,hj=>by
  cases v<;>simp only[JL]at h<;>try (cases h; done)
  rename_i x;split at h
  ·cases h
  ·rw[qTP]at h;obtain⟨l,hl,rfl⟩:=h
   cases j with
   | zero=>simp at hj; subst hj; rfl|succ j=>simp only[qUx]at hj ⊢; exact qvq hl j d hj
def qvr:∀{vs:List V} {ds:List D},JL vs=some ds->ds.length=vs.length
 | [],ds,h=>by simp[JL]at h; subst h; rfl
 | v::r,ds,h=>by
  cases v<;>simp only[JL]at h<;>try (cases h; done)
  split at h
  ·cases h
  ·rw[qTP]at h;obtain⟨l,hl,rfl⟩:=h;simp[qvr hl]
def qkl:∀{vs:List V} {ds:List D},JL vs=some ds->∀d∈ds,d.isAgg=false
 | [],ds,h,d,hd=>by simp[JL]at h; subst h; cases hd
 | v::r,ds,h,d,hd=>by
  cases v<;>simp only[JL]at h<;>try (cases h; done)
  split at h
  ·cases h
  ·rename_i hx;rw[qTP]at h;obtain⟨l,hl,rfl⟩:=h;rcases qTD.1 hd with rfl|hd
   ·simpa using hx
   ·exact qkl hl d hd
def qvs {d:D} (h:d.isAgg=false):d.cells=[d]:=by cases d<;>first|rfl|cases h
def qDB {vs:List V} {ds:List D} (h:JL vs=some ds) (e:D) (he:e∈ds):e.cells.length=1:=by rw[qvs (qkl h e he)]; rfl
def qvt:∀{ds:List D},(∀d∈ds,d.isAgg=false)->qn ds=ds
 | [],_=>rfl|d::r,h=>by
  have ih:=qvt fun x hx=>h x (qTG _ hx)
  unfold qn at ih ⊢;rw[qUq,ih,qvs (h d (by simp))]; rfl
def qvu {vs:List V} {ds:List D} (h:JL vs=some ds):qn ds=ds:=qvt (qkl h)
def qvv (hg:GOK g rows) (inv:Inv w0 own m S w rows) {k:Nat} {x:V} {ds:List D} {xr:Value} (h:qdP g k x=some ds) (hx:RV m S w x xr) :
  (∀e∈ds,e.cells.length=k)/\(∀d∈qn ds,d.isAgg=false)/\∃p c,xr=.slice p ds.length c/\ds.length<=c /\
   ((ds=[]/\(p=none->True))\/∃b o,p=some ⟨b,o,none⟩/\∀(j:Nat) (d:D),(qn ds)[j]?=some d->∃v,cl w b (o+j)=some v/\RD S w d v):=by
 unfold qdP at h;split at h
 ·cases h;cases hx;exact⟨fun e he=>(by cases he),fun d hd=>(by cases hd),none,0,rfl,qTF _,.inl ⟨rfl,fun _=>trivial⟩⟩
 ·rename_i es;split at h
  ·rename_i hall;cases h;have hk:∀e∈ds,e.cells.length=k:=fun e he=>by have:=(qTI.1 hall) e he; simpa using this
   have hrd:=Yh hx
   cases hrd with
   | emp p cap=>exact⟨hk,fun d hd=>(by cases hd),p,cap,rfl,qVB _,.inl ⟨rfl,fun _=>trivial⟩⟩
   | row es b o cap k' n vs hn hcap hS hk' h1 hc hd =>
    subst hn;exact⟨hk,h1,_,_,rfl,hcap,.inr ⟨b,o,rfl,fun j d hj=>⟨vs j,hc j d hj,hd j d hj⟩⟩⟩
  ·cases h
 ·rename_i r k' off len c ex;split at h
  ·rename_i k'' es ro hgr;split at h
   ·rename_i hcond;obtain⟨rfl,rfl,hle⟩:=hcond;cases h
    cases hx with
    | sl r k off len c ex b o c' p hm hl hc he hp hb =>
    obtain⟨cs,t,e1,e2,en,e3⟩:=Y8 inv (hg r _ hgr) hm;have hlen:((es.drop off).take len).length=len:=by simp; omega
    refine⟨fun e he=>e2 e (qcp he),fun d hd=>en d (qeN (fun e he=>qcp he) hd),p,c',by rw[hlen],by rw[hlen]; exact hl,?_⟩
    by_cases hz:len=0
    ·left; subst hz; exact⟨by simp,fun _=>trivial⟩
    ·right;have hp':p=some ⟨b,o+off*k,none⟩:=by
      rcases hp with hp|hp
      ·omega
      ·exact hp
     refine⟨b,_,hp',fun j d hj=>?_⟩;obtain⟨v,hv,hrd⟩:=e3 _ d (qeM e2 off len j d hj);exact⟨v,by rw[qaw e1,<-hv]; congr 1; omega,hrd⟩
   ·cases h
  ·rename_i cs ro hgr;split at h
   ·rename_i hcond;obtain⟨rfl,rfl,hle⟩:=hcond
    cases hx with
    | sl r k off len c ex b o c' p hm hl hc he hp hb =>
    obtain⟨ca,t,e1,e3⟩:=Y8 inv (hg r _ hgr) hm;have hlen:=qvr h;have hll:((cs.drop off).take len).length=len:=by simp; omega
    rw[hll]at hlen;refine⟨fun e he=>qDB h e he,fun d hd=>?_,p,c',by rw[hlen],by rw[hlen]; exact hl,?_⟩
    ·rw[qvu h]at hd; exact qkl h d hd
    ·by_cases hz:len=0
     ·left; exact⟨qUr (by omega),fun _=>trivial⟩
     ·right;have hp':p=some ⟨b,o+off*1,none⟩:=by
       rcases hp with hp|hp
       ·omega
       ·exact hp
      refine⟨b,_,hp',fun j d hj=>?_⟩;rw[qvu h]at hj;have hj2:=qvq h j d hj;rw[qUh,qUk]at hj2;split at hj2
      ·obtain⟨v,hv,hrd⟩:=e3 _ _ hj2;exact⟨v,by rw[qaw e1,<-hv]; congr 1; omega,Yh hrd⟩
      ·cases hj2
   ·cases h
  ·cases h
 ·cases h
def qcv (l:List UInt8):qn (qe l)=qe l:=by
 induction l with
 | nil=>rfl|cons b l ih=>show qn (Yq b::qe l)=_; rw[qdD,ih]; rfl
def qvw (s:ByteArray):(Ye s).length=s.size:=by
 unfold Ye qe;rw[qTS,qVv];rfl
def qvx (s:ByteArray) (j:Nat) (d:D) (v:Value) (hd:(qn (Ye s))[j]?=some d) (hv:(byteCells s)[j]?=some v):RD S w d v:=by
 rw[show qn (Ye s)=Ye s from qcv _]at hd;unfold Ye qe at hd;unfold byteCells at hv;rw[qT3]at hd hv
 cases h:s.data.toList[j]? with
 | none=>rw[h]at hd; cases hd
 | some b =>
  rw[h]at hd hv;cases hd; cases hv;exact .int _ _
def qpk (hg:GOK g rows) (inv:Inv w0 own m S w rows) {k:Nat} {x:V} {ds:List D} {xr:Value} (h:qdQ g k x=some ds) (hx:RV m S w x xr) :
  (∀e∈ds,e.cells.length=k)/\(∀d∈qn ds,d.isAgg=false)/\((∃p c,xr=.slice p ds.length c/\ds.length<=c /\
   ((ds=[]/\(p=none->True))\/∃b o,p=some ⟨b,o,none⟩/\∀(j:Nat) (d:D),(qn ds)[j]?=some d->∃v,cl w b (o+j)=some v/\RD S w d v)) \/
   ∃s,xr=.string s/\ds=Ye s/\k=1):=by
 unfold qdQ at h;split at h
 ·rename_i s;split at h
  ·rename_i hk;cases h;have e:=qdZ hx;refine⟨fun e he=>?_,fun d hd=>?_,.inr ⟨s,e,rfl,hk⟩⟩
   ·obtain⟨u,_,rfl⟩:=qTV.1 he; rw[hk]; rfl
   ·rw[show qn (Ye s)=Ye s from qcv _]at hd;obtain⟨u,_,rfl⟩:=qTV.1 hd; rfl
  ·cases h
 ·obtain⟨h1,h2,h3⟩:=qvv hg inv h hx;exact⟨h1,h2,.inl h3⟩
def qDC (hg:GOK g rows) (inv:Inv w0 own m S w rows) {k:Nat} {x:V} {ds:List D} {xr:Value} {tx:TypeId} (hk:(∃e',P.underlying tx=some (.slice e'))\/P.underlying tx=some .string) (h:qdQ g k x=some ds) (hx:RV m S w x xr) :
  (∀e∈ds,e.cells.length=k)/\(∀d∈qn ds,d.isAgg=false) /\
  ∃news,Src P k tx xr ds.length news w/\(∀(j:Nat) (d:D) (v:Value),(qn ds)[j]?=some d->news[j]?=some v->RD S w d v)/\news.length=(qn ds).length:=by
 obtain⟨h1,h2,⟨p,c,rfl,hc,h3⟩|⟨s,rfl,rfl,rfl⟩⟩:=qpk hg inv h hx
 ·refine⟨h1,h2,?_⟩;have nil:ds=[]->∃news,Src P k tx (.slice p ds.length c) ds.length news w/\(∀(j:Nat) (d:D) (v:Value),(qn ds)[j]?=some d->news[j]?=some v->RD S w d v)/\news.length=(qn ds).length:=by
   rintro rfl
   refine⟨[],⟨hk,fun _=>rfl,?_,?_,by simp,fun _ h=>by cases h⟩,fun j d v h=>by simp[qn]at h,rfl⟩
   ·cases p with
    | none=>exact run_firstCells_none w k 0 0 c|some a=>exact run_firstCells_some w k 0 a 0 c [] (by simp) (fun j u h=>by simp at h)
   ·cases p with
    | none=>exact run_firstCells_none w.drew k 0 0 c|some a=>exact run_firstCells_some w.drew k 0 a 0 c [] (by simp) (fun j u h=>by simp at h)
  rcases h3 with⟨h3,_⟩|⟨b,o,rfl,h3⟩
  ·exact nil h3
  ·obtain⟨vs,e1,e2,e3,e4⟩:=qpj h2 h3;have hl:vs.length=ds.length*k:=by rw[e1,Jr h1]
   have hc:∀j u,vs[j]?=some u->w.cell? ((⟨b,o,none⟩:Addr).add j)=some u:=fun j u hu=>by rw[Jz]; exact e2 j u hu
   exact⟨vs,⟨hk,fun _=>rfl,run_firstCells_some w k ds.length _ ds.length c vs hl hc,run_firstCells_some w.drew k ds.length _ ds.length c vs hl (by simpa using hc),hl,e4⟩,e3,e1⟩
 ·have hl:=qvw s;refine⟨h1,h2,byteCells s,⟨hk,fun _=>by rw[hl]; rfl,by rw[hl]; exact firstCells_string s w,by rw[hl]; exact firstCells_string s w.drew,by rw[hl,byteCells_length,qUA],fun u hu=>?_⟩,fun j d v=>qvx s j d v,?_⟩
  ·obtain⟨_,_,rfl⟩:=qTV.1 hu; rfl
  ·rw[show qn (Ye s)=Ye s from qcv _,byteCells_length,hl]
def qvy (hg:GOK g rows) (inv:Inv w0 own m S w rows) {k n:Nat} {x:V} {ds:List D} {xr:Value} (h:qdQ g k x=some ds) (hx:RV m S w x xr) (hn:n<=ds.length) :
  (∀w':World,(Builtin.lenOf xr).run P w'=.ok ds.length w')/\∃vs:List Value,(Builtin.firstCells k n xr).run P w=.ok vs.toArray w/\vs.length=(qn (ds.take n)).length /\
   (∀(j:Nat) (d:D) (v:Value),(qn (ds.take n))[j]?=some d->vs[j]?=some v->RD S w d v)/\∀v∈vs,v.oneCell'=true:=by
 obtain⟨hk,hone,⟨p2,c2,rfl,hc2,hmem⟩|⟨s,rfl,rfl,rfl⟩⟩:=qpk hg inv h hx
 ·refine⟨fun _=>rfl,?_⟩;have hkt:∀e∈ds.take n,e.cells.length=k:=fun e he=>hk e (qUg he)
  have honet:∀d∈qn (ds.take n),d.isAgg=false:=fun d hd=>hone d (qeN (fun e he=>qUg he) hd)
  have hnl:(ds.take n).length=n:=by rw[qTU]; omega
  rcases hmem with⟨h0,_⟩|⟨b2,o2,rfl,h3⟩
  ·have hn0:n=0:=by rw[h0]at hn; simpa using hn
   subst hn0;refine⟨[],?_,by simp[qn],fun j d v hj=>by simp[qn]at hj,fun v hv=>by cases hv⟩
   cases p2 with
   | none=>simp[Builtin.firstCells]|some a=>simp[Builtin.firstCells,loadCells,loadCellsFrom]
  ·obtain⟨vs,e1,e2,e3,e4⟩:=qpj (b:=b2) (o:=o2) (S:=S) (w:=w) honet (fun j d hj=>by
    have:=qeM hk 0 n j d (by simpa using hj);rw[qVh,qT6]at this;exact h3 j d this)
   exact⟨vs,run_firstCells_some w k _ ⟨b2,o2,none⟩ ds.length c2 vs (by rw[e1,Jr hkt,hnl]) (fun j v hj=>by rw[Jz]; exact e2 j v hj),e1,e3,e4⟩
 ·have hl:=qvw s;refine⟨fun _=>by rw[hl]; rfl,(byteCells s).take n,?_,?_,fun j d v hd hv=>?_,fun u hu=>?_⟩
  ·simp only[Builtin.firstCells,Sem.run_pure]
   congr 1
   apply qUD;simp[byteCells,qUL]
  ·have:qn ((Ye s).take n)=(Ye s).take n:=by
    rw[Ye,qe,<-qUL]; exact qcv _
   rw[this,qTU,qTU,byteCells_length,hl]
  ·have e1:qn ((Ye s).take n)=(qn (Ye s)).take n:=by
    rw[show qn (Ye s)=Ye s from qcv _,Ye,qe,<-qUL]; exact qcv _
   rw[e1]at hd;have hj:j<n:=by
    rcases qTQ j n with h|h
    ·exact h
    ·rw[qUc (by rw[qTU]; omega)]at hd; cases hd
   rw[qWg hj]at hd hv;exact qvx s j d v hd hv
  ·obtain⟨_,_,rfl⟩:=qTV.1 (qUg hu); rfl
def qbW {b:Nat} {c:Array Value} {e:TypeId} {fz:Nat×Nat} (h:w.heap[b]?=some (.cells c e fz)):Yf w b=c.size:=by unfold Yf; rw[h]
def qpl {es ds:List D} {k a n:Nat} (hk:∀e∈es,e.cells.length=k) (hd:∀e∈ds,e.cells.length=k) (ha:a<=es.length) (hn:n=ds.length) :
  qn (es.take a++ds++es.drop (a+n))=Yi (qn es) (a*k) (qn ds):=by
 subst hn;have h1:qn es=qn (es.take a)++qn (es.drop a):=by rw[<-qeL,qUw]
 have hl1:(qn (es.take a)).length=a*k:=by rw[Jr (fun e he=>hk e (qUg he)),qTU,Nat.min_eq_left ha]
 have hl2:(qn ds).length=ds.length*k:=Jr hd;simp only[qeL,Yi];have e1:(qn es).take (a*k)=qn (es.take a):=by rw[h1,<-hl1,List.take_left]
 have e2:(qn es).drop (a*k+(qn ds).length)=qn (es.drop (a+ds.length)):=by
  rcases qTQ es.length (a+ds.length)with hlt|hge
  ·rw[qVZ (by rw[Jr hk,hl2,<-qUf]; exact qUp _ (by omega)),qVZ (by omega)]; rfl
  ·have h2:qn es=qn (es.take (a+ds.length))++qn (es.drop (a+ds.length)):=by rw[<-qeL,qUw]
   have hl3:(qn (es.take (a+ds.length))).length=a*k+(qn ds).length:=by
    rw[Jr (fun e he=>hk e (qUg he)),hl2,<-qUf]; congr 1; simp; omega
   rw[h2,<-hl3,List.drop_left]
 rw[e1,e2]
def qvz (inv:Inv w0 own m S w rows) {slot r:Nat} {row:Row} (hs:Yn m rows slot) (hr:rows[r]?=some (qc.live row)):r≠slot:=by
 rintro rfl
 exact hs.dead row hr
def qpm (inv:Inv w0 own m S w rows) {slot:Nat} (hs:Yn m rows slot) {t u ty e:TypeId} {i:TypeInfo} {z:Ty} (hz:q8 P e=some z) (ht:P.underlying t=some (.slice e))
  (hi:P.info? e=some i) (hi1:i.size=z.size) (hi2:i.bytes=z.bytes) (hi3:i.zero=some z.zero) {base:Option Addr} {c':Nat} {es0 ds:List D} {xr:Value} {news:List Value}
  (hk0:∀e∈es0,e.cells.length=z.size) (hone0:∀d∈qn es0,d.isAgg=false)
  (hold:(es0=[]/\(base=none->c'=0))\/∃b o,base=some ⟨b,o,none⟩/\∀(j:Nat) (d:D),(qn es0)[j]?=some d->∃v,cl w b (o+j)=some v/\RD S w d v)
  (hk:∀e∈ds,e.cells.length=z.size) (hone:∀d∈qn ds,d.isAgg=false) (hsrc:Src P z.size u xr ds.length news w)
  (hrel:∀(j:Nat) (d:D) (v:Value),(qn ds)[j]?=some d->news[j]?=some v->RD S w d v) (hnl:news.length=(qn ds).length) (hg:c'<es0.length+ds.length)
  (hb:2*(es0.length+ds.length)*z.bytes<=2 ^ 48) (h62:es0.length+ds.length<=2 ^ 62) :
  ∃v w' m',(Builtin.append_ #[t,u] ty #[.slice base es0.length c',xr]).run P w=.ok v w'/\Inv w0 own m' S w' (qv rows slot (qc.live (.dat z.size (es0++ds) false)))/\Ext m S w m' S w' /\
   RV m' S w' (.sl slot z.size 0 (es0.length+ds.length) (es0.length+ds.length) false) v:=by
 have hfl0:(qn es0).length=es0.length*z.size:=Jr hk0;have hfl:(qn ds).length=ds.length*z.size:=Jr hk;have hcap:Builtin.nextslicecap (es0.length+ds.length) c'*i.bytes<=281474976710656:=by
  have h1:=nextslicecap_le hg;rw[hi2];have:Builtin.nextslicecap (es0.length+ds.length) c'*z.bytes<=2*(es0.length+ds.length)*z.bytes:=qUp _ h1;omega
 have holds:∃olds:List Value,(Builtin.firstCells i.size es0.length (.slice base es0.length c')).run P w.drew=.ok olds.toArray w.drew/\olds.length=(qn es0).length /\
   ∀(j:Nat) (d:D) (v:Value),(qn es0)[j]?=some d->olds[j]?=some v->RD S w d v:=by
  rcases hold with⟨rfl,_⟩|⟨b,o,rfl,h3⟩
  ·refine⟨[],?_,rfl,fun j d v h=>by simp[qn]at h⟩
   cases base with
   | none=>simp[Builtin.firstCells]|some a=>simp[Builtin.firstCells,loadCells,loadCellsFrom]
  ·obtain⟨vs,e1,e2,e3,e4⟩:=qpj hone0 h3;refine⟨vs,?_,e1,e3⟩;exact run_firstCells_some w.drew i.size es0.length ⟨b,o,none⟩ es0.length c' vs (by rw[e1,hfl0,hi1]) (fun j v hj=>by rw[Jz]; exact e2 j v hj)
 obtain⟨olds,ho1,ho2,ho3⟩:=holds;rw[<-hi1]at hsrc;have hrun:=run_append_grow_src (P:=P) w t u ty e i z.zero ht hi hi3 base es0.length c' olds ho1 xr ds.length news hsrc hg (by omega) hcap;have hgc:=grownCap_ge w (es0.length+ds.length) c' e;obtain⟨k0,e0⟩:=inv.same (w':=w.drew) rfl rfl rfl rfl;obtain⟨k1,k2⟩:=qkh k0 hs (k:=z.size) (es:=es0++ds) (arr:=(olds++news).toArray++Builtin.zeroCells z.zero.cells (grownCap w (es0.length+ds.length) c' e - (es0.length+ds.length))) e
  (fun e he=>(qTH.1 he).elim (hk0 e) (hk e)) (fun d hd=>by rw[qeL]at hd; exact(qTH.1 hd).elim (hone0 d) (hone d)) (fun j d hj=>by
  rw[qeL]at hj;have hjl:=q7 hj;rw[qTN]at hjl;rw[qU9 (by simp; omega)];simp only[qWe];rcases qTQ j olds.length with h1|h1
  ·rw[qTZ (by omega)]at hj;rw[qTZ h1];exact⟨olds[j],by simp,(ho3 j d _ hj (by simp)).ext e0⟩
  ·rw[qT1 (by omega),<-ho2]at hj;rw[qT1 h1];exact⟨news[j - olds.length]'(by omega),by simp,(hrel _ d _ hj (by simp)).ext e0⟩)
 refine⟨_,_,_,hrun,k1,e0.trans k2,?_⟩;refine qeV (w:=w.drew) hgc hgc (by simp) ?_;have hzs:=qwo hz;rw[qV0,size_zeroCells,hzs];simp only[List.size_toArray,qTN,hnl,hfl,ho2,hfl0];have:(es0.length+ds.length)*z.size<=grownCap w (es0.length+ds.length) c' e*z.size:=qUp _ hgc;rw[Nat.sub_mul,qUf]at *;omega
def qvA {t u ty e:TypeId} {i:TypeInfo} (ht:P.underlying t=some (.slice e)) (hi:P.info? e=some i) {b q sLen sCap n:Nat} {xr:Value} {news:List Value} (hsrc:Src P i.size u xr n news w)
  (hroom:sLen+n<=sCap) {c:Array Value} {te:TypeId} (hb:w.heap[b]?=some (.cells c te (0,0))) (hfit:q+sLen*i.size+news.length<=c.size) :
  (Builtin.append_ #[t,u] ty #[.slice (some ⟨b,q,none⟩) sLen sCap,xr]).run P w =
   .ok (.slice (some ⟨b,q,none⟩) (sLen+n) sCap) (w.setRow b (c.toList.take (q+sLen*i.size)++news++c.toList.drop (q+sLen*i.size+news.length)).toArray):=by
 have hst:=run_storeCells_at (P:=P) b (q+sLen*i.size) te news 0 c w hb (by omega) hsrc.one;rw[qUQ]at hst;rcases hsrc.kind with⟨e',hk⟩|hk<;>simp[Builtin.append_,run_underlying ht,run_underlying hk,sizeOf,typeInfo,hi,hsrc.len,hroom,hsrc.cells,Jz,hst]
def qDD (hT:TOK P T) (hg:GOK g rows) (inv:Inv w0 own m S w rows) {slot:Nat} (hs:Yn m rows slot) {t u ty:TypeId} {s x:V} {sr xr:Value} {res:Res}
  (h:qhS T g slot t u s x=some res) (hsr:RV m S w s sr) (hx:RV m S w x xr) :
  qbV P w0 own m S w rows slot (Builtin.append_ #[t,u] ty #[sr,xr]) res:=by
 unfold qhS at h;split at h
 ·rename_i y yu hy hyu;split at h
  ·rename_i e hde hde';obtain⟨ht,_⟩:=Jk (hT t y hy);obtain⟨htu0,_⟩:=Jk (hT u yu hyu);rw[hde]at ht;have htu:(∃e',P.underlying u=some (.slice e'))\/P.underlying u=some .string:=by
    rw[htu0];cases hq:yu.desc<;>rw[hq]at hde'<;>first
     | exact .inl ⟨_,rfl⟩
     | exact .inr rfl
     | (simp[qpA]at hde'; done)
   split at h
   ·rename_i z hz;obtain⟨_,i,hi,hi1,hi2,hi3⟩:=Jk (hT _ z hz);split at h
    ·rename_i ds hds;obtain⟨hk,hone,news,hsrc,hrel,hnl⟩:=qDC (P:=P) hg inv htu hds hx;have hfl:(qn ds).length=ds.length*z.size:=Jr hk;have nothing:∀{p:Option Addr} {n c:Nat},ds.length=0->n<=c->(Builtin.append_ #[t,u] ty #[.slice p n c,xr]).run P w=.ok (.slice p n c) w:=by
      intro p n c h0 hnc;have hnn:news=[]:=by apply qUr; rw[hnl,hfl,h0]; simp
      rw[h0,hnn,<-hi1]at hsrc;exact run_append_nothing w t u ty e i ht hi p n c hnc xr hsrc
     split at h
     ·rename_i hzp;split at h
      ·
       cases hsr;split at h
       ·rename_i h0;cases h;exact⟨.slice none 0 0,w,m,S,nothing h0 (qTF _),inv,Ext.refl ..,.nil⟩
       ·rename_i h0;split at h
        ·rename_i hcond;cases h;obtain⟨v,w',m',r1,r2,r3,r4⟩:=qpm (ty:=ty) inv hs (hT _ z hz) ht hi hi1 hi2 hi3 (base:=none) (c':=0) (es0:=[]) (fun e he=>(by cases he)) (fun d hd=>(by cases hd))
          (.inl ⟨rfl,fun _=>rfl⟩) hk hone hsrc hrel hnl (by simp; omega) (by simpa using hcond.1) (by simpa using hcond.2)
         simp only[qV1,qT6,qUG]at r1 r2 r4;exact⟨v,w',m',S,r1,r2,r3,r4⟩
        ·cases h
      ·
       rename_i r k off len c ex;split at h
       ·rename_i k' es ro hgr;have hr:=hg r _ hgr;have hsr':=hsr
        cases hsr with
        | sl r k off len c ex b o c' p hm hl hc he hp hb =>
        split at h
        ·rename_i h0;cases h;exact⟨_,w,m,S,nothing h0 hl,inv,Ext.refl ..,hsr'⟩
        ·rename_i h0;split at h
         ·rename_i hcond;obtain⟨rfl,rfl,hle⟩:=hcond;obtain⟨ca,te,hbk,hek,hen,hec⟩:=Y8 inv hr hm;have hbs:=qbW hbk;rw[hbs]at hb;have hsub:∀(j:Nat) (d:D),(qn ((es.drop off).take len))[j]?=some d->∃v,cl w b (o+off*z.size+j)=some v/\RD S w d v:=by
           intro j d hj;obtain⟨v,hv,hrd⟩:=hec _ d (qeM hek off len j d hj);exact⟨v,by rw[qaw hbk,<-hv]; congr 1; omega,hrd⟩
          have hlen:((es.drop off).take len).length=len:=by simp; omega
          have hk0:∀e∈(es.drop off).take len,e.cells.length=z.size:=fun e he=>hek e (qcp he)
          have hone0:∀d∈qn ((es.drop off).take len),d.isAgg=false:=fun d hd=>hen d (qeN (fun e he=>qcp he) hd)
          have hp':0<c'->p=some ⟨b,o+off*z.size,none⟩:=fun hpos=>by
           rcases hp with hp|hp
           ·omega
           ·exact hp
          have hold:((es.drop off).take len=[]/\(p=none->c'=0))\/∃b o,p=some ⟨b,o,none⟩/\∀(j:Nat) (d:D),(qn ((es.drop off).take len))[j]?=some d->∃v,cl w b (o+j)=some v/\RD S w d v:=by
           rcases qVC c' with h1|h1
           ·left; exact⟨by apply qUr; omega,fun _=>h1⟩
           ·right; exact⟨b,_,hp' h1,hsub⟩
          have room:len+ds.length<=c'->∀{c2:Array Value},c2=(ca.toList.take (o+off*z.size+len*z.size)++news++ca.toList.drop (o+off*z.size+len*z.size+news.length)).toArray ->
            (Builtin.append_ #[t,u] ty #[.slice p len c',xr]).run P w=.ok (.slice p (len+ds.length) c') (w.setRow b c2)/\o+off*z.size+len*z.size+news.length<=ca.size:=by
           intro hroom c2 hc2;have hfit:o+off*z.size+len*z.size+news.length<=ca.size:=by
            rw[hnl,hfl];have h1:(off+len+ds.length)*z.size<=(off+c')*z.size:=qUp _ (by omega);rw[qUf,qUf]at h1;omega
           rw[hp' (by omega),hc2];rw[<-hi1]at hsrc hfit ⊢;exact⟨qvA ht hi hsrc hroom hbk hfit,hfit⟩
          split at h
          ·rename_i hroom;split at h
           ·cases h
           ·rename_i hro;cases h;have hro':ro=false:=by simpa using hro
            subst hro';obtain⟨hrun,hfit⟩:=room (by omega) rfl;have hfp:=qpl (a:=off+len) (n:=ds.length) hek hk hle rfl;have key:=inv.write (row':=.dat z.size (es.take (off+len)++ds++es.drop (off+len+ds.length)) false)
             (c':=(ca.toList.take (o+off*z.size+len*z.size)++news++ca.toList.drop (o+off*z.size+len*z.size+news.length)).toArray) hr hm rfl rfl hbk
             (qbu hfit) (fun e2=>by
              refine⟨_,te,setRow_heap w b ca _ te (0,0) hbk,?_,?_,?_⟩
              ·intro x hx;rcases qTH.1 hx with hx|hx
               ·rcases qTH.1 hx with hx|hx
                ·exact hek x (qUg hx)
                ·exact hk x hx
               ·exact hek x (qUE hx)
              ·intro d hd;rw[hfp]at hd;exact qpe (p:=fun d=>d.isAgg=false) hd hen hone
              ·rw[hfp];have:=qc0 (R:=RD S w) (R':=RD S (w.setRow b (ca.toList.take (o+off*z.size+len*z.size)++news++ca.toList.drop (o+off*z.size+len*z.size+news.length)).toArray)) (pos:=(off+len)*z.size) (vs:=news) hec (fun d v hr=>hr.ext e2) hnl (fun j d v hd hv=>(hrel j d v hd hv).ext e2)
                (by rw[Jr hek]; exact qUp _ hle) (by rw[qUf]; omega)
               rw[show o+(off+len)*z.size=o+off*z.size+len*z.size by rw[qUf]; omega]at this;exact this)
            refine⟨_,_,m,S,hrun,key.1,key.2,.sl r z.size off (len+ds.length) c ex b o c' p hm (by omega) hc he hp ?_⟩;rw[qbW (setRow_heap w b ca _ te (0,0) hbk),qbu hfit];exact hb
          ·rename_i hroom;split at h
           ·rename_i hbytes;split at h
            ·rename_i hex;cases h;have hcc:=he hex;obtain⟨v,w',m',r1,r2,r3,r4⟩:=qpm (ty:=ty) inv hs (hT _ z hz) ht hi hi1 hi2 hi3 (base:=p) (c':=c') (es0:=(es.drop off).take len) hk0 hone0 hold hk hone hsrc hrel hnl (by omega) (by rw[hlen]; exact hbytes.1) (by rw[hlen]; exact hbytes.2);rw[hlen]at r1 r4;exact⟨v,w',m',S,r1,r2,r3,r4⟩
            ·split at h
             ·cases h
             ·rename_i hro;cases h;have hro':ro=false:=by simpa using hro
              subst hro';have hl':=qbU hr;have kinv:=inv.kill r hl';have hne:r≠slot:=qvz inv hs hr;have hs':Yn m (qv rows r qc.dead) slot:=Yn.mk' kinv (by simp[qv,hl']; exact hs.le) hs.new;rcases qTQ c' (len+ds.length)with hgr' | hgr'
              ·obtain⟨v,w',m',r1,r2,r3,r4⟩:=qpm (ty:=ty) kinv hs' (hT _ z hz) ht hi hi1 hi2 hi3 (base:=p) (c':=c') (es0:=(es.drop off).take len) hk0 hone0 hold hk hone hsrc hrel hnl (by omega) (by rw[hlen]; exact hbytes.1) (by rw[hlen]; exact hbytes.2);rw[hlen]at r1 r4;exact⟨v,w',m',S,r1,r2,r3,r4⟩
              ·obtain⟨hrun,hfit⟩:=room hgr' rfl;have hother:∀(r':Nat) (row2:Row) (c2 o2:Nat),(qv rows r qc.dead)[r']?=some (qc.live row2)->m r'=some (c2,o2)->c2≠b:=by
                intro r' row2 c2 o2 h1 h2;rw[JJ (qUo hl')]at h1
                by_cases e:r'=r
                ·simp[e]at h1
                ·simp only[e,if_false]at h1;exact fun e2=>inv.apart r r' _ row2 b o c2 o2 (fun e3=>e e3.symm) hr h1 rfl hm h2 e2.symm
               have hnS:=inv.stab r _ b o hr rfl hm;obtain⟨k2,e2⟩:=kinv.scratch (w':=w.setRow b (ca.toList.take (o+off*z.size+len*z.size)++news++ca.toList.drop (o+off*z.size+len*z.size+news.length)).toArray) b (by simp) (fun c2 _ hne=>setRow_other w b c2 _ hne) hother hnS (inv.new r _ b o hr rfl hm)
                (by rw[hbs,qbW (setRow_heap w b ca _ te (0,0) hbk),qbu hfit]; exact qTF _) rfl rfl rfl
               obtain⟨k3,e3⟩:=k2.adopt slot (.dat z.size ((es.drop off).take len++ds) false) b (o+off*z.size) hs'.le hs'.dead (.inl hs.new) hother hnS (by simp; exact inv.bnd r b o hm) (inv.new r _ b o hr rfl hm) rfl (by
                refine⟨_,te,setRow_heap w b ca _ te (0,0) hbk,fun e he=>(qTH.1 he).elim (hk0 e) (hk e),fun d hd=>by rw[qeL]at hd; exact(qTH.1 hd).elim (hone0 d) (hone d),?_⟩;have hfp:qn ((es.drop off).take len++ds)=Yi (qn ((es.drop off).take len)) (len*z.size) (qn ds):=by
                 have:=qpl (es:=(es.drop off).take len) (a:=len) (n:=ds.length) hk0 hk (by omega) rfl;rw[qVZ (as:=(es.drop off).take len) (i:=len+ds.length) (by omega),qTX (l:=(es.drop off).take len) (i:=len) (by omega),qT7]at this;exact this
                rw[hfp];exact qc0 (R:=RD S w) (o:=o+off*z.size) (pos:=len*z.size) (vs:=news) (fun j d hj=>by obtain⟨v,hv,hr⟩:=hsub j d hj; rw[qaw hbk]at hv; exact⟨v,hv,hr⟩)
                 (fun d v hr=>(hr.ext e2).mono (fun _ h=>h) (fun _ _ _=>rfl)) hnl (fun j d v hd hv=>((hrel j d v hd hv).ext e2).mono (fun _ h=>h) (fun _ _ _=>rfl)) (by rw[Jr hk0,hlen]; exact qTF _) hfit)
               refine⟨_,_,_,S,hrun,k3,e2.trans e3,?_⟩;refine .sl slot z.size 0 (len+ds.length) (len+ds.length) false b (o+off*z.size) c' p (by simp[qU]) hgr' hgr' (by simp) ?_ ?_
               ·right; rw[hp' (by omega)]; simp
               ·rw[qbW (setRow_heap w b ca _ te (0,0) hbk),qbu hfit,qT6];rw[qUf]at hb; omega
           ·cases h
         ·cases h
       ·cases h
      ·cases h
     ·cases h
    ·cases h
   ·cases h
  ·cases h
 ·cases h
def qvB (inv:Inv w0 own m S w rows) {r k b o off len:Nat} {es ds:List D} (hr:rows[r]?=some (qc.live (.dat k es false))) (hm:m r=some (b,o))
  (hle:off+ds.length<=es.length) (hk:∀e∈ds,e.cells.length=k) (hone:∀d∈qn ds,d.isAgg=false) {vs:List Value} (hlen:vs.length=(qn ds).length)
  (hrel:∀(j:Nat) (d:D) (v:Value),(qn ds)[j]?=some d->vs[j]?=some v->RD S w d v) (hv1:∀v∈vs,v.oneCell'=true) (hfit:∀c e,w.heap[b]?=some (.cells c e (0,0))->o+off*k+vs.length<=c.size) :
  ∃w',(storeCells ⟨b,o+off*k,none⟩ vs).run P w=.ok () w'/\Inv w0 own m S w' (qv rows r (qc.live (.dat k (es.take off++ds++es.drop (off+ds.length)) false)))/\Ext m S w m S w':=by
 obtain⟨ca,te,hbk,hek,hen,hec⟩:=Y8 inv hr hm;have hf:=hfit ca te hbk;have hst:=run_storeCells_at (P:=P) b (o+off*k) te vs 0 ca w hbk (by omega) hv1;rw[qUQ]at hst;have hfp:=qpl (a:=off) (n:=ds.length) hek hk (by omega) rfl;have key:=inv.write (row':=.dat k (es.take off++ds++es.drop (off+ds.length)) false) (c':=(ca.toList.take (o+off*k)++vs++ca.toList.drop (o+off*k+vs.length)).toArray) hr hm rfl rfl hbk
  (qbu hf) (fun e2=>by
   refine⟨_,te,setRow_heap w b ca _ te (0,0) hbk,?_,?_,?_⟩
   ·intro x hx;rcases qTH.1 hx with hx|hx
    ·rcases qTH.1 hx with hx|hx
     ·exact hek x (qUg hx)
     ·exact hk x hx
    ·exact hek x (qUE hx)
   ·intro d hd;rw[hfp]at hd;exact qpe (p:=fun d=>d.isAgg=false) hd hen hone
   ·rw[hfp];exact qc0 (R:=RD S w) (R':=RD S _) (pos:=off*k) (vs:=vs) hec (fun d v hr=>hr.ext e2) hlen (fun j d v hd hv=>(hrel j d v hd hv).ext e2)
     (by rw[Jr hek]; exact qUp _ (by omega)) hf)
 exact⟨_,hst,key.1,key.2⟩
def qDE (inv:Inv w0 own m S w rows) {r b o off:Nat} {cs xs:List V} (hr:rows[r]?=some (qc.live (.box cs false))) (hm:m r=some (b,o))
  (hle:off+xs.length<=cs.length) {vs:List Value} (hlen:vs.length=xs.length) (hrel:∀(j:Nat) (x:V) (v:Value),xs[j]?=some x->vs[j]?=some v->RV m S w x v)
  (hv1:∀v∈vs,v.oneCell'=true) (hfit:∀c e,w.heap[b]?=some (.cells c e (0,0))->o+off+vs.length<=c.size) :
  ∃w',(storeCells ⟨b,o+off,none⟩ vs).run P w=.ok () w'/\Inv w0 own m S w' (qv rows r (qc.live (.box (Yi cs off xs) false)))/\Ext m S w m S w':=by
 obtain⟨ca,te,hbk,hec⟩:=Y8 inv hr hm;have hf:=hfit ca te hbk;have hst:=run_storeCells_at (P:=P) b (o+off) te vs 0 ca w hbk (by omega) hv1;rw[qUQ]at hst;have key:=inv.write (row':=.box (Yi cs off xs) false) (c':=(ca.toList.take (o+off)++vs++ca.toList.drop (o+off+vs.length)).toArray) hr hm rfl rfl hbk
  (qbu hf) (fun e2=>by
   refine⟨_,te,setRow_heap w b ca _ te (0,0) hbk,?_⟩;exact qc0 (R:=RV m S w) (R':=RV m S _) (pos:=off) (vs:=vs) hec (fun d v hr=>hr.ext e2) hlen (fun j d v hd hv=>(hrel j d v hd hv).ext e2) (by omega) hf)
 exact⟨_,hst,key.1,key.2⟩
def qDF (hT:TOK P T) (hg:GOK g rows) (inv:Inv w0 own m S w rows) {slot:Nat} {t u ty:TypeId} {d s:V} {dr sr:Value} {res:Res}
  (h:qhT T g t d s=some res) (hd:RV m S w d dr) (hs:RV m S w s sr) :
  qbV P w0 own m S w rows slot (Builtin.copy_ #[t,u] ty #[dr,sr]) res:=by
 unfold qhT at h;split at h
 ·rename_i y hy;have hu:=YD (w:=w) (hT t y hy);split at h
  ·rename_i e hde;rw[hde]at hu;split at h
   ·rename_i z hz;have hsz:=qav (w:=w) (hT _ z hz);split at h
    ·rename_i r k off len c ex ds hds;obtain⟨hk,hone,_⟩:=qpk hg inv hds hs;split at h
     ·rename_i k' es hgr;have hr:=hg r _ hgr;split at h
      ·rename_i hcond;obtain⟨rfl,rfl,hle⟩:=hcond;cases h
       cases hd with
       | sl r k off len c ex b o c' p hm hl hc he hp hb =>
       have hrel:=Y8 inv hr hm;obtain⟨ca,te,hbk,_,_,_⟩:=hrel;rw[qbW hbk]at hb;have hkt:∀e∈ds.take (min ds.length len),e.cells.length=z.size:=fun e he=>hk e (qUg he)
       have honet:∀d∈qn (ds.take (min ds.length len)),d.isAgg=false:=fun d hd=>hone d (qeN (fun e he=>qUg he) hd)
       have hn:(ds.take (min ds.length len)).length=min ds.length len:=by rw[qTU]; omega
       obtain⟨hlenof,hcells⟩:=qvy (P:=P) hg inv hds hs (n:=min ds.length len) (by omega);obtain⟨vs,f1,f2,f3,f4⟩:=hcells;have hvl:vs.length=min ds.length len*z.size:=by rw[f2,Jr hkt,hn]
       have hrunS:∀a:Addr,(Builtin.copy_ #[t,u] ty #[.slice (some a) len c',sr]).run P w =
         ((storeCells a vs).run P w).andThen (fun _ w'=>.ok (goInt (min ds.length len:Nat)) w'):=by
        intro a;simp only[qU1]at f1;simp[Builtin.copy_,hu,hsz,hlenof,qU1,f1]
       have hrunN:(Builtin.copy_ #[t,u] ty #[.slice none len c',sr]).run P w=.ok (goInt (min ds.length len:Nat)) w:=by
        simp only[qU1]at f1;simp[Builtin.copy_,hu,hsz,hlenof,qU1,f1]
       rcases qVC (min ds.length len)with h0|h0
       ·have hvs:vs=[]:=by apply qUr; rw[hvl,h0]; simp
        refine⟨_,w,m,S,?_,?_,Ext.refl ..,.d _ _ (.int _ _)⟩
        ·cases p with
         | none=>exact hrunN|some a=>rw[hrunS,hvs]; rfl
        ·have:es.take off++ds.take (min ds.length len)++es.drop (off+min ds.length len)=es:=by rw[h0]; simp
         show Inv w0 own m S w (qv rows r (qc.live (.dat z.size (es.take off++ds.take (min ds.length len)++es.drop (off+min ds.length len)) false)));rw[this,qdJ hr]; exact inv
       ·have hp':p=some ⟨b,o+off*z.size,none⟩:=by
         rcases hp with hp|hp
         ·omega
         ·exact hp
        obtain⟨w',g1,g2,g3⟩:=qvB (P:=P) (off:=off) (len:=len) inv hr hm (ds:=ds.take (min ds.length len)) (by rw[hn]; omega) hkt honet f2 f3 f4 (fun c e hce=>by
         rw[hbk]at hce; cases hce;rw[hvl];have:(off+min ds.length len)*z.size<=(off+c')*z.size:=qUp _ (by omega);rw[qUf]at this;omega)
        rw[hn]at g2;refine⟨_,w',m,S,?_,g2,g3,.d _ _ (.int _ _)⟩;rw[hp',hrunS,g1];rfl
      ·cases h
     ·rename_i cs hgr;have hr:=hg r _ hgr;split at h
      ·rename_i hcond;obtain⟨rfl,hz1,hle⟩:=hcond;cases h
       cases hd with
       | sl r k off len c ex b o c' p hm hl hc he hp hb =>
       have hrel:=Y8 inv hr hm;obtain⟨ca,te,hbk,_⟩:=hrel;rw[qbW hbk]at hb;have hkt:∀e∈ds.take (min ds.length len),e.cells.length=z.size:=fun e he=>hk e (qUg he)
       have hn:(ds.take (min ds.length len)).length=min ds.length len:=by rw[qTU]; omega
       obtain⟨hlenof,hcells⟩:=qvy (P:=P) hg inv hds hs (n:=min ds.length len) (by omega);obtain⟨vs,f1,f2,f3,f4⟩:=hcells;have hvl:vs.length=min ds.length len:=by rw[f2,Jr hkt,hn,hz1,qUA]
       have hrunS:∀a:Addr,(Builtin.copy_ #[t,u] ty #[.slice (some a) len c',sr]).run P w =
         ((storeCells a vs).run P w).andThen (fun _ w'=>.ok (goInt (min ds.length len:Nat)) w'):=by
        intro a;simp only[qU1]at f1;simp[Builtin.copy_,hu,hsz,hlenof,qU1,f1]
       have hrunN:(Builtin.copy_ #[t,u] ty #[.slice none len c',sr]).run P w=.ok (goInt (min ds.length len:Nat)) w:=by
        simp only[qU1]at f1;simp[Builtin.copy_,hu,hsz,hlenof,qU1,f1]
       have hfl:(qn (ds.take (min ds.length len))).length=min ds.length len:=by rw[Jr hkt,hn,hz1,qUA]
       rcases qVC (min ds.length len)with h0|h0
       ·have hvs:vs=[]:=by apply qUr; omega
        have hfn:qn (ds.take (min ds.length len))=[]:=by apply qUr; omega
        refine⟨_,w,m,S,?_,?_,Ext.refl ..,.d _ _ (.int _ _)⟩
        ·cases p with
         | none=>exact hrunN|some a=>rw[hrunS,hvs]; rfl
        ·show Inv w0 own m S w (qv rows r (qc.live (.box (Yi cs off ((qn (ds.take (min ds.length len))).map V.d)) false)));rw[hfn];have:Yi cs off (([]:List D).map V.d)=cs:=by simp[Yi]
         rw[this,qdJ hr]; exact inv
       ·have hp':p=some ⟨b,o+off,none⟩:=by
         rcases hp with hp|hp
         ·omega
         ·rw[hz1,qUA]at hp; exact hp
        obtain⟨w',g1,g2,g3⟩:=qDE (P:=P) (off:=off) (xs:=(qn (ds.take (min ds.length len))).map V.d) inv hr hm (by rw[qTS,hfl]; omega) (vs:=vs) (by rw[qTS,hfl,hvl])
         (fun j x v hx hv=>by
          rw[qT3,qTP]at hx;obtain⟨d,hd,rfl⟩:=hx;exact .d _ _ (f3 j d v hd hv)) f4 (fun c e hce=>by
          rw[hbk]at hce; cases hce;rw[hvl];rw[hz1]at hb;omega)
        refine⟨_,w',m,S,?_,g2,g3,.d _ _ (.int _ _)⟩;rw[hp',hrunS,g1];rfl
      ·cases h
     ·cases h
    ·cases h
   ·cases h
  ·cases h
 ·cases h
def qDG (hT:TOK P T) (hg:GOK g rows) (inv:Inv w0 own m S w rows) {slot:Nat} {t ty:TypeId} {d:V} {dr:Value} {res:Res}
  (h:qhU T g t d=some res) (hd:RV m S w d dr) :
  qbV P w0 own m S w rows slot (Builtin.clear_ #[t] ty #[dr]) res:=by
 unfold qhU at h;split at h
 ·rename_i y hy;have hu:=YD (w:=w) (hT t y hy);split at h
  ·rename_i e hde;rw[hde]at hu;split at h
   ·rename_i z hz;split at h
    ·cases h;cases hd;exact⟨.tuple #[],w,m,S,by simp[Builtin.clear_,hu],inv,Ext.refl ..,.tup [] #[] rfl (fun j x v h=>by simp at h)⟩
    ·rename_i r k off len c ex;split at h
     ·rename_i k' es zs hgr hzs;have hr:=hg r _ hgr;split at h
      ·rename_i ds us hds;split at h
       ·rename_i hcond;obtain⟨rfl,rfl,hzp,hle,hzl⟩:=hcond;cases h
        cases hd with
        | sl r k off len c ex b o c' p hm hl hc he hp hb =>
        obtain⟨ca,te,hbk,_,_,_⟩:=Y8 inv hr hm;rw[qbW hbk]at hb;have hund:RV m S w V.undef (.tuple #[]):=.tup [] #[] rfl (fun j x v h=>by simp at h);rcases qVC len with h0|h0
        ·subst h0;refine⟨.tuple #[],w,m,S,by cases p<;>simp[Builtin.clear_,hu],?_,Ext.refl ..,hund⟩;have:es.take off++List.replicate 0 (JK z.agg ds)++es.drop (off+0)=es:=by simp
         show Inv w0 own m S w (qv rows r (qc.live (.dat z.size (es.take off++List.replicate 0 (JK z.agg ds)++es.drop (off+0)) false)));rw[this,qdJ hr]; exact inv
        ·have hp':p=some ⟨b,o+off*z.size,none⟩:=by
          rcases hp with hp|hp
          ·omega
          ·exact hp
         have hzr:RVs m S w zs z.zero.cells:=by simpa using qcV (m:=m) (S:=S) (w:=w) hzs
         have hzsz:z.zero.cells.size=z.size:=by rw[hzr.1]; exact hzl
         obtain⟨n1,n2⟩:=qki hds (arr:=z.zero.cells.toList) (by simpa using hzr);have hdl:ds.length=z.size:=by rw[<-n1]; simpa using hzsz
         have hone:=qpi hds hzs;have hec:=qhN (agg:=z.agg) hone;have hzc:(Builtin.zeroCells z.zero.cells len).toList.length=len*z.size:=by rw[qVv,size_zeroCells,hzsz]
         have hkr:∀e∈List.replicate len (JK z.agg ds),e.cells.length=z.size:=fun x hx=>by rw[(qUz.1 hx).2,hec,hdl]
         have hmade:Builtin.zeroCells z.zero.cells len=madeCells z.zero.cells (len*z.zero.cells.size):=rfl;have hget:∀j,j<len*z.size->(Builtin.zeroCells z.zero.cells len)[j]?=z.zero.cells[j % z.size]?:=by
          intro j hj;rw[hmade,qkk (by rw[hzsz]; exact hj) (by omega),hzsz]
         obtain⟨w',g1,g2,g3⟩:=qvB (P:=P) (off:=off) (len:=len) inv hr hm (ds:=List.replicate len (JK z.agg ds)) (vs:=(Builtin.zeroCells z.zero.cells len).toList) (by simpa using hle) hkr
          (fun d hd=>by
           obtain⟨e',he',hd'⟩:=qUd.1 hd;rw[(qUz.1 he').2,hec]at hd';exact hone d hd')
          (by rw[hzc,Jr hkr]; simp)
          (fun j d v hj hv=>by
           have hjl:j<len*z.size:=by have:=q7 hj; rwa[Jr hkr,qU0]at this
           rw[qkj hec hdl hzp _ j hjl]at hj;simp only[qVW]at hv;rw[hget j hjl]at hv;exact n2 _ d v hj (by simpa using hv))
          (fun v hv=>by
           obtain⟨j,hj⟩:=qUS hv;have hjl:j<len*z.size:=by have:=q7 hj; omega
           simp only[qVW]at hj;rw[hget j hjl]at hj;have hm':=qUX j hzp;have hd':ds[j % z.size]?=some (ds[j % z.size]'(by omega)):=by simp
           exact qjV (m:=m) (.d _ _ (n2 _ _ v hd' (by simpa using hj))) (by simpa[V.one]using hone _ (qUi hd')))
          (fun c e hce=>by
           rw[hbk]at hce; cases hce;rw[hzc];have:(off+len)*z.size<=(off+c')*z.size:=qUp _ (by omega);rw[qUf]at this;omega)
         rw[qU0]at g2;refine⟨.tuple #[],w',m,S,?_,g2,g3,.tup [] #[] rfl (fun j x v h=>by simp at h)⟩;rw[hp'];obtain⟨n,rfl⟩:∃n,len=n+1:=⟨len - 1,by omega⟩
         simp[Builtin.clear_,hu,qh3 (hT _ z hz),g1]
       ·cases h
      ·cases h
     ·cases h
    ·cases h
   ·cases h
  ·cases h
 ·cases h
end Go.Aev
namespace Go.Aev
variable [Glob]
section
def qa3:D->D->Option Bool
 | .int k a,.int k' b=>if k=k' then some (a==b)else none
 | .str a,.str b=>some (a==b)|.bool a,.bool b=>some (a==b)|_,_=>none
def qaf:List D->List D->Option Bool
 | [],[]=>some true|x::xs,y::ys=>match qa3 x y with
  | some true=>qaf xs ys|some false=>some false|none=>none
 | _,_=>none
def qeS:D->D->Option Bool
 | .agg xs,.agg ys=>qaf xs ys|a,b=>qa3 a b
def qas (k:D):List (D×V)->Nat->Option (Option (Nat×V))
 | [],_=>some none|(k',v)::r,i=>match qeS k k' with
  | some true=>some (some (i,v))|some false=>qas k r (i+1)|none=>none
def Y2 (d:TypeDesc) (k:D):Bool :=
 match d,k with
 | .int _,.int _ _=>true|.string,.str _=>true|.bool,.bool _=>true|_,_=>false
def qvf:V->Bool
 | .any=>false|_=>true
def qkb (g:qq):V->Option (List (D×V))
 | .d .nilm=>some []|.mp r=>match g r with
  | some (.map es _ _)=>some es|_=>none
 | .fm ks xs=>some (ks.zip xs)|_=>none
variable {P:Program} {T:TypeId->Option Ty} {w0:World} {own:Own} {m:Mp} {S:Nat->Prop} {w:World} {rows:Rows} {g:qq}
def qf6 {d:TypeDesc} {k k':D} {kv kv':Value} {b:Bool} (h:qa3 k k'=some b) (ha:Y2 d k=true) (hk:RD S w k kv) (hk':RD S w k' kv'):Instr.sameNow d kv kv'=some b:=by
 unfold qa3 at h;split at h
 ·cases hk; cases hk';cases d<;>simp[Y2]at ha
  simpa[Instr.sameNow]using h
 ·cases hk; cases hk';cases d<;>simp[Y2]at ha
  simpa[Instr.sameNow]using h
 ·cases hk; cases hk';cases d<;>simp[Y2]at ha
  simpa[Instr.sameNow]using h
 ·cases h
def qeT (m:Mp) (S:Nat->Prop) (w:World):List (D×V)->List MapEntry->Prop
 | [],[]=>True|e::es,x::xs=>(RD S w e.1 x.key/\RV m S w e.2 x.val)/\qeT m S w es xs|_,_=>False
def qkc:∀{es:List (D×V)} {xs:List MapEntry},xs.length=es.length->(∀(j:Nat) (e:D×V) (x:MapEntry),es[j]?=some e->xs[j]?=some x->RD S w e.1 x.key/\RV m S w e.2 x.val)->qeT m S w es xs
 | [],[],_,_=>trivial|e::es,x::xs,hl,h=>⟨h 0 e x rfl rfl,qkc (by simpa using hl) fun j e x a b=>h (j+1) e x (by simpa using a) (by simpa using b)⟩
 | [],_::_,hl,_=>by simp at hl
 | _::_,[],hl,_=>by simp at hl
def qvg {d:TypeDesc} {k k':D} (ha:Y2 d k=true):qeS k k'=qa3 k k':=by
 cases k<;>first|rfl | (cases d<;>simp[Y2]at ha)
def qvh {d:TypeDesc} {k:D} {kv:Value} (ha:Y2 d k=true) (hk:RD S w k kv):∀{es:List (D×V)} {xs:List MapEntry} {i:Nat} {r:Option (Nat×V)},qeT m S w es xs->qas k es i=some r ->
  ∃r',Instr.findNow d kv xs i=some r'/\(r=none->r'=none)/\∀j v,r=some (j,v)->∃u x,r'=some (j,u)/\RV m S w v u/\i<=j/\xs[j - i]?=some x/\Instr.sameNow d kv x.key=some true
 | [],[],i,r,_,h=>by
  simp only[qas,qT4]at h; subst h;exact⟨none,rfl,fun _=>rfl,fun j v h=>by cases h⟩
 | (k',v)::es,x::xs,i,r,he,h=>by
  obtain⟨⟨h1,h2⟩,h3⟩:=he;simp only[qas]at h;split at h
  ·rename_i hs;cases h;have hn:=qf6 (qvg ha ▸ hs) ha hk h1;refine⟨some (i,x.val),by simp only[Instr.findNow,hn],fun h=>(by cases h),fun j v h=>?_⟩;cases h;exact⟨x.val,x,rfl,h2,qTF _,by simp,hn⟩
  ·rename_i hs;have hn:=qf6 (qvg ha ▸ hs) ha hk h1;obtain⟨r',e1,e2,e3⟩:=qvh ha hk h3 h;refine⟨r',by simp only[Instr.findNow,hn,e1],e2,fun j v h=>?_⟩;obtain⟨u,y,f1,f2,f3,f4,f5⟩:=e3 j v h;refine⟨u,y,f1,f2,by omega,?_,f5⟩;have:j - i=(j - (i+1))+1:=by omega
   rw[this,qUx]; exact f4
  ·cases h
 | [],_::_,_,_,he,_=>he.elim|_::_,[],_,_,he,_=>he.elim
def qvi {e:Bool} {n:Nat} {t:TypeId} {z:Ty} {k:D} {kv:Value} (hz:q8 P t=some z) (ha:Y2 z.desc k=true) (hk:RD S w k kv):(Instr.checkKey e (n+1) t kv).run P w=.ok () w:=by
 have hu:=YD (w:=w) hz;rw[Instr.checkKey];simp only[Sem.run_bind,hu,Result.andThen_ok];generalize z.desc=d at ha;cases hk<;>cases d<;>first|rfl|simp[Y2]at ha
def qDn {t:TypeId} {z:Ty} {kv:Value} {xs:List MapEntry} {r:Option (Nat×Value)} (hz:q8 P t=some z) (h:Instr.findNow z.desc kv xs 0=some r):(Instr.findKey t kv xs).run P w=.ok r w:=by
 have hu:=YD (w:=w) hz;simp only[Instr.findKey,Sem.run_bind,hu,Result.andThen_ok,h,Sem.run_pure]
def Inv.writeG (inv:Inv w0 own m S w rows) {r b o:Nat} {row row':Row} {w':World} (hr:rows[r]?=some (qc.live row)) (hm:m r=some (b,o)) (hrw:row.rw=true) (hrw':row'.rw=true)
  (hs:w'.heap.size=w.heap.size) (hoth:∀c,c≠b->w'.heap[c]?=w.heap[c]?) (hbs:Yf w b<=Yf w' b) (ho:w'.os=w.os) (ht:w'.tape=w.tape) (hu:w'.output=w.output)
  (hrel:Ext m S w m S w'->YF m S w' b o row'):Inv w0 own m S w' (qv rows r (qc.live row'))/\Ext m S w m S w':=by
 have hl:=qbU hr;have k1:=inv.kill r hl;have hother:∀(r':Nat) (row2:Row) (c2 o2:Nat),(qv rows r qc.dead)[r']?=some (qc.live row2)->m r'=some (c2,o2)->c2≠b:=by
  intro r' row2 c2 o2 h1 h2;rw[JJ (qUo hl)]at h1
  by_cases e:r'=r
  ·simp[e]at h1
  ·simp only[e,if_false]at h1;exact fun e2=>inv.apart r r' row row2 b o c2 o2 (fun e3=>e e3.symm) hr h1 hrw hm h2 e2.symm
 have hnS:=inv.stab r row b o hr hrw hm;obtain⟨k2,e2⟩:=k1.scratch (w':=w') b (by omega) (fun c2 _ hne=>hoth c2 hne) hother hnS (inv.new r row b o hr hrw hm) hbs ho ht hu;have hupd:qU m r (b,o)=m:=by
  funext x; unfold qU; split
  ·rename_i h; subst h; exact hm.symm
  ·rfl
 have hlen:(qv rows r qc.dead).length=rows.length:=by simp[qv,hl]
 obtain⟨k3,e3⟩:=k2.adopt r row' b o (by omega) (fun row2 h=>by rw[JJ (qUo hl)]at h; simp at h) (.inr hm) hother hnS
  (by have:=inv.bnd r b o hm; omega) (inv.new r row b o hr hrw hm) hrw' (by rw[hupd]; exact hrel e2)
 rw[hupd]at k3;have:qv (qv rows r qc.dead) r (qc.live row')=qv rows r (qc.live row'):=by
  apply qVl;intro i;rw[JJ (by omega),JJ (qUo hl),JJ (qUo hl)];split<;>rfl
 rw[this]at k3;exact⟨k3,e2⟩
def qkd (w:World) (b c:Nat) (o:Obj) (h:c≠b):({w with heap:=w.heap.setIfInBounds b o}:World).heap[c]?=w.heap[c]?:=by
 simp only; rw[qVy (fun e=>h e.symm)]
def qpb (w:World) (b:Nat) (o:Obj) (h:b<w.heap.size):({w with heap:=w.heap.setIfInBounds b o}:World).heap[b]?=some o:=by
 simp only; rw[qWd h]
def qct {r:Nat} {o:Obj} (h:w.heap[r]?=some o) (hc:∀c e f,o≠.cells c e f):(getObj r).run P w=.ok o w:=by
 simp only[getObj,Sem.run];rw[h];cases o<;>first|rfl|exact absurd rfl (hc _ _ _)
def qeU {r:Nat} {o o':Obj} (h:w.heap[r]?=some o) (hc:∀c e f,o≠.cells c e f):(setObj r o').run P w=.ok () {w with heap:=w.heap.setIfInBounds r o'}:=by
 simp only[setObj,Sem.run];rw[h];cases o<;>first|rfl|exact absurd rfl (hc _ _ _)
def qDo (hg:GOK g rows) (inv:Inv w0 own m S w rows) {x:V} {xr:Value} {es:List (D×V)} (h:qkb g x=some es) (hx:RV m S w x xr) :
  ∃ents:Array MapEntry,((xr=.map none/\ents=#[])\/∃b c,xr=.map (some b)/\w.heap[b]?=some (.map ents c))/\qeT m S w es ents.toList:=by
 unfold qkb at h;split at h
 ·cases h;have:=Yh hx;cases this;exact⟨#[],.inl ⟨rfl,rfl⟩,trivial⟩
 ·split at h
  ·rename_i r es' c ro hr;cases h;obtain⟨b,o,hm,ents,h1,h2,_,h3⟩:=inv.row _ _ (hg _ _ hr)
   cases hx with
   | mp _ b' o' hm' =>
   rw[hm]at hm'; cases hm';exact⟨ents,.inr ⟨_,_,rfl,h1⟩,qkc (by simpa using h2) (fun j e x a b=>h3 j e x a (by simpa using b))⟩
  ·cases h
 ·rename_i ks xs;cases h
  cases hx with
  | fm _ _ b hf =>
  cases hf with
  | fm _ _ _ ents clock hS hb h1 h2 hk hv =>
  refine⟨ents,.inr ⟨_,_,rfl,hb⟩,qkc (by simp[h1,h2]) (fun j e x a b=>?_)⟩;obtain⟨a1,a2⟩:=qVz.1 a;have b':ents[j]?=some x:=by simpa using b
  exact⟨hk j _ x a1 b',(hv j _ x a2 b').toRV⟩
 ·cases h
def qvj {t kt et:TypeId} {xr kr z:Value} {ok:Bool} {ents:Array MapEntry} {r:Option (Nat×Value)} (hu:(underlying t).run P w=.ok (.map kt et) w)
  (hx:(xr=.map none/\ents=#[])\/∃b c,xr=.map (some b)/\w.heap[b]?=some (.map ents c)) (hck:∀e,(Instr.checkKey e 10000 kt kr).run P w=.ok () w)
  (hfk:(Instr.findKey kt kr ents.toList).run P w=.ok r w) (hz:(zeroValue et).run P w=.ok z w) :
  (Instr.lookup t xr kr ok).run P w=.ok (match r with
   | some (_,u)=>if ok then .tuple #[u,.bool true]else u
   | none=>if ok then .tuple #[z,.bool false]else z) w:=by
 rcases hx with⟨rfl,rfl⟩|⟨b,c,rfl,hb⟩
 ·cases r<;>simp only[Instr.lookup,Sem.run_bind,hu,Result.andThen_ok,hck,hfk,hz,Sem.run_pure]
 ·have hgo:=qct (P:=P) hb (by simp);cases r<;>simp only[Instr.lookup,Sem.run_bind,hu,Result.andThen_ok,hgo,hck,hfk,hz,Sem.run_pure]
def qpc {a b:V} {u v:Value} (h1:RV m S w a u) (h2:RV m S w b v):RV m S w (.tup [a,b]) (.tuple #[u,v]):=.tup _ _ rfl (fun j x y e1 e2=>by
 match j with
 | 0=>simp at e1 e2; subst e1; subst e2; exact h1|1=>simp at e1 e2; subst e1; subst e2; exact h2|_+2=>simp at e1)
def qDp {a b:ByteArray} (h:(a==b)=true):a=b:=by
 obtain⟨a⟩:=a; obtain⟨b⟩:=b;have:(a==b)=true:=h;simpa using this
def qvk {n:Nat} {d:TypeDesc} {a b:Value} (h:Instr.sameNow d a b=some true):Instr.sameBits n b a=true:=by
 unfold Instr.sameNow at h;split at h
 ·split at h
  ·rename_i hk; subst hk;simp only[qT4,beq_iff_eq]at h;subst h; simp[Instr.sameBits]
  ·cases h
 ·rename_i a b;simp only[qT4]at h;have he:=qDp h;subst he;simp only[Instr.sameBits];exact h
 ·simp only[qT4,beq_iff_eq]at h;subst h; simp[Instr.sameBits]
 ·cases h
def qDq (inv:Inv w0 own m S w rows) {slot:Nat} (hs:Yn m rows slot) (t:TypeId) :
  ∃u w' m',(Instr.makeMap t none).run P w=.ok u w'/\Inv w0 own m' S w' (qv rows slot (qc.live (.map [] 0 false)))/\Ext m S w m' S w'/\RV m' S w' (.mp slot) u:=by
 obtain⟨h1,h2⟩:=inv.fresh hs (.map #[] 0) (.map [] 0 false) rfl (fun ext=>⟨#[],qcu w _,rfl,⟨rfl,fun j x h=>by simp at h⟩,fun j e x a b=>by simp at a⟩);exact⟨.map (some w.heap.size),w.alloc (.map #[] 0),qU m slot (w.heap.size,0),by simp[Instr.makeMap],h1,h2,.mp slot _ 0 (by simp[qU])⟩
end
end Go.Aev
end
