/- Lemmas: a machine that the model follows, and contracts. Conditions: none. -/
import Derived.Test.YtakpdahnlpjooaaGreatDoorK01
import Derived.Laws.CopyRow
import Derived.Laws.Cells
set_option linter.all false
set_option maxRecDepth 1000000
set_option maxHeartbeats 0
noncomputable section
namespace Go.Aev
variable [Glob]
section
def qdD (e:D) (es:List D):qn (e::es)=e.cells++qn es:=by simp[qn]
def qeL (a b:List D):qn (a++b)=qn a++qn b:=by simp[qn]
def Jr {es:List D} {k:Nat} (h:∀e∈es,e.cells.length=k):(qn es).length=es.length*k:=by
 induction es with
 | nil=>simp[qn]|cons e es ih =>
  rw[qdD,qTN,ih (fun x hx=>h x (by simp[hx])),h e (by simp),qT9,qUH];omega
def qdE {es:List D} {k:Nat} (h:∀e∈es,e.cells.length=k) {i:Nat} {e:D} (hi:es[i]?=some e) {f:Nat} (hf:f<k) :
  (qn es)[i*k+f]?=e.cells[f]?:=by
 induction es generalizing i with
 | nil=>simp at hi|cons x es ih =>
  have hx:=h x (by simp);rw[qdD]
  cases i with
  | zero =>
   simp at hi; subst hi;rw[qTZ (by omega)];simp
  | succ i =>
   simp at hi;rw[qT1 (by rw[hx,qUH]; omega),hx];rw[<-ih (fun y hy=>h y (by simp[hy])) hi]
   congr 1
   rw[qUH]; omega
def qeM {es:List D} {k:Nat} (h:∀e∈es,e.cells.length=k) (off len:Nat) (j:Nat) (d:D)
  (hj:(qn ((es.drop off).take len))[j]?=some d):(qn es)[off*k+j]?=some d:=by
 induction es generalizing off with
 | nil=>simp[qn]at hj|cons x es ih =>
  cases off with
  | zero =>
   simp only[qTY]at hj;rw[qVh,qT6];have:qn (x::es)=qn ((x::es).take len)++qn ((x::es).drop len):=by rw[<-qeL,qUw]
   rw[this,qTZ]
   ·exact hj
   ·rcases qTQ j (qn ((x::es).take len)).length with hl|hl
    ·exact hl
    ·rw[qUc hl]at hj; cases hj
  | succ off =>
   simp only[List.drop_succ_cons]at hj;have:=ih (fun y hy=>h y (by simp[hy])) off hj;rw[qdD,qT1 (by rw[h x (by simp),qUH]; omega),h x (by simp)];rw[<-this]; congr 1; rw[qUH]; omega
def qeN {es es':List D} (h:∀e∈es',e∈es) {d:D} (hd:d∈qn es'):d∈qn es:=by
 obtain⟨e,he,hc⟩:=qUd.1 hd;exact qUd.2 ⟨e,h e he,hc⟩
def qcp {α:Type} {es:List α} {off len:Nat} {x:α} (h:x∈(es.drop off).take len):x∈es :=
 qUE (qUg h)
variable {m:Mp} {S:Nat->Prop} {w:World}
def RVs.nil:RVs m S w [] #[]:=⟨rfl,fun j x v h=>by simp at h⟩
def RVs.get {xs:List V} {arr:Array Value} (h:RVs m S w xs arr) {j:Nat} {x:V} (hx:xs[j]?=some x):∃v,arr[j]?=some v/\RV m S w x v:=by
 have hj:j<xs.length:=by
  rcases qTQ j xs.length with hl|hl
  ·exact hl
  ·rw[qUc hl]at hx; cases hx
 have hj':j<arr.size:=by rw[h.1]; exact hj
 exact⟨arr[j],by simp[hj'],h.2 j x _ hx (by simp[hj'])⟩
def qCo {cs:List V} {ds:List D} (h:qat cs=some ds):cs=ds.map V.d:=by
 induction cs generalizing ds with
 | nil=>simp[qat]at h; subst h; rfl|cons c cs ih =>
  cases c with
  | d x =>
   simp only[qat]at h
   cases hc:qat cs with
   | none=>rw[hc]at h; cases h
   | some l=>rw[hc]at h; cases h; rw[ih hc]; rfl
  | _=>simp[qat]at h
def Yh {x:D} {v:Value} (h:RV m S w (.d x) v):RD S w x v:=by cases h; assumption
def qhz {cs:List V} {arr:Array Value} (h:RVs m S w cs arr):RV m S w (qc2 cs) (.agg arr):=by
 unfold qc2
 cases hd:qat cs with
 | none=>exact .agg cs arr h.1 h.2|some ds =>
  have e:=qCo hd;subst e;refine .d _ _ (.agg ds arr (by simpa using h.1) fun j d v e e'=>?_);exact Yh (h.2 j (.d d) v (by simp[e]) e')
def quJ {v:Value} {x:V} (h:qhP v=some x):RV m S w x v:=by
 unfold qhP at h;split at h<;>cases h
 ·exact .d _ _ (.int _ _)
 ·exact .d _ _ (.bool _)
 ·exact .d _ _ (.str _)
 ·exact .d _ _ .nilp
 ·exact .nil
 ·exact .d _ _ .nilm
 ·exact .d _ _ .nili
 ·exact .d _ _ .nilf
def qcV {vs:List Value} {xs:List V} (h:Js vs=some xs):RVs m S w xs vs.toArray:=by
 induction vs generalizing xs with
 | nil=>simp[Js]at h; subst h; exact RVs.nil|cons v vs ih =>
  simp only[Js]at h;split at h
  ·rename_i x l hx hl;cases h;have h1:=ih hl;refine⟨by simpa using h1.1,fun j y u hy hu=>?_⟩
   cases j with
   | zero=>simp at hy hu; subst hy; subst hu; exact quJ hx|succ j=>simp at hy hu; exact h1.2 j y u hy (by simpa using hu)
  ·cases h
def qoV {v:Value} {x:V} (h:qhQ v=some x):RV m S w x v:=by
 unfold qhQ at h;split at h
 ·rename_i cs
  cases hc:Js cs.toList with
  | none=>rw[hc]at h; cases h
  | some l=>rw[hc]at h; cases h; have:=qcV (m:=m) (S:=S) (w:=w) hc; exact qhz (by simpa using this)
 ·rename_i cs
  cases hc:Js cs.toList with
  | none=>rw[hc]at h; cases h
  | some l=>rw[hc]at h; cases h; have:=qcV (m:=m) (S:=S) (w:=w) hc; simp at this; exact .tup l cs this.1 this.2
 ·exact quJ h
def Y1 {x:V} {v:Value} (h:RV m S w x v):RVs m S w [x] #[v] :=
 ⟨rfl,fun j y u hy hu=>by
  cases j with
  | zero=>simp at hy hu; subst hy; subst hu; exact h|succ j=>simp at hy⟩
def qoW {x:V} {v:Value} (h:RV m S w x v):RVs m S w x.cells v.cells:=by
 cases h with
 | d x v h =>
  cases h with
  | agg cs arr hlen hd =>
   refine⟨by simpa[V.cells,Value.cells]using hlen,fun j y u hy hu=>?_⟩;simp only[V.cells,qT3,qTP]at hy;obtain⟨d,hd',rfl⟩:=hy;exact .d _ _ (hd j d u hd' hu)
  | int k n=>exact Y1 (.d _ _ (.int k n))|bool b=>exact Y1 (.d _ _ (.bool b))|str s=>exact Y1 (.d _ _ (.str s))|nilp=>exact Y1 (.d _ _ .nilp)|nilf=>exact Y1 (.d _ _ .nilf)|nilm=>exact Y1 (.d _ _ .nilm)|nili=>exact Y1 (.d _ _ .nili)|emp p cap=>exact Y1 (.d _ _ (.emp p cap))|row es b o cap k n vs hn hcap hS hk h1 hc hd=>exact Y1 (.d _ _ (.row es b o cap k n vs hn hcap hS hk h1 hc hd))
 | agg cs arr hlen hd=>exact⟨hlen,hd⟩|nil=>exact Y1 .nil|sl r k off len c ex b o c' p hm hl hc he hp hb=>exact Y1 (.sl r k off len c ex b o c' p hm hl hc he hp hb)|pt r k i f b o hm=>exact Y1 (.pt r k i f b o hm)|dp x b o vs hS hc hd=>exact Y1 (.dp x b o vs hS hc hd)|fn f cs arr hlen hd=>exact Y1 (.fn f cs arr hlen hd)|bf f cs arr hlen hd=>exact Y1 (.bf f cs arr hlen hd)|yl r b o hm=>exact Y1 (.yl r b o hm)|mp r b o hm=>exact Y1 (.mp r b o hm)|ifc t x v h=>exact Y1 (.ifc t x v h)|fp cs b o h=>exact Y1 (.fp cs b o h)|fm ks xs b h=>exact Y1 (.fm ks xs b h)|tup vs arr hlen hd=>exact Y1 (.tup vs arr hlen hd)|top v h =>
  have:v.cells=#[v]:=by cases v<;>first|rfl|cases h
  rw[this];exact Y1 (.top v h)
def qjV {x:V} {v:Value} (h:RV m S w x v) (h1:x.one=true):v.oneCell'=true:=by
 cases h with
 | d x v h=>cases h<;>first|rfl|simp[V.one,D.isAgg]at h1
 | agg cs arr hlen hd=>simp[V.one]at h1|tup cs arr hlen hd=>simp[V.one]at h1|top v h=>exact h|_=>rfl
def Jz (b o n:Nat):(⟨b,o,none⟩:Addr).add n=⟨b,o+n,none⟩:=by unfold Addr.add; split<;>simp_all
def qCp {P:Program} {w:World} {b o n:Nat} {xs:List V} (hn:xs.length=n)
  (h:∀(j:Nat) (x:V),xs[j]?=some x->∃v,cl w b (o+j)=some v/\RV m S w x v) :
  ∃arr,(loadCells ⟨b,o,none⟩ n).run P w=.ok arr w/\RVs m S w xs arr:=by
 have hex:∃vs:List Value,vs.length=n/\∀(j:Nat) (x:V) (v:Value),xs[j]?=some x->vs[j]?=some v->cl w b (o+j)=some v/\RV m S w x v:=by
  have:∀(xs:List V) (o:Nat),(∀(j:Nat) (x:V),xs[j]?=some x->∃v,cl w b (o+j)=some v/\RV m S w x v) ->
    ∃vs:List Value,vs.length=xs.length/\∀(j:Nat) (x:V) (v:Value),xs[j]?=some x->vs[j]?=some v->cl w b (o+j)=some v/\RV m S w x v:=by
   intro xs
   induction xs with
   | nil=>intro o _; exact⟨[],rfl,fun j x v h=>by simp at h⟩
   | cons x xs ih =>
    intro o h;obtain⟨v,hv,hr⟩:=h 0 x rfl;obtain⟨vs,hl,hvs⟩:=ih (o+1) (fun j y hy=>by have:=h (j+1) y (by simpa using hy); rwa[show o+(j+1)=o+1+j by omega]at this);refine⟨v::vs,by simp[hl],fun j y u hy hu=>?_⟩
    cases j with
    | zero=>simp at hy hu; subst hy; subst hu; exact⟨hv,hr⟩|succ j=>simp at hy hu; have:=hvs j y u hy hu; rwa[show o+(j+1)=o+1+j by omega]
  obtain⟨vs,h1,h2⟩:=this xs o h;exact⟨vs,by omega,h2⟩
 obtain⟨vs,hl,hvs⟩:=hex;refine⟨vs.toArray,?_,by simp[hl,hn],fun j x v hx hv=>(hvs j x v hx (by simpa using hv)).2⟩;rw[<-hl];refine run_loadCells_list w ⟨b,o,none⟩ vs fun j v hv=>?_
 have hj:j<xs.length:=by
  rcases qTQ j vs.length with h1|h1
  ·omega
  ·rw[qUc h1]at hv; cases hv
 rw[Jz];exact(hvs j xs[j] v (by simp[hj]) hv).1
end
end Go.Aev
namespace Go.Aev
variable [Glob]
variable {P:Program} {T:TypeId->Option Ty} {w0:World} {own:Own} {m:Mp} {S:Nat->Prop} {w:World} {rows:Rows} {g:qq}
def GOK (g:qq) (rows:Rows):Prop:=∀r row,g r=some row->rows[r]?=some (qc.live row)
def qpU {t:TypeId} {y:Ty} (h:q8 P t=some y):P.underlying t=some y.desc/\(∃i,P.info? t=some i/\i.size=y.size/\i.bytes=y.bytes/\i.zero=some y.zero)/\y.zero.cells.size=y.size:=by
 unfold q8 at h;split at h
 ·rename_i d i hd hi
  cases hz:i.zero with
  | none=>rw[hz]at h; cases h
  | some z =>
   rw[hz]at h;simp only at h;split at h
   ·rename_i hc; cases h; exact⟨hd,⟨i,hi,rfl,rfl,hz⟩,hc⟩
   ·cases h
 ·cases h
def Jk {t:TypeId} {y:Ty} (h:q8 P t=some y):P.underlying t=some y.desc/\∃i,P.info? t=some i/\i.size=y.size/\i.bytes=y.bytes/\i.zero=some y.zero :=
 ⟨(qpU h).1,(qpU h).2.1⟩
def qEo {t:TypeId} {y:Ty} (h:q8 P t=some y):y.held=P.stoodInHeld t:=by
 unfold q8 at h;split at h
 ·split at h
  ·split at h
   ·cases h; rfl
   ·cases h
  ·cases h
 ·cases h
def qwo {t:TypeId} {y:Ty} (h:q8 P t=some y):y.zero.cells.size=y.size:=(qpU h).2.2
def YD {t:TypeId} {y:Ty} (h:q8 P t=some y):(underlying t).run P w=.ok y.desc w:=by
 simp[underlying,(Jk h).1]
def qwp {t:TypeId} {y:Ty} (h:q8 P t=some y):∃i,(typeInfo t).run P w=.ok i w/\i.size=y.size/\i.bytes=y.bytes/\i.zero=some y.zero:=by
 obtain⟨_,i,hi,h1,h2,h3⟩:=Jk h;exact⟨i,by simp[typeInfo,hi],h1,h2,h3⟩
def qav {t:TypeId} {y:Ty} (h:q8 P t=some y):(sizeOf t).run P w=.ok y.size w:=by
 obtain⟨i,hi,h1,_,_⟩:=qwp (w:=w) h;simp[sizeOf,hi,h1]
def qh3 {t:TypeId} {y:Ty} (h:q8 P t=some y):(zeroValue t).run P w=.ok y.zero w:=by
 obtain⟨i,hi,_,_,h1⟩:=qwp (w:=w) h;simp[zeroValue,hi,h1]
def qkT {t:TypeId} {y:Ty} (h:q8 P t=some y):(isAgg t).run P w=.ok y.agg w:=by
 simp only[isAgg,Sem.run_bind,YD h,Result.andThen_ok,Ty.agg];split<;>simp_all
def Y8 (inv:Inv w0 own m S w rows) {r:Nat} {row:Row} {b o:Nat} (hr:rows[r]?=some (qc.live row)) (hm:m r=some (b,o)):YF m S w b o row:=by
 obtain⟨b',o',hm',h⟩:=inv.row r row hr;rw[hm]at hm'; cases hm'; exact h
def qaw {b:Nat} {c:Array Value} {e:TypeId} {fz:Nat×Nat} (h:w.heap[b]?=some (.cells c e fz)) (j:Nat):cl w b j=c[j]?:=by
 simp[cl,World.cell?,h]
def qpV {b o k:Nat} {es:List D} {ro:Bool} (h:YF m S w b o (.dat k es ro)) {i f:Nat} {e c:D} (hi:es[i]?=some e) (hc:e.cells[f]?=some c) :
  ∃v,cl w b (o+i*k+f)=some v/\RD S w c v:=by
 obtain⟨cs,t,h1,h2,hn,h3⟩:=h;have hk:=h2 e (qUi hi);have hf:f<k:=by
  rw[<-hk];rcases qTQ f e.cells.length with hl|hl
  ·exact hl
  ·rw[qUc hl]at hc; cases hc
 obtain⟨v,hv,hr⟩:=h3 (i*k+f) c (by rw[qdE h2 hi hf]; exact hc);exact⟨v,by rw[qaw h1,<-hv]; congr 1; omega,hr⟩
def qwq {b o:Nat} {cs:List V} {ro:Bool} (h:YF m S w b o (.box cs ro)) {j:Nat} {x:V} (hj:cs[j]?=some x):∃v,cl w b (o+j)=some v/\RV m S w x v:=by
 obtain⟨c,t,h1,h3⟩:=h;obtain⟨v,hv,hr⟩:=h3 j x hj;exact⟨v,by rw[qaw h1]; exact hv,hr⟩
def qkU {cs:List D} {arr:Array Value} (h:RVs m S w (cs.map V.d) arr):RV m S w (.d (.agg cs)) (.agg arr) :=
 .d _ _ (.agg cs arr (by simpa using h.1) fun j d v e e'=>Yh (h.2 j (.d d) v (by simp[e]) e'))
def qkV {t:TypeId} {y:Ty} {b o:Nat} {xs:List V} (hy:q8 P t=some y) (ha:y.agg=true) (hn:xs.length=y.size)
  (h:∀(j:Nat) (x:V),xs[j]?=some x->∃v,cl w b (o+j)=some v/\RV m S w x v) :
  ∃arr,(loadVar t ⟨b,o,none⟩).run P w=.ok (.agg arr) w/\RVs m S w xs arr:=by
 obtain⟨arr,h1,h2⟩:=qCp (P:=P) hn h;exact⟨arr,by simp[loadVar,qkT hy,ha,qav hy,h1],h2⟩
def qkW {t:TypeId} {y:Ty} {b o:Nat} {v:Value} (hy:q8 P t=some y) (ha:y.agg=false) (h:cl w b o=some v) :
  (loadVar t ⟨b,o,none⟩).run P w=.ok v w:=by
 simp only[cl]at h;simp[loadVar,qkT hy,ha,h]
def qpW (hT:TOK P T) (hg:GOK g rows) (inv:Inv w0 own m S w rows) {t:TypeId} {x v:V} {vr:Value} (h:qa4 T g t x=some v) (hx:RV m S w x vr) :
  ∃u,(Instr.loadAt t vr).run P w=.ok u w/\RV m S w v u:=by
 unfold qa4 at h;split at h
 ·rename_i r k i f
  cases hx with
  | pt r k i f b o hm =>
  simp only[Instr.loadAt,Instr.sureAddr,Sem.run_bind,Sem.run_pure,Result.andThen_ok];split at h
  ·rename_i y k' es ro hy hgr;have hrel:=Y8 inv (hg r _ hgr) hm;split at h
   ·rename_i hk; subst hk;split at h
    ·rename_i e he;have hke:e.cells.length=k:=by obtain⟨_,_,_,h2,_,_⟩:=hrel; exact h2 e (qUi he)
     split at h
     ·rename_i ha;split at h
      ·rename_i hfs;cases h;obtain⟨arr,h1,h2⟩:=qkV (m:=m) (S:=S) (b:=b) (o:=o+i*k+f) (xs:=e.cells.map V.d) (hT t y hy) ha (by simp; omega) (fun j x hj=>by
        simp only[qT3,qTP]at hj;obtain⟨d,hd,rfl⟩:=hj;obtain⟨v,hv,hr⟩:=qpV hrel he hd;exact⟨v,by rw[<-hv]; congr 1; omega,.d _ _ hr⟩)
       exact⟨_,h1,qkU h2⟩
      ·split at h
       ·rename_i hfs;cases h;obtain⟨arr,h1,h2⟩:=qkV (m:=m) (S:=S) (b:=b) (o:=o+i*k+f) (xs:=((e.cells.drop f).take y.size).map V.d) (hT t y hy) ha (by simp; omega) (fun j x hj=>by
         simp only[qT3,qTP]at hj;obtain⟨d,hd,rfl⟩:=hj;rw[qUh]at hd;split at hd
         ·rw[qUk]at hd;obtain⟨v,hv,hr⟩:=qpV hrel he hd;exact⟨v,by rw[<-hv]; congr 1; omega,.d _ _ hr⟩
         ·cases hd)
        exact⟨_,h1,qkU h2⟩
       ·cases h
     ·rename_i ha;split at h
      ·rename_i c hc;cases h;obtain⟨v,hv,hr⟩:=qpV hrel he hc;exact⟨v,qkW (hT t y hy) (by simpa using ha) hv,.d _ _ hr⟩
      ·cases h
    ·cases h
   ·cases h
  ·rename_i y cs ro hy hgr;have hrel:=Y8 inv (hg r _ hgr) hm;split at h
   ·rename_i ha;split at h
    ·rename_i hl;cases h;obtain⟨arr,h1,h2⟩:=qkV (m:=m) (S:=S) (b:=b) (o:=o+i*k+f) (xs:=(cs.drop (i*k+f)).take y.size) (hT t y hy) ha (by simp; omega) (fun j x hj=>by
      rw[qUh]at hj;split at hj
      ·rw[qUk]at hj;obtain⟨v,hv,hr⟩:=qwq hrel hj;exact⟨v,by rw[<-hv]; congr 1; omega,hr⟩
      ·cases hj)
     exact⟨_,h1,qhz h2⟩
    ·cases h
   ·rename_i ha;obtain⟨u,hv,hr⟩:=qwq hrel h;exact⟨u,qkW (hT t y hy) (by simpa using ha) (by rw[<-hv]; congr 1; omega),hr⟩
  ·cases h
 ·rename_i x
  cases hx with
  | dp x b o vs hS hc hd =>
  simp only[Instr.loadAt,Instr.sureAddr,Sem.run_bind,Sem.run_pure,Result.andThen_ok];split at h
  ·rename_i y hy;split at h
   ·rename_i ha;split at h
    ·rename_i hl;cases h;obtain⟨arr,h1,h2⟩:=qkV (m:=m) (S:=S) (b:=b) (o:=o) (xs:=x.cells.map V.d) (hT t y hy) ha (by simp[hl]) (fun j z hj=>by
      simp only[qT3,qTP]at hj;obtain⟨d,hd',rfl⟩:=hj;exact⟨vs j,hc j d hd',.d _ _ (hd j d hd')⟩)
     exact⟨_,h1,qkU h2⟩
    ·cases h
   ·rename_i ha;split at h
    ·rename_i c hc0;cases h;exact⟨vs 0,qkW (hT t y hy) (by simpa using ha) (hc 0 c hc0),.d _ _ (hd 0 c hc0)⟩
    ·cases h
  ·cases h
 ·rename_i cs
  cases hx with
  | fp _ b o hf =>
  cases hf with
  | fp _ _ _ vs hS hc hd =>
  simp only[Instr.loadAt,Instr.sureAddr,Sem.run_bind,Sem.run_pure,Result.andThen_ok];split at h
  ·rename_i y hy;split at h
   ·cases h
   ·rename_i ha;exact⟨vs 0,qkW (hT t y hy) (by simpa using ha) (hc 0 _ h),(hd 0 _ h).toRV⟩
  ·cases h
 ·cases h
def qax {k:IntKind} {n:Int} {v:Value} (h:RV m S w (.d (.int k n)) v):v=.int k n:=by
 have:=Yh h; cases this; rfl
def qdb {b:Bool} {v:Value} (h:RV m S w (.d (.bool b)) v):v=.bool b:=by
 have:=Yh h; cases this; rfl
def qdZ {s:ByteArray} {v:Value} (h:RV m S w (.d (.str s)) v):v=.string s:=by
 have:=Yh h; cases this; rfl
def qEp {cs:List D} {v:Value} (h:RV m S w (.d (.agg cs)) v):∃arr,v=.agg arr/\RVs m S w (cs.map V.d) arr:=by
 have:=Yh h
 cases this with
 | agg _ arr hlen hd =>
  exact⟨arr,rfl,by simpa using hlen,fun j x v hx hv=>by
   simp only[qT3,qTP]at hx;obtain⟨d,hd',rfl⟩:=hx;exact .d _ _ (hd j d v hd' hv)⟩
def qEq (hT:TOK P T) {s:TypeId} {f:Nat} {x v:V} {vr:Value} (h:qko T s f x=some v) (hx:RV m S w x vr) :
  ∃u,(Instr.fieldAt s vr f).run P w=.ok u w/\RV m S w v u:=by
 unfold qko at h;split at h
 ·rename_i y hy;split at h
  ·rename_i fs hfs;split at h
   ·rename_i fl hfl;split at h
    ·rename_i z hz;split at h
     ·cases h
     ·rename_i hz0;have hu:=YD (w:=w) (hT s y hy);rw[hfs]at hu;have hsz:=qav (w:=w) (hT _ z hz);split at h
      ·rename_i r k i f0;cases h
       cases hx with
       | pt r k i f b o hm =>
       refine⟨.pointer (some ⟨b,o+i*k+(f0+fl.offset),none⟩),?_,.pt r k i _ b o hm⟩;simp[Instr.fieldAt,hu,hfl,Instr.sureAddr,fieldPlace,hsz,hz0,Jz];omega
      ·rename_i d
       cases hx with
       | dp x b o vs hS hc hd =>
       split at h
       ·rename_i hl;cases h;refine⟨.pointer (some ⟨b,o+fl.offset,none⟩),?_,.dp _ b _ (fun j=>vs (fl.offset+j)) hS (fun j e hj=>?_) (fun j e hj=>?_)⟩
        ·simp[Instr.fieldAt,hu,hfl,Instr.sureAddr,fieldPlace,hsz,hz0,Jz]
        ·simp only[D.cells,qUh]at hj;split at hj
         ·rw[qUk]at hj;rw[qWm]; exact hc _ e hj
         ·cases hj
        ·simp only[D.cells,qUh]at hj;split at hj
         ·rw[qUk]at hj;exact hd _ e hj
         ·cases hj
       ·cases h
      ·cases h
    ·cases h
   ·cases h
  ·cases h
 ·cases h
def qEr (hT:TOK P T) {t:TypeId} {x ix v:V} {xr ir:Value} (h:qa5 T t x ix=some v) (hx:RV m S w x xr) (hi:RV m S w ix ir) :
  ∃u,(Instr.indexAt t xr ir).run P w=.ok u w/\RV m S w v u:=by
 unfold qa5 at h;split at h
 ·rename_i y k0 n hy;have e:=qax hi; subst e;have hu:=YD (w:=w) (hT t y hy);split at h
  ·rename_i e hde;rw[hde]at hu;split at h
   ·rename_i z hz;have hsz:=qav (w:=w) (hT _ z hz);split at h
    ·rename_i r k off len c ex
     cases hx with
     | sl r k off len c ex b o c' p hm hl hc he hp hb =>
     split at h
     ·rename_i hk;obtain⟨rfl,h0,hlt⟩:=hk;cases h;have hp':p=some ⟨b,o+off*z.size,none⟩:=by
       rcases hp with hp|hp
       ·omega
       ·exact hp
      refine⟨.pointer (some ⟨b,o+(off+n.toNat)*z.size+0,none⟩),?_,.pt r z.size _ 0 b o hm⟩;simp only[Instr.indexAt,asIntOf,Sem.run_bind,Sem.run_pure,Result.andThen_ok,hu,hp'];rw[if_pos ⟨h0,hlt⟩];simp[hsz,Jz];rw[qUf]; omega
     ·cases h
    ·rename_i es;split at h
     ·rename_i hn;split at h
      ·rename_i d hd;split at h
       ·rename_i hdz;cases h;have hrd:=Yh hx
        cases hrd with
        | emp p cap=>simp at hd|row es b o cap k n' vs hn' hcap hS hk h1 hcl hrd' =>
        subst hn';have hke:d.cells.length=k:=hk d (qUi hd);have hkz:k=z.size:=by omega
        subst hkz;refine⟨.pointer (some ⟨b,o+n.toNat*z.size,none⟩),?_,.dp d b _ (fun j=>vs (n.toNat*z.size+j)) hS (fun j c hc=>?_) (fun j c hc=>?_)⟩
        ·simp only[Instr.indexAt,asIntOf,Sem.run_bind,Sem.run_pure,Result.andThen_ok,hu];rw[if_pos hn];simp[hsz,Jz]
        ·have hj:j<z.size:=by
          rw[<-hke];rcases qTQ j d.cells.length with hl|hl
          ·exact hl
          ·rw[qUc hl]at hc; cases hc
         have:=hcl (n.toNat*z.size+j) c (by rw[qdE hk hd hj]; exact hc);rwa[<-qWm]at this
        ·have hj:j<z.size:=by
          rw[<-hke];rcases qTQ j d.cells.length with hl|hl
          ·exact hl
          ·rw[qUc hl]at hc; cases hc
         exact hrd' (n.toNat*z.size+j) c (by rw[qdE hk hd hj]; exact hc)
       ·cases h
      ·cases h
     ·cases h
    ·cases h
   ·cases h
  ·rename_i len e hde;rw[hde]at hu;split at h
   ·rename_i z hz;have hsz:=qav (w:=w) (hT _ z hz);split at h
    ·rename_i r k i f
     cases hx with
     | pt r k i f b o hm =>
     split at h
     ·rename_i hn;cases h;refine⟨.pointer (some ⟨b,o+i*k+(f+n.toNat*z.size),none⟩),?_,.pt r k i _ b o hm⟩;simp only[Instr.indexAt,asIntOf,Sem.run_bind,Sem.run_pure,Result.andThen_ok,hu,Instr.sureAddr];rw[if_pos hn];simp[hsz,Jz];omega
     ·cases h
    ·rename_i d;split at h
     ·rename_i hn;split at h
      ·rename_i c hc;split at h
       ·rename_i hc1;cases h
        cases hx with
        | dp x b o vs hS hcl hrd =>
        have hcells:c.cells=[c]:=by
         cases c<;>first|rfl | (have:=hc1.2; simp[D.isAgg]at this)
        refine⟨.pointer (some ⟨b,o+n.toNat,none⟩),?_,.dp c b _ (fun j=>vs (n.toNat+j)) hS (fun j q hq=>?_) (fun j q hq=>?_)⟩
        ·simp only[Instr.indexAt,asIntOf,Sem.run_bind,Sem.run_pure,Result.andThen_ok,hu,Instr.sureAddr];rw[if_pos ⟨hn.1,hn.2.1⟩];simp[hsz,Jz,hn.2.2]
        ·rw[hcells]at hq
         cases j with
         | succ j=>simp at hq|zero =>
          simp at hq; subst hq;have:=hcl n.toNat _ hc;simpa using this
        ·rw[hcells]at hq
         cases j with
         | succ j=>simp at hq|zero =>
          simp at hq; subst hq;exact hrd n.toNat _ hc
       ·cases h
      ·cases h
     ·cases h
    ·cases h
   ·cases h
  ·cases h
 ·cases h
def qwr {cs:Array Value} {t:TypeId} {z:Ty} {off:Nat} (hz:q8 P t=some z) (ha:z.agg=true) :
  (part t cs off).run P w=.ok (.agg (cs.extract off (off+z.size))) w:=by
 simp[part,qkT hz,ha,qav hz]
def qws {cs:Array Value} {t:TypeId} {z:Ty} {off:Nat} {v:Value} (hz:q8 P t=some z) (ha:z.agg=false) (h:cs[off]?=some v) :
  (part t cs off).run P w=.ok v w:=by
 simp[part,qkT hz,ha,h]
def qwt {xs:List V} {arr:Array Value} (h:RVs m S w xs arr) (off n:Nat) (hl:off+n<=xs.length):RVs m S w ((xs.drop off).take n) (arr.extract off (off+n)):=by
 have h1:=h.1;refine⟨by simp; omega,fun j x v hx hv=>?_⟩;rw[qUh]at hx;split at hx
 ·rename_i hj;rw[qUk]at hx;refine h.2 (off+j) x v hx ?_;rw[Array.getElem?_extract]at hv;split at hv
  ·exact hv
  ·cases hv
 ·cases hx
def qpX {t:TypeId} {z:Ty} {x v:V} {vr:Value} {off:Nat} (hz:q8 P t=some z) (h:qdL z x off=some v) (hx:RV m S w x vr) :
  ∃cs,vr=.agg cs/\∃u,(part t cs off).run P w=.ok u w/\RV m S w v u:=by
 unfold qdL at h;split at h
 ·rename_i cs;obtain⟨arr,rfl,hr⟩:=qEp hx;refine⟨arr,rfl,?_⟩;split at h
  ·rename_i ha;split at h
   ·rename_i hl;cases h;refine⟨_,qwr hz ha,qkU ?_⟩;have:=qwt hr off z.size (by simpa using hl);simpa[qUL,qV5]using this
   ·cases h
  ·rename_i ha;split at h
   ·rename_i c hc;cases h;obtain⟨u,hu,hru⟩:=hr.get (j:=off) (x:=.d c) (by simp[hc]);exact⟨u,qws hz (by simpa using ha) hu,hru⟩
   ·cases h
 ·rename_i cs
  cases hx with
  | agg _ arr hlen hd =>
  refine⟨arr,rfl,?_⟩;split at h
  ·rename_i ha;split at h
   ·rename_i hl;cases h;exact⟨_,qwr hz ha,qhz (qwt ⟨hlen,hd⟩ off z.size hl)⟩
   ·cases h
  ·rename_i ha;obtain⟨u,hu,hru⟩:=RVs.get (m:=m) (S:=S) (w:=w) ⟨hlen,hd⟩ h;exact⟨u,qws hz (by simpa using ha) hu,hru⟩
 ·cases h
def qEs (hT:TOK P T) {t:TypeId} {f:Nat} {x v:V} {vr:Value} (h:qkp T t f x=some v) (hx:RV m S w x vr) :
  ∃u,(Instr.field t vr f).run P w=.ok u w/\RV m S w v u:=by
 unfold qkp at h;split at h
 ·rename_i y hy;have hu:=YD (w:=w) (hT t y hy);split at h
  ·rename_i fs hfs;rw[hfs]at hu;split at h
   ·rename_i fl hfl;split at h
    ·rename_i z hz;obtain⟨cs,rfl,u,h1,h2⟩:=qpX (hT _ z hz) h hx;exact⟨u,by simp[Instr.field,hu,hfl,asAgg,h1],h2⟩
    ·cases h
   ·cases h
  ·cases h
 ·cases h
def qEt (hT:TOK P T) {t:TypeId} {x ix v:V} {xr ir:Value} (h:qdM T t x ix=some v) (hx:RV m S w x xr) (hi:RV m S w ix ir) :
  ∃u,(Instr.index t xr ir).run P w=.ok u w/\RV m S w v u:=by
 unfold qdM at h;split at h
 ·rename_i y k0 n hy;have e:=qax hi; subst e;have hu:=YD (w:=w) (hT t y hy);split at h
  ·rename_i len e x' hde;rw[hde]at hu;split at h
   ·rename_i z hz;split at h
    ·rename_i hn;obtain⟨cs,rfl,u,h1,h2⟩:=qpX (hT _ z hz) h hx;refine⟨u,?_,h2⟩;simp only[Instr.index,asIntOf,Sem.run_bind,Sem.run_pure,Result.andThen_ok,hu];rw[if_pos hn];simp[qav (hT _ z hz),h1]
    ·cases h
   ·cases h
  ·rename_i s hde;rw[hde]at hu;have e:=qdZ hx; subst e;split at h
   ·rename_i hn;split at h
    ·rename_i b hb;cases h;refine⟨.int .u8 b.toNat,?_,.d _ _ (.int _ _)⟩;simp[Instr.index,asIntOf,hu,hn,hb]
    ·cases h
   ·cases h
  ·cases h
 ·cases h
def qEu {op:BinOp} {k:IntKind} {a b:Int} {d:D} (h:qc3 op k a b=some d) (t:TypeId) :
    ∃u,(binOp op t (.int k a) (.int k b)).run P w=.ok u w/\RD S w d u:=by
  unfold qc3 at h;split at h<;>first
    | (cases h; exact⟨_,by simp only[binOp,ne_eq,not_true_eq_false,if_false]; rfl,by constructor⟩)
    | (split at h
       · cases h
       · rename_i hb; cases h; exact⟨_,by simp only[binOp,ne_eq,not_true_eq_false,if_false,Op.intDiv,if_neg hb]; rfl,by constructor⟩)
    | cases h
def qEv {op:BinOp} {a b:ByteArray} {d:D} (h:qkq op a b=some d) (t:TypeId) :
    ∃u,(binOp op t (.string a) (.string b)).run P w=.ok u w/\RD S w d u:=by
  unfold qkq at h;split at h<;>first
    | (cases h; exact⟨_,by simp only[binOp,Op.stringOp]; rfl,by constructor⟩)
    | (split at h
       · cases h
       · rename_i hb; cases h; exact⟨_,by simp only[binOp,Op.stringOp]; rw[if_neg hb]; rfl,by constructor⟩)
    | cases h
def qkX {op:BinOp} {t:TypeId} {x y:Operand} {a b:Value} (ha:a.oneCell'=true) (hn:a≠.nilIface):(eqGuard op t x y a b).run P w=.ok () w:=by
 unfold eqGuard;cases op<;>simp only[qUP,qVa,qUW,if_false,if_true] <;>
  first
  | rfl
  | (cases a<;>first|rfl|exact absurd rfl hn|simp[Value.oneCell']at ha)
def qwu {t:TypeId} {a b:Bool} {y:Ty} (hy:q8 P t=some y) (hd:y.desc=.bool):(Op.equal t (.bool a) (.bool b)).run P w=.ok (a==b) w:=by
 have hu:=YD (w:=w) hy;rw[hd]at hu;rw[Op.equal,show Op.maxDepth=9999+1 from rfl,Op.equalIn];simp only[Sem.run_bind,hu,Result.andThen_ok];rfl
inductive qby:TypeDesc->Value->Value->Bool->Prop
 | s0 (e n c n' c'):qby (.slice e) (.slice none n c) (.slice none n' c') true
 | s1 (e p n c n' c'):qby (.slice e) (.slice (some p) n c) (.slice none n' c') false
 | p0 (e):qby (.pointer e) (.pointer none) (.pointer none) true
 | p1 (e p):qby (.pointer e) (.pointer (some p)) (.pointer none) false
 | f0 (a b c):qby (.func a b c) .nilFunc .nilFunc true
 | f1 (a b c f x y):qby (.func a b c) (.func f x y) .nilFunc false
 | m0 (k v):qby (.map k v) (.map none) (.map none) true
 | m1 (k v r):qby (.map k v) (.map (some r)) (.map none) false
 | i0 (ms) (h:ms.isEmpty=true):qby (.interface ms) .nilIface .nilIface true
def qpY {t:TypeId} {z:Ty} {b:Bool} {xr yr:Value} (hz:q8 P t=some z) (h:qby z.desc xr yr b) :
  (Op.equal t xr yr).run P w=.ok b w/\(∀op xo yo,(eqGuard op t xo yo xr yr).run P w=.ok () w) /\
   (binOp .eql t xr yr=do pure (.bool (<-Op.equal t xr yr)))/\(binOp .neq t xr yr=do pure (.bool (!(<-Op.equal t xr yr)))):=by
 have hu:=YD (w:=w) hz;generalize z.desc=d at h hu;have he:(Op.equal t xr yr).run P w=.ok b w:=by
  rw[Op.equal,show Op.maxDepth=9999+1 from rfl,Op.equalIn];simp only[Sem.run_bind,hu,Result.andThen_ok];cases h<;>rfl
 refine⟨he,?_,?_,?_⟩
 ·cases h
  case i0 ms hms =>
   intro op xo yo;have hg:(Op.eqGuardIn Op.maxDepth t .nilIface .nilIface).run P w=.ok false w:=by
    rw[show Op.maxDepth=9999+1 from rfl,Op.eqGuardIn];simp only[Sem.run_bind,hu,Result.andThen_ok,hms];rfl
   unfold eqGuard;cases op<;>first
    | rfl
    | (cases xo<;>cases yo<;>first
      | rfl
      | (simp[Sem.run_bind,hg,Result.andThen_ok]))
  all_goals exact fun op xo yo=>qkX rfl (by simp)
 ·cases h<;>rfl
 ·cases h<;>rfl
def qwv {d:TypeDesc} {x y:V} {b:Bool} {xr yr:Value} (h:qdN d x y=some b) (hx:RV m S w x xr) (hy:RV m S w y yr):qby d xr yr b:=by
 unfold qdN at h;split at h
 ·cases h; cases hx; cases hy; exact .s0 ..
 ·cases h; cases hy
  cases hx with
  | sl _ _ _ _ _ _ b o c' p hm hl hc he hp hb =>
   rcases hp with h0|rfl
   ·omega
   ·exact .s1 ..
 ·cases h; cases hy;have:=Yh hx;cases this; exact .s1 ..
 ·cases h; have h1:=Yh hx; have h2:=Yh hy; cases h1; cases h2; exact .p0 ..
 ·cases h; have h2:=Yh hy; cases h2; cases hx; exact .p1 ..
 ·cases h; have h2:=Yh hy; cases h2; cases hx; exact .p1 ..
 ·cases h; have h1:=Yh hx; have h2:=Yh hy; cases h1; cases h2; exact .f0 ..
 ·cases h; have h2:=Yh hy; cases h2; cases hx; exact .f1 ..
 ·cases h; have h2:=Yh hy; cases h2; cases hx; exact .f1 ..
 ·cases h; have h1:=Yh hx; have h2:=Yh hy; cases h1; cases h2; exact .m0 ..
 ·cases h; have h2:=Yh hy; cases h2; cases hx; exact .m1 ..
 ·split at h
  ·rename_i hms; cases h; have h1:=Yh hx; have h2:=Yh hy; cases h1; cases h2; exact .i0 _ hms
  ·cases h
 ·cases h
def qEw (hT:TOK P T) {op:BinOp} {t:TypeId} {x y v:V} {xr yr:Value} {xo yo:Operand} (h:eqA T op t x y=some v) (hx:RV m S w x xr) (hy:RV m S w y yr) :
  ∃u,(do eqGuard op t xo yo xr yr; binOp op t xr yr:Sem Value).run P w=.ok u w/\RV m S w v u:=by
 unfold eqA at h;split at h
 ·rename_i z hz;split at h
  ·rename_i b hb;cases h;obtain⟨h1,h2,h3,h4⟩:=qpY (w:=w) (hT t z hz) (qwv hb hx hy);exact⟨.bool b,by simp only[Sem.run_bind,h2,Result.andThen_ok,h3,h1,Sem.run_pure],.d _ _ (.bool _)⟩
  ·rename_i b hb;cases h;obtain⟨h1,h2,h3,h4⟩:=qpY (w:=w) (hT t z hz) (qwv hb hx hy);exact⟨.bool (!b),by simp only[Sem.run_bind,h2,Result.andThen_ok,h4,h1,Sem.run_pure],.d _ _ (.bool _)⟩
  ·cases h
 ·cases h
def qEx (hT:TOK P T) {op:BinOp} {t:TypeId} {x y v:V} {xr yr:Value} {xo yo:Operand} (h:Jt T op t x y=some v) (hx:RV m S w x xr) (hy:RV m S w y yr) :
  ∃u,(do eqGuard op t xo yo xr yr; binOp op t xr yr:Sem Value).run P w=.ok u w/\RV m S w v u:=by
 unfold Jt at h;split at h
 ·rename_i k a k' b;have e:=qax hx; subst e;have e:=qax hy; subst e;simp only[Sem.run_bind,qkX (a:=.int k a) rfl (by simp),Result.andThen_ok];split at h
  ·split at h
   ·cases h
   ·rename_i hb; cases h; exact⟨_,by simp only[binOp,Op.shift,if_neg hb]; rfl,.d _ _ (.int _ _)⟩
  ·split at h
   ·cases h
   ·rename_i hb; cases h; exact⟨_,by simp only[binOp,Op.shift,if_neg hb]; rfl,.d _ _ (.int _ _)⟩
  ·split at h
   ·rename_i hk; subst hk
    cases hd:qc3 op k a b with
    | none=>rw[hd]at h; cases h
    | some d =>
     rw[hd]at h; cases h;obtain⟨u,h1,h2⟩:=qEu (P:=P) (S:=S) (w:=w) hd t;exact⟨u,h1,.d _ _ h2⟩
   ·cases h
 ·rename_i a b;have e:=qdZ hx; subst e;have e:=qdZ hy; subst e;simp only[Sem.run_bind,qkX (a:=.string a) rfl (by simp),Result.andThen_ok]
  cases hd:qkq op a b with
  | none=>rw[hd]at h; cases h
  | some d =>
   rw[hd]at h; cases h;obtain⟨u,h1,h2⟩:=qEv (P:=P) (S:=S) (w:=w) hd t;exact⟨u,h1,.d _ _ h2⟩
 ·rename_i a b;have e:=qdb hx; subst e;have e:=qdb hy; subst e;simp only[Sem.run_bind,qkX (a:=.bool a) rfl (by simp),Result.andThen_ok];split at h
  ·rename_i z hz;split at h
   ·rename_i hde;cases h;have he:=qwu (w:=w) (a:=a) (b:=b) (hT t z hz) hde;exact⟨.bool (a==b),by
     show Sem.run P (do pure (.bool (<-Op.equal t (.bool a) (.bool b))):Sem Value) w=_;simp only[Sem.run_bind,he,Result.andThen_ok,Sem.run_pure],.d _ _ (.bool _)⟩
   ·rename_i hde;cases h;have he:=qwu (w:=w) (a:=a) (b:=b) (hT t z hz) hde;exact⟨.bool (!(a==b)),by
     show Sem.run P (do pure (.bool (!(<-Op.equal t (.bool a) (.bool b)))):Sem Value) w=_;simp only[Sem.run_bind,he,Result.andThen_ok,Sem.run_pure],.d _ _ (.bool _)⟩
   ·cases h
  ·cases h
 ·exact qEw hT h hx hy
def qEy {op:UnOp} {x v:V} {xr:Value} (h:unA op x=some v) (hx:RV m S w x xr):∃u,(Op.unary op xr).run P w=.ok u w/\RV m S w v u:=by
 unfold unA at h;split at h
 ·cases h; have e:=qax hx; subst e;exact⟨_,by simp[Op.unary,Op.intArith],.d _ _ (.int _ _)⟩
 ·cases h; have e:=qdb hx; subst e;exact⟨_,by simp[Op.unary],.d _ _ (.bool _)⟩
 ·cases h; have e:=qax hx; subst e;exact⟨_,by simp[Op.unary,Op.intBits],.d _ _ (.int _ _)⟩
 ·cases h
def qd0 (m:Mp) (S:Nat->Prop) (w:World):Option V->Option Value->Prop
 | none,none=>True|some x,some v=>RV m S w x v|_,_=>False
def qh4 {x:V} {v:Value} {n d:Nat} (h:YK (some x) d=some n) (hx:RV m S w x v):∃k i,v=.int k i/\0<=i/\i.toNat=n:=by
 cases x with
 | d y =>
  cases y with
  | int k i =>
   have e:=qax hx;simp only[YK]at h;split at h
   ·cases h; exact⟨k,i,e,by assumption,rfl⟩
   ·cases h
  | _=>simp[YK]at h
 | _=>simp[YK]at h
def qh5 {v:Value} {k:IntKind} {i:Int} {y:Nat} {code:BoundsCode} (hv:v=.int k i) (h0:0<=i) (hy:i.toNat<=y) :
  (Instr.sliceBound v y code).run P w=.ok i.toNat w:=by
 subst hv;simp only[Instr.sliceBound,asIntOf,Sem.run_bind,Sem.run_pure,Result.andThen_ok];rw[if_pos ⟨h0,by omega⟩];rfl
def qgg {isS:Bool} {len cap l h:Nat} {lo hi:Option V} {lr hr:Option Value} (hlo:qd0 m S w lo lr) (hhi:qd0 m S w hi hr)
  (el:YK lo 0=some l) (eh:YK hi len=some h) (h1:l<=h) (h2:h<=cap):(Instr.sliceBounds isS len cap lr hr none).run P w=.ok (l,h,cap) w:=by
 have low:∀(k:Nat) (v:Value) (code:BoundsCode),lr=some v->l<=k->(Instr.sliceBound v k code).run P w=.ok l w:=by
  intro k v code e hk;subst e
  cases lo with
  | none=>exact hlo.elim|some x=>obtain⟨k,i,e1,e2,e3⟩:=qh4 el hlo; rw[qh5 e1 e2 (by omega),e3]
 have high:∀(v:Value) (code:BoundsCode),hr=some v->(Instr.sliceBound v cap code).run P w=.ok h w:=by
  intro v code e;subst e
  cases hi with
  | none=>exact hhi.elim|some x=>obtain⟨k,i,e1,e2,e3⟩:=qh4 eh hhi; rw[qh5 e1 e2 (by omega),e3]
 have hn:hr=none->len=h:=by
  rintro rfl
  cases hi with
  | none=>simpa[YK]using eh|some x=>exact hhi.elim
 have ln:lr=none->0=l:=by
  rintro rfl
  cases lo with
  | none=>simpa[YK]using el|some x=>exact hlo.elim
 unfold Instr.sliceBounds
 cases hr with
 | none =>
  have:=hn rfl; subst this
  cases lr with
  | none=>have:=ln rfl; subst this; rfl
  | some v=>simp[low _ v _ rfl h1]
 | some u =>
  cases lr with
  | none=>have:=ln rfl; subst this; simp[high u _ rfl]
  | some v=>simp[high u _ rfl,low _ v _ rfl h1]
def qpZ {isS:Bool} {len cap l h mm:Nat} {lo hi:Option V} {mv:V} {lr hr:Option Value} {mr:Value} (hlo:qd0 m S w lo lr) (hhi:qd0 m S w hi hr) (hmx:RV m S w mv mr)
  (el:YK lo 0=some l) (eh:YK hi len=some h) (em:YK (some mv) 0=some mm) (h1:l<=h) (h2:h<=mm) (h3:mm<=cap) (h4:hi.isSome=true) :
  (Instr.sliceBounds isS len cap lr hr (some mr)).run P w=.ok (l,h,mm) w:=by
 have low:∀(k:Nat) (v:Value) (code:BoundsCode),lr=some v->l<=k->(Instr.sliceBound v k code).run P w=.ok l w:=by
  intro k v code e hk;subst e
  cases lo with
  | none=>exact hlo.elim|some x=>obtain⟨k,i,e1,e2,e3⟩:=qh4 el hlo; rw[qh5 e1 e2 (by omega),e3]
 have ln:lr=none->0=l:=by
  rintro rfl
  cases lo with
  | none=>simpa[YK]using el|some x=>exact hlo.elim
 have hM:∀code,(Instr.sliceBound mr cap code).run P w=.ok mm w:=fun code=>by
  obtain⟨k2,i2,f1,f2,f3⟩:=qh4 em hmx;rw[qh5 f1 f2 (by omega),f3]
 cases hi with
 | none=>cases h4
 | some x =>
  cases hr with
  | none=>exact hhi.elim|some u =>
   have high:∀code,(Instr.sliceBound u mm code).run P w=.ok h w:=fun code=>by
    obtain⟨k,i,e1,e2,e3⟩:=qh4 eh hhi;rw[qh5 e1 e2 (by omega),e3]
   unfold Instr.sliceBounds
   cases lr with
   | none=>have:=ln rfl; subst this; simp[hM,high]
   | some v=>simp[hM,high,low _ v _ rfl h1]
def qEz (inv:Inv w0 own m S w rows) {r:Nat} {cs:List V} {ro:Bool} {b o:Nat} (hr:rows[r]?=some (qc.live (.box cs ro))) (hm:m r=some (b,o)) (hp:0<cs.length):o+cs.length<=Yf w b:=by
 obtain⟨c,e,hb,h3⟩:=Y8 inv hr hm;obtain⟨v,hv,_⟩:=h3 (cs.length - 1) (cs[cs.length - 1]'(by omega)) (by simp);have:=(qUY.1 hv).1;unfold Yf;rw[hb];show o+cs.length<=c.size;omega
def qEA (hT:TOK P T) {t:TypeId} {x v:V} {xr:Value} (h:qks T t x=some v) (hx:RV m S w x xr):∃u,(Instr.makeInterface t xr).run P w=.ok u w/\RV m S w v u:=by
 unfold qks at h;split at h
 ·rename_i y hy;have hu:=YD (w:=w) (hT t y hy);split at h
  ·cases h
  ·rename_i hn;cases h;refine⟨.iface t xr,?_,.ifc _ _ _ hx⟩;simp only[Instr.makeInterface,Sem.run_bind,hu,Result.andThen_ok];generalize y.desc=d at hn;cases d<;>first|rfl|exact absurd rfl (hn _)
 ·cases h
def qEB (hT:TOK P T) {xt t:TypeId} {ok:Bool} {x v:V} {xr:Value} (h:qkt T t ok x=some v) (hx:RV m S w x xr):∃u,(Instr.typeAssert xr xt t ok).run P w=.ok u w/\RV m S w v u:=by
 unfold qkt at h;split at h
 ·rename_i y hy;have hu:=YD (w:=w) (hT t y hy);split at h
  ·cases h
  ·rename_i hn;split at h
   ·rename_i t' v';split at h
    ·rename_i ht;subst ht;cases h
     cases hx with
     | ifc t x u hx =>
     refine⟨if ok then .tuple #[u,.bool true]else u,?_,?_⟩
     ·simp only[Instr.typeAssert,Sem.run_bind,hu,Result.andThen_ok];generalize y.desc=d at hn;cases d<;>first | (simp; done) | exact absurd rfl (hn _)
     ·cases ok
      ·exact hx
      ·exact .tup _ _ rfl (fun j x v hx' hv=>by
        match j with
        | 0=>simp at hx' hv; subst hx'; subst hv; exact hx|1=>simp at hx' hv; subst hx'; subst hv; exact .d _ _ (.bool _)|j+2=>simp at hx')
    ·cases h
   ·cases h
 ·cases h
def qEC (hT:TOK P T) {t:TypeId} {x v:V} {xr:Value} (h:qku T t x=some v) (hx:RV m S w x xr):∃u,(Instr.arrayAt t xr).run P w=.ok u w/\RV m S w v u:=by
 unfold qku at h;split at h
 ·rename_i y hy;have hu:=YD (w:=w) (hT t y hy);split at h
  ·rename_i n e hde;rw[hde]at hu;split at h
   ·rename_i r k off len c ex;split at h
    ·rename_i hcond;cases h
     cases hx with
     | sl r k off len c ex b o c' p hm hl hc he hp hb =>
     have hp':p=some ⟨b,o+off*k,none⟩:=by
      rcases hp with hp|hp
      ·omega
      ·exact hp
     subst hp';refine⟨.pointer (some ⟨b,o+off*k,none⟩),?_,.pt r k off 0 b o hm⟩;simp only[Instr.arrayAt,Sem.run_bind,hu,Result.andThen_ok];rw[if_neg (by omega)];rfl
    ·cases h
   ·rename_i es;split at h
    ·rename_i hcond;obtain⟨h1,h2,h3⟩:=hcond;cases h;have hrd:=Yh hx
     cases hrd with
     | emp p cap=>simp at h2; omega|row es b o cap k' n' vs hn hcap hS hk' h1' hc hd =>
      refine⟨.pointer (some ⟨b,o,none⟩),?_,.dp _ b o vs hS (fun j d hj=>?_) (fun j d hj=>?_)⟩
      ·simp only[Instr.arrayAt,Sem.run_bind,hu,Result.andThen_ok];rw[if_neg (by omega)];rfl
      ·simp only[D.cells,qUh]at hj;split at hj
       ·exact hc j d hj
       ·cases hj
      ·simp only[D.cells,qUh]at hj;split at hj
       ·exact hd j d hj
       ·cases hj
    ·cases h
   ·cases h
  ·cases h
 ·cases h
def qww {S:Nat->Prop} {w:World} {es:List D} {b o k z l hh mm:Nat} {vs:Nat->Value} (hlh:l<=hh) (hhl:hh<=es.length) (hS:S b)
  (hk:∀e∈es,e.cells.length=k) (h1:∀d∈qn es,d.isAgg=false)
  (hcl:∀(j:Nat) (d:D),(qn es)[j]?=some d->cl w b (o+j)=some (vs j))
  (hd:∀(j:Nat) (d:D),(qn es)[j]?=some d->RD S w d (vs j)) (hall:(es.all fun e=>e.cells.length==z)=true) (hm:hh<=mm) (hm2:l<=mm) :
  RD S w (.list ((es.drop l).take (hh - l))) (.slice (if mm=l then some ⟨b,o,none⟩else some ((⟨b,o,none⟩:Addr).add (l*z))) (hh - l) (mm - l)):=by
 by_cases hlen:hh - l=0
 ·rw[hlen]; simp; exact .emp _ _
 ·have hne:¬mm=l:=by omega
  rw[if_neg hne,Jz];have hkz:k=z:=by
   have hm:es[0]?=some (es[0]'(by omega)):=by simp
   have hk1:=hk _ (qUi hm);have h2:=(qTI.1 hall) _ (qUi hm);simp at h2;omega
  rw[<-hkz];refine .row _ b (o+l*k) (mm - l) k (hh - l) (fun j=>vs (l*k+j)) (by simp; omega) (by omega) hS (fun e he=>hk e (qcp he)) (fun d hd=>h1 d (qeN (fun e he=>qcp he) hd)) (fun j d hj=>?_) (fun j d hj=>?_)
  ·have:=hcl _ d (qeM hk l (hh - l) j d hj);rwa[<-qWm]at this
  ·exact hd _ d (qeM hk l (hh - l) j d hj)
def qED (hT:TOK P T) (hg:GOK g rows) (inv:Inv w0 own m S w rows) {t:TypeId} {x v:V} {lo hi mx:Option V} {xr:Value} {lr hr mr:Option Value} (h:qcw T g t x lo hi mx=some v) (hx:RV m S w x xr)
  (hlo:qd0 m S w lo lr) (hhi:qd0 m S w hi hr) (hmx:qd0 m S w mx mr):∃u,(Instr.sliceAt t xr lr hr mr).run P w=.ok u w/\RV m S w v u:=by
 unfold qcw at h;split at h
 ·rename_i y hy;have hu:=YD (w:=w) (hT t y hy);split at h
  ·rename_i e r k off len c ex hde;rw[hde]at hu
   cases hx with
   | sl r k off len c ex b o c' p hm hl hc he hp hb =>
   split at h
   ·rename_i z l hh hz el eh;have hsz:=qav (w:=w) (hT _ z hz);split at h
    ·rename_i hcond;obtain⟨rfl,hlh,hhl⟩:=hcond;have hhc:hh<=c':=by rcases hhl with h1|h1<;>omega
     split at h
     ·cases mr with
      | some v=>exact hmx.elim|none =>
      cases h;have hbd:=qgg (P:=P) (isS:=true) (len:=len) (cap:=c') hlo hhi el eh hlh hhc;refine⟨.slice (if c'=l then p else p.map (·.add (l*z.size))) (hh - l) (c' - l),?_,?_⟩
      ·simp[Instr.sliceAt,hu,Instr.slice,hbd,hsz]
      ·refine .sl r z.size (off+l) (hh - l) (c - l) ex b o (c' - l) _ hm (by omega) (by omega) (fun hex=>by rw[he hex]) ?_ ?_
       ·by_cases hcl:c'=l
        ·left; omega
        ·right;rw[if_neg hcl];rcases hp with hp|hp
         ·omega
         ·rw[hp]; simp[Jz]; rw[qUf]; omega
       ·have:off+l+(c' - l)=off+c':=by omega
        rw[this]; exact hb
     ·rename_i mv
      cases mr with
      | none=>exact hmx.elim|some mrv =>
      split at h
      ·rename_i mm em;split at h
       ·rename_i hm2;cases h;have em':YK (some mv) 0=some mm:=em;have hbd:=qpZ (P:=P) (isS:=true) (len:=len) (cap:=c') hlo hhi hmx el eh em' hlh hm2.1 (by omega) hm2.2.2;refine⟨.slice (if mm=l then p else p.map (·.add (l*z.size))) (hh - l) (mm - l),?_,?_⟩
        ·simp[Instr.sliceAt,hu,Instr.slice,hbd,hsz]
        ·refine .sl r z.size (off+l) (hh - l) (mm - l) true b o (mm - l) _ hm (by omega) (by omega) (fun _=>rfl) ?_ ?_
         ·by_cases hcl:mm=l
          ·left; omega
          ·right;rw[if_neg hcl];rcases hp with hp|hp
           ·omega
           ·rw[hp]; simp[Jz]; rw[qUf]; omega
         ·refine qT2 (Nat.add_le_add_left (qUp _ ?_) _) hb;omega
       ·cases h
      ·cases h
    ·cases h
   ·cases h
  ·rename_i e es hde;rw[hde]at hu;split at h
   ·rename_i z l hh hz el eh;have hsz:=qav (w:=w) (hT _ z hz);split at h
    ·rename_i hcond;obtain⟨hlh,hhl,hall⟩:=hcond;have hrd:=Yh hx;split at h
     ·cases mr with
      | some v=>exact hmx.elim|none =>
      cases h
      cases hrd with
      | emp p cap =>
       simp at hhl;subst hhl;have:l=0:=by omega
       subst this;have hbd:=qgg (P:=P) (isS:=true) (len:=0) (cap:=cap) hlo hhi el eh hlh (by omega);exact⟨.slice (if cap=0 then p else p.map (·.add (0*z.size))) 0 cap,by simp[Instr.sliceAt,hu,Instr.slice,hbd,hsz],.d _ _ (.emp _ _)⟩
      | row es b o cap k n vs hn hcap hS hk h1 hcl hd =>
       have hbd:=qgg (P:=P) (isS:=true) (len:=n) (cap:=cap) hlo hhi el (by rw[hn]; exact eh) hlh (by omega);refine⟨.slice (if cap=l then some ⟨b,o,none⟩else some ((⟨b,o,none⟩:Addr).add (l*z.size))) (hh - l) (cap - l),by
        simp[Instr.sliceAt,hu,Instr.slice,hbd,hsz],.d _ _ ?_⟩
       exact qww (z:=z.size) hlh (by omega) hS hk h1 hcl hd hall (by omega) (by omega)
     ·rename_i mv
      cases mr with
      | none=>exact hmx.elim|some mrv =>
      split at h
      ·rename_i mm em;split at h
       ·rename_i hm2;cases h;have em':YK (some mv) 0=some mm:=em
        cases hrd with
        | emp p cap =>
         have hhl0:hh=0:=by simpa using hhl
         have hm0:mm=0:=by simpa using hm2.2.1
         subst hhl0;subst hm0;have:l=0:=by omega
         subst this;have hbd:=qpZ (P:=P) (isS:=true) (len:=0) (cap:=cap) hlo hhi hmx el eh em' hlh (by omega) (by omega) hm2.2.2;exact⟨.slice (if 0=0 then p else p.map (·.add (0*z.size))) 0 0,by simp[Instr.sliceAt,hu,Instr.slice,hbd,hsz],.d _ _ (.emp _ _)⟩
        | row es b o cap k n vs hn hcap hS hk h1 hcl hd =>
         have hbd:=qpZ (P:=P) (isS:=true) (len:=n) (cap:=cap) hlo hhi hmx el (by rw[hn]; exact eh) em' hlh hm2.1 (by omega) hm2.2.2;refine⟨.slice (if mm=l then some ⟨b,o,none⟩else some ((⟨b,o,none⟩:Addr).add (l*z.size))) (hh - l) (mm - l),by
          simp[Instr.sliceAt,hu,Instr.slice,hbd,hsz],.d _ _ ?_⟩
         exact qww (z:=z.size) hlh (by omega) hS hk h1 hcl hd hall (by omega) (by omega)
       ·cases h
      ·cases h
    ·cases h
   ·cases h
  ·rename_i e hde;rw[hde]at hu;cases hx;split at h
   ·rename_i z hz el eh
    cases mr with
    | some v=>exact hmx.elim|none =>
    cases h;have hbd:=qgg (P:=P) (isS:=true) (len:=0) (cap:=0) hlo hhi el eh (qTF 0) (qTF 0);exact⟨.slice none 0 0,by simp[Instr.sliceAt,hu,Instr.slice,hbd,qav (hT _ z hz)],.nil⟩
   ·cases h
  ·rename_i s hde;rw[hde]at hu;have e:=qdZ hx; subst e;split at h
   ·rename_i l hh el eh
    cases mr with
    | some v=>exact hmx.elim|none =>
    split at h
    ·rename_i hcond;cases h;have hbd:=qgg (P:=P) (isS:=false) (len:=s.size) (cap:=s.size) hlo hhi el eh hcond.1 hcond.2;exact⟨_,by simp[Instr.sliceAt,hu,Instr.slice,hbd],.d _ _ (.str _)⟩
    ·cases h
   ·cases h
  ·rename_i n e r k i f hde;rw[hde]at hu;split at h
   ·rename_i z l hh cs ro hz el eh hgr;have hsz:=qav (w:=w) (hT _ z hz)
    cases mr with
    | some v=>exact hmx.elim|none =>
    split at h
    ·rename_i hcond;obtain⟨hz1,hlh,hhn,hfit,hn0⟩:=hcond;cases h
     cases hx with
     | pt r k i f b o hm =>
     have hsize:=qEz inv (hg r _ hgr) hm (by omega);have hbd:=qgg (P:=P) (w:=w) (isS:=false) (len:=n) (cap:=n) hlo hhi el eh hlh hhn;refine⟨.slice (some (if n=l then⟨b,o+i*k+f,none⟩else(⟨b,o+i*k+f,none⟩:Addr).add (l*z.size))) (hh - l) (n - l),?_,?_⟩
     ·simp[Instr.sliceAt,hu,Instr.sureAddr,hbd,hsz]
     ·refine .sl r 1 (i*k+f+l) (hh - l) (n - l) true b o (n - l) _ hm (by omega) (qTF _) (fun _=>rfl) ?_ (by omega)
      by_cases hcl:n=l
      ·left; omega
      ·right;rw[if_neg hcl,hz1,Jz];simp only[qUA]
       congr 2
       omega
    ·cases h
   ·cases h
  ·cases h
 ·cases h
def qEE (hT:TOK P T) {t ty:TypeId} {x v:V} {xr:Value} {ats:Array TypeId} {args:Array Value} (h:qkv T t x=some v) (hx:RV m S w x xr) (ha:ats[0]?=some t) (hb:args[0]?=some xr) :
  ∃u,(Builtin.len_ ats ty args).run P w=.ok u w/\RV m S w v u:=by
 unfold qkv at h;split at h
 ·rename_i y hy;have hu:=YD (w:=w) (hT t y hy);simp only[Builtin.len_,ha,hb,Sem.run_bind,hu,Result.andThen_ok];split at h
  ·rename_i hde; rw[hde]; cases h; cases hx;exact⟨_,rfl,.d _ _ (.int _ _)⟩
  ·rename_i hde; rw[hde]; cases h; cases hx;exact⟨_,rfl,.d _ _ (.int _ _)⟩
  ·rename_i es hde; rw[hde]; cases h;have hrd:=Yh hx
   cases hrd with
   | emp p cap=>exact⟨_,rfl,.d _ _ (.int _ _)⟩|row es b o cap k n vs hn=>subst hn; exact⟨_,rfl,.d _ _ (.int _ _)⟩
  ·rename_i s hde; rw[hde]; cases h;have e:=qdZ hx; subst e;exact⟨_,rfl,.d _ _ (.int _ _)⟩
  ·rename_i hde; rw[hde]; cases h;exact⟨_,by cases xr<;>rfl,.d _ _ (.int _ _)⟩
  ·cases h
 ·cases h
def qEF (hT:TOK P T) {t ty:TypeId} {x v:V} {xr:Value} {ats:Array TypeId} {args:Array Value} (h:qkw T t x=some v) (hx:RV m S w x xr) (ha:ats[0]?=some t) (hb:args[0]?=some xr) :
  ∃u,(Builtin.cap_ ats ty args).run P w=.ok u w/\RV m S w v u:=by
 unfold qkw at h;split at h
 ·rename_i y hy;have hu:=YD (w:=w) (hT t y hy);simp only[Builtin.cap_,ha,hb,Sem.run_bind,hu,Result.andThen_ok];split at h
  ·rename_i hde; rw[hde]; cases h
   cases hx with
   | sl r k off len c ex b o c' p hm hl hc he hp hb=>rw[he rfl]; exact⟨_,rfl,.d _ _ (.int _ _)⟩
  ·rename_i hde; rw[hde]; cases h; cases hx;exact⟨_,rfl,.d _ _ (.int _ _)⟩
  ·cases h
 ·cases h
def qwx {k:IntKind}:∀{xs:List V} {x:Int} {v:V} {vs:List Value},qeX k x xs=some v->RVs m S w xs vs.toArray ->
  ∃u,(vs.foldlM Builtin.max2 (.int k x):Sem Value).run P w=.ok u w/\RV m S w v u
 | [],x,v,vs,h,hr=>by
  have:vs=[]:=by have:=hr.1; simpa using this
  subst this;simp[qeX]at h; subst h;exact⟨_,rfl,.d _ _ (.int _ _)⟩
 | y::xs,x,v,vs,h,hr=>by
  cases vs with
  | nil=>have:=hr.1; simp at this
  | cons u us =>
   have hy:=hr.2 0 y u (by simp) (by simp)
   cases y with
   | d y' =>
    cases y' with
    | int k' n =>
     simp only[qeX]at h;have e:=qax hy; subst e;have hr':RVs m S w xs us.toArray:=⟨by have:=hr.1; simpa using this,fun j x v hx hv=>hr.2 (j+1) x v (by simpa using hx) (by simpa using hv)⟩
     obtain⟨u,h1,h2⟩:=qwx h hr';exact⟨u,by simp[List.foldlM_cons,Builtin.max2]; exact h1,h2⟩
    | _=>simp[qeX]at h
   | _=>simp[qeX]at h
def qwy {k:IntKind}:∀{xs:List V} {x:Int} {v:V} {vs:List Value},qeY k x xs=some v->RVs m S w xs vs.toArray ->
  ∃u,(vs.foldlM Builtin.min2 (.int k x):Sem Value).run P w=.ok u w/\RV m S w v u
 | [],x,v,vs,h,hr=>by
  have:vs=[]:=by have:=hr.1; simpa using this
  subst this;simp[qeY]at h; subst h;exact⟨_,rfl,.d _ _ (.int _ _)⟩
 | y::xs,x,v,vs,h,hr=>by
  cases vs with
  | nil=>have:=hr.1; simp at this
  | cons u us =>
   have hy:=hr.2 0 y u (by simp) (by simp)
   cases y with
   | d y' =>
    cases y' with
    | int k' n =>
     simp only[qeY]at h;have e:=qax hy; subst e;have hr':RVs m S w xs us.toArray:=⟨by have:=hr.1; simpa using this,fun j x v hx hv=>hr.2 (j+1) x v (by simpa using hx) (by simpa using hv)⟩
     obtain⟨u,h1,h2⟩:=qwy h hr';exact⟨u,by simp[List.foldlM_cons,Builtin.min2]; exact h1,h2⟩
    | _=>simp[qeY]at h
   | _=>simp[qeY]at h
def qEG {ats:Array TypeId} {ty:TypeId} {xs:List V} {v:V} {args:Array Value} (h:qkx xs=some v) (hr:RVs m S w xs args) :
  ∃u,(Builtin.max_ ats ty args).run P w=.ok u w/\RV m S w v u:=by
 unfold qkx at h;split at h
 ·rename_i k x r;obtain⟨l⟩:=args
  cases l with
  | nil=>have:=hr.1; simp at this
  | cons a as =>
   have h0:=hr.2 0 _ a rfl (by simp);have e:=qax h0; subst e;exact qwx h ⟨by have:=hr.1; simpa using this,fun j x v hx hv=>hr.2 (j+1) x v (by simpa using hx) (by simpa using hv)⟩
 ·cases h
def qEH {ats:Array TypeId} {ty:TypeId} {xs:List V} {v:V} {args:Array Value} (h:qky xs=some v) (hr:RVs m S w xs args) :
  ∃u,(Builtin.min_ ats ty args).run P w=.ok u w/\RV m S w v u:=by
 unfold qky at h;split at h
 ·rename_i k x r;obtain⟨l⟩:=args
  cases l with
  | nil=>have:=hr.1; simp at this
  | cons a as =>
   have h0:=hr.2 0 _ a rfl (by simp);have e:=qax h0; subst e;exact qwy h ⟨by have:=hr.1; simpa using this,fun j x v hx hv=>hr.2 (j+1) x v (by simpa using hx) (by simpa using hv)⟩
 ·cases h
def YJ (us:List (Nat×qc)) (rows:Rows):Rows:=us.foldl (fun rs u=>qv rs u.1 u.2) rows
def qhK (a b:List (Nat×qc)) (rows:Rows):YJ (a++b) rows=YJ b (YJ a rows):=by simp[YJ]
def q7 {α:Type} {l:List α} {i:Nat} {x:α} (h:l[i]?=some x):i<l.length:=by
 rcases qTQ i l.length with hl|hl
 ·exact hl
 ·rw[qUc hl]at h; cases h
def qbU {r:Nat} {x:qc} (h:rows[r]?=some x):r<rows.length:=q7 h
def qdJ {r:Nat} {x:qc} (h:rows[r]?=some x):qv rows r x=rows:=by
 have hl:=qbU h;unfold qv;rw[if_pos hl];apply qVl;intro i
 by_cases e:r=i
 ·subst e; rw[qUV hl,h]
 ·rw[qUF e]
def GD (g:qq) (rows:Rows):Prop:=∀r k es ro,g r=some (.dat k es ro)->∃ro',rows[r]?=some (qc.live (.dat k es ro'))/\(ro=true->ro'=true)
def GOK.gd (h:GOK g rows):GD g rows:=fun r k es ro e=>⟨ro,h r _ e,fun h=>h⟩
def qDr (inv:Inv w0 own m S w rows) {r k:Nat} {es:List D} {ro:Bool} {b o:Nat} (hr:rows[r]?=some (qc.live (.dat k es ro))) (hm:m r=some (b,o)) :
  ∃S',Inv w0 own m S' w (qv rows r (qc.live (.dat k es true)))/\Ext m S w m S' w/\S' b/\(∀c,S' c->S c\/c=b):=by
 cases ro with
 | false =>
  obtain⟨h1,h2⟩:=inv.freeze r _ b o hr rfl rfl hm;exact⟨_,h1,h2,.inr rfl,fun c h=>h⟩
 | true =>
  rw[qdJ hr];exact⟨S,inv,Ext.refl ..,inv.rost r _ b o hr rfl hm,fun c h=>.inl h⟩
def qpd (inv:Inv w0 own m S w rows) (hg:GD g rows) {v:V} {x:D} {us:List (Nat×qc)} {vr:Value} (h:qbY g v=some (x,us)) (hv:RV m S w v vr) :
  ∃S',Inv w0 own m S' w (YJ us rows)/\Ext m S w m S' w/\RD S' w x vr/\GD g (YJ us rows) /\
   (∀r,(∀u∈us,u.1≠r)->(YJ us rows)[r]?=rows[r]?)/\(YJ us rows).length=rows.length:=by
 unfold qbY at h;split at h
 ·cases h;exact⟨S,inv,Ext.refl ..,RD_of hv,hg,fun _ _=>rfl,rfl⟩
 ·cases h;cases hv;exact⟨S,inv,Ext.refl ..,.emp _ _,hg,fun _ _=>rfl,rfl⟩
 ·rename_i r k off len c ex;split at h
  ·rename_i k' es ro hgr;split at h
   ·rename_i hc;obtain⟨rfl,hle⟩:=hc;cases h
    cases hv with
    | sl r k off len c ex b o c' p hm hl hc he hp hb =>
    obtain⟨ro',hr,_⟩:=hg r k es ro hgr;obtain⟨S',h1,h2,h3,h4⟩:=qDr inv hr hm;have hrel:=Y8 inv hr hm;refine⟨S',h1,h2,?_,?_,?_,?_⟩
    ·by_cases hz:len=0
     ·subst hz; simp; exact .emp _ _
     ·have hp':p=some ⟨b,o+off*k,none⟩:=by
       rcases hp with hp|hp
       ·omega
       ·exact hp
      subst hp';obtain⟨cs,t,e1,e2,en,e3⟩:=hrel;have key:∀(j:Nat) (d:D),(qn ((es.drop off).take len))[j]?=some d->∃v,cl w b (o+off*k+j)=some v/\RD S w d v:=by
       intro j d hj;obtain⟨v,hv,hrd⟩:=e3 _ d (qeM e2 off len j d hj);exact⟨v,by rw[qaw e1,<-hv]; congr 1; omega,hrd⟩
      refine .row _ b (o+off*k) c' k len (fun j=>(cl w b (o+off*k+j)).getD undef) (by simp; omega) hl h3 (fun e he=>e2 e (qcp he)) (fun d hd=>en d (qeN (fun e he=>qcp he) hd)) (fun j d hj=>?_) (fun j d hj=>?_)
      ·obtain⟨v,hv,_⟩:=key j d hj;simp only[hv,qTT]
      ·obtain⟨v,hv,hrd⟩:=key j d hj;simp only[hv,qTT];exact hrd.ext h2
    ·intro r2 k2 es2 ro2 hg2;obtain⟨ro3,hr3,himp⟩:=hg r2 k2 es2 ro2 hg2;simp only[YJ,qUK,List.foldl_nil];rw[JJ (qUo (qbU hr))]
     by_cases e:r2=r
     ·subst e; rw[hr]at hr3; cases hr3; exact⟨true,by simp,fun _=>rfl⟩
     ·exact⟨ro3,by simp[e,hr3],himp⟩
    ·intro r2 hne;simp only[YJ,qUK,List.foldl_nil];rw[JJ (qUo (qbU hr))];have:=hne _ (qUJ.2 rfl);simp only at this;rw[if_neg (fun e=>this e.symm)]
    ·simp[YJ,qv,qbU hr]
   ·cases h
  ·cases h
 ·cases h
where RD_of {v:D} {vr:Value} (hv:RV m S w (.d v) vr):RD S w v vr:=Yh hv
def qhL:∀{vs:List V} {rows:Rows} {S:Nat->Prop} (_inv:Inv w0 own m S w rows) (_hg:GD g rows) {xs:List D} {us:List (Nat×qc)} {arr:List Value}
  (_h:YS g vs=some (xs,us)) (_hv:RVs m S w vs arr.toArray),
  ∃S',Inv w0 own m S' w (YJ us rows)/\Ext m S w m S' w/\(arr.length=xs.length/\∀(j:Nat) (d:D) (v:Value),xs[j]?=some d->arr[j]?=some v->RD S' w d v)/\GD g (YJ us rows) /\
   (∀r,(∀u∈us,u.1≠r)->(YJ us rows)[r]?=rows[r]?)/\(YJ us rows).length=rows.length
 | [],rows,S,inv,hg,xs,us,arr,h,hv=>by
  simp[YS]at h;obtain⟨rfl,rfl⟩:=h;have:arr=[]:=by have:=hv.1; simpa using this
  subst this;exact⟨S,inv,Ext.refl ..,⟨rfl,fun j d v h=>by simp at h⟩,hg,fun _ _=>rfl,rfl⟩
 | v::vs,rows,S,inv,hg,xs,us,arr,h,hv=>by
  cases arr with
  | nil=>have:=hv.1; simp at this
  | cons a arr =>
   simp only[YS]at h;split at h
   ·rename_i x u l us' h1 h2;cases h;have hv0:=hv.2 0 v a (by simp) (by simp);have hvs:RVs m S w vs arr.toArray:=⟨by have:=hv.1; simpa using this,fun j x v hx hv'=>hv.2 (j+1) x v (by simpa using hx) (by simpa using hv')⟩
    obtain⟨S1,i1,e1,r1,g1,k1,l1⟩:=qpd inv hg h1 hv0;obtain⟨S2,i2,e2,⟨len2,r2⟩,g2,k2,l2⟩:=qhL i1 g1 h2 (hvs.ext e1);refine⟨S2,by rw[qhK]; exact i2,e1.trans e2,⟨by simp[len2],fun j d v hd hv'=>?_⟩,by rw[qhK]; exact g2,fun r hr=>?_,by rw[qhK,l2,l1]⟩
    ·cases j with
     | zero=>simp at hd hv'; subst hd; subst hv'; exact r1.ext e2|succ j=>simp at hd hv'; exact r2 j d v hd hv'
    ·rw[qhK,k2 r (fun u hu=>hr u (qTH.2 (.inr hu))),k1 r (fun u hu=>hr u (qTH.2 (.inl hu)))]
   ·cases h
def Inv.write (inv:Inv w0 own m S w rows) {r b o:Nat} {row row':Row} {c c':Array Value} {e:TypeId} {fz:Nat×Nat} (hr:rows[r]?=some (qc.live row)) (hm:m r=some (b,o))
  (hrw:row.rw=true) (hrw':row'.rw=true) (hb:w.heap[b]?=some (.cells c e fz)) (hs:c'.size=c.size)
  (hrel:Ext m S w m S (w.setRow b c')->YF m S (w.setRow b c') b o row') :
  Inv w0 own m S (w.setRow b c') (qv rows r (qc.live row'))/\Ext m S w m S (w.setRow b c'):=by
 have hl:=qbU hr;have k1:=inv.kill r hl;have hother:∀(r':Nat) (row2:Row) (c2 o2:Nat),(qv rows r qc.dead)[r']?=some (qc.live row2)->m r'=some (c2,o2)->c2≠b:=by
  intro r' row2 c2 o2 h1 h2;rw[JJ (qUo hl)]at h1
  by_cases e:r'=r
  ·simp[e]at h1
  ·simp only[e,if_false]at h1;exact fun e2=>inv.apart r r' row row2 b o c2 o2 (fun e3=>e e3.symm) hr h1 hrw hm h2 e2.symm
 have hnS:=inv.stab r row b o hr hrw hm;obtain⟨k2,e2⟩:=k1.scratch (w':=w.setRow b c') b (by simp) (fun c2 _ hne=>setRow_other w b c2 c' hne) hother hnS (inv.new r row b o hr hrw hm)
  (by simp[Yf,hb,setRow_heap w b c c' e fz hb,hs]) rfl rfl rfl
 have hupd:qU m r (b,o)=m:=by
  funext x; unfold qU; split
  ·rename_i h; subst h; exact hm.symm
  ·rfl
 have hlen:(qv rows r qc.dead).length=rows.length:=by simp[qv,hl]
 obtain⟨k3,e3⟩:=k2.adopt r row' b o (by omega) (fun row2 h=>by rw[JJ (qUo hl)]at h; simp at h) (.inr hm) hother hnS
  (by simp; exact inv.bnd r b o hm) (inv.new r row b o hr hrw hm) hrw' (by rw[hupd]; exact hrel e2)
 rw[hupd]at k3;have:qv (qv rows r qc.dead) r (qc.live row')=qv rows r (qc.live row'):=by
  apply qVl;intro i;rw[JJ (by omega),JJ (qUo hl),JJ (qUo hl)];split<;>rfl
 rw[this]at k3;exact⟨k3,e2⟩
def qc0 {α:Type} {R R':α->Value->Prop} {L:List α} {c:Array Value} {o pos:Nat} {ds:List α} {vs:List Value}
  (h:∀(j:Nat) (d:α),L[j]?=some d->∃v,c[o+j]?=some v/\R d v) (hR:∀d v,R d v->R' d v)
  (hlen:vs.length=ds.length) (hv:∀(j:Nat) (d:α) (v:Value),ds[j]?=some d->vs[j]?=some v->R' d v) (hpos:pos<=L.length) (hc:o+pos+vs.length<=c.size) :
  ∀(j:Nat) (d:α),(Yi L pos ds)[j]?=some d->∃v,((c.toList.take (o+pos)++vs++c.toList.drop (o+pos+vs.length)).toArray)[o+j]?=some v/\R' d v:=by
 intro j d hj;unfold Yi at hj;have hcl:c.toList.length=c.size:=by simp
 simp only[qWe];rcases qTQ j pos with h1|h1
 ·rw[qTW,qTZ (by simp; omega),qUh,if_pos h1]at hj;obtain⟨v,hv',hr⟩:=h j d hj;refine⟨v,?_,hR d v hr⟩;rw[qTW,qTZ (by simp; omega),qUh,if_pos (by omega)];simpa using hv'
 ·rcases qTQ j (pos+ds.length)with h2|h2
  ·rw[qTW,qT1 (by simp; omega),qTZ (by simp; omega)]at hj;have e1:j - (L.take pos).length=j - pos:=by simp; omega
   rw[e1]at hj;have hlt:j - pos<vs.length:=by omega
   refine⟨vs[j - pos],?_,hv (j - pos) d _ hj (by simp[hlt])⟩;rw[qTW,qT1 (by simp; omega),qTZ (by simp; omega)];have e2:o+j - (c.toList.take (o+pos)).length=j - pos:=by simp; omega
   rw[e2]; simp[hlt]
  ·rw[qT1 (by simp; omega)]at hj;have e1:j - (L.take pos++ds).length=j - (pos+ds.length):=by simp; omega
   rw[e1,qUk]at hj;have e3:pos+ds.length+(j - (pos+ds.length))=j:=by omega
   rw[e3]at hj;obtain⟨v,hv',hr⟩:=h j d hj;refine⟨v,?_,hR d v hr⟩;rw[qT1 (by simp; omega)];have e2:o+j - (c.toList.take (o+pos)++vs).length=o+j - (o+pos+vs.length):=by simp; omega
   rw[e2,qUk];have e4:o+pos+vs.length+(o+j - (o+pos+vs.length))=o+j:=by omega
   rw[e4]; simpa using hv'
def qbu {c:Array Value} {q:Nat} {vs:List Value} (h:q+vs.length<=c.size):(c.toList.take q++vs++c.toList.drop (q+vs.length)).toArray.size=c.size:=by
 simp; omega
def qvl {es:List D} {k:Nat} (h:∀e∈es,e.cells.length=k) {i f:Nat} {e e':D} {ds:List D} (hi:es[i]?=some e) (hf:f+ds.length<=k) (he:e'.cells=Yi e.cells f ds) :
  qn (es.set i e')=Yi (qn es) (i*k+f) ds:=by
 induction es generalizing i with
 | nil=>simp at hi|cons x es ih =>
  have hx:=h x (by simp)
  cases i with
  | zero =>
   simp at hi; subst hi;simp only[List.set_cons_zero,qdD,he,qVh,qT6,Yi];rw[List.take_append_of_le_length (by omega),List.drop_append_of_le_length (by omega)];simp
  | succ i =>
   simp at hi;simp only[List.set_cons_succ,qdD];rw[ih (fun y hy=>h y (by simp[hy])) hi];simp only[Yi];have e1:(i+1)*k+f=x.cells.length+(i*k+f):=by rw[hx,qUH]; omega
   rw[e1,List.take_length_add_append,show x.cells.length+(i*k+f)+ds.length=x.cells.length+(i*k+f+ds.length) by omega,List.drop_length_add_append];simp
def qpe {α:Type} {p:α->Prop} {L:List α} {pos:Nat} {ds:List α} {d:α} (h:d∈Yi L pos ds) (h1:∀d∈L,p d) (h2:∀d∈ds,p d):p d:=by
 unfold Yi at h;rcases qTH.1 h with h|h
 ·rcases qTH.1 h with h|h
  ·exact h1 d (qUg h)
  ·exact h2 d h
 ·exact h1 d (qUE h)
def qhM:∀{vs:List V} {ds:List D} {us:List (Nat×qc)},YS g vs=some (ds,us)->vs.all V.one=true->∀d∈ds,d.isAgg=false
 | [],ds,us,h,_,d,hd=>by simp[YS]at h; rw[h.1]at hd; cases hd
 | v::vs,ds,us,h,ho,d,hd=>by
  simp only[YS]at h;split at h
  ·rename_i x u l us' h1 h2;cases h;simp only[qUZ,qTC]at ho;rcases qTD.1 hd with rfl|hd
   ·unfold qbY at h1;split at h1
    ·cases h1; simpa[V.one]using ho.1
    ·cases h1; rfl
    ·split at h1
     ·split at h1
      ·cases h1; rfl
      ·cases h1
     ·cases h1
    ·cases h1
   ·exact qhM h2 ho.2 d hd
  ·cases h
def qhN {agg:Bool} {ds:List D} (h:∀d∈ds,d.isAgg=false):(JK agg ds).cells=ds:=by
 unfold JK;split
 ·rfl
 ·split
  ·rename_i d;have:=h d (by simp);cases d<;>first|rfl|simp[D.isAgg]at this
  ·rfl
def qDs (hT:TOK P T) (hg:GOK g rows) (inv:Inv w0 own m S w rows) {t:TypeId} {a x:V} {ar xr:Value} {res:Res} (h:qaM T g t a x=some res)
  (ha:RV m S w a ar) (hx:RV m S w x xr) :
  ∃w' S',(Instr.storeAt t ar xr).run P w=.ok () w'/\Inv w0 own m S' w' (YJ res.ups rows)/\Ext m S w m S' w'/\res.v=V.undef/\res.fresh=none:=by
 unfold qaM at h;split at h
 ·rename_i r k i f y hy
  cases ha with
  | pt r k i f b o hm =>
  split at h
  ·rename_i hlen;obtain⟨hl,hpos,hone⟩:=hlen;have hcells:=qoW hx;have hrun:∀{c:Array Value} {e:TypeId},w.heap[b]?=some (.cells c e (0,0))->o+i*k+f+xr.cells.size<=c.size ->
     (Instr.storeAt t (.pointer (some ⟨b,o+i*k+f,none⟩)) xr).run P w =
      .ok () (w.setRow b (c.toList.take (o+(i*k+f))++xr.cells.toList++c.toList.drop (o+(i*k+f)+xr.cells.toList.length)).toArray):=by
    intro c e hb hsz;have hst:=run_storeCells_at (P:=P) b (o+(i*k+f)) e xr.cells.toList 0 c w hb (by simp; omega) (fun v hv=>by
     obtain⟨j,hj⟩:=qUS hv;have hj':j<x.cells.length:=by rw[<-hcells.1]; have:=q7 hj; simpa using this
     exact qjV (hcells.2 j x.cells[j] v (by simp[hj']) (by simpa using hj)) ((qTI.1 hone) _ (qTL hj')))
    rw[qUQ]at hst;have hsz2:=qav (w:=w) (hT t y hy);have hcs:xr.cells.size=y.size:=by rw[hcells.1]; exact hl
    simp only[Instr.storeAt,Instr.sureAddr,storeVar,Sem.run_bind,Sem.run_pure,Result.andThen_ok,hsz2];rw[if_neg (by simp[hcs])];rw[show o+i*k+f=o+(i*k+f) by omega];exact hst
   split at h
   ·rename_i k' es hgr;split at h
    ·rename_i ds us e hds he;split at h
     ·rename_i hcond;obtain⟨rfl,hfk,hus⟩:=hcond;cases h;obtain⟨S1,i1,e1,⟨len1,r1⟩,g1,keep1,l1⟩:=qhL (arr:=xr.cells.toList) inv hg.gd hds (by simpa using hcells);have hr1:(YJ us rows)[r]?=some (qc.live (.dat k es false)):=by
       rw[keep1 r (fun u hu=>by have:=(qTI.1 hus) u hu; simpa using this)];exact hg r _ hgr
      have hrel:=Y8 i1 hr1 hm;obtain⟨c,t',hb,hk,hfn,hcs⟩:=hrel;have hfl:(qn es).length=es.length*k:=Jr hk;have hilt:=q7 he;have hik:i*k+k<=es.length*k:=by rw[<-qUH]; exact qUp k hilt
      have hdl:ds.length=y.size:=by rw[<-len1]; simp; rw[hcells.1]; exact hl
      have hxl:xr.cells.size=y.size:=by rw[hcells.1]; exact hl
      have hfit':o+i*k+f+xr.cells.size<=c.size:=by
       have hlast:es.length*k - 1<(qn es).length:=by omega
       obtain⟨v,hv,_⟩:=hcs (es.length*k - 1) (qn es)[es.length*k - 1] (by simp[hlast]);have:=(qUY.1 hv).1;omega
      have hek:=hk e (qUi he);have hna:=qhM hds hone;have hne:(if f=0/\y.size=k then JK y.agg ds else D.agg (Yi e.cells f ds)).cells=Yi e.cells f ds:=by
       split
       ·rename_i hfs;rw[qhN hna,hfs.1];simp[Yi]; omega
       ·rfl
      have hnl:(Yi e.cells f ds).length=k:=by simp[Yi]; omega
      have key:=i1.write (row':=.dat k (es.set i (if f=0/\y.size=k then JK y.agg ds else D.agg (Yi e.cells f ds))) false)
       (c':=(c.toList.take (o+(i*k+f))++xr.cells.toList++c.toList.drop (o+(i*k+f)+xr.cells.toList.length)).toArray) hr1 hm rfl rfl hb
       (qbu (by simp; omega)) (fun e2=>by
        refine⟨_,t',setRow_heap w b c _ t' (0,0) hb,?_,?_,?_⟩
        ·intro z hz;rcases qVb hz with h1|h1
         ·exact hk z h1
         ·rw[h1,hne,hnl]
        ·intro d hd;rw[qvl hk he (by omega) hne]at hd;exact qpe (p:=fun d=>d.isAgg=false) hd hfn hna
        ·rw[qvl hk he (by omega) hne];refine qc0 (R:=RD S1 w) (R':=RD S1 _) hcs (fun d v hr=>hr.ext e2) (by simpa using len1) (fun j d v hd hv=>(r1 j d v hd hv).ext e2) (by omega) (by simp; omega))
      refine⟨_,S1,hrun hb hfit',?_,e1.trans key.2,rfl,rfl⟩;rw[qhK];exact key.1
     ·cases h
    ·cases h
   ·rename_i cs hgr;split at h
    ·rename_i hle;cases h;have hr1:=hg r _ hgr;obtain⟨c,t',hb,hcs⟩:=Y8 inv hr1 hm;have hxl:xr.cells.size=y.size:=by rw[hcells.1]; exact hl
     have hfit':o+i*k+f+xr.cells.size<=c.size:=by
      ·have hlast:cs.length - 1<cs.length:=by omega
       obtain⟨v,hv,_⟩:=hcs (cs.length - 1) cs[cs.length - 1] (by simp[hlast]);have:=(qUY.1 hv).1;omega
     have key:=inv.write (row':=.box (Yi cs (i*k+f) x.cells) false)
      (c':=(c.toList.take (o+(i*k+f))++xr.cells.toList++c.toList.drop (o+(i*k+f)+xr.cells.toList.length)).toArray) hr1 hm rfl rfl hb
      (qbu (by simp; omega)) (fun e2=>by
       refine⟨_,t',setRow_heap w b c _ t' (0,0) hb,?_⟩;refine qc0 (R:=RV m S w) (R':=RV m S _) hcs (fun d v hr=>hr.ext e2) (by simpa using hcells.1) (fun j d v hd hv=>(hcells.2 j d v hd (by simpa using hv)).ext e2) (by omega) (by simp; omega))
     exact⟨_,S,hrun hb hfit',key.1,key.2,rfl,rfl⟩
    ·cases h
   ·cases h
  ·cases h
 ·cases h
end Go.Aev
end
