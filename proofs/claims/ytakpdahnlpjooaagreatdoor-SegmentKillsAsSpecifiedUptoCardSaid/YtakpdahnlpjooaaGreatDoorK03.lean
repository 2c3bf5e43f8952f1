/- Lemmas: a machine that the model follows, and contracts. Conditions: none. -/
import Derived.Test.YtakpdahnlpjooaaGreatDoorK02
import Derived.Deep.AppendSrc
import Derived.Laws.MakeOwn
set_option linter.all false
set_option maxRecDepth 1000000
set_option maxHeartbeats 0
noncomputable section
namespace Go.Aev
variable [Glob]
variable {P:Program} {T:TypeId->Option Ty} {w0:World} {own:Own} {m:Mp} {S:Nat->Prop} {w:World} {rows:Rows} {g:qq}
structure Yn (m:Mp) (rows:Rows) (slot:Nat):Prop where
 le:slot<=rows.length
 dead:∀row,rows[slot]?≠some (qc.live row)
 new:m slot=none
def Inv.fresh (inv:Inv w0 own m S w rows) {slot:Nat} (hs:Yn m rows slot) (obj:Obj) (row:Row) (hrw:row.rw=true)
  (hrel:Ext m S w (qU m slot (w.heap.size,0)) S (w.alloc obj)->YF (qU m slot (w.heap.size,0)) S (w.alloc obj) w.heap.size 0 row) :
  Inv w0 own (qU m slot (w.heap.size,0)) S (w.alloc obj) (qv rows slot (qc.live row))/\Ext m S w (qU m slot (w.heap.size,0)) S (w.alloc obj):=by
 have hge:∀(r:Nat) (row:Row) (c o:Nat),rows[r]?=some (qc.live row)->m r=some (c,o)->c≠w.heap.size:=fun r row c o _ hm=>by have:=inv.bnd r c o hm; omega
 have hnS:¬S w.heap.size:=fun h=>by have:=inv.sbnd _ h; omega
 have hold:∀c,c<w.heap.size->c≠w.heap.size->(w.alloc obj).heap[c]?=w.heap[c]?:=by
  intro c hc _;rw[show(w.alloc obj).heap=w.heap.push obj from rfl,qVu,if_neg (by omega)]
 have hb0:Yf w w.heap.size=0:=by unfold Yf; rw[qVP (qTF _)]
 obtain⟨k1,e1⟩:=inv.scratch (w':=w.alloc obj) w.heap.size (by simp) hold hge hnS (.inl inv.grow) (by rw[hb0]; exact qVB _) rfl rfl rfl;have hext:Ext m S w (qU m slot (w.heap.size,0)) S (w.alloc obj):=by
  refine e1.trans ⟨fun r p h=>?_,fun _ h=>h,fun _ _=>rfl,fun _=>qTF _⟩;unfold qU; split
  ·rename_i h2; subst h2; rw[hs.new]at h; cases h
  ·exact h
 obtain⟨k2,e2⟩:=k1.adopt slot row w.heap.size 0 hs.le hs.dead (.inl hs.new) hge hnS (by simp) (.inl inv.grow) hrw (hrel hext);exact⟨k2,hext⟩
def qcu (w:World) (o:Obj):(w.alloc o).heap[w.heap.size]?=some o:=by
 rw[show(w.alloc o).heap=w.heap.push o from rfl,qVu,if_pos rfl]
def qke (inv:Inv w0 own m S w rows) {slot:Nat} (hs:Yn m rows slot) {cs:List V} {arr:Array Value} (e:TypeId) (h:RVs m S w cs arr) :
  Inv w0 own (qU m slot (w.heap.size,0)) S (w.alloc (.cells arr e)) (qv rows slot (qc.live (.box cs false)))/\Ext m S w (qU m slot (w.heap.size,0)) S (w.alloc (.cells arr e)):=by
 refine inv.fresh hs _ (.box cs false) rfl fun ext=>⟨arr,e,qcu w _,fun j x hj=>?_⟩
 obtain⟨v,hv,hr⟩:=h.get hj;exact⟨v,by rw[qT6]; exact hv,hr.ext ext⟩
def qpf (slot b:Nat) (w':World):RV (qU m slot (b,0)) S w' (.pt slot 0 0 0) (.pointer (some ⟨b,0,none⟩)):=by
 have:=RV.pt (S:=S) (w:=w') (m:=qU m slot (b,0)) slot 0 0 0 b 0 (by simp[qU]);simpa using this
def qDt (inv:Inv w0 own m S w rows) {slot:Nat} (hs:Yn m rows slot) {e:TypeId} {x:V} {xr:Value} (hx:RV m S w x xr) :
  ∃u w' m',(Instr.box e xr).run P w=.ok u w'/\Inv w0 own m' S w' (qv rows slot (qc.live (.box x.cells false)))/\Ext m S w m' S w'/\RV m' S w' (.pt slot 0 0 0) u:=by
 obtain⟨h1,h2⟩:=qke inv hs e (qoW hx);exact⟨_,_,_,by simp[Instr.box,newVar,newRow],h1,h2,qpf ..⟩
def qDu (hT:TOK P T) (inv:Inv w0 own m S w rows) {slot:Nat} (hs:Yn m rows slot) {e:TypeId} {y:Ty} {zs:List V} (hy:T e=some y) (hz:Js y.zero.cells.toList=some zs) :
  ∃u w' m',(Instr.alloc e true (.tuple #[])).run P w=.ok u w'/\Inv w0 own m' S w' (qv rows slot (qc.live (.box zs false)))/\Ext m S w m' S w'/\RV m' S w' (.pt slot 0 0 0) u:=by
 have h0:=qcV (m:=m) (S:=S) (w:=w) hz;obtain⟨h1,h2⟩:=qke inv hs e (by simpa using h0);refine⟨_,_,_,?_,h1,h2,qpf ..⟩;simp[Instr.alloc,qh3 (hT e y hy),newVar,newRow]
def qvm:∀(l:List Value) (off k:Nat) (c:Array Value),off+k+l.length<=c.size ->
  (l.zipIdx k).foldl (fun(cs:Array Value) (x:Value×Nat)=>cs.setIfInBounds (off+x.2) x.1) c=(c.toList.take (off+k)++l++c.toList.drop (off+k+l.length)).toArray
 | [],off,k,c,_=>by simp
 | v::l,off,k,c,h=>by
  simp only[qT9]at h;rw[List.zipIdx_cons,qUK,qvm l off (k+1) _ (by simp; omega)];apply qUD;simp only[Array.toList_setIfInBounds,qT9];have hk:off+k<c.toList.length:=by simp; omega
  rw[show off+(k+1)=off+k+1 by omega,show off+k+1+l.length=off+k+(l.length+1) by omega];have e1:(c.toList.set (off+k) v).take (off+k+1)=c.toList.take (off+k)++[v]:=by
   apply qVl;intro i;rw[qUh,List.getElem?_set];rcases qVX i (off+k)with h1|h1|h1
   ·rw[if_pos (by omega),if_neg (by omega),qTZ (by simp; omega),qUh,if_pos h1]
   ·subst h1; rw[if_pos (by omega),if_pos rfl,if_pos hk,qT1 (by rw[qTU]; omega)];have:off+k - (c.toList.take (off+k)).length=0:=by rw[qTU]; omega
    rw[this]; rfl
   ·rw[if_neg (by omega),qUc (by simp; omega)]
  have e2:(c.toList.set (off+k) v).drop (off+k+(l.length+1))=c.toList.drop (off+k+(l.length+1)):=by
   apply qVl;intro i;rw[qUk,qUk,qUF (by omega)]
  rw[e1,e2];simp
def qDv {cs xs:List V} {c:Array Value} {vs:List Value} {off:Nat} (h:RVs m S w cs c) (hx:RVs m S w xs vs.toArray) (hl:off+xs.length<=cs.length) :
  RVs m S w (Yi cs off xs) ((c.toList.take off++vs++c.toList.drop (off+vs.length)).toArray):=by
 have hvl:vs.length=xs.length:=by have:=hx.1; simpa using this
 have hc1:=h.1;refine⟨by simp[Yi]; omega,fun j x v hj hv=>?_⟩;have key:=qc0 (R:=RV m S w) (R':=RV m S w) (L:=cs) (c:=c) (o:=0) (pos:=off) (ds:=xs) (vs:=vs) (fun j d hd=>by
  obtain⟨v,hv,hr⟩:=h.get hd; exact⟨v,by rw[qT6]; exact hv,hr⟩) (fun _ _ h=>h) hvl (fun j d v hd hv=>hx.2 j d v hd (by simpa using hv)) (by omega) (by omega) j x hj
 obtain⟨v',hv',hr⟩:=key;rw[qT6,qT6]at hv';rw[hv]at hv'; cases hv'; exact hr
def qkf (place:Nat->Option (Nat×Nat)):∀{ps:List (Nat×V)} {prs:List (Nat×Value)} {cs cs':List V} {c:Array Value},qc4 place cs ps=some cs'->RVs m S w cs c ->
  prs.map (·.1)=ps.map (·.1)->RVs m S w (ps.map (·.2)) (prs.map (·.2)).toArray->∃c',Instr.fill place c prs=some c'/\RVs m S w cs' c'/\cs'.length=cs.length
 | [],prs,cs,cs',c,h,hc,hi,hv=>by
  simp[qc4]at h; subst h
  cases prs with
  | nil=>exact⟨c,rfl,hc,rfl⟩|cons p prs=>simp at hi
 | (i,x)::ps,prs,cs,cs',c,h,hc,hi,hv=>by
  cases prs with
  | nil=>simp at hi|cons p prs =>
   obtain⟨i',v⟩:=p;simp at hi;obtain⟨rfl,hi⟩:=hi;have hv0:RV m S w x v:=hv.2 0 x v (by simp) (by simp);have hvs:RVs m S w (ps.map (·.2)) (prs.map (·.2)).toArray:=⟨by have:=hv.1; simpa using this,fun j y u hy hu=>hv.2 (j+1) y u (by simpa using hy) (by simpa using hu)⟩
   simp only[qc4]at h;split at h
   ·rename_i off size hpl;split at h
    ·rename_i hcond;have hcell:=qoW hv0;have hsz:v.cells.size=size:=by rw[hcell.1]; exact hcond.1
     have hrel:=qDv hc (xs:=x.cells) (vs:=v.cells.toList) (off:=off) (by simpa using hcell) (by omega);obtain⟨c',h1,h2,h3⟩:=qkf place h hrel hi hvs;refine⟨c',?_,h2,by rw[h3]; simp[Yi]; omega⟩;simp only[Instr.fill,hpl];have hcs:=hc.1;rw[if_neg (by simp; omega)];have hf:=qvm v.cells.toList off 0 c (by simp; omega);rw[qUQ]at hf;rw[<-h1,<-hf,<-Array.foldl_toList,Array.toList_zipIdx]
    ·cases h
   ·cases h
def qvn (w:World) (hT:TOK P T):∀{fs:List Field} {pl:List (Nat×Nat)},qhR T fs=some pl->(fs.mapM (fun f=>do pure (f.offset,<-sizeOf f.type):Field->Sem (Nat×Nat))).run P w=.ok pl w
 | [],pl,h=>by simp[qhR]at h; subst h; rfl
 | f::fs,pl,h=>by
  simp only[qhR]at h;split at h
  ·rename_i z l hz hl;cases h;have ih:=qvn w hT hl;rw[qWf];simp only[Sem.run_bind,qav (hT _ z hz),Result.andThen_ok,Sem.run_pure,ih]
  ·cases h
def qpg {α β:Type}:∀(a:List α) (b:List β),a.length=b.length->(a.zip b).map (·.1)=a
 | [],[],_=>rfl|x::a,y::b,h=>by simp[qpg a b (by simpa using h)]
def qph {α β:Type}:∀(a:List α) (b:List β),a.length=b.length->(a.zip b).map (·.2)=b
 | [],[],_=>rfl|x::a,y::b,h=>by simp[qph a b (by simpa using h)]
def qDw (hT:TOK P T) {t:TypeId} {v:V} {parts:List (Nat×Value)} {vs:List V} (h:qkr T t (parts.map (·.1)) vs=some v) (hv:RVs m S w vs (parts.map (·.2)).toArray) :
  ∃u,(Instr.build t parts.toArray).run P w=.ok u w/\RV m S w v u:=by
 have hl:vs.length=parts.length:=by have:=hv.1; simpa using this.symm
 have hz1:=qpg (parts.map (·.1)) vs (by simp[hl]);have hz2:=qph (parts.map (·.1)) vs (by simp[hl]);unfold qkr at h;split at h
 ·rename_i y hy;have hu:=YD (w:=w) (hT t y hy);have hz:=qh3 (w:=w) (hT t y hy);split at h
  ·rename_i zs hzs;have hzr:RVs m S w zs y.zero.cells:=by simpa using qcV (m:=m) (S:=S) (w:=w) hzs
   split at h
   ·rename_i fs hfs;rw[hfs]at hu;split at h
    ·rename_i pl hpl;have hp:=qvn w hT hpl
     cases hf:qc4 (pl[·]?) zs ((parts.map (·.1)).zip vs)with
     | none=>rw[hf]at h; cases h
     | some cs' =>
      rw[hf]at h; cases h;obtain⟨c',h1,h2,_⟩:=qkf (pl[·]?) (prs:=parts) hf hzr (by rw[hz1]) (by rw[hz2]; exact hv);have hm:(fs.mapM (fun f=>do pure (f.offset,<-sizeOf f.type):Field->Sem (Nat×Nat))).run P w=.ok pl.toArray w:=by
       rw[qWz];simp only[Sem.run_map,hp,Result.andThen_ok]
      refine⟨.agg c',?_,qhz h2⟩;have hpl':(fun x:Nat=>pl.toArray[x]?)=(pl[·]?):=by funext x; simp
      simp only[Instr.build,Sem.run_bind,hz,hu,Result.andThen_ok,hm,hpl',h1,Sem.run_pure]
    ·cases h
   ·rename_i n e hde;rw[hde]at hu;split at h
    ·rename_i z hz'
     cases hf:qc4 (fun i=>some (i*z.size,z.size)) zs ((parts.map (·.1)).zip vs)with
     | none=>rw[hf]at h; cases h
     | some cs' =>
      rw[hf]at h; cases h;obtain⟨c',h1,h2,_⟩:=qkf (fun i=>some (i*z.size,z.size)) (prs:=parts) hf hzr (by rw[hz1]) (by rw[hz2]; exact hv);refine⟨.agg c',?_,qhz h2⟩;simp only[Instr.build,Sem.run_bind,hz,hu,Result.andThen_ok,qav (hT _ z hz'),h1,Sem.run_pure]
    ·cases h
   ·cases h
  ·cases h
 ·cases h
def Yn.mk' (inv:Inv w0 own m S w rows) {slot:Nat} (le:slot<=rows.length) (new:m slot=none):Yn m rows slot :=
 ⟨le,fun row h=>(by obtain⟨b,o,hm,_⟩:=inv.row slot row h; rw[new]at hm; cases hm),new⟩
def qkg {zs:List V} {k:Nat} (h:zs.length=k):∀n,(qdO zs n).length=n*k
 | 0=>by simp[qdO]
 | n+1=>by simp[qdO,h,qkg h n,qUH]; omega
def qvo {zs:List V} {k:Nat} (h:zs.length=k) (hk:0<k):∀(n j:Nat),j<n*k->(qdO zs n)[j]?=zs[j % k]?
 | 0,j,hj=>by omega
 | n+1,j,hj=>by
  simp only[qdO];rcases qTQ j k with h1|h1
  ·rw[qTZ (by omega),qVN h1]
  ·rw[qT1 (by omega),h,qvo h hk n (j - k) (by rw[qUH]at hj; omega),Nat.mod_eq_sub_mod h1]
def qDx {zs:List V} {arr:Array Value} {k n:Nat} (h:RVs m S w zs arr) (hz:zs.length=k) (hk:0<k):RVs m S w (qdO zs n) ((Array.range (n*k)).map (arr[· % arr.size]!)):=by
  have ha:arr.size=k:=by rw[h.1]; exact hz
  refine⟨by simp[qkg hz],fun j x v hx hv=>?_⟩;have hj:j<n*k:=by have:=q7 hx; rwa[qkg hz]at this
  rw[qvo hz hk n j hj]at hx;have hm:j % k<k:=qUX _ hk;rw[Array.getElem?_map,Array.getElem?_range,if_pos hj]at hv;simp at hv;subst hv;rw[ha];refine h.2 (j % k) x _ hx ?_;rw[getElem!_pos arr (j % k) (by omega)];simp[ha,hm]
def qkh (inv:Inv w0 own m S w rows) {slot:Nat} (hs:Yn m rows slot) {k:Nat} {es:List D} {arr:Array Value} (e:TypeId) (hk:∀x∈es,x.cells.length=k) (h1:∀d∈qn es,d.isAgg=false)
  (h:∀(j:Nat) (d:D),(qn es)[j]?=some d->∃v,arr[j]?=some v/\RD S w d v) :
  Inv w0 own (qU m slot (w.heap.size,0)) S (w.alloc (.cells arr e)) (qv rows slot (qc.live (.dat k es false)))/\Ext m S w (qU m slot (w.heap.size,0)) S (w.alloc (.cells arr e)):=by
 refine inv.fresh hs _ (.dat k es false) rfl fun ext=>⟨arr,e,qcu w _,hk,h1,fun j x hj=>?_⟩
 obtain⟨v,hv,hr⟩:=h j x hj;exact⟨v,by rw[qT6]; exact hv,hr.ext ext⟩
def qDy (w:World) (arr:Array Value) (e:TypeId):Yf (w.alloc (.cells arr e)) w.heap.size=arr.size:=by
 unfold Yf; rw[qcu]
def qeV {slot k len c':Nat} {c:Nat} {ex:Bool} {arr:Array Value} {e:TypeId} (hl:len<=c') (hc:c<=c') (he:ex=true->c'=c) (hb:c'*k<=arr.size) :
  RV (qU m slot (w.heap.size,0)) S (w.alloc (.cells arr e)) (.sl slot k 0 len c ex) (.slice (some ⟨w.heap.size,0,none⟩) len c') :=
 .sl slot k 0 len c ex w.heap.size 0 c' _ (by simp[qU]) hl hc he (.inr (by simp)) (by rw[qDy]; simpa using hb)
def qvp {agg:Bool} {k:Nat} (hk:0<k):∀(n:Nat) (ds:List D),ds.length=n*k->(∀d∈ds,d.isAgg=false)->qn (qf8 agg k n ds)=ds/\∀e∈qf8 agg k n ds,e.cells.length=k
 | 0,ds,h,_=>by
  have:ds=[]:=by apply qUr; omega
  subst this; exact⟨rfl,fun e he=>by cases he⟩
 | n+1,ds,h,hn=>by
  rw[qUH]at h;have h1:=qhN (agg:=agg) (ds:=ds.take k) (fun d hd=>hn d (qUg hd));obtain⟨h2,h3⟩:=qvp hk n (ds.drop k) (by simp; omega) (fun d hd=>hn d (qUE hd));refine⟨by rw[qf8,qdD,h1,h2,qUw],fun e he=>?_⟩;rw[qf8]at he;rcases qTD.1 he with rfl|he
  ·rw[h1]; simp; omega
  ·exact h3 e he
def qag (slot:Nat) (res:Res) (rows:Rows):Rows :=
 match res.fresh with
 | none=>YJ res.ups rows|some row=>qv (YJ res.ups rows) slot (.live row)
def qbV (P:Program) (w0:World) (own:Own) (m:Mp) (S:Nat->Prop) (w:World) (rows:Rows) (slot:Nat) (s:Sem Value) (res:Res):Prop :=
 ∃u w' m' S',s.run P w=.ok u w'/\Inv w0 own m' S' w' (qag slot res rows)/\Ext m S w m' S' w'/\RV m' S' w' res.v u
def qDz (hT:TOK P T) (hg:GOK g rows) (inv:Inv w0 own m S w rows) {slot:Nat} (hs:Yn m rows slot) {t:TypeId} {len:Nat} {parts:List (Nat×Value)} {vs:List V} {res:Res}
    (h:qpy T g slot t len (parts.map (·.1)) vs=some res) (hv:RVs m S w vs (parts.map (·.2)).toArray) :
    qbV P w0 own m S w rows slot (Instr.buildSlice t len parts.toArray) res:=by
  have hl:vs.length=parts.length:=by have:=hv.1; simpa using this.symm
  have hz1:=qpg (parts.map (·.1)) vs (by simp[hl]);have hz2:=qph (parts.map (·.1)) vs (by simp[hl]);unfold qpy at h;split at h
  · rename_i y hy
    have hu:=YD (w:=w) (hT t y hy);split at h
    · rename_i e hde
      rw[hde]at hu;split at h
      · rename_i z hz
        split at h
        · rename_i zs hzs
          split at h
          · rename_i hcond
            obtain⟨h24,hzl,hzp⟩:=hcond;split at h
            · rename_i cs hcs
              split at h
              · rename_i hone
                have hzr:RVs m S w zs z.zero.cells:=by simpa using qcV (m:=m) (S:=S) (w:=w) hzs
                have hrep:=qDx (n:=len) hzr hzl hzp;obtain⟨c',h1,h2,h3⟩:=qkf (fun i=>some (i*z.size,z.size)) (prs:=parts) hcs hrep (by rw[hz1]) (by rw[hz2]; exact hv);have hlen:cs.length=len*z.size:=by rw[h3,qkg hzl]
                have hrun:(Instr.buildSlice t len parts.toArray).run P w=.ok (.slice (some ⟨w.heap.size,0,none⟩) len len) (w.alloc (.cells c' e)):=by
                  simp only[Instr.buildSlice,Sem.run_bind,hu,Result.andThen_ok,qav (hT _ z hz)];rw[if_neg (by omega)]
                  by_cases h0:len*z.size=0
                  · rw[if_pos h0]
                    have harr:(Array.range (len*z.size)).map (fun x=>(#[]:Array Value)[x % (#[]:Array Value).size]!)=(Array.range (len*z.size)).map (z.zero.cells[· % z.zero.cells.size]!):=by rw[h0]; simp
                    simp only[Sem.run_bind,Sem.run_pure,Result.andThen_ok];rw[harr,h1];simp only[newRow,Sem.run_bind,run_newObj,Result.andThen_ok,Sem.run_pure];rfl
                  · rw[if_neg h0]
                    simp only[Sem.run_bind,Sem.run_pure,Result.andThen_ok,qh3 (hT _ z hz),h1];simp only[newRow,Sem.run_bind,run_newObj,Result.andThen_ok,Sem.run_pure];rfl
                have hcsz:c'.size=len*z.size:=by rw[h2.1]; exact hlen
                split at h
                · rename_i ds us hds
                  cases h;obtain⟨S1,i1,e1,⟨len1,r1⟩,g1,keep1,l1⟩:=qhL (arr:=c'.toList) inv hg.gd hds (by simpa using h2);have hdl:ds.length=len*z.size:=by rw[<-len1]; simpa using hcsz
                  obtain⟨f1,f2⟩:=qvp (agg:=z.agg) hzp len ds hdl (qhM hds hone);obtain⟨k1,k2⟩:=qkh i1 (Yn.mk' i1 (by rw[l1]; exact hs.le) hs.new) (k:=z.size) (arr:=c') e f2 (by rw[f1]; exact qhM hds hone) (fun j d hj=>by
                    rw[f1]at hj;have hjl:=q7 hj;refine⟨c'[j]'(by omega),by simp,r1 j d _ hj (by simp)⟩)
                  exact⟨_,_,_,S1,hrun,k1,e1.trans k2,qeV (qTF _) (qTF _) (fun _=>rfl) (by omega)⟩
                · cases h
                  obtain⟨k1,k2⟩:=qke inv hs e h2;exact⟨_,_,_,S,hrun,k1,k2,qeV (qTF _) (qTF _) (fun _=>rfl) (by omega)⟩
              · cases h
            · cases h
          · cases h
        · cases h
      · cases h
    · cases h
  · cases h
def qki:∀{zs:List V} {ds:List D} {us:List (Nat×qc)},YS (fun _=>none) zs=some (ds,us)->∀{arr:List Value},RVs m S w zs arr.toArray ->
  arr.length=ds.length/\(∀(j:Nat) (d:D) (v:Value),ds[j]?=some d->arr[j]?=some v->RD S w d v)
 | [],ds,us,h,arr,hr=>by
  simp[YS]at h;obtain⟨rfl,rfl⟩:=h;exact⟨by have:=hr.1; simpa using this,fun j d v hd=>by simp at hd⟩
 | z::zs,ds,us,h,arr,hr=>by
  cases arr with
  | nil=>have:=hr.1; simp at this
  | cons a arr =>
   simp only[YS]at h;split at h
   ·rename_i x u l us' h1 h2;cases h;have hz:=hr.2 0 z a (by simp) (by simp);obtain⟨l1,r1⟩:=qki h2 (arr:=arr) ⟨by have:=hr.1; simpa using this,fun j x v hx hv=>hr.2 (j+1) x v (by simpa using hx) (by simpa using hv)⟩;refine⟨by simp[l1],fun j d v hd hv=>?_⟩
    cases j with
    | zero =>
     simp at hd hv; subst hd; subst hv;unfold qbY at h1;split at h1
     ·cases h1; exact Yh hz
     ·cases h1; cases hz; exact .emp _ _
     ·cases h1
     ·cases h1
    | succ j=>simp at hd hv; exact r1 j d v hd hv
   ·cases h
def qpi {zs:List V} {ds:List D} {us:List (Nat×qc)} (h:YS (fun _=>none) zs=some (ds,us)) {vs:List Value} (hz:Js vs=some zs):∀d∈ds,d.isAgg=false:=by
 refine qhM h ?_;clear h
 induction vs generalizing zs with
 | nil=>simp[Js]at hz; subst hz; rfl|cons v vs ih =>
  simp only[Js]at hz;split at hz
  ·rename_i x l hx hl;cases hz;simp only[qUZ,qTC];refine⟨?_,ih hl⟩;unfold qhP at hx;split at hx<;>cases hx<;>rfl
  ·cases hz
def qkj {e:D} {ds:List D} {k:Nat} (he:e.cells=ds) (hk:ds.length=k) (hp:0<k):∀(n j:Nat),j<n*k->(qn (List.replicate n e))[j]?=ds[j % k]?
 | 0,j,hj=>by omega
 | n+1,j,hj=>by
  rw[List.replicate_succ,qdD,he];rcases qTQ j k with h1|h1
  ·rw[qTZ (by omega),qVN h1]
  ·rw[qT1 (by omega),hk,qkj he hk hp n (j - k) (by rw[qUH]at hj; omega),Nat.mod_eq_sub_mod h1]
def qkk {z:Array Value} {n j:Nat} (hj:j<n) (hz:0<z.size):(madeCells z n)[j]?=z[j % z.size]?:=by
 have hm:=qUX j hz;rw[madeCells,Array.getElem?_map,Array.getElem?_range,if_pos hj];simp only[qUj];rw[getElem!_pos z (j % z.size) hm];simp[hm]
def qDA (hT:TOK P T) (inv:Inv w0 own m S w rows) {slot:Nat} (hs:Yn m rows slot) {t:TypeId} {l c:V} {lr cr:Value} {res:Res}
  (h:qeW T slot t l c=some res) (hl:RV m S w l lr) (hc:RV m S w c cr) :
  qbV P w0 own m S w rows slot (Instr.makeSlice t lr cr) res:=by
 unfold qeW at h;split at h
 ·rename_i y kl l kc c hy;have e1:=qax hl; subst e1;have e2:=qax hc; subst e2;split at h
  ·rename_i e hde;split at h
   ·rename_i z hz;split at h
    ·rename_i zs hzs;split at h
     ·split at h
      ·split at h
       ·rename_i hcond;obtain⟨h0,hlc,h62,hby,hz1⟩:=hcond;subst hlc;cases h;obtain⟨hu,_⟩:=Jk (hT t y hy);rw[hde]at hu;obtain⟨_,i,hi,hi1,hi2,hi3⟩:=Jk (hT _ z hz);have hrun:=run_make (P:=P) w t e i z.zero hu hi hi3 kl kc l l h0 (qVY _) (by rw[hi2]; omega) (by omega);rw[hi1,hz1]at hrun;have hzr:RVs m S w [V.nil] z.zero.cells:=by simpa using qcV (m:=m) (S:=S) (w:=w) hzs
        have hzsz:z.zero.cells.size=1:=hzr.1;obtain⟨k1,k2⟩:=qke inv hs (cs:=List.replicate l.toNat V.nil) (arr:=madeCells z.zero.cells (l.toNat*1)) e
         ⟨by rw[size_madeCells,qU0,qUA],fun j x v hx hv=>by
          have hj:=q7 hx;rw[qU0]at hj;rw[qkk (by omega) (by omega),hzsz,Nat.mod_one]at hv;have hx':x=V.nil:=by
           have:=qUi hx;exact(qUz.1 this).2
          subst hx';exact hzr.2 0 V.nil v rfl hv⟩
        exact⟨_,_,_,S,hrun,k1,k2,qeV (qTF _) (qTF _) (fun _=>rfl) (by rw[size_madeCells]; exact qTF _)⟩
       ·cases h
      ·cases h
     split at h
     ·rename_i ds us hds;split at h
      ·rename_i hcond;obtain⟨h0,hlc,h62,hby,hzl,hzp⟩:=hcond;cases h;obtain⟨hu,_⟩:=Jk (hT t y hy);rw[hde]at hu;obtain⟨_,i,hi,hi1,hi2,hi3⟩:=Jk (hT _ z hz);have hrun:=run_make (P:=P) w t e i z.zero hu hi hi3 kl kc l c h0 hlc (by rw[hi2]; omega) (by omega);rw[hi1]at hrun;have hzr:RVs m S w zs z.zero.cells:=by simpa using qcV (m:=m) (S:=S) (w:=w) hzs
       have hzsz:z.zero.cells.size=z.size:=by rw[hzr.1]; exact hzl
       obtain⟨n1,n2⟩:=qki hds (arr:=z.zero.cells.toList) (by simpa using hzr);have hdl:ds.length=z.size:=by rw[<-n1]; simpa using hzsz
       have hone:=qpi hds hzs;have hec:=qhN (agg:=z.agg) hone;obtain⟨k1,k2⟩:=qkh inv hs (k:=z.size) (es:=List.replicate l.toNat (JK z.agg ds)) (arr:=madeCells z.zero.cells (c.toNat*z.size)) e
        (fun x hx=>by rw[(qUz.1 hx).2,hec,hdl])
        (fun d hd=>by
         obtain⟨e',he',hd'⟩:=qUd.1 hd;rw[(qUz.1 he').2,hec]at hd';exact hone d hd')
        (fun j d hj=>by
         have hjl:j<l.toNat*z.size:=by
          have:=q7 hj;rwa[Jr (k:=z.size) (fun x hx=>by rw[(qUz.1 hx).2,hec,hdl]),qU0]at this
         rw[qkj hec hdl hzp _ j hjl]at hj;have hm:=qUX j hzp;have hle:l.toNat*z.size<=c.toNat*z.size:=qUp _ (by omega);rw[qkk (by omega) (by omega),hzsz];exact⟨z.zero.cells[j % z.size]'(by omega),by simp,n2 _ d _ hj (by simp)⟩)
       exact⟨_,_,_,S,hrun,k1,k2,qeV (by omega) (qTF _) (fun _=>rfl) (by rw[size_madeCells]; exact qTF _)⟩
      ·cases h
     ·cases h
    ·cases h
   ·cases h
  ·cases h
 ·cases h
end Go.Aev
end
