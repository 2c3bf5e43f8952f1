/- Lemmas for the statements of this seat: an abstract machine that the model follows, and contracts of functions. Conditions: none. -/
import Derived.Test.YtakpdahnlpjooaaGreatDoorA02
import Derived.Deep.AppendSrc
import Derived.Laws.MakeOwn
set_option linter.all false
set_option maxRecDepth 1000000
set_option maxHeartbeats 0
noncomputable section
namespace Go.Aev
variable [Glob]
variable {P:Program} {T:TypeId→Option Ty} {w0:World} {own:Own} {m:Mp} {S:Nat→Prop} {w:World} {rows:Rows} {g:qv}
structure Ym (m:Mp) (rows:Rows) (slot:Nat):Prop where
 le:slot≤rows.length
 dead:∀row,rows[slot]?≠some (qd.live row)
 new:m slot=none
theorem Inv.fresh (inv:Inv w0 own m S w rows) {slot:Nat} (hs:Ym m rows slot) (obj:Obj) (row:Row) (hrw:row.rw=true)
  (hrel:Ext m S w (qR m slot (w.heap.size,0)) S (w.alloc obj)→Yv (qR m slot (w.heap.size,0)) S (w.alloc obj) w.heap.size 0 row) :
  Inv w0 own (qR m slot (w.heap.size,0)) S (w.alloc obj) (qz rows slot (qd.live row))∧Ext m S w (qR m slot (w.heap.size,0)) S (w.alloc obj):=by
 have hge:∀(r:Nat) (row:Row) (c o:Nat),rows[r]?=some (qd.live row)→m r=some (c,o)→c≠w.heap.size:=fun r row c o _ hm=>by have:=inv.bnd r c o hm; omega
 have hnS:¬S w.heap.size:=fun h=>by have:=inv.sbnd _ h; omega
 have hold:∀c,c<w.heap.size→c≠w.heap.size→(w.alloc obj).heap[c]?=w.heap[c]?:=by
  intro c hc _;rw[show(w.alloc obj).heap=w.heap.push obj from rfl,qVu,if_neg (by omega)]
 have hb0:qZ w w.heap.size=0:=by unfold qZ; rw[qVP (qTF _)]
 obtain⟨k1,e1⟩:=inv.scratch (w':=w.alloc obj) w.heap.size (by simp) hold hge hnS (.inl inv.grow) (by rw[hb0]; exact qVB _) rfl rfl rfl;have hext:Ext m S w (qR m slot (w.heap.size,0)) S (w.alloc obj):=by
  refine e1.trans ⟨fun r p h=>?_,fun _ h=>h,fun _ _=>rfl,fun _=>qTF _⟩;unfold qR; split
  ·rename_i h2; subst h2; rw[hs.new]at h; cases h
  ·exact h
 obtain⟨k2,e2⟩:=k1.adopt slot row w.heap.size 0 hs.le hs.dead (.inl hs.new) hge hnS (by simp) (.inl inv.grow) hrw (hrel hext);exact⟨k2,hext⟩
theorem qcp (w:World) (o:Obj):(w.alloc o).heap[w.heap.size]?=some o:=by
 rw[show(w.alloc o).heap=w.heap.push o from rfl,qVu,if_pos rfl]
theorem qjn (inv:Inv w0 own m S w rows) {slot:Nat} (hs:Ym m rows slot) {cs:List V} {arr:Array Value} (e:TypeId) (h:RVs m S w cs arr) :
  Inv w0 own (qR m slot (w.heap.size,0)) S (w.alloc (.cells arr e)) (qz rows slot (qd.live (.box cs false)))∧Ext m S w (qR m slot (w.heap.size,0)) S (w.alloc (.cells arr e)):=by
 refine inv.fresh hs _ (.box cs false) rfl fun ext=>⟨arr,e,qcp w _,fun j x hj=>?_⟩
 obtain⟨v,hv,hr⟩:=h.get hj;exact⟨v,by rw[qT6]; exact hv,hr.ext ext⟩
theorem qnP (slot b:Nat) (w':World):RV (qR m slot (b,0)) S w' (.pt slot 0 0 0) (.pointer (some ⟨b,0,none⟩)):=by
 have:=RV.pt (S:=S) (w:=w') (m:=qR m slot (b,0)) slot 0 0 0 b 0 (by simp[qR]);simpa using this
theorem qA3 (inv:Inv w0 own m S w rows) {slot:Nat} (hs:Ym m rows slot) {e:TypeId} {x:V} {xr:Value} (hx:RV m S w x xr) :
  ∃u w' m',(Instr.box e xr).run P w=.ok u w'∧Inv w0 own m' S w' (qz rows slot (qd.live (.box x.cells false)))∧Ext m S w m' S w'∧RV m' S w' (.pt slot 0 0 0) u:=by
 obtain⟨h1,h2⟩:=qjn inv hs e (qnv hx);exact⟨_,_,_,by simp[Instr.box,newVar,newRow],h1,h2,qnP ..⟩
theorem qA4 (hT:TOK P T) (inv:Inv w0 own m S w rows) {slot:Nat} (hs:Ym m rows slot) {e:TypeId} {y:Ty} {zs:List V} (hy:T e=some y) (hz:Jq y.zero.cells.toList=some zs) :
  ∃u w' m',(Instr.alloc e true (.tuple #[])).run P w=.ok u w'∧Inv w0 own m' S w' (qz rows slot (qd.live (.box zs false)))∧Ext m S w m' S w'∧RV m' S w' (.pt slot 0 0 0) u:=by
 have h0:=qcV (m:=m) (S:=S) (w:=w) hz;obtain⟨h1,h2⟩:=qjn inv hs e (by simpa using h0);refine⟨_,_,_,?_,h1,h2,qnP ..⟩;simp[Instr.alloc,qhs (hT e y hy),newVar,newRow]
theorem qtp:∀(l:List Value) (off k:Nat) (c:Array Value),off+k+l.length≤c.size →
  (l.zipIdx k).foldl (fun(cs:Array Value) (x:Value×Nat)=>cs.setIfInBounds (off+x.2) x.1) c=(c.toList.take (off+k)++l++c.toList.drop (off+k+l.length)).toArray
 | [],off,k,c,_=>by simp
 | v::l,off,k,c,h=>by
  simp only[qT9]at h;rw[List.zipIdx_cons,qUK,qtp l off (k+1) _ (by simp; omega)];apply qUD;simp only[Array.toList_setIfInBounds,qT9];have hk:off+k<c.toList.length:=by simp; omega
  rw[show off+(k+1)=off+k+1 by omega,show off+k+1+l.length=off+k+(l.length+1) by omega];have e1:(c.toList.set (off+k) v).take (off+k+1)=c.toList.take (off+k)++[v]:=by
   apply qVl;intro i;rw[qUh,List.getElem?_set];rcases qVX i (off+k)with h1|h1|h1
   ·rw[if_pos (by omega),if_neg (by omega),qTZ (by simp; omega),qUh,if_pos h1]
   ·subst h1; rw[if_pos (by omega),if_pos rfl,if_pos hk,qT1 (by rw[qTU]; omega)];have:off+k - (c.toList.take (off+k)).length=0:=by rw[qTU]; omega
    rw[this]; rfl
   ·rw[if_neg (by omega),qUc (by simp; omega)]
  have e2:(c.toList.set (off+k) v).drop (off+k+(l.length+1))=c.toList.drop (off+k+(l.length+1)):=by
   apply qVl;intro i;rw[qUk,qUk,qUF (by omega)]
  rw[e1,e2];simp
theorem qA5 {cs xs:List V} {c:Array Value} {vs:List Value} {off:Nat} (h:RVs m S w cs c) (hx:RVs m S w xs vs.toArray) (hl:off+xs.length≤cs.length) :
  RVs m S w (Yb cs off xs) ((c.toList.take off++vs++c.toList.drop (off+vs.length)).toArray):=by
 have hvl:vs.length=xs.length:=by have:=hx.1; simpa using this
 have hc1:=h.1;refine⟨by simp[Yb]; omega,fun j x v hj hv=>?_⟩;have key:=qc1 (R:=RV m S w) (R':=RV m S w) (L:=cs) (c:=c) (o:=0) (pos:=off) (ds:=xs) (vs:=vs) (fun j d hd=>by
  obtain⟨v,hv,hr⟩:=h.get hd; exact⟨v,by rw[qT6]; exact hv,hr⟩) (fun _ _ h=>h) hvl (fun j d v hd hv=>hx.2 j d v hd (by simpa using hv)) (by omega) (by omega) j x hj
 obtain⟨v',hv',hr⟩:=key;rw[qT6,qT6]at hv';rw[hv]at hv'; cases hv'; exact hr
theorem qjo (place:Nat→Option (Nat×Nat)):∀{ps:List (Nat×V)} {prs:List (Nat×Value)} {cs cs':List V} {c:Array Value},qc5 place cs ps=some cs'→RVs m S w cs c →
  prs.map (·.1)=ps.map (·.1)→RVs m S w (ps.map (·.2)) (prs.map (·.2)).toArray→∃c',Instr.fill place c prs=some c'∧RVs m S w cs' c'∧cs'.length=cs.length
 | [],prs,cs,cs',c,h,hc,hi,hv=>by
  simp[qc5]at h; subst h
  cases prs with
  | nil=>exact⟨c,rfl,hc,rfl⟩|cons p prs=>simp at hi
 | (i,x)::ps,prs,cs,cs',c,h,hc,hi,hv=>by
  cases prs with
  | nil=>simp at hi|cons p prs =>
   obtain⟨i',v⟩:=p;simp at hi;obtain⟨rfl,hi⟩:=hi;have hv0:RV m S w x v:=hv.2 0 x v (by simp) (by simp);have hvs:RVs m S w (ps.map (·.2)) (prs.map (·.2)).toArray:=⟨by have:=hv.1; simpa using this,fun j y u hy hu=>hv.2 (j+1) y u (by simpa using hy) (by simpa using hu)⟩
   simp only[qc5]at h;split at h
   ·rename_i off size hpl;split at h
    ·rename_i hcond;have hcell:=qnv hv0;have hsz:v.cells.size=size:=by rw[hcell.1]; exact hcond.1
     have hrel:=qA5 hc (xs:=x.cells) (vs:=v.cells.toList) (off:=off) (by simpa using hcell) (by omega);obtain⟨c',h1,h2,h3⟩:=qjo place h hrel hi hvs;refine⟨c',?_,h2,by rw[h3]; simp[Yb]; omega⟩;simp only[Instr.fill,hpl];have hcs:=hc.1;rw[if_neg (by simp; omega)];have hf:=qtp v.cells.toList off 0 c (by simp; omega);rw[qUQ]at hf;rw[←h1,←hf,←Array.foldl_toList,Array.toList_zipIdx]
    ·cases h
   ·cases h
theorem qtq (w:World) (hT:TOK P T):∀{fs:List Field} {pl:List (Nat×Nat)},qhf T fs=some pl→(fs.mapM (fun f=>do pure (f.offset,←sizeOf f.type):Field→Sem (Nat×Nat))).run P w=.ok pl w
 | [],pl,h=>by simp[qhf]at h; subst h; rfl
 | f::fs,pl,h=>by
  simp only[qhf]at h;split at h
  ·rename_i z l hz hl;cases h;have ih:=qtq w hT hl;rw[qWf];simp only[Sem.run_bind,qas (hT _ z hz),Result.andThen_ok,Sem.run_pure,ih]
  ·cases h
theorem qnQ {α β:Type}:∀(a:List α) (b:List β),a.length=b.length→(a.zip b).map (·.1)=a
 | [],[],_=>rfl|x::a,y::b,h=>by simp[qnQ a b (by simpa using h)]
theorem qnR {α β:Type}:∀(a:List α) (b:List β),a.length=b.length→(a.zip b).map (·.2)=b
 | [],[],_=>rfl|x::a,y::b,h=>by simp[qnR a b (by simpa using h)]
theorem qA6 (hT:TOK P T) {t:TypeId} {v:V} {parts:List (Nat×Value)} {vs:List V} (h:qjB T t (parts.map (·.1)) vs=some v) (hv:RVs m S w vs (parts.map (·.2)).toArray) :
  ∃u,(Instr.build t parts.toArray).run P w=.ok u w∧RV m S w v u:=by
 have hl:vs.length=parts.length:=by have:=hv.1; simpa using this.symm
 have hz1:=qnQ (parts.map (·.1)) vs (by simp[hl]);have hz2:=qnR (parts.map (·.1)) vs (by simp[hl]);unfold qjB at h;split at h
 ·rename_i y hy;have hu:=YJ (w:=w) (hT t y hy);have hz:=qhs (w:=w) (hT t y hy);split at h
  ·rename_i zs hzs;have hzr:RVs m S w zs y.zero.cells:=by simpa using qcV (m:=m) (S:=S) (w:=w) hzs
   split at h
   ·rename_i fs hfs;rw[hfs]at hu;split at h
    ·rename_i pl hpl;have hp:=qtq w hT hpl
     cases hf:qc5 (pl[·]?) zs ((parts.map (·.1)).zip vs)with
     | none=>rw[hf]at h; cases h
     | some cs' =>
      rw[hf]at h; cases h;obtain⟨c',h1,h2,_⟩:=qjo (pl[·]?) (prs:=parts) hf hzr (by rw[hz1]) (by rw[hz2]; exact hv);have hm:(fs.mapM (fun f=>do pure (f.offset,←sizeOf f.type):Field→Sem (Nat×Nat))).run P w=.ok pl.toArray w:=by
       rw[qWz];simp only[Sem.run_map,hp,Result.andThen_ok]
      refine⟨.agg c',?_,qgZ h2⟩;have hpl':(fun x:Nat=>pl.toArray[x]?)=(pl[·]?):=by funext x; simp
      simp only[Instr.build,Sem.run_bind,hz,hu,Result.andThen_ok,hm,hpl',h1,Sem.run_pure]
    ·cases h
   ·rename_i n e hde;rw[hde]at hu;split at h
    ·rename_i z hz'
     cases hf:qc5 (fun i=>some (i*z.size,z.size)) zs ((parts.map (·.1)).zip vs)with
     | none=>rw[hf]at h; cases h
     | some cs' =>
      rw[hf]at h; cases h;obtain⟨c',h1,h2,_⟩:=qjo (fun i=>some (i*z.size,z.size)) (prs:=parts) hf hzr (by rw[hz1]) (by rw[hz2]; exact hv);refine⟨.agg c',?_,qgZ h2⟩;simp only[Instr.build,Sem.run_bind,hz,hu,Result.andThen_ok,qas (hT _ z hz'),h1,Sem.run_pure]
    ·cases h
   ·cases h
  ·cases h
 ·cases h
theorem Ym.mk' (inv:Inv w0 own m S w rows) {slot:Nat} (le:slot≤rows.length) (new:m slot=none):Ym m rows slot :=
 ⟨le,fun row h=>(by obtain⟨b,o,hm,_⟩:=inv.row slot row h; rw[new]at hm; cases hm),new⟩
theorem qjp {zs:List V} {k:Nat} (h:zs.length=k):∀n,(qdJ zs n).length=n*k
 | 0=>by simp[qdJ]
 | n+1=>by simp[qdJ,h,qjp h n,qUH]; omega
theorem qtr {zs:List V} {k:Nat} (h:zs.length=k) (hk:0<k):∀(n j:Nat),j<n*k→(qdJ zs n)[j]?=zs[j % k]?
 | 0,j,hj=>by omega
 | n+1,j,hj=>by
  simp only[qdJ];rcases qTQ j k with h1|h1
  ·rw[qTZ (by omega),qVN h1]
  ·rw[qT1 (by omega),h,qtr h hk n (j - k) (by rw[qUH]at hj; omega),Nat.mod_eq_sub_mod h1]
theorem qA7 {zs:List V} {arr:Array Value} {k n:Nat} (h:RVs m S w zs arr) (hz:zs.length=k) (hk:0<k):RVs m S w (qdJ zs n) ((Array.range (n*k)).map (arr[· % arr.size]!)):=by
  have ha:arr.size=k:=by rw[h.1]; exact hz
  refine⟨by simp[qjp hz],fun j x v hx hv=>?_⟩;have hj:j<n*k:=by have:=qL hx; rwa[qjp hz]at this
  rw[qtr hz hk n j hj]at hx;have hm:j % k<k:=qUX _ hk;rw[Array.getElem?_map,Array.getElem?_range,if_pos hj]at hv;simp at hv;subst hv;rw[ha];refine h.2 (j % k) x _ hx ?_;rw[getElem!_pos arr (j % k) (by omega)];simp[ha,hm]
theorem qjq (inv:Inv w0 own m S w rows) {slot:Nat} (hs:Ym m rows slot) {k:Nat} {es:List D} {arr:Array Value} (e:TypeId) (hk:∀x∈es,x.cells.length=k) (h1:∀d∈qq es,d.isAgg=false)
  (h:∀(j:Nat) (d:D),(qq es)[j]?=some d→∃v,arr[j]?=some v∧RD S w d v) :
  Inv w0 own (qR m slot (w.heap.size,0)) S (w.alloc (.cells arr e)) (qz rows slot (qd.live (.dat k es false)))∧Ext m S w (qR m slot (w.heap.size,0)) S (w.alloc (.cells arr e)):=by
 refine inv.fresh hs _ (.dat k es false) rfl fun ext=>⟨arr,e,qcp w _,hk,h1,fun j x hj=>?_⟩
 obtain⟨v,hv,hr⟩:=h j x hj;exact⟨v,by rw[qT6]; exact hv,hr.ext ext⟩
theorem qA8 (w:World) (arr:Array Value) (e:TypeId):qZ (w.alloc (.cells arr e)) w.heap.size=arr.size:=by
 unfold qZ; rw[qcp]
theorem qeK {slot k len c':Nat} {c:Nat} {ex:Bool} {arr:Array Value} {e:TypeId} (hl:len≤c') (hc:c≤c') (he:ex=true→c'=c) (hb:c'*k≤arr.size) :
  RV (qR m slot (w.heap.size,0)) S (w.alloc (.cells arr e)) (.sl slot k 0 len c ex) (.slice (some ⟨w.heap.size,0,none⟩) len c') :=
 .sl slot k 0 len c ex w.heap.size 0 c' _ (by simp[qR]) hl hc he (.inr (by simp)) (by rw[qA8]; simpa using hb)
theorem qts {agg:Bool} {k:Nat} (hk:0<k):∀(n:Nat) (ds:List D),ds.length=n*k→(∀d∈ds,d.isAgg=false)→qq (qfP agg k n ds)=ds∧∀e∈qfP agg k n ds,e.cells.length=k
 | 0,ds,h,_=>by
  have:ds=[]:=by apply qUr; omega
  subst this; exact⟨rfl,fun e he=>by cases he⟩
 | n+1,ds,h,hn=>by
  rw[qUH]at h;have h1:=qhc (agg:=agg) (ds:=ds.take k) (fun d hd=>hn d (qUg hd));obtain⟨h2,h3⟩:=qts hk n (ds.drop k) (by simp; omega) (fun d hd=>hn d (qUE hd));refine⟨by rw[qfP,qdA,h1,h2,qUw],fun e he=>?_⟩;rw[qfP]at he;rcases qTD.1 he with rfl|he
  ·rw[h1]; simp; omega
  ·exact h3 e he
def qaf (slot:Nat) (res:Res) (rows:Rows):Rows :=
 match res.fresh with
 | none=>YP res.ups rows|some row=>qz (YP res.ups rows) slot (.live row)
def qbU (P:Program) (w0:World) (own:Own) (m:Mp) (S:Nat→Prop) (w:World) (rows:Rows) (slot:Nat) (s:Sem Value) (res:Res):Prop :=
 ∃u w' m' S',s.run P w=.ok u w'∧Inv w0 own m' S' w' (qaf slot res rows)∧Ext m S w m' S' w'∧RV m' S' w' res.v u
theorem qA9 (hT:TOK P T) (hg:GOK g rows) (inv:Inv w0 own m S w rows) {slot:Nat} (hs:Ym m rows slot) {t:TypeId} {len:Nat} {parts:List (Nat×Value)} {vs:List V} {res:Res}
    (h:qn5 T g slot t len (parts.map (·.1)) vs=some res) (hv:RVs m S w vs (parts.map (·.2)).toArray) :
    qbU P w0 own m S w rows slot (Instr.buildSlice t len parts.toArray) res:=by
  have hl:vs.length=parts.length:=by have:=hv.1; simpa using this.symm
  have hz1:=qnQ (parts.map (·.1)) vs (by simp[hl]);have hz2:=qnR (parts.map (·.1)) vs (by simp[hl]);unfold qn5 at h;split at h
  · rename_i y hy
    have hu:=YJ (w:=w) (hT t y hy);split at h
    · rename_i e hde
      rw[hde]at hu;split at h
      · rename_i z hz
        split at h
        · rename_i zs hzs
          split at h
          · rename_i hcond
            obtain⟨h24,hzl,hzp⟩:=hcond;split at h
            · rename_i cs hcs
              split at h
              · rename_i hone
                have hzr:RVs m S w zs z.zero.cells:=by simpa using qcV (m:=m) (S:=S) (w:=w) hzs
                have hrep:=qA7 (n:=len) hzr hzl hzp;obtain⟨c',h1,h2,h3⟩:=qjo (fun i=>some (i*z.size,z.size)) (prs:=parts) hcs hrep (by rw[hz1]) (by rw[hz2]; exact hv);have hlen:cs.length=len*z.size:=by rw[h3,qjp hzl]
                have hrun:(Instr.buildSlice t len parts.toArray).run P w=.ok (.slice (some ⟨w.heap.size,0,none⟩) len len) (w.alloc (.cells c' e)):=by
                  simp only[Instr.buildSlice,Sem.run_bind,hu,Result.andThen_ok,qas (hT _ z hz)];rw[if_neg (by omega)]
                  by_cases h0:len*z.size=0
                  · rw[if_pos h0]
                    have harr:(Array.range (len*z.size)).map (fun x=>(#[]:Array Value)[x % (#[]:Array Value).size]!)=(Array.range (len*z.size)).map (z.zero.cells[· % z.zero.cells.size]!):=by rw[h0]; simp
                    simp only[Sem.run_bind,Sem.run_pure,Result.andThen_ok];rw[harr,h1];simp only[newRow,Sem.run_bind,run_newObj,Result.andThen_ok,Sem.run_pure];rfl
                  · rw[if_neg h0]
                    simp only[Sem.run_bind,Sem.run_pure,Result.andThen_ok,qhs (hT _ z hz),h1];simp only[newRow,Sem.run_bind,run_newObj,Result.andThen_ok,Sem.run_pure];rfl
                have hcsz:c'.size=len*z.size:=by rw[h2.1]; exact hlen
                split at h
                · rename_i ds us hds
                  cases h;obtain⟨S1,i1,e1,⟨len1,r1⟩,g1,keep1,l1⟩:=qha (arr:=c'.toList) inv hg.gd hds (by simpa using h2);have hdl:ds.length=len*z.size:=by rw[←len1]; simpa using hcsz
                  obtain⟨f1,f2⟩:=qts (agg:=z.agg) hzp len ds hdl (qhb hds hone);obtain⟨k1,k2⟩:=qjq i1 (Ym.mk' i1 (by rw[l1]; exact hs.le) hs.new) (k:=z.size) (arr:=c') e f2 (by rw[f1]; exact qhb hds hone) (fun j d hj=>by
                    rw[f1]at hj;have hjl:=qL hj;refine⟨c'[j]'(by omega),by simp,r1 j d _ hj (by simp)⟩)
                  exact⟨_,_,_,S1,hrun,k1,e1.trans k2,qeK (qTF _) (qTF _) (fun _=>rfl) (by omega)⟩
                · cases h
                  obtain⟨k1,k2⟩:=qjn inv hs e h2;exact⟨_,_,_,S,hrun,k1,k2,qeK (qTF _) (qTF _) (fun _=>rfl) (by omega)⟩
              · cases h
            · cases h
          · cases h
        · cases h
      · cases h
    · cases h
  · cases h
theorem qjr:∀{zs:List V} {ds:List D} {us:List (Nat×qd)},YY (fun _=>none) zs=some (ds,us)→∀{arr:List Value},RVs m S w zs arr.toArray →
  arr.length=ds.length∧(∀(j:Nat) (d:D) (v:Value),ds[j]?=some d→arr[j]?=some v→RD S w d v)
 | [],ds,us,h,arr,hr=>by
  simp[YY]at h;obtain⟨rfl,rfl⟩:=h;exact⟨by have:=hr.1; simpa using this,fun j d v hd=>by simp at hd⟩
 | z::zs,ds,us,h,arr,hr=>by
  cases arr with
  | nil=>have:=hr.1; simp at this
  | cons a arr =>
   simp only[YY]at h;split at h
   ·rename_i x u l us' h1 h2;cases h;have hz:=hr.2 0 z a (by simp) (by simp);obtain⟨l1,r1⟩:=qjr h2 (arr:=arr) ⟨by have:=hr.1; simpa using this,fun j x v hx hv=>hr.2 (j+1) x v (by simpa using hx) (by simpa using hv)⟩;refine⟨by simp[l1],fun j d v hd hv=>?_⟩
    cases j with
    | zero =>
     simp at hd hv; subst hd; subst hv;unfold qbX at h1;split at h1
     ·cases h1; exact Ya hz
     ·cases h1; cases hz; exact .emp _ _
     ·cases h1
     ·cases h1
    | succ j=>simp at hd hv; exact r1 j d v hd hv
   ·cases h
theorem qnS {zs:List V} {ds:List D} {us:List (Nat×qd)} (h:YY (fun _=>none) zs=some (ds,us)) {vs:List Value} (hz:Jq vs=some zs):∀d∈ds,d.isAgg=false:=by
 refine qhb h ?_;clear h
 induction vs generalizing zs with
 | nil=>simp[Jq]at hz; subst hz; rfl|cons v vs ih =>
  simp only[Jq]at hz;split at hz
  ·rename_i x l hx hl;cases hz;simp only[qUZ,qTC];refine⟨?_,ih hl⟩;unfold qhe at hx;split at hx<;>cases hx<;>rfl
  ·cases hz
theorem qjs {e:D} {ds:List D} {k:Nat} (he:e.cells=ds) (hk:ds.length=k) (hp:0<k):∀(n j:Nat),j<n*k→(qq (List.replicate n e))[j]?=ds[j % k]?
 | 0,j,hj=>by omega
 | n+1,j,hj=>by
  rw[List.replicate_succ,qdA,he];rcases qTQ j k with h1|h1
  ·rw[qTZ (by omega),qVN h1]
  ·rw[qT1 (by omega),hk,qjs he hk hp n (j - k) (by rw[qUH]at hj; omega),Nat.mod_eq_sub_mod h1]
theorem qjt {z:Array Value} {n j:Nat} (hj:j<n) (hz:0<z.size):(madeCells z n)[j]?=z[j % z.size]?:=by
 have hm:=qUX j hz;rw[madeCells,Array.getElem?_map,Array.getElem?_range,if_pos hj];simp only[qUj];rw[getElem!_pos z (j % z.size) hm];simp[hm]
theorem qBa (hT:TOK P T) (inv:Inv w0 own m S w rows) {slot:Nat} (hs:Ym m rows slot) {t:TypeId} {l c:V} {lr cr:Value} {res:Res}
  (h:qeL T slot t l c=some res) (hl:RV m S w l lr) (hc:RV m S w c cr) :
  qbU P w0 own m S w rows slot (Instr.makeSlice t lr cr) res:=by
 unfold qeL at h;split at h
 ·rename_i y kl l kc c hy;have e1:=qau hl; subst e1;have e2:=qau hc; subst e2;split at h
  ·rename_i e hde;split at h
   ·rename_i z hz;split at h
    ·rename_i zs hzs;split at h
     ·split at h
      ·split at h
       ·rename_i hcond;obtain⟨h0,hlc,h62,hby,hz1⟩:=hcond;subst hlc;cases h;obtain⟨hu,_⟩:=Jk (hT t y hy);rw[hde]at hu;obtain⟨_,i,hi,hi1,hi2,hi3⟩:=Jk (hT _ z hz);have hrun:=run_make (P:=P) w t e i z.zero hu hi hi3 kl kc l l h0 (qVY _) (by rw[hi2]; omega) (by omega);rw[hi1,hz1]at hrun;have hzr:RVs m S w [V.nil] z.zero.cells:=by simpa using qcV (m:=m) (S:=S) (w:=w) hzs
        have hzsz:z.zero.cells.size=1:=hzr.1;obtain⟨k1,k2⟩:=qjn inv hs (cs:=List.replicate l.toNat V.nil) (arr:=madeCells z.zero.cells (l.toNat*1)) e
         ⟨by rw[size_madeCells,qU0,qUA],fun j x v hx hv=>by
          have hj:=qL hx;rw[qU0]at hj;rw[qjt (by omega) (by omega),hzsz,Nat.mod_one]at hv;have hx':x=V.nil:=by
           have:=qUi hx;exact(qUz.1 this).2
          subst hx';exact hzr.2 0 V.nil v rfl hv⟩
        exact⟨_,_,_,S,hrun,k1,k2,qeK (qTF _) (qTF _) (fun _=>rfl) (by rw[size_madeCells]; exact qTF _)⟩
       ·cases h
      ·cases h
     split at h
     ·rename_i ds us hds;split at h
      ·rename_i hcond;obtain⟨h0,hlc,h62,hby,hzl,hzp⟩:=hcond;cases h;obtain⟨hu,_⟩:=Jk (hT t y hy);rw[hde]at hu;obtain⟨_,i,hi,hi1,hi2,hi3⟩:=Jk (hT _ z hz);have hrun:=run_make (P:=P) w t e i z.zero hu hi hi3 kl kc l c h0 hlc (by rw[hi2]; omega) (by omega);rw[hi1]at hrun;have hzr:RVs m S w zs z.zero.cells:=by simpa using qcV (m:=m) (S:=S) (w:=w) hzs
       have hzsz:z.zero.cells.size=z.size:=by rw[hzr.1]; exact hzl
       obtain⟨n1,n2⟩:=qjr hds (arr:=z.zero.cells.toList) (by simpa using hzr);have hdl:ds.length=z.size:=by rw[←n1]; simpa using hzsz
       have hone:=qnS hds hzs;have hec:=qhc (agg:=z.agg) hone;obtain⟨k1,k2⟩:=qjq inv hs (k:=z.size) (es:=List.replicate l.toNat (JG z.agg ds)) (arr:=madeCells z.zero.cells (c.toNat*z.size)) e
        (fun x hx=>by rw[(qUz.1 hx).2,hec,hdl])
        (fun d hd=>by
         obtain⟨e',he',hd'⟩:=qUd.1 hd;rw[(qUz.1 he').2,hec]at hd';exact hone d hd')
        (fun j d hj=>by
         have hjl:j<l.toNat*z.size:=by
          have:=qL hj;rwa[Jp (k:=z.size) (fun x hx=>by rw[(qUz.1 hx).2,hec,hdl]),qU0]at this
         rw[qjs hec hdl hzp _ j hjl]at hj;have hm:=qUX j hzp;have hle:l.toNat*z.size≤c.toNat*z.size:=qUp _ (by omega);rw[qjt (by omega) (by omega),hzsz];exact⟨z.zero.cells[j % z.size]'(by omega),by simp,n2 _ d _ hj (by simp)⟩)
       exact⟨_,_,_,S,hrun,k1,k2,qeK (by omega) (qTF _) (fun _=>rfl) (by rw[size_madeCells]; exact qTF _)⟩
      ·cases h
     ·cases h
    ·cases h
   ·cases h
  ·cases h
 ·cases h
end Go.Aev
end
