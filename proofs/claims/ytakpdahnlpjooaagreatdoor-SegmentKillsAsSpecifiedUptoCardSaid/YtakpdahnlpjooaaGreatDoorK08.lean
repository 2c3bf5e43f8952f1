/- Lemmas: a machine that the model follows, and contracts. Conditions: none. -/
import Derived.Test.YtakpdahnlpjooaaGreatDoorK07
import Derived.Orders
set_option linter.all false
set_option maxRecDepth 1000000
set_option maxHeartbeats 0
noncomputable section
namespace Go.Aev
variable [Glob]
def J3 (n:Nat) (listed:Array Bool):List Nat:=(List.range n).filter fun i=>!listed.getD i true
def qkJ {n:Nat} {listed:Array Bool} {i:Nat}:i∈J3 n listed↔i<n/\listed.getD i true=false:=by
 unfold J3; simp
def qv9 (n:Nat) (listed:Array Bool):(J3 n listed).Pairwise (·<·):=List.Pairwise.filter _ qV9
def qD4 {L:List Nat} {k:Nat} (h:k∈L):∃A B,L=A++k::B:=List.append_of_mem h
def qD5 {n:Nat} {listed:Array Bool} {k:Nat} {A B:List Nat} (hs:listed.size=n) (h:J3 n listed=A++k::B):J3 n (listed.setIfInBounds k true)=A++B:=by
  have hsort:=qv9 n listed;rw[h]at hsort;have hnd:(A++k::B).Nodup:=hsort.imp (fun h=>Nat.ne_of_lt h);have hk:k<n:=(qkJ.1 (h ▸ (by simp:k∈A++k::B))).1;have hf:J3 n (listed.setIfInBounds k true)=(J3 n listed).filter (· != k):=by
    unfold J3;rw[List.filter_filter];apply List.filter_congr;intro i hi;have hin:i<n:=by simpa using hi
    by_cases e:i=k
    · subst e; simp[hs,hin]
    · have:(listed.setIfInBounds k true).getD i true=listed.getD i true:=by
        simp only[qWk];rw[qVy (fun h=>e h.symm)]
      rw[this]; simp[e]
  rw[hf,h,List.filter_append,List.filter_cons];have hA:A.filter (· != k)=A:=by
    apply qVc.2;intro a ha;have:a≠k:=fun e=>by
      subst e;rw[qVm]at hnd;exact(hnd.2.2 a ha a (by simp)) rfl
    simpa using this
  have hB:B.filter (· != k)=B:=by
    apply qVc.2;intro a ha;have:a≠k:=fun e=>by
      subst e;rw[qVm]at hnd;exact(qV2.1 hnd.2.1).1 ha
    simpa using this
  simp[hA,hB]
def qkK {ops:Array Oper} {k j:Nat}:j∈Ji ops k↔∃o e,ops[k]?=some o/\e∈o.after/\Region.binds .any e=true/\e.on=j:=by
 unfold Ji
 cases h:ops[k]? with
 | none=>simp|some o=>simp[and_assoc]
def qwa {ops:Array Oper} {listed:Array Bool} {k:Nat} (hs:listed.size=ops.size) (hd:∀j∈Ji ops k,j<ops.size) :
  k∈Region.ready .any ops listed↔k∈J3 ops.size listed/\∀j∈Ji ops k,j∉J3 ops.size listed:=by
 unfold Region.ready;rw[qUT,qU2,qkJ];constructor
 ·rintro⟨h1,h2⟩
  simp only[qTC,qUy]at h2;refine⟨⟨h1,h2.1⟩,fun j hj hl=>?_⟩;obtain⟨o,e,ho,he,hb,rfl⟩:=qkK.1 hj;have h3:=h2.2;rw[ho]at h3;simp only[qUj,qTT]at h3;have h4:=(Array.all_eq_true'.1 h3) e he;rw[hb]at h4;simp only[qUP,qVF]at h4;have h5:=(qkJ.1 hl).2;have hlt:e.on<listed.size:=by rw[hs]; exact hd e.on hj
  simp only[qWk,qVk hlt,qTT]at h4 h5;rw[h4]at h5; cases h5
 ·rintro⟨⟨h1,h2⟩,h3⟩
  refine⟨h1,?_⟩;simp only[h2,qVa,Bool.true_and];rw[qVk h1];simp only[qUj,qTT];refine Array.all_eq_true'.2 fun e he=>?_
  cases hb:Region.binds .any e with
  | false=>rfl|true =>
   simp only[qUP,qVF];have hj:e.on∈Ji ops k:=qkK.2 ⟨_,e,qVk h1,he,hb,rfl⟩;have hlt:e.on<listed.size:=by rw[hs]; exact hd _ hj
   have h5:=h3 _ hj;rw[qkJ]at h5;simp only[qWk,qVk hlt,qTT]at h5 ⊢
   cases hl:listed[e.on]with
   | true=>rfl|false=>exact absurd ⟨by omega,hl⟩ h5
def qe2 (ops:Array Oper):Bool:=(List.range ops.size).all fun k=>(Ji ops k).all fun j=>decide (j<k)
def qkL {ops:Array Oper} (h:qe2 ops=true):∀k,∀j∈Ji ops k,j<k:=by
 intro k j hj;have hk:k<ops.size:=by
  obtain⟨o,e,ho,_⟩:=qkK.1 hj;exact(qUY.1 ho).1
 have:=(qTI.1 h) k (by simpa using hk);simpa using(qTI.1 this) j hj
def qwb {ops:Array Oper} (he:qe2 ops=true):∀(fuel t:Nat) (listed:Array Bool),listed.size=ops.size->(J3 ops.size listed).length=fuel ->
  qa7 ops (J3 ops.size listed) (Region.linearise.go .any ops fuel t listed [])
 | 0,t,listed,hs,hl=>by
  have:J3 ops.size listed=[]:=qUr hl;rw[this];simp[Region.linearise.go];exact .nil
 | fuel+1,t,listed,hs,hl=>by
  have hed:=qkL he;have hdn:∀k,k<ops.size->∀j∈Ji ops k,j<ops.size:=fun k hk j hj=>qVQ (hed k j hj) hk
  have hdn':∀k j,j∈Ji ops k->j<ops.size:=fun k j hj=>by
   obtain⟨o,e,ho,_⟩:=qkK.1 hj;exact hdn k (qUY.1 ho).1 j hj
  simp only[Region.linearise.go]
  change qa7 ops _ (match (Region.ready .any ops listed)[t % (Region.ready .any ops listed).length]? with
   | some i=>Region.linearise.go .any ops fuel (t / (Region.ready .any ops listed).length) (listed.setIfInBounds i true) [i]|none=>[].reverse)
  have hne:Region.ready .any ops listed≠[]:=by
   cases hL:J3 ops.size listed with
   | nil=>rw[hL]at hl; simp at hl|cons x L =>
    have hx:x∈J3 ops.size listed:=by rw[hL]; simp
    have:x∈Region.ready .any ops listed:=by
     rw[qwa hs (hdn' x)];refine⟨hx,fun j hj hjl=>?_⟩;have hjx:=hed x j hj;have hsort:=qv9 ops.size listed;rw[hL]at hsort hjl;rcases qTD.1 hjl with h|h
     ·omega
     ·have:=(qVn.1 hsort).1 j h; omega
    exact List.ne_nil_of_mem this
  have hlen:0<(Region.ready .any ops listed).length:=List.length_pos_iff.2 hne;have hidx:t % (Region.ready .any ops listed).length<(Region.ready .any ops listed).length:=qUX _ hlen;rw[qTE hidx];simp only[];generalize hk:(Region.ready .any ops listed)[t % (Region.ready .any ops listed).length]=k;have hkm:k∈Region.ready .any ops listed:=by rw[<-hk]; exact qTL _
  rw[qwa hs (hdn' k)]at hkm;obtain⟨A,B,hAB⟩:=qD4 hkm.1;have hset:=qD5 hs hAB;have ih:=qwb he fuel (t / (Region.ready .any ops listed).length) (listed.setIfInBounds k true) (by simp[hs]) (by rw[hset]; rw[hAB]at hl; simp at hl ⊢; omega);rw[linearise_go_acc,List.reverse_singleton,qVA,hAB];rw[hset]at ih;exact .cons k A B _ (by rw[<-hAB]; exact hkm.2) ih
def qwc {ops:Array Oper} (he:qe2 ops=true) (t:Nat):qa7 ops (List.range ops.size) (Region.schedule true ops t):=by
 have h:J3 ops.size (Array.replicate ops.size false)=List.range ops.size:=by
  unfold J3;apply qVc.2;intro i hi;have:i<ops.size:=by simpa using hi
  simp[this]
 have:=qwb he ops.size t (Array.replicate ops.size false) (by simp) (by rw[h]; simp);rw[h]at this;simpa[Region.schedule,Region.linearise]using this
def qbx (c:Cfg) (ops:Array Oper) (slot0:Nat):List Nat->St->Option (List Rec×St)
 | [],s=>some ([],s)|i::l,s=>match qc7 c ops slot0 i s with
  | some a=>match qbx c ops slot0 l (a.exec s)with
   | some (rs,s')=>some (a::rs,s')|none=>none
  | none=>none
def qc8 (ops:Array Oper):Nat->List Nat
 | 0=>[]|k+1=>qc8 ops k++[(Ji ops k).foldl (fun m j=>m|||(2 ^ j|||(qc8 ops k).getD j 0)) 0]
def qbZ (ops:Array Oper) (n:Nat):List (List Nat):=(qc8 ops n).map fun m=>(List.range n).filter fun i=>m.testBit i
def qhZ (ops:Array Oper):∀n,(qc8 ops n).length=n
 | 0=>rfl|n+1=>by simp[qc8,qhZ ops n]
def qwd {f:Nat->Nat} {i:Nat}:∀{l:List Nat} {m:Nat},(l.foldl (fun m j=>m|||(2 ^ j|||f j)) m).testBit i=true->m.testBit i=true\/∃j∈l,i=j\/(f j).testBit i=true
 | [],m,h=>.inl h|x::l,m,h=>by
  rw[qUK]at h;rcases qwd h with h1|⟨j,hj,h1⟩
  ·rw[Nat.testBit_or,Nat.testBit_or,qTM,qTM]at h1;rcases h1 with h1|h1|h1
   ·exact .inl h1
   ·refine .inr ⟨x,by simp,.inl ?_⟩;rw[Nat.testBit_two_pow]at h1;exact(of_decide_eq_true h1).symm
   ·exact .inr ⟨x,by simp,.inr h1⟩
  ·exact .inr ⟨j,by simp[hj],h1⟩
def qpK {ops:Array Oper}:∀(n k i:Nat),k<n->((qc8 ops n).getD k 0).testBit i=true->Anc ops i k
 | 0,k,i,h,_=>by omega
 | n+1,k,i,h,hi=>by
  simp only[qc8,List.getD]at hi;rcases qTQ k n with h1|h1
  ·rw[qTZ (by rw[qhZ]; exact h1)]at hi;exact qpK n k i h1 (by simpa[List.getD]using hi)
  ·have:k=n:=by omega
   subst this;rw[qT1 (by rw[qhZ]; exact qTF _),qhZ,Nat.sub_self]at hi;simp only[List.getElem?_cons_zero,qTT]at hi;rcases qwd (f:=fun j=>((qc8 ops k)[j]?).getD 0) hi with h2|⟨j,hj,h2⟩
   ·simp at h2
   ·rcases h2 with rfl|h2
    ·exact .one hj
    ·rcases qTQ j k with h3|h3
     ·exact .more hj (qpK k j i h3 (by simpa[List.getD]using h2))
     ·rw[qUc (by rw[qhZ]; exact h3)]at h2; simp at h2
def qkM {ops:Array Oper} (n k i:Nat) (h:k<n) (hi:i∈(qbZ ops n).getD k []):Anc ops i k:=by
 unfold qbZ at hi;rw[zzG,qT3]at hi
 cases hm:(qc8 ops n)[k]? with
 | none=>rw[hm]at hi; simp at hi|some m =>
  rw[hm]at hi;simp only[qUj,qTT,qUT]at hi;exact qpK n k i h (by rw[zzG,hm]; exact hi.2)
def qge (an:List (List Nat)) (slot0:Nat) (rs:List Rec):Bool :=
 rs.zipIdx.all fun(b,k)=>rs.zipIdx.all fun(a,i) =>
  (i==k)||(((an.getD i []).contains k||!a.wr.contains (slot0+k))&&(decide (k<i)||(an.getD k []).contains i||qgb a b))
end Go.Aev
namespace Go.Aev
variable [Glob]
variable {P:Program} {w0:World} {own:Own} {m:Mp} {S:Nat->Prop} {w:World} {rows:Rows}
def qf1 (m:Mp) (S:Nat->Prop) (rows:Rows) (rs:List Nat):Nat->Prop:=fun c=>S c\/∃r row o,r∈rs/\rows[r]?=some (qc.live row)/\row.freeze.rw=false/\m r=some (c,o)
def qjY (inv:Inv w0 own m S w rows) (rs:List Nat):Ext m S w m (qf1 m S rows rs) w:=⟨fun _ _ h=>h,fun _ h=>.inl h,fun _ _=>rfl,fun _=>qTF _⟩
def qf2:∀{rs:List Nat} {u:Nat×qc},u∈JM rows rs->u.1∈rs/\∃row,rows[u.1]?=some (qc.live row)/\row.rw=true/\row.freeze.rw=false/\u.2=.live row.freeze
 | [],u,h=>by cases h
 | r::rs,u,h=>by
  simp only[JM]at h;split at h
  ·rename_i row hl;split at h
   ·rename_i hc;simp only[qTC,qUy]at hc;rcases qTD.1 h with rfl|h
    ·refine⟨by simp,row,?_,hc.1,hc.2,rfl⟩;simp only[qp]at hl;split at hl
     ·rename_i row' hr; cases hl; exact hr
     ·cases hl
    ·have:=qf2 h; exact⟨qTG _ this.1,this.2⟩
   ·have:=qf2 h; exact⟨qTG _ this.1,this.2⟩
  ·have:=qf2 h; exact⟨qTG _ this.1,this.2⟩
def quL:∀{rs:List Nat} {r:Nat} {row:Row},r∈rs->rows[r]?=some (qc.live row)->row.rw=true->row.freeze.rw=false->(r,qc.live row.freeze)∈JM rows rs
 | [],r,row,h,_,_,_=>by cases h
 | x::rs,r,row,h,hr,h1,h2=>by
  simp only[JM];rcases qTD.1 h with rfl|h
  ·have:qp rows r=some row:=by simp[qp,hr]
   rw[this]; simp[h1,h2]
  ·have ih:=quL h hr h1 h2;split
   ·split
    ·exact qTG _ ih
    ·exact ih
   ·exact ih
def qCs {us:List (Nat×qc)} {r:Nat} {x:qc}:∀{rows:Rows},(∀u∈us,u.1=r->u.2=x)->((∃u∈us,u.1=r)\/rows[r]?=some x)->r<rows.length->(qI us rows)[r]?=some x:=by
 induction us with
 | nil=>intro rows _ h hl; rcases h with⟨u,hu,_⟩|h; cases hu; exact h
 | cons u us ih =>
  intro rows hall h hl;refine ih (rows:=rows.set u.1 u.2) (fun v hv=>hall v (qTG _ hv)) ?_ (by simpa using hl)
  by_cases e:u.1=r
  ·right; rw[e,qUV hl,hall u (by simp) e]
  ·rcases h with⟨v,hv,hvr⟩|h
   ·rcases qTD.1 hv with rfl|hv
    ·exact absurd hvr e
    ·exact .inl ⟨v,hv,hvr⟩
   ·right; rw[qUF e]; exact h
def qhA {rs:List Nat} (r:Nat):(∃row,rows[r]?=some (qc.live row)/\r∈rs/\row.rw=true/\row.freeze.rw=false/\(qI (JM rows rs) rows)[r]?=some (qc.live row.freeze)) \/
  ((qI (JM rows rs) rows)[r]?=rows[r]?/\∀row,rows[r]?=some (qc.live row)->r∈rs->row.freeze.rw=false->row.rw=false):=by
 by_cases h:r∈(JM rows rs).map (·.1)
 ·left;obtain⟨u,hu,rfl⟩:=qTV.1 h;obtain⟨h1,row,h2,h3,h4,h5⟩:=qf2 hu;refine⟨row,h2,h1,h3,h4,qCs (fun v hv e=>?_) (.inl ⟨u,hu,rfl⟩) (q7 h2)⟩;obtain⟨_,row',h2',_,_,h5'⟩:=qf2 hv;rw[e,h2]at h2'; cases h2'; exact h5'
 ·right;refine⟨qpG h,fun row h1 h2 h3=>?_⟩
  cases hw:row.rw with
  | false=>rfl|true=>exact absurd (qVi (f:=(·.1)) (quL h2 h1 hw h3)) h
def quM (inv:Inv w0 own m S w rows) (rs:List Nat):Inv w0 own m (qf1 m S rows rs) w (qI (JM rows rs) rows):=by
 have he:=qjY inv rs;have hlen:=qhX (JM rows rs) rows;have back:∀{r:Nat} {row:Row},(qI (JM rows rs) rows)[r]?=some (qc.live row)->row.rw=true->rows[r]?=some (qc.live row)/\(r∈rs->row.freeze.rw=true):=by
  intro r row h hw;rcases qhA (rows:=rows) (rs:=rs) r with⟨row0,h1,h2,h3,h4,h5⟩|⟨h1,h2⟩
  ·rw[h5]at h; cases h; rw[h4]at hw; cases hw
  ·rw[h1]at h;refine⟨h,fun hr=>?_⟩
   cases hf:row.freeze.rw with
   | true=>rfl|false=>have:=h2 row h hr hf; rw[this]at hw; cases hw
 refine⟨fun r hr=>inv.none r (by omega),fun r hr=>?_,fun r row hr=>?_,inv.bnd,fun r row b o h1 hw hm=>inv.new r row b o (back h1 hw).1 hw hm,fun r r' row row' b o b' o' hne h1 h2 hw e1 e2=>?_,fun r row b o h1 hw hm=>?_,
  fun r row b o h1 hw hm=>?_,fun c hc=>?_,fun c hc=>?_,fun c hc=>.inl (inv.stb c hc),inv.os,inv.tape,inv.output,inv.grow,inv.kept,inv.glb.ext he⟩
 ·rcases qhA (rows:=rows) (rs:=rs) r with⟨row0,_,_,_,_,h5⟩|⟨h1,_⟩
  ·rw[h5]at hr; cases hr
  ·rw[h1]at hr; exact inv.fre r hr
 ·rcases qhA (rows:=rows) (rs:=rs) r with⟨row0,h1,_,_,_,h5⟩|⟨h1,_⟩
  ·rw[h5]at hr; cases hr;obtain⟨b,o,hm,hrel⟩:=inv.row r row0 h1;exact⟨b,o,hm,(hrel.ext he rfl).freeze⟩
  ·rw[h1]at hr;obtain⟨b,o,hm,hrel⟩:=inv.row r row hr;exact⟨b,o,hm,hrel.ext he rfl⟩
 ·have hb:=(back h1 hw).1;rcases qhA (rows:=rows) (rs:=rs) r' with⟨row0,g1,_,_,_,g5⟩|⟨g1,_⟩
  ·exact inv.apart r r' row row0 b o b' o' hne hb g1 hw e1 e2
  ·rw[g1]at h2; exact inv.apart r r' row row' b o b' o' hne hb h2 hw e1 e2
 ·obtain⟨hb,hfr⟩:=back h1 hw
  rintro(hS|⟨r2,row2,o2,hr2,hl2,hf2,hm2⟩)
  ·exact inv.stab r row b o hb hw hm hS
  ·by_cases e:r=r2
   ·subst e;rw[hb]at hl2; cases hl2;rw[hfr hr2]at hf2; cases hf2
   ·exact inv.apart r r2 row row2 b o b o2 e hb hl2 hw hm hm2 rfl
 ·rcases qhA (rows:=rows) (rs:=rs) r with⟨row0,g1,g2,_,g4,g5⟩|⟨g1,_⟩
  ·exact .inr ⟨r,row0,o,g2,g1,g4,hm⟩
  ·rw[g1]at h1; exact .inl (inv.rost r row b o h1 hw hm)
 ·rcases hc with hc|⟨r,row,o,_,_,_,hm⟩
  ·exact inv.sbnd c hc
  ·exact inv.bnd r c o hm
 ·rcases hc with hc|⟨r,row,o,_,hl,_,hm⟩
  ·exact inv.base c hc
  ·cases hw:row.rw with
   | true=>exact .inr (inv.new r row c o hl hw hm)|false=>exact inv.base c (inv.rost r row c o hl hw hm)
mutual
def quN {S S':Nat->Prop} {w w':World}:∀{x:D} {v:Value},x.plain=true->RD S w x v->RD S' w' x v
 | .int k n,v,_,h=>by cases h; exact .int k n
 | .bool b,v,_,h=>by cases h; exact .bool b
 | .str s,v,_,h=>by cases h; exact .str s
 | .nilp,v,_,h=>by cases h; exact .nilp
 | .nilf,v,_,h=>by cases h; exact .nilf
 | .nilm,v,_,h=>by cases h; exact .nilm
 | .nili,v,_,h=>by cases h; exact .nili
 | .list es,v,hp,h=>by
  have:es=[]:=by simp[D.plain]at hp
  subst this
  cases h with
  | emp p cap=>exact .emp p cap|row es b o cap k n vs hn=>subst hn; exact .emp _ _
 | .agg cs,v,hp,h=>by
  cases h with
  | agg _ arr hlen hd=>exact .agg cs arr hlen (fun j d v e e'=>quO (cs:=cs) hp j d v e (hd j d v e e'))
def quO {S S':Nat->Prop} {w w':World}:∀{cs:List D},D.plains cs=true->∀(j:Nat) (d:D) (v:Value),cs[j]?=some d->RD S w d v->RD S' w' d v
 | [],_,j,d,v,e,_=>by simp at e
 | c::cs,hp,0,d,v,e,h=>by
  simp only[D.plains,qTC]at hp;simp at e; subst e;exact quN hp.1 h
 | c::cs,hp,j+1,d,v,e,h=>by
  simp only[D.plains,qTC]at hp;simp at e;exact quO hp.2 j d v e h
end
def qoX {m':Mp} {S':Nat->Prop} {w':World} {x:V} {v:Value} (hp:x.plain1=true) (h:RV m S w x v):RV m' S' w' x v:=by
 cases h with
 | d x v h=>exact .d x v (quN hp h)|nil=>exact .nil|_=>simp[V.plain1]at hp
def qCt {m':Mp} {S':Nat->Prop} {w':World} {x:V} {v:Value} (hp:x.plain=true) (h:RV m S w x v):RV m' S' w' x v:=by
 cases x with
 | tup vs =>
  cases h with
  | tup _ arr hlen hd =>
   refine .tup vs arr hlen (fun j y u e e'=>?_);simp only[V.plain]at hp;exact qoX ((qTI.1 hp) y (qUi e)) (hd j y u e e')
 | d x=>exact qoX hp h|nil=>exact qoX hp h|_=>simp[V.plain,V.plain1]at hp
def qT (m:Mp) (rs:List Nat):Mp:=fun i=>(rs[i]?).bind m
def qoY {r:Nat}:∀{rs:List Nat} {i j:Nat},q9 r rs i=some j->i<=j/\rs[j - i]?=some r
 | [],_,_,h=>by cases h
 | x::l,i,j,h=>by
  simp only[q9]at h;split at h
  ·rename_i hx;cases h;simp[hx]
  ·obtain⟨h1,h2⟩:=qoY h;refine⟨by omega,?_⟩;have:j - i=(j - (i+1))+1:=by omega
   rw[this,qUx];exact h2
def quP {m:Mp} {rs:List Nat} {r j:Nat} (h:q9 r rs 0=some j):qT m rs j=m r:=by
 have:=(qoY h).2;simp only[qUO]at this;simp[qT,this]
def qar {α γ:Type} {f:α->Option γ}:∀{l:List α} {r:List γ},qz f l=some r->r.length=l.length
 | [],r,h=>by cases h; rfl
 | x::l,r,h=>by
  simp only[qz]at h;split at h
  ·rename_i y r' h1 h2;cases h;simp[qar h2]
  ·cases h
def JA {α γ:Type} {f:α->Option γ}:∀{l:List α} {r:List γ} {j:Nat} {y:γ},qz f l=some r->r[j]?=some y->∃x,l[j]?=some x/\f x=some y
 | [],r,j,y,h,hy=>by cases h; simp at hy
 | x::l,r,j,y,h,hy=>by
  simp only[qz]at h;split at h
  ·rename_i z r' h1 h2;cases h
   cases j with
   | zero=>simp at hy; subst hy; exact⟨x,rfl,h1⟩|succ j=>simp only[qUx]at hy ⊢; exact JA h2 hy
  ·cases h
def qdF {m mT:Mp} {S:Nat->Prop} {w:World} {f:Nat->Option Nat} (hf:∀r j,f r=some j->mT j=m r):∀{n:Nat} {v x:V} {u:Value},qA f n v=some x->RV m S w v u->RV mT S w x u:=by
 intro n
 induction n with
 | zero =>
  intro v x u h hv
  cases hv with
  | d y _ h1=>simp only[qA]at h; cases h; exact .d _ _ h1
  | nil=>simp only[qA]at h; cases h; exact .nil
  | top y h1=>simp only[qA]at h; cases h; exact .top _ h1
  | dp y b o vs h1 h2 h3=>simp only[qA]at h; cases h; exact .dp _ _ _ _ h1 h2 h3
  | sl r k off len c ex b o c' p hm hl hc he hp hb =>
   simp only[qA,qTP]at h;obtain⟨j,hj,rfl⟩:=h;exact .sl _ _ _ _ _ _ b o c' p ((hf _ _ hj).trans hm) hl hc he hp hb
  | pt r k i f b o hm =>
   simp only[qA,qTP]at h;obtain⟨j,hj,rfl⟩:=h;exact .pt _ _ _ _ b o ((hf _ _ hj).trans hm)
  | mp r b o hm =>
   simp only[qA,qTP]at h;obtain⟨j,hj,rfl⟩:=h;exact .mp _ b o ((hf _ _ hj).trans hm)
  | yl r b o hm =>
   simp only[qA,qTP]at h;obtain⟨j,hj,rfl⟩:=h;exact .yl _ b o ((hf _ _ hj).trans hm)
  | ifc t y u' h1=>simp only[qA]at h; cases h
  | fp cs b o h1=>simp only[qA]at h; cases h; exact .fp _ _ _ h1
  | fm ks xs b h1=>simp only[qA]at h; cases h; exact .fm _ _ _ h1
  | fn f cs arr hlen hd =>
   simp only[qA]at h;split at h
   ·rename_i hc;cases h;have:cs=[]:=by simpa using hc
    subst this;exact .fn _ _ arr hlen (fun j x v a=>by simp at a)
   ·cases h
  | bf f cs arr hlen hd=>simp only[qA]at h; cases h
  | agg cs arr hlen hd=>simp only[qA]at h; cases h
  | tup cs arr hlen hd =>
   simp only[qA]at h;split at h
   ·rename_i hc;cases h;have:cs=[]:=by simpa using hc
    subst this;exact .tup _ arr hlen (fun j x v a=>by simp at a)
   ·cases h
 | succ n ih =>
  intro v x u h hv;have all:∀{cs xs:List V} {arr:Array Value},qz (qA f n) cs=some xs->arr.size=cs.length->(∀(j:Nat) (x:V) (v:Value),cs[j]?=some x->arr[j]?=some v->RV m S w x v) ->
    arr.size=xs.length/\∀(j:Nat) (x:V) (v:Value),xs[j]?=some x->arr[j]?=some v->RV mT S w x v:=by
   intro cs xs arr h1 h2 h3;refine⟨by rw[qar h1]; exact h2,fun j x v hx hv=>?_⟩;obtain⟨y,hy,hr⟩:=JA h1 hx;exact ih hr (h3 j y v hy hv)
  cases hv with
  | d y _ h1=>simp only[qA]at h; cases h; exact .d _ _ h1
  | nil=>simp only[qA]at h; cases h; exact .nil
  | top y h1=>simp only[qA]at h; cases h; exact .top _ h1
  | dp y b o vs h1 h2 h3=>simp only[qA]at h; cases h; exact .dp _ _ _ _ h1 h2 h3
  | sl r k off len c ex b o c' p hm hl hc he hp hb =>
   simp only[qA,qTP]at h;obtain⟨j,hj,rfl⟩:=h;exact .sl _ _ _ _ _ _ b o c' p ((hf _ _ hj).trans hm) hl hc he hp hb
  | pt r k i f b o hm =>
   simp only[qA,qTP]at h;obtain⟨j,hj,rfl⟩:=h;exact .pt _ _ _ _ b o ((hf _ _ hj).trans hm)
  | mp r b o hm =>
   simp only[qA,qTP]at h;obtain⟨j,hj,rfl⟩:=h;exact .mp _ b o ((hf _ _ hj).trans hm)
  | yl r b o hm =>
   simp only[qA,qTP]at h;obtain⟨j,hj,rfl⟩:=h;exact .yl _ b o ((hf _ _ hj).trans hm)
  | ifc t y u' h1 =>
   simp only[qA,qTP]at h;obtain⟨x',hx,rfl⟩:=h;exact .ifc _ _ _ (ih hx h1)
  | fp cs b o h1=>simp only[qA]at h; cases h; exact .fp _ _ _ h1
  | fm ks xs b h1=>simp only[qA]at h; cases h; exact .fm _ _ _ h1
  | fn f cs arr hlen hd =>
   simp only[qA,qTP]at h;obtain⟨xs,hx,rfl⟩:=h;obtain⟨k1,k2⟩:=all hx hlen hd;exact .fn _ _ arr k1 k2
  | bf f cs arr hlen hd =>
   simp only[qA,qTP]at h;obtain⟨xs,hx,rfl⟩:=h;obtain⟨k1,k2⟩:=all hx hlen hd;exact .bf _ _ arr k1 k2
  | agg cs arr hlen hd =>
   simp only[qA,qTP]at h;obtain⟨xs,hx,rfl⟩:=h;obtain⟨k1,k2⟩:=all hx hlen hd;exact .agg _ arr k1 k2
  | tup cs arr hlen hd =>
   simp only[qA,qTP]at h;obtain⟨xs,hx,rfl⟩:=h;obtain⟨k1,k2⟩:=all hx hlen hd;exact .tup _ arr k1 k2
def qdG {m:Mp} {S:Nat->Prop} {w:World} {rs:List Nat} {n:Nat} {v x:V} {u:Value} (h:qA (fun r=>q9 r rs 0) n v=some x) (hv:RV m S w v u):RV (qT m rs) S w x u :=
 qdF (fun _ _ hj=>quP hj) h hv
def qCu {m:Mp} {S:Nat->Prop} {w:World} {rs:List Nat} {b o:Nat} {row row':Row} (h:qbv (fun r=>q9 r rs 0) (some row)=some (.live row')) (hr:YF m S w b o row) :
  YF (qT m rs) S w b o row'/\row'.rw=false/\row.freeze.rw=false:=by
 cases row with
 | dat k es ro=>simp only[qbv]at h; cases h; exact⟨hr,rfl,rfl⟩
 | box cs ro =>
  simp only[qbv,qTP]at h;obtain⟨xs,hx,h⟩:=h;cases h;obtain⟨c,e,h1,h2⟩:=hr;refine⟨⟨c,e,h1,fun j x hj=>?_⟩,rfl,rfl⟩;obtain⟨y,hy,hren⟩:=JA hx hj;obtain⟨v,hv,hrel⟩:=h2 j y hy;exact⟨v,hv,qdG hren hrel⟩
 | map es clock ro =>
  simp only[qbv,qTP]at h;obtain⟨xs,hx,h⟩:=h;cases h;obtain⟨ents,h1,h2,hbn,h3⟩:=hr;refine⟨⟨ents,h1,by rw[qar hx]; exact h2,⟨by rw[qar hx]; exact hbn.1,hbn.2⟩,fun j e x hj he=>?_⟩,rfl,rfl⟩;obtain⟨y,hy,hren⟩:=JA hx hj;simp only[qTP]at hren;obtain⟨z,hz,rfl⟩:=hren;obtain⟨k1,k2⟩:=h3 j y x hy he;exact⟨k1,qdG hz k2⟩
 | loop _ _ _ _ _ _ _ _=>simp only[qbv]at h; cases h
 | dfr=>simp only[qbv]at h; cases h
 | iter _ _=>simp only[qbv]at h; cases h
def qCv (inv:Inv w0 own m S w rows) {rs:List Nat} {args args':List V} {rows':Rows} (h:qeZ (qp rows) rs args=some (args',rows')) {vs:Array Value} (ha:RVs m S w args vs) :
  Inv w ⟨fun _=>False,qf1 m S rows rs⟩ (qT m rs) (qf1 m S rows rs) w rows'/\(∀(r:Nat) (row:Row),rows'[r]?=some (qc.live row)->row.rw=false)/\RVs (qT m rs) (qf1 m S rows rs) w args' vs:=by
 have he:=qjY inv rs;unfold qeZ at h;simp only at h;split at h
 ·rename_i as rws h1 h2;cases h;have live:∀(i:Nat) (row':Row),rows'[i]?=some (qc.live row')->∃r row b o,rs[i]?=some r/\rows[r]?=some (qc.live row)/\m r=some (b,o)/\row.freeze.rw=false/\row'.rw=false/\YF (qT m rs) (qf1 m S rows rs) w b o row':=by
   intro i row' hi;obtain⟨r,hr,hren⟩:=JA h2 hi
   cases hl:qp rows r with
   | none=>rw[hl]at hren; simp only[qbv]at hren; cases hren
   | some row =>
    rw[hl]at hren;have hrow:rows[r]?=some (qc.live row):=by
     unfold qp at hl;split at hl
     ·rename_i q hq; cases hl; exact hq
     ·cases hl
    obtain⟨b,o,hm,hrel⟩:=inv.row r row hrow;obtain⟨k1,k2,k3⟩:=qCu hren (hrel.ext he rfl);exact⟨r,row,b,o,hr,hrow,hm,k3,k2,k1⟩
  have ro:∀(r:Nat) (row:Row),rows'[r]?=some (qc.live row)->row.rw=false:=fun r row hr=>by
   obtain⟨_,_,_,_,_,_,_,_,k,_⟩:=live r row hr;exact k
  refine⟨⟨fun i hi=>?_,fun i hi=>?_,fun i row hi=>?_,fun i b o hi=>?_,fun i row b o h1 hw _=>?_,fun i i' row _ b o b' o' hne h1 _ hw=>?_,fun i row b o h1 hw=>?_,
   fun i row b o h1 _ hm=>?_,fun c hc=>?_,fun c hc=>.inl hc,fun c hc=>hc,rfl,rfl,rfl,qTF _,fun _ _ _=>rfl,inv.glb.ext he⟩,ro,?_,fun j x v hx hv=>?_⟩
  ·rw[qar h2]at hi;simp[qT,hi]
  ·obtain⟨r,hr,hren⟩:=JA h2 hi;unfold qbv at hren;split at hren
   ·cases hren
   ·rw[qTP]at hren; obtain⟨_,_,hq⟩:=hren; cases hq
   ·rw[qTP]at hren; obtain⟨_,_,hq⟩:=hren; cases hq
   ·cases hren
  ·obtain⟨r,row0,b,o,e1,e2,e3,_,_,e4⟩:=live i row hi;exact⟨b,o,by simp[qT,e1,e3],e4⟩
  ·unfold qT at hi
   cases hr:rs[i]? with
   | none=>rw[hr]at hi; cases hi
   | some r=>rw[hr]at hi; exact inv.bnd r b o hi
  ·rw[ro i row h1]at hw; cases hw
  ·rw[ro i row h1]at hw; cases hw
  ·rw[ro i row h1]at hw; cases hw
  ·obtain⟨r,row0,b0,o0,e1,e2,e3,e5,_,e4⟩:=live i row h1;simp only[qT,e1,qVt]at hm;exact .inr ⟨r,row0,o,qUi e1,e2,e5,hm⟩
  ·rcases hc with hc|⟨r,row,o,_,_,_,hm⟩
   ·exact inv.sbnd c hc
   ·exact inv.bnd r c o hm
  ·rw[qar h1]; exact ha.1
  ·obtain⟨y,hy,hren⟩:=JA h1 hx;exact qdG hren ((ha.2 j y v hy hv).ext he)
 ·cases h
def qjZ (P:Program) (RC:FuncId->List V->Rows->Option V):Prop :=
 ∀g args rows v,RC g args rows=some v->∀(w0:World) (own:Own) (m:Mp) (S:Nat->Prop) (w:World) (vs:Array Value),Inv w0 own m S w rows->(∀(r:Nat) (row:Row),rows[r]?=some (qc.live row)->row.rw=false)->RVs m S w args vs ->
  Calls P g vs w fun e w'=>∃u,e=.returned u/\∃S':Nat->Prop,(∀c,S c->S' c)/\(∀c,S' c->S c\/(w.heap.size<=c/\c<w'.heap.size))/\(∀m2:Mp,RV m2 S' w' v u) /\
   (∀c,c<w.heap.size->w'.heap[c]?=w.heap[c]?)/\w.heap.size<=w'.heap.size/\w'.os=w.os/\w'.tape=w.tape/\w'.output=w.output
def qCw {c:Cfg} (hRC:qjZ P c.RC) (inv:Inv w0 own m S w rows) {g:FuncId} {args:List V} {vs:Array Value} {res:Res} (h:qbw c g args rows=some res) (ha:RVs m S w args vs) :
  Calls P g vs w fun e w'=>∃u,e=.returned u/\∃S',Inv w0 own m S' w' (qI res.ups rows)/\Ext m S w m S' w'/\RV m S' w' res.v u/\res.fresh=none:=by
 unfold qbw at h;simp only at h;split at h
 ·rename_i args' rows' hcomp;obtain⟨vinv,vro,vargs⟩:=qCv inv hcomp ha;split at h
  ·rename_i v hv;refine(hRC g args' _ v hv w _ _ _ w vs vinv vro vargs).mono fun e w' ⟨u,he,S2,s1,s2,hr,hb,hs,ho,ht,hu⟩=>⟨u,he,?_⟩
   split at h
   ·rename_i hp;cases h;obtain⟨k1,e1⟩:=inv.called (w':=w') (S':=S) hb hs (fun _ h=>h) (fun _ h=>.inl h) ho ht hu;exact⟨S,k1,e1,qCt hp (hr m),rfl⟩
   ·cases h;obtain⟨k1,e1⟩:=(quM inv (qaN rows args)).called (w':=w') (S':=S2) hb hs s1 s2 ho ht hu;exact⟨S2,k1,(qjY inv _).trans e1,hr m,rfl⟩
  ·cases h
 ·cases h
end Go.Aev
namespace Go.Aev
variable [Glob]
def rfr (fn:FuncId) (tmps:Array Value) (todo:List Item) (ds:List Deferred) (ro:Option Nat):Frame :=
 {fn,tmps,todo,defers:=ds,mode:=.run,kind:=.normal,roundOf:=ro}
section
variable {P:Program} {fn:FuncId} {tmps:Array Value} {ds:List Deferred} {ro:Option Nat} {k:List Item} {cs:List Frame} {w:World}
def qC0:step P (lone (rfr fn tmps (.code .skip::k) ds ro) cs w)=.next (lone (rfr fn tmps k ds ro) cs w):=step_lone_go (by simp[stepG,stepG.exec,rfr])
def qC1 {l:Nat}:step P (lone (rfr fn tmps (.code (.label l)::k) ds ro) cs w)=.next (lone (rfr fn tmps k ds ro) cs w):=step_lone_go (by simp[stepG,stepG.exec,rfr])
def qC2 {id:Nat}:step P (lone (rfr fn tmps (.inBlock id::k) ds ro) cs w)=.next (lone (rfr fn tmps k ds ro) cs w):=step_lone_go (by simp[stepG,stepG.exec,rfr])
def qC3 {c:Code}:step P (lone (rfr fn tmps (.inScope c::k) ds ro) cs w)=.next (lone (rfr fn tmps k ds ro) cs w):=step_lone_go (by simp[stepG,stepG.exec,rfr])
def qC4 {x y:Code}:step P (lone (rfr fn tmps (.code (.seq x y)::k) ds ro) cs w)=.next (lone (rfr fn tmps (.code x::.code y::k) ds ro) cs w):=step_lone_go (by simp[stepG,stepG.exec,rfr])
def qC5 {c:Operand} {x y:Code} {t:Bool} (h:(rfr fn tmps (.code (.cond c x y)::k) ds ro).eval c=.bool t) :
  step P (lone (rfr fn tmps (.code (.cond c x y)::k) ds ro) cs w)=.next (lone (rfr fn tmps (.code (if t then x else y)::k) ds ro) cs w) :=
 step_lone_go (by
  simp only[rfr]at h;simp[stepG,stepG.exec,rfr,h])
def qC6 {id:Nat} {c:Code}:step P (lone (rfr fn tmps (.code (.block id c)::k) ds ro) cs w)=.next (lone (rfr fn tmps (.code c::.inBlock id::k) ds ro) cs w):=step_lone_go (by simp[stepG,stepG.exec,rfr])
def qC7 {c:Code}:step P (lone (rfr fn tmps (.code (.loop c)::k) ds ro) cs w)=.next (lone (rfr fn tmps (.code c::.inLoop c::k) ds ro) cs w):=step_lone_go (by simp[stepG,stepG.exec,rfr])
def qC8 {c:Code}:step P (lone (rfr fn tmps (.inLoop c::k) ds ro) cs w)=.next (lone (rfr fn tmps (.code c::.inLoop c::k) ds ro) cs w):=step_lone_go (by simp[stepG,stepG.exec,rfr])
def qC9 {c:Code}:step P (lone (rfr fn tmps (.code (.scope c)::k) ds ro) cs w)=.next (lone (rfr fn tmps (.code c::.inScope c::k) ds ro) cs w):=step_lone_go (by simp[stepG,stepG.exec,rfr])
def qDa {id:Nat} {k':List Item} (h:exitTo id k=some k'):step P (lone (rfr fn tmps (.code (.exit id)::k) ds ro) cs w)=.next (lone (rfr fn tmps k' ds ro) cs w):=step_lone_go (by simp[stepG,stepG.exec,rfr,h])
def qDb {l:Nat} {k':List Item} (h:gotoIn l k=some k'):step P (lone (rfr fn tmps (.code (.goto l)::k) ds ro) cs w)=.next (lone (rfr fn tmps k' ds ro) cs w):=step_lone_go (by simp[stepG,stepG.exec,rfr,h])
def qDc {id:Nat} {ops:Array Oper}:step P (lone (rfr fn tmps (.code (.region id ops false)::k) ds ro) cs w)=.next (lone (rfr fn tmps (.inRegion ops (List.range ops.size)::k) ds ro) cs w) :=
 step_lone_go (by simp[stepG,stepG.exec,rfr])
def qvb {id:Nat} {ops:Array Oper} (hm:P.follows .mixedOrders=true):∃t,step P (lone (rfr fn tmps (.code (.region id ops true)::k) ds ro) cs w) =
  .next (lone (rfr fn tmps (.inRegion ops (Region.schedule true ops t)::k) ds ro) cs {w with drawn:=w.drawn+1}) :=
 ⟨w.tape w.drawn (.order fn id),step_lone_go (by simp[stepG,stepG.exec,rfr,choose,Sem.run,Question.forced,Question.cut,hm])⟩
def qvc {ops:Array Oper}:step P (lone (rfr fn tmps (.inRegion ops []::k) ds ro) cs w)=.next (lone (rfr fn tmps k ds ro) cs w):=step_lone_go (by simp[stepG,stepG.exec,rfr])
def qcZ (tmps:Array Value) (dst:Option Nat) (v:Value):Array Value :=
 match dst with
 | some d=>tmps.setIfInBounds d v|none=>tmps
def qeR {ops:Array Oper} {i:Nat} {rest:List Nat} {o:Oper} (ho:ops[i]?=some o) (v:Value) :
  (rfr fn tmps (.inRegion ops (i::rest)::k) ds ro).finish v=rfr fn (qcZ tmps o.dst v) (.inRegion ops rest::k) ds ro:=by
 simp only[rfr,Frame.finish,ho,qVt,qcZ];cases o.dst<;>rfl
def qvd {ops:Array Oper} {i:Nat} {rest:List Nat} {o:Oper} (ho:ops[i]?=some o) (hw:Region.wanted o (yielded ops tmps)=false) :
  step P (lone (rfr fn tmps (.inRegion ops (i::rest)::k) ds ro) cs w)=.next (lone (rfr fn (qcZ tmps o.dst Go.undef) (.inRegion ops rest::k) ds ro) cs w):=by
 rw[<-qeR ho];exact step_lone_go (by simp[stepG,stepG.exec,rfr,ho,hw])
def qpa {ops:Array Oper} {i:Nat} {rest:List Nat} {o:Oper} (ho:ops[i]?=some o) (hw:Region.wanted o (yielded ops tmps)=true) (hnd:∀c,o.op≠.defer c) :
  stepG P true {frame:=rfr fn tmps (.inRegion ops (i::rest)::k) ds ro,callers:=cs,status:=.running,dying:=none} w =
   stepG.apply P true (rfr fn tmps (.inRegion ops (i::rest)::k) ds ro) cs none (execOp (rfr fn tmps (.inRegion ops (i::rest)::k) ds ro).eval o) w:=by
 cases ro with
 | none=>simp[stepG,stepG.exec,stepG.oper,Frame.oper?,rfr,ho,hw]|some l =>
  simp only[stepG,stepG.exec,stepG.oper,Frame.oper?,rfr,ho,hw,qUj,qTT,if_true];split
  ·rename_i h2; exact absurd h2 (hnd _)
  ·rfl
def qhH {ops:Array Oper} {i:Nat} {rest:List Nat} {o:Oper} {nx:Next} {u:Value} {w':World} (ho:ops[i]?=some o) (hw:Region.wanted o (yielded ops tmps)=true) (hnd:∀c,o.op≠.defer c)
  (hr:(execOp (rfr fn tmps (.inRegion ops (i::rest)::k) ds ro).eval o).run P w=.ok nx w') (hn:nx=.value u\/(nx=.skip/\u=Go.undef)) :
  step P (lone (rfr fn tmps (.inRegion ops (i::rest)::k) ds ro) cs w)=.next (lone (rfr fn (qcZ tmps o.dst u) (.inRegion ops rest::k) ds ro) cs w'):=by
 rw[<-qeR ho];refine step_lone_go ?_;rw[qpa ho hw hnd];rcases hn with rfl|⟨rfl,rfl⟩<;>simp[stepG.apply,hr]
def qhI {ops:Array Oper} {i:Nat} {rest:List Nat} {o:Oper} {g:FuncId} {args:Array Value} {w':World} (ho:ops[i]?=some o) (hw:Region.wanted o (yielded ops tmps)=true) (hnd:∀c,o.op≠.defer c)
  (hr:(execOp (rfr fn tmps (.inRegion ops (i::rest)::k) ds ro).eval o).run P w=.ok (.enter g args) w') :
  step P (lone (rfr fn tmps (.inRegion ops (i::rest)::k) ds ro) cs w)=.next (lone (Frame.enter P g args .normal) (rfr fn tmps (.inRegion ops (i::rest)::k) ds ro::cs) w'):=by
 refine step_lone_go ?_;rw[qpa ho hw hnd];simp only[rfr]at hr;simp[stepG.apply,hr,rfr]
def qDd {ops:Array Oper} {i:Nat} {rest:List Nat} {o:Oper} {l:Nat} {f:FuncId} {ts:Array Value} {as body:Code} {w':World} (ho:ops[i]?=some o) (hw:Region.wanted o (yielded ops tmps)=true) (hnd:∀c,o.op≠.defer c)
  (hr:(execOp (rfr fn tmps (.inRegion ops (i::rest)::k) ds ro).eval o).run P w=.ok (.round l f ts as body) w') :
  step P (lone (rfr fn tmps (.inRegion ops (i::rest)::k) ds ro) cs w)=.next (lone (rfr f ts [.code as,.beginRound,.code body] [] (some l)) (rfr fn tmps (.inRegion ops (i::rest)::k) ds ro::cs) w'):=by
 refine step_lone_go ?_;rw[qpa ho hw hnd];simp only[rfr]at hr;simp[stepG.apply,hr,rfr,Frame.round]
def qhJ {l:Nat} {L:Loop} (h:w.heap[l]?=some (.loop L)):(Instr.getLoop l).run P w=.ok L w:=by
 simp only[Instr.getLoop,Sem.run_bind,qct (P:=P) h (by simp),Result.andThen_ok,Sem.run_pure]
def qDe {l:Nat} {L:Loop} (hl:w.heap[l]?=some (.loop L)) (hs:L.state=.ready) :
  step P (lone (rfr fn tmps (.beginRound::k) ds (some l)) cs w)=.next (lone (rfr fn tmps k ds (some l)) cs {w with heap:=w.heap.setIfInBounds l (.loop {L with state:=.busy})}):=by
 have hrun:(Instr.beginRound l).run P w=.ok () {w with heap:=w.heap.setIfInBounds l (.loop {L with state:=.busy})}:=by
  simp only[Instr.beginRound,Sem.run_bind,qhJ hl,Result.andThen_ok,qeU (P:=P) hl (by simp),hs,Sem.run_pure]
 refine step_lone_go ?_;simp[stepG,stepG.exec,rfr,stepG.apply,hrun,Frame.finish]
def qka {g:FuncId} {gf:Func} {args:Array Value} (hf:P.funcs[g]?=some gf) (hb:gf.body.isSome=true) (hn:(gf.name == "runtime.NumGoroutine")=false) :
  (callFunc g args).run P w=.ok (.enter g args) w:=by
 have hb':gf.body.isNone=false:=by cases h:gf.body<;>simp_all
 simp only[callFunc,Sem.run_bind,run_program,Result.andThen_ok,hf,hn,hb',qUW,if_false,Sem.run_pure]
def qZj (fr:Frame) (v:Value):fr.eval (.const v)=v:=rfl
def qve {g:FuncId} {gf:Func} {caps:Array Value} {f:Operand} (fr:Frame) (y:Value) (he:fr.eval f=.func (.func g) #[] caps) (hf:P.funcs[g]?=some gf) (hb:gf.body.isSome=true) (hn:(gf.name == "runtime.NumGoroutine")=false) :
  (do let d <-resolve fr.eval {callee:=.value f,args:=#[.const y],argTypes:=#[]} 0; invoke d.target d.args:Sem Next).run P w=.ok (.enter g (#[y]++caps)) w:=by
 have hcall:=fun(w:World) (args:Array Value)=>qka (P:=P) (w:=w) (args:=args) hf hb hn
 simp[resolve,he,Deferred.ofValue,invoke,hcall,qZj]
def qbT (fn:FuncId) (tmps:Array Value) (params:Array Tmp) (as body:Code) (d:Nat):Loop:={state:=.ready,pending:=none,fn,tmps,params,assign:=as,body,defers:=d}
def qDf {f:Operand} {params:Array Tmp} {as body:Code} {g:FuncId} {gf:Func} {caps:Array Value}
  (he:(rfr fn tmps (.code (.rangeFunc f params as body)::k) ds none).eval f=.func (.func g) #[] caps) (hf:P.funcs[g]?=some gf) (hb:gf.body.isSome=true) (hn:(gf.name == "runtime.NumGoroutine")=false) :
  step P (lone (rfr fn tmps (.code (.rangeFunc f params as body)::k) ds none) cs w) =
   .next (lone (Frame.enter P g (#[.func (.yield (w.heap.size+1)) #[] #[]]++caps) .normal)
    (rfr fn tmps (.inRangeFunc (w.heap.size+1)::k) ({target:=.collected w.heap.size,args:=#[]}::ds) none::cs)
    ((w.alloc (.deferred (some []))).alloc (.loop (qbT fn tmps params as body w.heap.size)))):=by
 refine step_lone_go ?_;have he':∀(d:List Deferred) (t:List Item),(rfr fn tmps t d none).eval f=.func (.func g) #[] caps:=by
  intro d t; cases f<;>simp[rfr,Frame.eval]at he ⊢<;>exact he
 have hsem:=fun(d:List Deferred) (t:List Item) (w:World) (y:Value)=>qve (w:=w) (rfr fn tmps t d none) y (he' d t) hf hb hn
 simp only[rfr,Sem.run_bind]at hsem;simp only[stepG,stepG.exec,rfr,Instr.enterLoop,stepG.apply,Sem.runT_eq,Sem.run_bind,Sem.run_pure,run_newObj,Result.andThen_ok,World.alloc_eq,World.size_alloc,GStep.bare_after,qVA,qUR,qUG];simp[hsem,qbT]
def qDg {f:Operand} {params:Array Tmp} {as body:Code} {g:FuncId} {gf:Func} {caps:Array Value} {l:Nat} {L:Loop} (hl:w.heap[l]?=some (.loop L))
  (he:(rfr fn tmps (.code (.rangeFunc f params as body)::k) ds (some l)).eval f=.func (.func g) #[] caps) (hf:P.funcs[g]?=some gf) (hb:gf.body.isSome=true) (hn:(gf.name == "runtime.NumGoroutine")=false) :
  step P (lone (rfr fn tmps (.code (.rangeFunc f params as body)::k) ds (some l)) cs w) =
   .next (lone (Frame.enter P g (#[.func (.yield w.heap.size) #[] #[]]++caps) .normal)
    (rfr fn tmps (.inRangeFunc w.heap.size::k) ds (some l)::cs)
    (w.alloc (.loop (qbT fn tmps params as body L.defers)))):=by
 refine step_lone_go ?_;have he':∀(d:List Deferred) (t:List Item),(rfr fn tmps t d (some l)).eval f=.func (.func g) #[] caps:=by
  intro d t; cases f<;>simp[rfr,Frame.eval]at he ⊢<;>exact he
 have hsem:=fun(d:List Deferred) (t:List Item) (w:World) (y:Value)=>qve (w:=w) (rfr fn tmps t d (some l)) y (he' d t) hf hb hn
 have hgl:=qhJ (P:=P) hl;simp only[rfr,Sem.run_bind]at hsem;simp only[stepG,stepG.exec,rfr,Instr.enterLoop,stepG.apply,Sem.runT_eq,Sem.run_bind,Sem.run_pure,run_newObj,Result.andThen_ok,World.alloc_eq,World.size_alloc,GStep.bare_after,hgl,qUG];simp[hsem,qbT]
def qDh {l:Nat} {L:Loop} {jump:Option Code} (hl:w.heap[l]?=some (.loop L)) :
  (Instr.endRound l jump).run P w=.ok (.bool jump.isNone) {w with heap:=w.heap.setIfInBounds l (.loop {L with state:=if jump.isNone then .ready else .done,pending:=jump})}:=by
 simp only[Instr.endRound,Sem.run_bind,qhJ hl,Result.andThen_ok,qeU (P:=P) hl (by simp),Sem.run_pure]
def qDi {todo:List Item} {c:Frame} {l:Nat} {L:Loop} {jump:Option Code} (hl:w.heap[l]?=some (.loop L))
  (h:(todo=[]/\jump=none)\/(∃k,todo=.code .ret::k/\jump=some .ret)\/∃id k,todo=.code (.exit id)::k/\exitTo id k=none/\jump=some (.exit id)) :
  step P (lone (rfr fn tmps todo ds (some l)) (c::cs) w) =
   .next (lone (c.finish (.bool jump.isNone)) cs {w with heap:=w.heap.setIfInBounds l (.loop {L with state:=if jump.isNone then .ready else .done,pending:=jump})}):=by
 have hrun:=fun(j:Option Code)=>qDh (P:=P) (jump:=j) hl
 rcases h with⟨rfl,rfl⟩|⟨k,rfl,rfl⟩|⟨id,k,rfl,he,rfl⟩
 ·exact step_lone_go (by simp[stepG,stepG.exec,rfr,hrun,doReturn])
 ·exact step_lone_go (by simp[stepG,stepG.exec,rfr,hrun,doReturn])
 ·exact step_lone_go (by simp[stepG,stepG.exec,rfr,hrun,doReturn,he])
def qDj {l:Nat} (v:Value):(rfr fn tmps (.inRangeFunc l::k) ds ro).finish v=rfr fn tmps (.endRangeFunc l::k) ds ro:=rfl
def qDk {l:Nat} {L:Loop} (hl:w.heap[l]?=some (.loop L)) (hs:L.state≠.busy) :
  step P (lone (rfr fn tmps (.endRangeFunc l::k) ds ro) cs w) =
   .next (lone (rfr fn tmps ((L.pending.map Item.code).toList++k) ds ro) cs {w with heap:=w.heap.setIfInBounds l (.loop {L with state:=.exhausted})}):=by
 have hb:(L.state==LoopState.busy)=false:=by simpa using hs
 have hrun:(Instr.endLoop l).run P w=.ok L.pending {w with heap:=w.heap.setIfInBounds l (.loop {L with state:=.exhausted})}:=by
  simp only[Instr.endLoop,Sem.run_bind,qhJ hl,Result.andThen_ok,hb,qUW,if_false,qeU (P:=P) hl (by simp),Sem.run_pure]
 exact step_lone_go (by simp[stepG,stepG.exec,rfr,hrun])
def qDl {fr:Frame} {b:Nat} {rest:List Deferred} (hm:fr.mode=.returning) (hd:fr.defers={target:=.collected b,args:=#[]}::rest) (hb:w.heap[b]?=some (.deferred (some []))) :
  step P (lone fr cs w)=.next (lone {fr with defers:=rest} cs {w with heap:=w.heap.setIfInBounds b (.deferred none)}):=by
 have hrun:(Instr.takeDeferred b).run P w=.ok [] {w with heap:=w.heap.setIfInBounds b (.deferred none)}:=by
  simp only[Instr.takeDeferred,Sem.run_bind,qct (P:=P) hb (by simp),Result.andThen_ok,qeU (P:=P) hb (by simp),Sem.run_pure]
 exact step_lone_go (by simp[stepG,hm,unwind,hd,hrun])
def qDm {todo:List Item} (h:todo=[]\/∃k,todo=.code .ret::k) :
  step P (lone (rfr fn tmps todo ds none) cs w)=.next (lone {rfr fn tmps todo ds none with mode:=.returning} cs w):=by
 rcases h with rfl|⟨k,rfl⟩<;>exact step_lone_go (by simp[stepG,stepG.exec,rfr])
end
def qEI {ops:Array Oper} {n k:Nat} {L:List Nat} (hr:∀j∈Ji ops k,j∉L) (hk:k<n) (hdc:∀x,x<n->x∉L->∀j∈Ji ops x,j∉L) (hdn:∀k,k<n->∀j∈Ji ops k,j<n)
  {i:Nat} (hi:i∈L):¬Anc ops i k:=by
 have key:∀i k',Anc ops i k'->i∈L->k'<n->(k'∉L\/k'=k)->False:=by
  intro i k' h
  induction h with
  | one h =>
   intro hi hk' hor;rcases hor with h1|h1
   ·exact hdc _ hk' h1 _ h hi
   ·subst h1; exact hr _ h hi
  | more h _ ih =>
   intro hi hk' hor;refine ih hi (hdn _ hk' _ h) (.inl ?_);rcases hor with h1|h1
   ·exact hdc _ hk' h1 _ h
   ·subst h1; exact hr _ h
 exact fun h=>key i k h hi hk (.inr rfl)
def qa7.short {ops:Array Oper} {L J:List Nat} (h:qa7 ops L J):L.length<=1->J=L:=by
 induction h with
 | nil=>intro _; rfl
 | cons k A B J _ hs ih =>
  intro hl;have hA:A=[]:=by cases A with|nil=>rfl|cons a A=>simp at hl
  have hB:B=[]:=by cases B with|nil=>rfl|cons a B=>simp at hl; omega
  subst hA; subst hB;have:=ih (by simp);rw[this]; rfl
def qa7.split {ops:Array Oper} {n c:Nat} {L J:List Nat} (h:qa7 ops L J):∀{L1 rest:List Nat},L=L1++c::rest->(∀i∈L1,Anc ops i c)->(∀i∈rest,Anc ops c i)->rest.length<=1->(∀x∈L,x<n)->L.Nodup ->
  (∀x,x<n->x∉L->∀j∈Ji ops x,j∉L)->(∀k,k<n->∀j∈Ji ops k,j<n)->∃J1,J=J1++c::rest/\qa7 ops L1 J1:=by
 induction h with
 | nil=>intro L1 rest e; simp at e
 | cons k A B J hr hs ih =>
  intro L1 rest e h1 h2 h3 hlt hnd hdc hdn;have hkn:k<n:=hlt k (by simp);have hnot:∀i,i∈A++k::B->¬Anc ops i k:=fun i hi=>qEI hr hkn hdc hdn hi
  have hcL:c∈A++k::B:=by rw[e]; simp
  have hk:k∈L1++c::rest:=by rw[<-e]; simp
  rcases qTH.1 hk with hk1|hk1
  ·obtain⟨A1,B1,hA1⟩:=List.append_of_mem hk1;subst hA1;rw[qTW,qUR]at e;have hkA:k∉A:=by
    rw[qVm]at hnd;exact fun h=>hnd.2.2 k h k (by simp) rfl
   have hnd':=hnd;rw[e]at hnd';have hkA1:k∉A1:=by
    rw[qVm]at hnd';exact fun h=>hnd'.2.2 k h k (by simp) rfl
   have hAA:A=A1/\B=B1++c::rest:=by
    have:=List.append_eq_append_iff.1 e;rcases this with⟨a,e1,e2⟩|⟨a,e1,e2⟩
    ·cases a with
     | nil=>simp at e1 e2; exact⟨e1.symm,e2⟩|cons y a=>simp at e2; obtain⟨rfl,_⟩:=e2; exact absurd (by rw[e1]; simp) hkA1
    ·cases a with
     | nil=>simp at e1 e2; exact⟨e1,e2.symm⟩|cons y a=>simp at e2; obtain⟨rfl,_⟩:=e2; exact absurd (by rw[e1]; simp) hkA
   obtain⟨rfl,rfl⟩:=hAA;obtain⟨J1,e1,s1⟩:=ih (L1:=A++B1) (rest:=rest) (by simp) (fun i hi=>h1 i (by rcases qTH.1 hi with h|h<;>simp[h])) h2 h3
    (fun x hx=>hlt x (by rcases qTH.1 hx with h|h<;>simp[h]))
    (by
     rw[qVm]at hnd ⊢;exact⟨hnd.1,(qV2.1 hnd.2.1).2,fun a ha b hb=>hnd.2.2 a ha b (by simp[hb])⟩)
    (fun x hx hnx j hj hmem=>by
     have hmem':j∈A++k::(B1++c::rest):=(qTH.1 hmem).elim (fun h=>qTH.2 (.inl h)) (fun h=>qTH.2 (.inr (qTG _ h)))
     by_cases hxk:x=k
     ·subst hxk; exact hr j hj hmem'
     ·refine hdc x hx (fun h=>?_) j hj hmem';rcases qTH.1 h with h|h
      ·exact hnx (by simp[h])
      ·rcases qTD.1 h with h|h
       ·exact hxk h
       ·exact hnx (by rw[qTH]; exact .inr h)) hdn
   refine⟨k::J1,by rw[e1]; rfl,?_⟩;refine .cons k A B1 J1 (fun j hj hm=>hr j hj ?_) s1;rcases qTH.1 hm with h|h
   ·simp[h]
   ·rcases qTD.1 h with h|h
    ·simp[h]
    ·simp[h]
  ·rcases qTD.1 hk1 with hk2|hk2
   ·subst hk2;have hL1:L1=[]:=by
     cases L1 with
     | nil=>rfl|cons i L1=>exact absurd (h1 i (by simp)) (hnot i (by rw[e]; simp))
    subst hL1;have hAB:A=[]/\B=rest:=by
     cases A with
     | nil=>simp at e; exact⟨rfl,e⟩|cons a A =>
      simp at e;obtain⟨rfl,_⟩:=e;simp at hnd
    obtain⟨rfl,rfl⟩:=hAB;refine⟨[],?_,.nil⟩;simp only[qUG]at hs ⊢
    congr 1
    exact hs.short h3
   ·exact absurd (h2 k hk2) (hnot c hcL)
def qgh (c:Cfg) (ops:Array Oper) (k:Nat) (s:St):Option St :=
 if qe2 ops&&decide (k<ops.size)&&decide (ops.size<=k+2)&&(List.range k).all (fun i=>((qbZ ops ops.size).getD k []).contains i) &&
   (List.range' (k+1) (ops.size - (k+1))).all (fun i=>((qbZ ops ops.size).getD i []).contains k)then
  match qbx c ops s.rows.length (List.range k) {s with rows:=s.rows++List.replicate ops.size .free}with
  | some (rs,s')=>if qge (qbZ ops k) s.rows.length rs then some s' else none
  | none=>none
 else none
def qkY {n k:Nat} (h:k<n):List.range n=List.range k++k::List.range' (k+1) (n - (k+1)):=by
 rw[qVV,qVV,<-qVU (s:=k) (n:=n - (k+1)) (step:=1)];have:n=k+(n - (k+1)+1):=by omega
 conv=>lhs; rw[this]
 rw[<-List.range'_append_1];simp
inductive qL where
 | it (i:Item)
 | rf (r:Nat)
structure AF where
 fn:FuncId
 env:List V
 todo:List qL
 round:Option Nat
 marks:List Nat
 dcl:List (FuncId×List V):=[]
structure AS where
 fr:AF
 stack:List AF
 rows:Rows
inductive Out where
 | next (s:AS)
 | done (v:V) (rows:Rows)
 | fail
def qcD (id:Nat):List qL->Option (List qL)
 | .it (.inBlock id')::k=>if id'==id then some k else qcD id k
 | _::k=>qcD id k|[]=>none
def qe5 (l:Nat):List qL->Option (List qL)
 | .it (.inScope body)::k=>match findLabel body l with
  | some rest=>some (.it (.code rest)::.it (.inScope body)::k)|none=>qe5 l k
 | _::k=>qe5 l k|[]=>none
def JN (env:List V) (dst:Option Nat) (v:V):List V :=
 match dst with
 | some d=>env.set d v|none=>env
def qh6 (fr:AF) (v:V) (rows:Rows):Option (AF×Rows) :=
 match fr.todo with
 | .it (.inRegion ops (i::rest))::k=>match ops[i]? with
  | some o=>some ({fr with env:=JN fr.env o.dst v,todo:=.it (.inRegion ops rest)::k},rows)
  | none=>none
 | .rf r::k=>match qp rows r with
  | some (.loop st pend fn env ps as bd d)=>match st with
   | .busy=>none|_=>some ({fr with todo:=(pend.map fun c=>qL.it (.code c)).toList++k},qv rows r (.live (.loop .exhausted pend fn env ps as bd d)))
  | _=>none
 | _=>none
def qgi:List Nat->Rows->Option Rows
 | [],rows=>some rows|r::rs,rows=>match qp rows r with
  | some .dfr=>qgi rs (qv rows r .dead)|_=>none
structure DSt where
 env:List V
 ups:List (Nat×qc)
inductive DEx where
 | normal
 | ret
 | exit (id:Nat)
def qkZ (g:Nat->Option Row):List (Nat×qc)->Nat->Option Row
 | [],r=>g r|u::us,r=>qkZ (fun r=>if r=u.1 then(match u.2 with | .live row=>some row|_=>none)else g r) us r
def dOK:Op->Bool
 | .move _ | .assign _ | .pick _ _ _ | .load _ _ | .store _ _ _ | .nilCheck _ | .binOp _ _ _ _ _ | .unOp _ _ _ | .fieldAddr _ _ _ | .field _ _ _ | .extract _ _=>true|.call {callee:=.builtin .len,..}=>true|_=>false
def dOp (T:TypeId->Option Ty) (g:Nat->Option Row) (ops:Array Oper) (o:Oper) (s:DSt):Option DSt :=
 match qaO ops s.env o with
 | none=>none|some false=>some {s with env:=JN s.env o.dst V.undef}
 | some true=>match o.op with
  | .call ⟨.builtin .recover,_,_⟩=>some {s with env:=JN s.env o.dst (.d .nili)}
  | op=>if !dOK op then none else
   match YR s.env (qO op)with
    | some vs=>match act T (fun r=>if (vs.flatMap V.refs).contains r then qkZ g s.ups r else none) 0 op vs with
     | some ⟨v,us,none⟩=>if us.all (fun u=>(g u.1).isSome)then some {env:=JN s.env o.dst v,ups:=s.ups++us}else none
     | _=>none
    | none=>none
def qh7 (T:TypeId->Option Ty) (g:Nat->Option Row) (ops:Array Oper):List Nat->DSt->Option DSt
 | [],s=>some s|i::l,s=>match ops[i]? with
  | some o=>match dOp T g ops o s with
   | some s'=>qh7 T g ops l s'|none=>none
  | none=>none
def JV (T:TypeId->Option Ty) (g:Nat->Option Row):Code->DSt->Option (DEx×DSt)
 | .skip,s=>some (.normal,s)|.ret,s=>some (.ret,s)|.exit id,s=>some (.exit id,s)|.seq a b,s=>match JV T g a s with
  | some (.normal,s')=>JV T g b s'|r=>r
 | .cond o x y,s=>match YX s.env o with
  | some (.d (.bool true))=>JV T g x s|some (.d (.bool false))=>JV T g y s|_=>none
 | .block id b,s=>match JV T g b s with
  | some (.exit id',s')=>if id'=id then some (.normal,s')else none
  | r=>r
 | .region _ ops false,s=>match qh7 T g ops (List.range ops.size) s with
  | some s'=>some (.normal,s')|none=>none
 | _,_=>none
def qk0 (c:Cfg) (g:Nat->Option Row) (f:FuncId) (args:List V):Option (List (Nat×qc)) :=
 match c.F f with
 | some gf=>match gf.body with
  | some b=>if gf.results.isEmpty then match JV c.T g b {env:=args++List.replicate (gf.ntmps - args.length) V.undef,ups:=[]}with
   | some (.normal,s)=>some s.ups|some (.ret,s)=>some s.ups|_=>none else none
  | none=>none
 | none=>none
def qgj (c:Cfg):List (FuncId×List V)->Rows->Option Rows
 | [],rows=>some rows|d::ds,rows=>match qk0 c (qp rows) d.1 d.2 with
  | some us=>qgj c ds (qI us rows)|none=>none
def qdc (T:TypeId->Option Ty) (rows:Rows) (env:List V):List ResultVar->Option (List V)
 | []=>some []|.tmp t::r=>match qeK (env.getD t V.undef),qdc T rows env r with
  | some v,some l=>some (v::l)|_,_=>none
 | .cell a t::r=>match (qeK (env.getD a V.undef)).bind (qa4 T (qp rows) t),qdc T rows env r with
  | some v,some l=>some (v::l)|_,_=>none
def qk1 (l:List V):V :=
 match l with
 | [v]=>v|l=>.tup l
def qgk (stack:List AF) (v:V) (rows:Rows):Out :=
 match stack with
 | []=>.done v rows|caller::st=>match qh6 caller v rows with
  | some (fr,rows)=>.next {fr,stack:=st,rows}|none=>.fail
def qh8 (c:Cfg) (s:AS) (jump:Option Code):Out :=
 match s.fr.round with
 | none=>match jump with
  | none|some .ret=>match c.F s.fr.fn,(qgi s.fr.marks s.rows).bind (qgj c s.fr.dcl)with
   | some gf,some rows=>match qdc c.T rows s.fr.env gf.results.toList with
    | some vs=>qgk s.stack (qk1 vs) rows|none=>.fail
   | _,_=>.fail
  | _=>.fail
 | some r=>match qp s.rows r with
  | some (.loop _ _ fn env ps as bd d)=>match s.stack with
   | []=>.fail|caller::st=>qgk (caller::st) (.d (.bool jump.isNone)) (qv s.rows r (.live (.loop (if jump.isNone then .ready else .done) jump fn env ps as bd d)))
  | _=>.fail
def Y9 (c:Cfg) (g:FuncId) (args:List V):Option AF :=
 match c.F g with
 | some gf=>match gf.body with
  | some b=>some {fn:=g,env:=args++List.replicate (gf.ntmps - args.length) V.undef,todo:=[.it (.code b)],round:=none,marks:=[]}|none=>none
 | none=>none
def qh9 (env:List V):List Tmp->List V->List V
 | p::ps,v::vs=>qh9 (env.set p v) ps vs|_,_=>env
def toA (s:AS) (k:List qL):Out:=.next {s with fr:={s.fr with todo:=k}}
def qp0 (c:Cfg) (look:Nat->Option Row) (t:TypeId) (v:V) (name:String):Option (FuncId×V) :=
 match c.P.info? t,c.T t with
 | some i,some y=>match i.methods.find? (·.name==name)with
  | some ⟨_,_,⟨[]⟩,some (f,pr)⟩=>match y.desc,pr with
   | .pointer _,true=>some (f,v)|.pointer e,false=>(qa4 c.T look e v).map fun x=>(f,x)
   | _,_=>none
  | _=>none
 | _,_=>none
def qwz (c:Cfg) (s:AS) (o:Op) (vs:List V):Out :=
 match o with
 | .call ⟨.invoke recv name,_,_⟩=>match YX s.fr.env recv with
  | some (.ifc t v)=>match qp0 c (qp s.rows) t v name with
   | some (g,rv)=>match Y9 c g (rv::vs)with
    | some fr=>.next {fr,stack:=s.fr::s.stack,rows:=s.rows}|none=>.fail
   | none=>.fail
  | _=>.fail
 | _=>.fail
def qwA (s:AS) (o:Oper) (k:List qL):Out :=
 match o.op with
 | .defer ⟨.value f,as,_⟩=>match YX s.fr.env f,YR s.fr.env as.toList with
  | some fv,some vs=>match qcy fv vs with
   | some ga=>if s.fr.round.isNone&&s.fr.marks.isEmpty then .next {s with fr:={s.fr with env:=JN s.fr.env o.dst V.undef,todo:=k,dcl:=ga::s.fr.dcl}}else .fail
   | none=>.fail
  | _,_=>.fail
 | _=>.fail
def qp1 (T:TypeId->Option Ty) (look:Nat->Option Row) (o:Op) (vs:List V):Option V :=
 match o,vs with
 | .call ⟨.builtin .len,_,⟨[t]⟩⟩,[.mp r]=>match look r,T t with
  | some (.map es _ _),some y=>match y.desc with
   | .map _ _=>some (.d (.int .i64 es.length))|_=>none
  | _,_=>none
 | _,_=>none
def qb0 (c:Cfg) (s:AS) (ops:Array Oper) (i:Nat) (rest:List Nat) (k:List qL):Out :=
 match ops[i]? with
 | none=>.fail|some o=>match qaO ops s.fr.env o with
  | none=>.fail|some false=>.next {s with fr:={s.fr with env:=JN s.fr.env o.dst V.undef,todo:=.it (.inRegion ops rest)::k}}
  | some true=>match qa6 o.op with
   | some (f,args)=>match YX s.fr.env f,YR s.fr.env args with
    | some (.yl r),some vs=>match qp s.rows r with
     | some (.loop _ _ fn env ps as bd _) =>
      if ps.length=vs.length then
       .next {fr:={fn,env:=qh9 env ps vs,todo:=[.it (.code as),.it .beginRound,.it (.code bd)],round:=some r,marks:=[]},stack:=s.fr::s.stack,rows:=s.rows}
      else .fail
     | _=>.fail
    | some fv,some vs=>match qcy fv vs with
     | some (g,as) =>
      if c.po g&&c.rc g then
       match qcx c s.rows.length g as s.rows with
       | some res=>.next {s with fr:={s.fr with env:=JN s.fr.env o.dst res.v,todo:=.it (.inRegion ops rest)::k},rows:=qag s.rows.length res s.rows}
       | none=>.fail
      else match Y9 c g as with
       | some fr=>.next {fr,stack:=s.fr::s.stack,rows:=s.rows}|none=>.fail
     | none=>.fail
    | _,_=>.fail
   | none=>match YR s.fr.env (qO o.op)with
    | some vs=>match act c.T (qah s.rows vs) s.rows.length o.op vs with
     | some res=>.next {s with fr:={s.fr with env:=JN s.fr.env o.dst res.v,todo:=.it (.inRegion ops rest)::k},rows:=qag s.rows.length res s.rows}
     | none=>match qp1 c.T (qp s.rows) o.op vs with
      | some v=>.next {s with fr:={s.fr with env:=JN s.fr.env o.dst v,todo:=.it (.inRegion ops rest)::k}}
      | none=>match o.op with
       | .defer _=>qwA s o (.it (.inRegion ops rest)::k)|_=>qwz c s o.op vs
    | none=>.fail
def qp2 (c : Cfg) (s : AS) (f : Operand) (params : Array Tmp) (as body : Code) (k : List qL) : Out :=
  match YX s.fr.env f with
  | some (.fn g caps) => match s.fr.round with
    | none =>
      let d := s.rows.length
      match Y9 c g (.yl (d+1)::caps)with
      | some fr => .next {fr, stack := {s.fr with todo := .rf (d+1)::k, marks := d::s.fr.marks}::s.stack,
                           rows := (s.rows++[.live .dfr])++[.live (.loop .ready none s.fr.fn s.fr.env params.toList as body d)]}
      | none => .fail
    | some r => match qp s.rows r with
      | some (.loop _ _ _ _ _ _ _ d) =>
        let l := s.rows.length
        match Y9 c g (.yl l::caps)with
        | some fr => .next {fr, stack := {s.fr with todo := .rf l::k}::s.stack, rows := s.rows++[.live (.loop .ready none s.fr.fn s.fr.env params.toList as body d)]}
        | none => .fail
      | _ => .fail
  | _ => .fail
def qk2:qc->Bool
 | .free=>true|_=>false
def qgl (rows:Rows):Rows:=(rows.reverse.dropWhile qk2).reverse
def qgm (c:Cfg) (ops:Array Oper) (s:St):Option St :=
 if qe2 ops then
  match qbx c ops s.rows.length (List.range ops.size) {s with rows:=s.rows++List.replicate ops.size .free}with
  | some (rs,s')=>if qge (qbZ ops ops.size) s.rows.length rs then some {s' with rows:=qgl s'.rows}else none
  | none=>none
 else none
def qwB (look:Nat->Option Row) (rs:List Rec):List Nat :=
 (rs.flatMap (·.ups)).filterMap fun u=>match u.2,look u.1 with
  | .live row',some row=>if row.rw&&!row'.rw then some u.1 else none
  | _,_=>none
def qp3 (c:Cfg) (ops:Array Oper) (s:St):Option St :=
 match qbx c ops s.rows.length (List.range ops.size) {s with rows:=s.rows++List.replicate ops.size .free}with
 | some (rs,_)=>qgm c ops {s with rows:=qI (JM s.rows (qwB (qp s.rows) rs)) s.rows}
 | none=>none
def qbz (ops:Array Oper):Nat :=
 match ops[ops.size - 1]? with
 | some o=>if (qa6 o.op).isSome then ops.size - 1 else ops.size - 2
 | none=>0
def qcE (c:Cfg) (s:AS):Out :=
 match s.fr.todo with
 | []=>qh8 c s none|.rf _::_=>.fail|.it i::k=>match i with
  | .code cd=>match cd with
   | .ret=>qh8 c s (some .ret)|.skip=>toA s k|.label _=>toA s k|.seq a b=>toA s (.it (.code a)::.it (.code b)::k)|.cond o x y=>match YX s.fr.env o with
    | some (.d (.bool b))=>toA s (.it (.code (if b then x else y))::k)
    | _=>.fail
   | .block id b=>toA s (.it (.code b)::.it (.inBlock id)::k)|.loop b=>toA s (.it (.code b)::.it (.inLoop b)::k)|.scope b=>toA s (.it (.code b)::.it (.inScope b)::k)|.exit id=>match qcD id k with
    | some k'=>toA s k'|none=>match s.fr.round with
     | some _=>qh8 c s (some (.exit id))|none=>.fail
   | .goto l=>match qe5 l k with
    | some k'=>toA s k'|none=>.fail
   | .region _ ops false=>toA s (.it (.inRegion ops (List.range ops.size))::k)|.region _ ops true=>match qgm c ops {env:=s.fr.env,rows:=s.rows}with
    | some st=>.next {s with fr:={s.fr with env:=st.env,todo:=k},rows:=st.rows}
    | none=>match qgh c ops (qbz ops) {env:=s.fr.env,rows:=s.rows}with
     | some st=>.next {s with fr:={s.fr with env:=st.env,todo:=.it (.inRegion ops (qbz ops::List.range' (qbz ops+1) (ops.size - (qbz ops+1))))::k},rows:=st.rows}
     | none=>match qp3 c ops {env:=s.fr.env,rows:=s.rows}with
      | some st=>.next {s with fr:={s.fr with env:=st.env,todo:=k},rows:=st.rows}
      | none=>.fail
   | .rangeFunc f params as body=>qp2 c s f params as body k|.refuse _=>.fail
  | .inBlock _=>toA s k|.inScope _=>toA s k|.inLoop b=>toA s (.it (.code b)::.it (.inLoop b)::k)|.inRegion ops []=>toA s k|.inRegion ops (i::rest)=>qb0 c s ops i rest k|.beginRound=>match s.fr.round with
   | some r=>match qp s.rows r with
    | some (.loop .ready pend fn env ps as bd d)=>.next {s with fr:={s.fr with todo:=k},rows:=qv s.rows r (.live (.loop .busy pend fn env ps as bd d))}
    | _=>.fail
   | none=>.fail
  | _=>.fail
def qdd (c:Cfg):Nat->AS->Out
 | 0,s=>.next s|n+1,s=>match qcE c s with
  | .next s'=>qdd c n s'|o=>o
section
def qdK {rows:Rows} {r:Nat} {row:Row} (h:qp rows r=some row):rows[r]?=some (qc.live row):=by
 unfold qp at h;split at h
 ·rename_i q hq; cases h; exact hq
 ·cases h
section
variable {m:Mp} {S:Nat->Prop} {w:World}
def qvG {mT:Mp} {f:Nat->Option Nat} (hf:∀r j,f r=some j->mT j=m r) {x:V} {v:Value} (h:RE m S w x v):RE mT S w (qkA f x) v:=by
 unfold qkA
 cases hr:qA f 8 x with
 | none=>exact .inl rfl|some y =>
  rcases h with rfl|h
  ·simp only[qA]at hr; cases hr
  ·exact .inr (qdF hf hr h)
def qpq {mT:Mp} {f:Nat->Option Nat} (hf:∀r j,f r=some j->mT j=m r) {b o:Nat} {row row':Row} (h:qP f (some row)=some (.live row')) (hr:YF m S w b o row):YF mT S w b o row'/\row'.rw=row.rw:=by
 cases row with
 | dat k es ro=>simp only[qP]at h; cases h; exact⟨hr,rfl⟩
 | box cs ro =>
  simp only[qP,qTP]at h;obtain⟨xs,hx,h⟩:=h;cases h;obtain⟨c,e,h1,h2⟩:=hr;refine⟨⟨c,e,h1,fun j x hj=>?_⟩,rfl⟩;obtain⟨y,hy,hren⟩:=JA hx hj;obtain⟨v,hv,hrel⟩:=h2 j y hy;exact⟨v,hv,qdF hf hren hrel⟩
 | map es clock ro =>
  simp only[qP,qTP]at h;obtain⟨xs,hx,h⟩:=h;cases h;obtain⟨ents,h1,h2,hbn,h3⟩:=hr;refine⟨⟨ents,h1,by rw[qar hx]; exact h2,⟨by rw[qar hx]; exact hbn.1,hbn.2⟩,fun j e x hj he=>?_⟩,rfl⟩;obtain⟨y,hy,hren⟩:=JA hx hj;simp only[qTP]at hren;obtain⟨z,hz,rfl⟩:=hren;obtain⟨k1,k2⟩:=h3 j y x hy he;exact⟨k1,qdF hf hz k2⟩
 | loop st pend fn env params assign body dfr =>
  simp only[qP]at h;split at h
  ·rename_i d' hd;cases h;obtain⟨L,h1,h2,h3,h4,h5,h6,h7,h8,o',h9⟩:=hr;refine⟨⟨L,h1,h2,h3,h4,⟨by rw[qTS]; exact h5.1,fun j x v hx hv=>?_⟩,h6,h7,h8,o',(hf _ _ hd).trans h9⟩,rfl⟩;rw[qT3,qTP]at hx;obtain⟨y,hy,rfl⟩:=hx;exact qvG hf (h5.2 j y v hy hv)
  ·cases h
 | dfr=>simp only[qP]at h; cases h; exact⟨hr,rfl⟩
 | iter _ _=>simp only[qP]at h; cases h
def qvH {rs:List Nat} {b o:Nat} {row row':Row} (h:qP (fun r=>q9 r rs 0) (some row)=some (.live row')) (hr:YF m S w b o row):YF (qT m rs) S w b o row'/\row'.rw=row.rw :=
 qpq (fun _ _ hj=>quP hj) h hr
def qvI {l:List Nat} (h:l.eraseDups.length=l.length):∀(i j x:Nat),l[i]?=some x->l[j]?=some x->i=j:=by
 have hnd:l.Nodup:=by
  induction l with
  | nil=>exact List.nodup_nil|cons a l ih =>
   rw[List.eraseDups_cons]at h;have h1:(l.filter fun b=>!b==a).eraseDups.length<=(l.filter fun b=>!b==a).length:=by
    have:∀(n:Nat) (l:List Nat),l.length<=n->l.eraseDups.length<=l.length:=by
     intro n
     induction n with
     | zero=>intro l hl; have:l=[]:=qVS.1 (by omega); subst this; simp
     | succ n ih =>
      intro l hl
      cases l with
      | nil=>simp|cons a l =>
       rw[List.eraseDups_cons];have h2:=List.length_filter_le (fun b=>!b==a) l;have h3:=ih (l.filter fun b=>!b==a) (by simp at hl; omega);simp only[qT9];omega
    exact this _ _ (qTF _)
   have h2:=List.length_filter_le (fun b=>!b==a) l;simp only[qT9]at h;have h3:(l.filter fun b=>!b==a).length=l.length:=by omega
   have h4:=qVc.2 (qWA.1 h3);have h5:=qWA.1 h3;rw[h4]at h;rw[qV2];refine⟨fun ha=>?_,ih (by omega)⟩;have:=h5 a ha;simp at this
 intro i j x hi hj;have h1:=q7 hi;have h2:=q7 hj;rw[qTE h1]at hi;rw[qTE h2]at hj;have e:l[i]=l[j]:=by
  injection hi with hi; injection hj with hj; rw[hi,hj]
 have hp:=qWB.1 hnd;rcases qVX i j with h|h|h
 ·exact absurd e (hp i j h1 h2 h)
 ·exact h
 ·exact absurd e.symm (hp j i h2 h1 h)
def qhO {w0:World} {own:Own} {rows rows':Rows} {rs:List Nat} (inv:Inv w0 own m S w rows) (hrs:rs.eraseDups.length=rs.length)
  (h:qz (fun r=>qP (fun r=>q9 r rs 0) (qp rows r)) rs=some rows'):Inv w0 own (qT m rs) S w rows':=by
 have live:∀(i:Nat) (row':Row),rows'[i]?=some (qc.live row')->∃r row b o,rs[i]?=some r/\rows[r]?=some (qc.live row)/\m r=some (b,o)/\row'.rw=row.rw/\YF (qT m rs) S w b o row':=by
  intro i row' hi;obtain⟨r,hr,hren⟩:=JA h hi
  cases hl:qp rows r with
  | none=>rw[hl]at hren; simp only[qP]at hren; cases hren
  | some row =>
   rw[hl]at hren;have hrow:=qdK hl;obtain⟨b,o,hm,hrel⟩:=inv.row r row hrow;obtain⟨k1,k2⟩:=qvH hren hrel;exact⟨r,row,b,o,hr,hrow,hm,k2,k1⟩
 have mget:∀{i:Nat} {p:Nat×Nat},qT m rs i=some p->∃r,rs[i]?=some r/\m r=some p:=by
  intro i p hi;unfold qT at hi
  cases hr:rs[i]? with
  | none=>rw[hr]at hi; cases hi
  | some r=>rw[hr]at hi; exact⟨r,rfl,hi⟩
 refine⟨fun i hi=>?_,fun i hi=>?_,fun i row hi=>?_,fun i b o hi=>?_,fun i row b o h1 hw hm=>?_,fun i i' row row' b o b' o' hne h1 h2 hw hm hm'=>?_,fun i row b o h1 hw hm=>?_,
  fun i row b o h1 hw hm=>?_,inv.sbnd,inv.base,inv.stb,inv.os,inv.tape,inv.output,inv.grow,inv.kept,inv.glb⟩
 ·rw[qar h]at hi;simp[qT,hi]
 ·obtain⟨r,hr,hren⟩:=JA h hi;unfold qP at hren;split at hren
  ·cases hren
  ·rw[qTP]at hren; obtain⟨_,_,hq⟩:=hren; cases hq
  ·rw[qTP]at hren; obtain⟨_,_,hq⟩:=hren; cases hq
  ·split at hren<;>cases hren
  ·cases hren
  ·cases hren
 ·obtain⟨r,row0,b,o,e1,e2,e3,_,e4⟩:=live i row hi;exact⟨b,o,by simp[qT,e1,e3],e4⟩
 ·obtain⟨r,_,hm⟩:=mget hi;exact inv.bnd r b o hm
 ·obtain⟨r,row0,b0,o0,e1,e2,e3,e5,_⟩:=live i row h1;obtain⟨r',q1,q2⟩:=mget hm;rw[e1]at q1; cases q1;exact inv.new r row0 b o e2 (by rw[<-e5]; exact hw) q2
 ·obtain⟨r,row0,_,_,e1,e2,_,e5,_⟩:=live i row h1;obtain⟨r',row1,_,_,f1,f2,_,_,_⟩:=live i' row' h2;obtain⟨q,q1,q2⟩:=mget hm;rw[e1]at q1; cases q1;obtain⟨q',q3,q4⟩:=mget hm';rw[f1]at q3; cases q3;exact inv.apart r r' row0 row1 b o b' o' (fun e=>hne (qvI hrs i i' r e1 (by rw[f1,e]))) e2 f2 (by rw[<-e5]; exact hw) q2 q4
 ·obtain⟨r,row0,_,_,e1,e2,_,e5,_⟩:=live i row h1;obtain⟨q,q1,q2⟩:=mget hm;rw[e1]at q1; cases q1;exact inv.stab r row0 b o e2 (by rw[<-e5]; exact hw) q2
 ·obtain⟨r,row0,_,_,e1,e2,_,e5,_⟩:=live i row h1;obtain⟨q,q1,q2⟩:=mget hm;rw[e1]at q1; cases q1;exact inv.rost r row0 b o e2 (by rw[<-e5]; exact hw) q2
end
def qM (P:Program) (g:FuncId) (k:Nat) (args:List V) (rows:Rows) (R:V->Rows->Prop):Prop :=
 ∀(w0:World) (own:Own) (m:Mp) (S:Nat->Prop) (w:World) (vs:Array Value),Inv w0 own m S w rows->RVs m S w args vs ->
  Calls P g vs w fun e w'=>∃u v rows',e=.returned u/\R v rows'/\∃m' S',Inv w0 own m' S' w' rows'/\RV m' S' w' v u/\(∀r,r<k->∀p,m r=some p->m' r=some p)/\(∀b,Yf w b<=Yf w' b)
def JU (rs:List Nat):Nat->Rows->Rows->Option Rows
 | _,[],rows=>some rows|i,x::l,rows=>match rs[i]? with
  | none=>some rows|some r=>match x with
   | .live row=>match qP (fun j=>rs[j]?) (some row)with
    | some (.live row')=>JU rs (i+1) l (rows.set r (.live row'))|_=>none
   | _=>JU rs (i+1) l (rows.set r .dead)
def qpr {rs:List Nat}:∀{l:Rows} {i:Nat} {rows rows':Rows},JU rs i l rows=some rows'->(∀(a b r:Nat),rs[a]?=some r->rs[b]?=some r->a=b) ->
  rows'.length=rows.length/\∀(q:Nat),(∀j,i<=j->j<i+l.length->rs[j]?≠some q)->rows'[q]?=rows[q]?
 | [],i,rows,rows',h,_=>by cases h; exact⟨rfl,fun q _=>rfl⟩
 | x::l,i,rows,rows',h,hn=>by
  simp only[JU]at h
  cases hr:rs[i]? with
  | none=>rw[hr]at h; cases h; exact⟨rfl,fun q _=>rfl⟩
  | some r =>
   rw[hr]at h;have key:∀(s:qc),JU rs (i+1) l (rows.set r s)=some rows'->rows'.length=rows.length/\∀(q:Nat),(∀j,i<=j->j<i+(x::l).length->rs[j]?≠some q)->rows'[q]?=rows[q]?:=by
    intro s hs;obtain⟨h1,h2⟩:=qpr hs hn;refine⟨by rw[h1,qUI],fun q hq=>?_⟩;rw[h2 q (fun j hj hj'=>hq j (by omega) (by simp; omega)),qUF (fun e=>hq i (qTF _) (by simp) (by rw[hr,e]))]
   simp only at h
   cases x with
   | live row =>
    simp only at h;split at h
    ·exact key _ h
    ·cases h
   | free=>exact key _ h|dead=>exact key _ h
def qkm {rs:List Nat}:∀{l:Rows} {i:Nat} {rows rows':Rows},JU rs i l rows=some rows'->(∀(a b r:Nat),rs[a]?=some r->rs[b]?=some r->a=b)->(∀(a r:Nat),rs[a]?=some r->r<rows.length) ->
  ∀(j r:Nat) (x:qc),l[j]?=some x->rs[i+j]?=some r->rows'[r]?=some (match x with | .live row=>(match qP (fun j=>rs[j]?) (some row)with|some y=>y|none=>.dead) | _=>.dead)/\(∀row,x=.live row->∃row',qP (fun j=>rs[j]?) (some row)=some (.live row'))
 | [],i,rows,rows',h,_,_,j,r,x,hx,_=>by simp at hx
 | y::l,i,rows,rows',h,hn,hb,j,r,x,hx,hr=>by
  simp only[JU]at h
  cases j with
  | succ j =>
   simp only[qUx]at hx;have hr':rs[i+1+j]?=some r:=by rw[<-hr]; congr 1; omega
   cases hi:rs[i]? with
   | none =>
    have h1:=q7 hr;rw[qWC]at hi;omega
   | some r0 =>
    rw[hi]at h;simp only at h
    cases y with
    | live row =>
     simp only at h;split at h
     ·exact qkm h hn (fun a r h=>by rw[qUI]; exact hb a r h) j r x hx hr'
     ·cases h
    | free=>exact qkm h hn (fun a r h=>by rw[qUI]; exact hb a r h) j r x hx hr'
    | dead=>exact qkm h hn (fun a r h=>by rw[qUI]; exact hb a r h) j r x hx hr'
  | zero =>
   simp at hx; subst hx;rw[qUQ]at hr;rw[hr]at h;have fin:∀(s:qc),JU rs (i+1) l (rows.set r s)=some rows'->rows'[r]?=some s:=by
    intro s hs;rw[(qpr hs hn).2 r (fun j hj _ he=>by have:=hn j i r he hr; omega),qUV (hb i r hr)]
   simp only at h
   cases y with
   | live row =>
    simp only at h;split at h
    ·rename_i row' hm;refine⟨?_,fun row2 e=>?_⟩
     ·rw[fin _ h]; simp only[hm]
     ·cases e; exact⟨row',hm⟩
    ·cases h
   | free=>exact⟨fin _ h,fun row e=>by cases e⟩
   | dead=>exact⟨fin _ h,fun row e=>by cases e⟩
variable {w0:World} {own:Own} {m:Mp} {S:Nat->Prop} {w:World} {rows:Rows}
def qc1 (m:Mp) (S:Nat->Prop) (rows:Rows) (rs:List Nat):Own:=⟨fun b=>∃r row o,r∈rs/\rows[r]?=some (qc.live row)/\row.rw=true/\m r=some (b,o),S⟩
def qvJ (inv:Inv w0 own m S w rows) {rs:List Nat} {rows':Rows} (hrs:rs.eraseDups.length=rs.length)
  (h:qz (fun r=>qP (fun r=>q9 r rs 0) (qp rows r)) rs=some rows'):Inv w (qc1 m S rows rs) (qT m rs) S w rows':=by
 have i1:=qhO inv hrs h;refine⟨i1.none,i1.fre,i1.row,i1.bnd,fun i row b o h1 hw hm=>?_,i1.apart,i1.stab,i1.rost,i1.sbnd,fun b hb=>.inl hb,fun b hb=>hb,rfl,rfl,rfl,qTF _,fun _ _ _=>rfl,i1.glb⟩;obtain⟨r,hr,hren⟩:=JA h h1
 cases hl:qp rows r with
 | none=>rw[hl]at hren; simp only[qP]at hren; cases hren
 | some row0 =>
  rw[hl]at hren;have hrow:=qdK hl;obtain⟨b0,o0,hm0,hrel⟩:=inv.row r row0 hrow;obtain⟨_,k2⟩:=qvH hren hrel;have:qT m rs i=m r:=by simp[qT,hr]
  rw[this]at hm;exact .inr ⟨r,row0,o,qUi hr,hrow,by rw[<-k2]; exact hw,hm⟩
def qDL (inv:Inv w0 own m S w rows) {rs:List Nat} {Y6 rows2 rows3:Rows} (hrs:rs.eraseDups.length=rs.length)
  (h:qz (fun r=>qP (fun r=>q9 r rs 0) (qp rows r)) rs=some Y6) (hlive:Y6.all qkB=true) {m':Mp} {S':Nat->Prop} {w':World}
  (i2:Inv w (qc1 m S rows rs) m' S' w' rows2) (hm':∀r,r<rs.length->∀p,qT m rs r=some p->m' r=some p) (hsz:∀b,Yf w b<=Yf w' b) (hb:JU rs 0 rows2 rows=some rows3) :
  Inv w0 own m S' w' rows3/\Ext m S w m S' w'/\∀j r,rs[j]?=some r->m r=m' j:=by
 have hnd:=qvI hrs;have hlen:=qar h;have old:∀j r,rs[j]?=some r->∃row b o,rows[r]?=some (qc.live row)/\m r=some (b,o)/\m' j=some (b,o):=by
  intro j r hr;have hj:=q7 hr;have hjc:j<Y6.length:=by omega
  have hlv:=(qTI.1 hlive) Y6[j] (qTL hjc);obtain⟨r2,hr2,hren⟩:=JA h (qTE hjc);rw[hr]at hr2; cases hr2
  cases hl:qp rows r with
  | none=>rw[hl]at hren; simp only[qP]at hren; injection hren with he; rw[<-he]at hlv; cases hlv
  | some row =>
   have hrow:=qdK hl;obtain⟨b,o,hm,_⟩:=inv.row r row hrow;exact⟨row,b,o,hrow,hm,hm' j hj (b,o) (by simp[qT,hr,hm])⟩
 have hback:∀j r,rs[j]?=some r->m r=m' j:=by
  intro j r hr;obtain⟨row,b,o,_,h1,h2⟩:=old j r hr;rw[h1,h2]
 have hbnd:∀(a r:Nat),rs[a]?=some r->r<rows.length:=fun a r hr=>by
  obtain⟨row,_,_,h1,_⟩:=old a r hr;exact q7 h1
 obtain⟨hl3,hoth⟩:=qpr hb hnd;have ownOK:∀b,(qc1 m S rows rs) b->w0.heap.size<=b\/own b:=fun b ⟨r,row,o,_,h1,h2,h3⟩=>inv.new r row b o h1 h2 h3
 have ownS:∀b,(qc1 m S rows rs) b->¬S b:=fun b ⟨r,row,o,_,h1,h2,h3⟩=>inv.stab r row b o h1 h2 h3
 have heapS:∀b,b<w.heap.size->¬(qc1 m S rows rs) b->w'.heap[b]?=w.heap[b]?:=i2.kept;have ext:Ext m S w m S' w':=⟨fun _ _ e=>e,fun b hb=>i2.stb b hb,fun b hb=>heapS b (inv.sbnd b hb) (fun hc=>ownS b hc hb),hsz⟩
 have notIn:∀q,(∀j,0<=j->j<0+rows2.length->rs[j]?≠some q)\/∃j,j<rows2.length/\rs[j]?=some q:=by
  intro q
  by_cases hq:∃j,j<rows2.length/\rs[j]?=some q
  ·exact .inr hq
  ·exact .inl fun j _ hj e=>hq ⟨j,by omega,e⟩
 have cases3:∀(q:Nat) (x:qc),rows3[q]?=some x->(rows[q]?=some x/\∀j,j<rows2.length->rs[j]?≠some q) \/
   ∃(j:Nat) (y:qc),rs[j]?=some q/\rows2[j]?=some y/\((∃row row',y=qc.live row/\qP (fun j=>rs[j]?) (some row)=some (qc.live row')/\x=qc.live row')\/((∀row,y≠qc.live row)/\x=qc.dead)):=by
  intro q x hx;rcases notIn q with h1|⟨j,hj,hq⟩
  ·left;rw[hoth q h1]at hx;exact⟨hx,fun j hj=>h1 j (qVB _) (by omega)⟩
  ·right;have hy:rows2[j]?=some rows2[j]:=qTE hj;obtain⟨e1,e2⟩:=qkm hb hnd hbnd j q rows2[j] hy (by rw[qT6]; exact hq);refine⟨j,rows2[j],hq,hy,?_⟩;rw[e1]at hx
   cases hyc:rows2[j]with
   | live row =>
    obtain⟨row',hr'⟩:=e2 row hyc;rw[hyc]at hx;simp only[hr']at hx;cases hx;exact .inl ⟨row,row',rfl,hr',rfl⟩
   | free=>rw[hyc]at hx; cases hx; exact .inr ⟨fun row e=>(by cases e),rfl⟩
   | dead=>rw[hyc]at hx; cases hx; exact .inr ⟨fun row e=>(by cases e),rfl⟩
 have notOwn:∀q row b o,rows[q]?=some (qc.live row)->m q=some (b,o)->(∀j,j<rs.length->rs[j]?≠some q)->¬(qc1 m S rows rs) b:=by
  intro q row b o hq hm hn ⟨r,row2,o2,hr,h1,h2,h3⟩;obtain⟨j,hj⟩:=qUS hr;have hne:r≠q:=fun e=>hn j (q7 hj) (by rw[hj,e])
  exact inv.apart r q row2 row b o2 b o hne h1 hq h2 h3 hm rfl
 have hlen2:rs.length<=rows2.length\/∃j,rows2.length<=j/\j<rs.length:=by
  rcases qTQ rows2.length rs.length with h1|h1
  ·exact .inr ⟨rows2.length,qTF _,h1⟩
  ·exact .inl h1
 have full:rs.length<=rows2.length:=by
  rcases hlen2 with h1|⟨j,h1,h2⟩
  ·exact h1
  ·obtain⟨_,b,o,_,_,h3⟩:=old j rs[j] (qTE h2);rw[i2.none j h1]at h3; cases h3
 have hmove:∀(b o:Nat) (row row':Row),qP (fun j=>rs[j]?) (some row)=some (.live row')->YF m' S' w' b o row->YF m S' w' b o row'/\row'.rw=row.rw :=
  fun b o row row' h1 h2=>qpq (fun r j hj=>hback r j hj) h1 h2
 refine⟨⟨fun r hr=>inv.none r (by rw[hl3]at hr; exact hr),fun r hr=>?_,fun r row hr=>?_,fun r b o hm=>qUn (inv.bnd r b o hm) i2.grow,fun r row b o hr hw hm=>?_,
  fun r r' row row' b o b' o' hne hr hr' hw hm hmm=>?_,fun r row b o hr hw hm=>?_,fun r row b o hr hw hm=>?_,i2.sbnd,fun b hb=>?_,fun b hb=>i2.stb b (inv.stb b hb),i2.os.trans inv.os,i2.tape.trans inv.tape,
  i2.output.trans inv.output,qT2 inv.grow i2.grow,fun b hb hn=>?_,i2.glb⟩,ext,hback⟩
 ·rcases cases3 r _ hr with⟨h1,_⟩|⟨j,y,_,_,⟨_,_,_,_,h5⟩|⟨_,h5⟩⟩
  ·exact inv.fre r h1
  ·cases h5
  ·cases h5
 ·rcases cases3 r _ hr with⟨h1,h2⟩|⟨j,y,h1,h2,⟨row0,row',e1,e2,e3⟩|⟨_,h5⟩⟩
  ·obtain⟨b,o,hm,hrel⟩:=inv.row r row h1;exact⟨b,o,hm,hrel.ext ext (heapS b (inv.bnd r b o hm) (notOwn r row b o h1 hm (fun j hj=>h2 j (by omega))))⟩
  ·cases e3;subst e1;obtain⟨b,o,hm,hrel⟩:=i2.row j row0 h2;exact⟨b,o,by rw[hback j r h1]; exact hm,(hmove b o row0 row e2 hrel).1⟩
  ·cases h5
 ·rcases cases3 r _ hr with⟨h1,_⟩|⟨j,y,h1,h2,⟨row0,row',e1,e2,e3⟩|⟨_,h5⟩⟩
  ·exact inv.new r row b o h1 hw hm
  ·cases e3;subst e1;obtain⟨b1,o1,hm1,hrel⟩:=i2.row j row0 h2;have hrw:=(hmove b1 o1 row0 row e2 hrel).2;rcases i2.new j row0 b o h2 (by rw[<-hrw]; exact hw) (by rw[<-hback j r h1]; exact hm)with h3|h3
   ·exact .inl (qT2 inv.grow h3)
   ·exact ownOK b h3
  ·cases h5
 ·have rwOf:∀(r:Nat) (row:Row),rows3[r]?=some (qc.live row)->(rows[r]?=some (qc.live row)/\∀j,j<rows2.length->rs[j]?≠some r)\/∃(j:Nat) (row0:Row),rs[j]?=some r/\rows2[j]?=some (qc.live row0)/\row0.rw=row.rw:=by
   intro r row hr;rcases cases3 r _ hr with h1|⟨j,y,h1,h2,⟨row0,row',e1,e2,e3⟩|⟨_,h5⟩⟩
   ·exact .inl h1
   ·cases e3;subst e1;obtain⟨b1,o1,hm1,hrel⟩:=i2.row j row0 h2;exact .inr ⟨j,row0,h1,h2,(hmove b1 o1 row0 row e2 hrel).2.symm⟩
   ·cases h5
  rcases rwOf r row hr with⟨a1,a2⟩|⟨j,row0,a1,a2,a3⟩<;>rcases rwOf r' row' hr' with⟨c1,c2⟩|⟨j',row1,c1,c2,c3⟩
  ·exact inv.apart r r' row row' b o b' o' hne a1 c1 hw hm hmm
  ·obtain⟨rowq,bq,oq,q1,q2,q3⟩:=old j' r' c1;rw[hmm]at q2; cases q2;exact inv.apart r r' row rowq b o b' o' hne a1 q1 hw hm hmm
  ·
   intro e;subst e;have hmj:m' j=some (b,o):=by rw[<-hback j r a1]; exact hm
   rcases i2.new j row0 b o a2 (by rw[a3]; exact hw) hmj with h3|h3
   ·have:=inv.bnd r' b o' hmm; omega
   ·exact notOwn r' row' b o' c1 hmm (fun i hi=>c2 i (by omega)) h3
  ·refine i2.apart j j' row0 row1 b o b' o' (fun e=>hne ?_) a2 c2 (by rw[a3]; exact hw) (by rw[<-hback j r a1]; exact hm) (by rw[<-hback j' r' c1]; exact hmm);subst e;rw[a1]at c1; cases c1; rfl
 ·rcases cases3 r _ hr with⟨h1,h2⟩|⟨j,y,h1,h2,⟨row0,row',e1,e2,e3⟩|⟨_,h5⟩⟩
  ·intro hs;rcases i2.base b hs with h3|h3|h3
   ·exact inv.stab r row b o h1 hw hm h3
   ·have:=inv.bnd r b o hm; omega
   ·exact notOwn r row b o h1 hm (fun j hj=>h2 j (by omega)) h3
  ·cases e3;subst e1;obtain⟨b1,o1,hm1,hrel⟩:=i2.row j row0 h2;have hrw:=(hmove b1 o1 row0 row e2 hrel).2;exact i2.stab j row0 b o h2 (by rw[<-hrw]; exact hw) (by rw[<-hback j r h1]; exact hm)
  ·cases h5
 ·rcases cases3 r _ hr with⟨h1,h2⟩|⟨j,y,h1,h2,⟨row0,row',e1,e2,e3⟩|⟨_,h5⟩⟩
  ·exact ext.sub b (inv.rost r row b o h1 hw hm)
  ·cases e3;subst e1;obtain⟨b1,o1,hm1,hrel⟩:=i2.row j row0 h2;have hrw:=(hmove b1 o1 row0 row e2 hrel).2;exact i2.rost j row0 b o h2 (by rw[<-hrw]; exact hw) (by rw[<-hback j r h1]; exact hm)
  ·cases h5
 ·rcases i2.base b hb with h3|h3|h3
  ·exact inv.base b h3
  ·exact .inr (.inl (qT2 inv.grow h3))
  ·exact .inr (ownOK b h3)
 ·have hbw:b<w.heap.size:=qUn hb inv.grow;rw[heapS b hbw (fun hc=>by rcases ownOK b hc with h1|h1; omega; exact hn h1)];exact inv.kept b hb hn
def qvK {r:Nat} {x:qc} (h:r<rows.length):qv rows r x=rows.set r x:=by unfold qv; rw[if_pos h]
def qf7:∀{us:List (Nat×qc)} {rows:Rows},(∀u∈us,u.1<rows.length)->YJ us rows=qI us rows
 | [],rows,_=>rfl|u::us,rows,h=>by
  simp only[YJ,qI,qUK];rw[qvK (h u (by simp))];exact qf7 (fun v hv=>by rw[qUI]; exact h v (qTG _ hv))
def qps (P:Program) (WC:FuncId->List V->Rows->Option (V×Rows)):Prop :=
 ∀g args rows v rows2,WC g args rows=some (v,rows2)->qM P g rows.length args rows (fun x y=>x=v/\y=rows2)
def qpt {rs:List Nat}:∀{l:Rows} {i:Nat} {us:List (Nat×qc)} {rows:Rows},qhV rs i l=some us ->
  JU rs i l rows=some (qI us rows)/\(∀u∈us,∃j:Nat,rs[j]?=some u.1)/\∀(j:Nat) (x:qc),l[j]?=some x->i+j<rs.length->∃row,x=.live row
 | [],i,us,rows,h=>by cases h; exact⟨rfl,fun u hu=>(by cases hu),fun j x hx=>by simp at hx⟩
 | x::l,i,us,rows,h=>by
  simp only[qhV]at h
  cases hr:rs[i]? with
  | none =>
   rw[hr]at h; cases h;have hi:rs.length<=i:=qWC.1 hr;exact⟨by simp only[JU,hr]; rfl,fun u hu=>(by cases hu),fun j x _ hj=>by omega⟩
  | some r =>
   rw[hr]at h;simp only at h
   cases x with
   | live row =>
    simp only at h;split at h
    ·rename_i row' hm;rw[qTP]at h;obtain⟨us',hu,rfl⟩:=h;obtain⟨h1,h2,h3⟩:=qpt (rows:=rows.set r (.live row')) hu;refine⟨by simp only[JU,hr,hm,h1]; rfl,fun u hu=>?_,fun j x hx hj=>?_⟩
     ·rcases qTD.1 hu with rfl|hu
      ·exact⟨i,hr⟩
      ·exact h2 u hu
     ·cases j with
      | zero=>simp at hx; subst hx; exact⟨row,rfl⟩|succ j=>exact h3 j x (by simpa using hx) (by omega)
    ·cases h
   | free=>cases h
   | dead=>cases h
def qDM {c:Cfg} {g:FuncId} {args:List V} {res:Res} (h:qbw c g args rows=some res):res.fresh=none/\∀u∈res.ups,u.1<rows.length:=by
 unfold qbw at h;simp only at h;split at h
 ·split at h
  ·split at h
   ·cases h; exact⟨rfl,fun u hu=>by cases hu⟩
   ·cases h;refine⟨rfl,fun u hu=>?_⟩;obtain⟨_,row,h1,_⟩:=qf2 hu;exact q7 h1
  ·cases h
 ·cases h
def qvL {c:Cfg} {g:FuncId} {args:List V} {look:Nat->Option Row} {rs:List Nat} {slot:Nat} {res:Res} (h:qc6 c look rs slot g args=some res) :
  ∃args' Y6 v rows2 us fr v',rs.eraseDups.length=rs.length/\qz (qA (fun r=>q9 r rs 0) 8) args=some args'/\qz (fun r=>qP (fun r=>q9 r rs 0) (look r)) rs=some Y6/\Y6.all qkB=true /\
   c.WC g args' Y6=some (v,rows2)/\qhV rs 0 (rows2.take rs.length)=some us/\qpE (rows2.drop rs.length)=some fr/\qA (qkC rs slot fr.isSome) 8 v=some v'/\res={v:=v',ups:=us,fresh:=fr}:=by
 unfold qc6 at h;split at h
 ·rename_i args' Y6 hpre;split at h
  ·rename_i v rows2 hwc;unfold qkD at hpre;split at hpre
   ·rename_i hrs;split at hpre
    ·rename_i a b h1 h2;split at hpre
     ·rename_i hl;cases hpre;unfold qpF at h;split at h
      ·rename_i us fr h3 h4;split at h
       ·rename_i v' h5;cases h;exact⟨args',Y6,v,rows2,us,fr,v',hrs,h1,h2,hl,hwc,h3,h4,h5,rfl⟩
       ·cases h
      ·cases h
     ·cases hpre
    ·cases hpre
   ·cases hpre
  ·cases h
 ·cases h
def qDN {c:Cfg} {g:FuncId} {args:List V} {look:Nat->Option Row} {rs:List Nat} {slot:Nat} {res:Res} (h:qc6 c look rs slot g args=some res) (hl:∀r row,look r=some row->r<rows.length):∀u∈res.ups,u.1<rows.length:=by
 obtain⟨args',rows',v,rows2,us,fr,v',hrs,h1,h2,hlive,hwc,hus,hfr,hv',rfl⟩:=qvL h;intro u hu;obtain⟨j,hj⟩:=(qpt (rows:=rows) hus).2.1 u hu;have hlen:=qar h2;have hjl:=q7 hj;have hlv:=(qTI.1 hlive) rows'[j] (qTL (by omega));obtain⟨r,hr,hren⟩:=JA h2 (qTE (by omega:j<rows'.length));rw[hj]at hr; cases hr
 cases hk:look u.1 with
 | none=>rw[hk]at hren; simp only[qP]at hren; injection hren with he; rw[<-he]at hlv; cases hlv
 | some row=>exact hl _ row hk
def qDO {P:Program} {c:Cfg} (hWC:qps P c.WC) (inv:Inv w0 own m S w rows) {slot:Nat} (hs:Yn m rows slot) {rs:List Nat} {g:FuncId} {args:List V} {vs:Array Value} {res:Res}
  (h:qc6 c (qp rows) rs slot g args=some res) (ha:RVs m S w args vs) :
  Calls P g vs w fun e w'=>∃u,e=.returned u/\∃m' S',Inv w0 own m' S' w' (qag slot res rows)/\Ext m S w m' S' w'/\RV m' S' w' res.v u:=by
 have hups:=qDN h (rows:=rows) (fun r row hl=>q7 (qdK hl));obtain⟨args',Y6,v,rows2,us,fr,v',hrs,has,hrows,hlive,hwc,hus,hfr,hv',rfl⟩:=qvL h;have hlen:Y6.length=rs.length:=qar hrows;have hargs':RVs (qT m rs) S w args' vs:=by
  refine⟨by rw[qar has]; exact ha.1,fun j x v hx hv=>?_⟩;obtain⟨y,hy,hren⟩:=JA has hx;exact qdG hren (ha.2 j y v hy hv)
 refine(hWC g args' Y6 v rows2 hwc w (qc1 m S rows rs) _ S w vs (qvJ inv hrs hrows) hargs').mono fun e w' ⟨u,x,y,he,⟨hx,hy⟩,m',S',i2,r2,hm',hsz⟩=>⟨u,he,?_⟩
 subst hx; subst hy;rw[hlen]at hm';have htd:=qUw rs.length y;obtain⟨hb,hin,hlv2⟩:=qpt (rows:=rows) hus;have hb2:∀(l l2:Rows) (i:Nat) (rows rows3:Rows),JU rs i l rows=some rows3->rs.length<=i+l.length->JU rs i (l++l2) rows=some rows3:=by
  intro l
  induction l with
  | nil =>
   intro l2 i rows rows3 h hi;simp only[qV1]at hi;have hn:rs[i]?=none:=qUc (by omega)
   cases l2 with
   | nil=>exact h|cons x l2 =>
    simp only[JU]at h;simp only[qUG,JU,hn];exact h
  | cons x l ih =>
   intro l2 i rows rows3 h hi;simp only[qT9]at hi;simp only[JU,qUR]at h ⊢
   cases hr:rs[i]? with
   | none=>rw[hr]at h; exact h|some r =>
    rw[hr]at h;simp only at h ⊢
    cases x with
    | live row =>
     simp only at h ⊢;split at h
     ·exact ih l2 (i+1) _ _ h (by omega)
     ·cases h
    | free=>exact ih l2 (i+1) _ _ h (by omega)
    | dead=>exact ih l2 (i+1) _ _ h (by omega)
 have hfull:rs.length<=y.length:=by
  rcases qTQ y.length rs.length with h1|h1
  ·exfalso;have hjc:y.length<Y6.length:=by omega
   have hlv:=(qTI.1 hlive) Y6[y.length] (qTL hjc);obtain⟨r2,hr2,hren⟩:=JA hrows (qTE hjc)
   cases hl:qp rows r2 with
   | none=>rw[hl]at hren; simp only[qP]at hren; injection hren with he; rw[<-he]at hlv; cases hlv
   | some row =>
    obtain⟨b,o,hm,_⟩:=inv.row r2 row (qdK hl);have:=hm' y.length h1 (b,o) (by simp[qT,hr2,hm]);rw[i2.none _ (qTF _)]at this; cases this
  ·exact h1
 have hb3:JU rs 0 y rows=some (qI us rows):=by
  rw[<-htd];exact hb2 _ _ 0 _ _ hb (by rw[qTU]; omega)
 obtain⟨i3,e3,hback⟩:=qDL inv hrs hrows hlive i2 hm' hsz hb3;have hslot:∀u∈us,u.1≠slot:=by
  intro u hu e;obtain⟨j,hj⟩:=hin u hu;have hjc:j<Y6.length:=by have:=q7 hj; omega
  have hlv:=(qTI.1 hlive) Y6[j] (qTL hjc);obtain⟨r2,hr2,hren⟩:=JA hrows (qTE hjc);rw[hj]at hr2; cases hr2
  cases hl:qp rows u.1 with
  | none=>rw[hl]at hren; simp only[qP]at hren; injection hren with he; rw[<-he]at hlv; cases hlv
  | some row=>rw[e]at hl; exact hs.dead row (qdK hl)
 have hrsl:∀(j r:Nat),rs[j]?=some r->r≠slot:=by
  intro j r hj e;have hjc:j<Y6.length:=by have:=q7 hj; omega
  have hlv:=(qTI.1 hlive) Y6[j] (qTL hjc);obtain⟨r2,hr2,hren⟩:=JA hrows (qTE hjc);rw[hj]at hr2; cases hr2
  cases hl:qp rows r with
  | none=>rw[hl]at hren; simp only[qP]at hren; injection hren with he; rw[<-he]at hlv; cases hlv
  | some row=>rw[e]at hl; exact hs.dead row (qdK hl)
 cases fr with
 | none =>
  refine⟨m,S',?_,e3,?_⟩
  ·show Inv w0 own m S' w' (YJ us rows);rw[qf7 hups]; exact i3
  ·refine qdF (fun r j hj=>?_) hv' r2;unfold qkC at hj;split at hj
   ·exact hback r j hj
   ·simp at hj
 | some row =>
  have hat:y[rs.length]?=some (qc.live row)/\∃k es,row=.dat k es false:=by
   unfold qpE at hfr;split at hfr
   ·cases hfr
   ·rename_i k es heq;cases hfr;refine⟨?_,k,es,rfl⟩;have:=congrArg (fun l=>l[0]?) heq;simpa[qUk]using this
   ·cases hfr
  obtain⟨hat,k,es,rfl⟩:=hat;obtain⟨b,o,hmb,hrel⟩:=i2.row _ _ hat;have hnew:w.heap.size<=b:=by
   rcases i2.new _ _ b o hat rfl hmb with h1|⟨r,row0,o2,hr,hrl,hrw,hmr⟩
   ·exact h1
   ·exfalso;obtain⟨j,hj⟩:=qUS hr;have hjl:=q7 hj;have hmj:m' j=some (b,o2):=by rw[<-hback j r hj]; exact hmr
    have hjy:j<(y.take rs.length).length:=by rw[qTU]; omega
    obtain⟨rowj,hrj⟩:=hlv2 j (y.take rs.length)[j] (qTE hjy) (by omega);have hyj:y[j]?=some (qc.live rowj):=by
     rw[<-hrj,List.getElem_take];exact qTE (by omega)
    exact i2.apart rs.length j _ rowj b o b o2 (by omega) hat hyj rfl hmb hmj rfl
  have hlen3:(qI us rows).length=rows.length:=qhX us rows;have hg3:(qI us rows)[slot]?=rows[slot]?:=qpG (fun h=>by
   obtain⟨u,hu,e⟩:=qTV.1 h;exact hslot u hu e)
  obtain⟨i4,e4⟩:=i3.adopt slot (.dat k es false) b o (by rw[hlen3]; exact hs.le) (fun row'=>by rw[hg3]; exact hs.dead row') (.inl hs.new)
   (fun r row' c o' hr hm=>by have:=inv.bnd r c o' hm; omega) (i2.stab _ _ b o hat rfl hmb) (i2.bnd _ b o hmb) (.inl (qT2 inv.grow hnew)) rfl hrel
  refine⟨_,S',?_,e3.trans e4,?_⟩
  ·show Inv w0 own _ S' w' (qv (YJ us rows) slot _);rw[qf7 hups]; exact i4
  ·refine qdF (fun r j hj=>?_) hv' r2;unfold qkC at hj;split at hj
   ·have hne:=hrsl r j hj;unfold qU;rw[if_neg hne];exact hback r j hj
   ·split at hj
    ·rename_i hc;cases hj;have:r=rs.length:=by simpa using hc
     subst this;unfold qU;rw[if_pos rfl,hmb]
    ·cases hj
def qvM {P:Program} {c:Cfg} (hRC:qjZ P c.RC) (hWC:qps P c.WC) (inv:Inv w0 own m S w rows) {slot:Nat} (hs:Yn m rows slot) {g:FuncId} {args:List V} {vs:Array Value} {res:Res}
  (h:qcx c slot g args rows=some res) (ha:RVs m S w args vs) :
  Calls P g vs w fun e w'=>∃u,e=.returned u/\∃m' S',Inv w0 own m' S' w' (qag slot res rows)/\Ext m S w m' S' w'/\RV m' S' w' res.v u:=by
 unfold qcx at h;split at h
 ·rename_i r hr;cases h;refine(qCw hRC inv hr ha).mono fun e w' ⟨u,he,S',i1,e1,r1,hf⟩=>⟨u,he,m,S',?_,e1,r1⟩
  unfold qag;rw[hf];simp only;rw[qf7 (qDM hr).2];exact i1
 ·exact qDO hWC inv hs h ha
end
end Go.Aev
namespace Go.Aev
variable [Glob]
variable {P:Program} {w0:World} {own:Own} {m:Mp} {S:Nat->Prop} {w:World} {rows:Rows}
def qkN (m:Mp):qL->Item->Prop
 | .it i,j=>j=i|.rf r,j=>∃l o,m r=some (l,o)/\j=.inRangeFunc l
inductive JB (m:Mp):List qL->List Item->Prop
 | nil:JB m [] []
 | cons {a i k l} (h:qkN m a i) (t:JB m k l):JB m (a::k) (i::l)
inductive qcC (m:Mp) (hid:List Deferred):List Nat->List Deferred->Prop
 | nil:qcC m hid [] hid
 | cons {r b o rs ds} (h:m r=some (b,o)) (t:qcC m hid rs ds):qcC m hid (r::rs) ({target:=.collected b,args:=#[]}::ds)
inductive qdW (m:Mp) (S:Nat->Prop) (w:World) (hid:List Deferred):List (FuncId×List V)->List Deferred->Prop
 | nil:qdW m S w hid [] hid
 | cons {g:FuncId} {args:List V} {cap da:Array Value} {l ds} (h:RVs m S w args (da++cap)) (t:qdW m S w hid l ds):qdW m S w hid ((g,args)::l) ({target:=.fn (.func g) cap,args:=da}::ds)
def FDs (m:Mp) (S:Nat->Prop) (w:World) (hid:List Deferred) (dcl:List (FuncId×List V)) (marks:List Nat) (ds:List Deferred):Prop :=
 ∃dd,qdW m S w hid dcl dd/\qcC m dd marks ds
def FDs.none {m:Mp} {S:Nat->Prop} {w:World} {hid:List Deferred}:FDs m S w hid [] [] hid:=⟨_,.nil,.nil⟩
def qc9 (m:Mp):Option Nat->Option Nat->Prop
 | none,ro=>ro=none|some r,ro=>∃l o,m r=some (l,o)/\ro=some l
structure FR (m:Mp) (S:Nat->Prop) (w:World) (hid:List Deferred) (a:AF) (tmps:Array Value) (todo:List Item) (ds:List Deferred) (ro:Option Nat):Prop where
 env:REs m S w a.env tmps
 todo:JB m a.todo todo
 ds:FDs m S w hid a.dcl a.marks ds
 ro:qc9 m a.round ro
structure Bot where
 cs:List Frame
 k:Nat
 hid:List Deferred:=[]
 B:Mp->World->Prop
 mono:∀m w m' w',(∀r,r<k->∀p,m r=some p->m' r=some p)->(∀b,Yf w b<=Yf w' b)->B m w->B m' w'
def qau (bt:Bot):List AF->List Deferred
 | []=>bt.hid|_::_=>[]
inductive qa8 (m:Mp) (S:Nat->Prop) (w:World) (cs0:Bot):List AF->List Frame->Prop
 | nil (h:cs0.B m w):qa8 m S w cs0 [] cs0.cs
 | cons {a st tmps todo ds ro cs} (h:FR m S w (qau cs0 st) a tmps todo ds ro) (t:qa8 m S w cs0 st cs):qa8 m S w cs0 (a::st) (rfr a.fn tmps todo ds ro::cs)
def qkN.mono {m':Mp} (h:∀r p,m r=some p->m' r=some p) {a:qL} {i:Item} (e:qkN m a i):qkN m' a i:=by
 cases a with
 | it i=>exact e|rf r=>obtain⟨l,o,h1,h2⟩:=e; exact⟨l,o,h r _ h1,h2⟩
def JB.mono {m':Mp} (h:∀r p,m r=some p->m' r=some p) {a:List qL} {i:List Item} (e:JB m a i):JB m' a i:=by
 induction e with
 | nil=>exact .nil|cons h1 _ ih=>exact .cons (h1.mono h) ih
def qcC.mono {m':Mp} (h:∀r p,m r=some p->m' r=some p) {hid:List Deferred} {a:List Nat} {i:List Deferred} (e:qcC m hid a i):qcC m' hid a i:=by
 induction e with
 | nil=>exact .nil|cons h1 _ ih=>exact .cons (h _ _ h1) ih
def qdW.ext {m':Mp} {S':Nat->Prop} {w':World} {hid:List Deferred} {l:List (FuncId×List V)} {ds:List Deferred} (h:qdW m S w hid l ds) (e:Ext m S w m' S' w'):qdW m' S' w' hid l ds:=by
 induction h with
 | nil=>exact .nil|cons h1 _ ih=>exact .cons (h1.ext e) ih
def FDs.ext {m':Mp} {S':Nat->Prop} {w':World} {hid:List Deferred} {dcl:List (FuncId×List V)} {marks:List Nat} {ds:List Deferred} (h:FDs m S w hid dcl marks ds) (e:Ext m S w m' S' w'):FDs m' S' w' hid dcl marks ds :=
 let ⟨dd,h1,h2⟩:=h; ⟨dd,h1.ext e,h2.mono e.map⟩
def FDs.push {hid:List Deferred} {dcl:List (FuncId×List V)} {marks:List Nat} {ds:List Deferred} {r b o:Nat} (hm:m r=some (b,o)) (h:FDs m S w hid dcl marks ds):FDs m S w hid dcl (r::marks) ({target:=.collected b,args:=#[]}::ds) :=
 let ⟨dd,h1,h2⟩:=h; ⟨dd,h1,.cons hm h2⟩
def FDs.call {hid:List Deferred} {dcl:List (FuncId×List V)} {ds:List Deferred} {g:FuncId} {args:List V} {cap da:Array Value} (ha:RVs m S w args (da++cap)) (h:FDs m S w hid dcl [] ds) :
  FDs m S w hid ((g,args)::dcl) [] ({target:=.fn (.func g) cap,args:=da}::ds):=by
 obtain⟨dd,h1,h2⟩:=h;cases h2;exact⟨_,.cons ha h1,.nil⟩
def qc9.mono {m':Mp} (h:∀r p,m r=some p->m' r=some p) {a ro:Option Nat} (e:qc9 m a ro):qc9 m' a ro:=by
 cases a with
 | none=>exact e|some r=>obtain⟨l,o,h1,h2⟩:=e; exact⟨l,o,h r _ h1,h2⟩
def FR.ext {m':Mp} {S':Nat->Prop} {w':World} {hid:List Deferred} {a:AF} {tmps todo ds ro} (h:FR m S w hid a tmps todo ds ro) (e:Ext m S w m' S' w'):FR m' S' w' hid a tmps todo ds ro :=
 ⟨h.env.ext e,h.todo.mono e.map,h.ds.ext e,h.ro.mono e.map⟩
def qa8.ext {m':Mp} {S':Nat->Prop} {w':World} {cs0:Bot} {st:List AF} {cs:List Frame} (h:qa8 m S w cs0 st cs) (e:Ext m S w m' S' w'):qa8 m' S' w' cs0 st cs:=by
 induction h with
 | nil h=>exact .nil (cs0.mono _ _ _ _ (fun r _=>e.map r) e.size h)
 | cons h1 _ ih=>exact .cons (h1.ext e) ih
def Sim (P:Program) (w0:World) (own:Own) (cs0:Bot) (s:AS) (M:Machine):Prop :=
 ∃m S w tmps todo ds ro cs,M=lone (rfr s.fr.fn tmps todo ds ro) cs w/\Inv w0 own m S w s.rows/\FR m S w (qau cs0 s.stack) s.fr tmps todo ds ro/\qa8 m S w cs0 s.stack cs
def qD6 {id:Nat} {a:List qL} {l:List Item} (h:JB m a l) {a':List qL} (e:qcD id a=some a'):∃l',exitTo id l=some l'/\JB m a' l':=by
  induction h with
  | nil=>simp[qcD]at e|cons h1 t ih =>
    rename_i a i k l
    cases a with
    | it j =>
      cases h1;cases i<;>simp only[qcD,exitTo]at e ⊢<;>first
        | exact ih e
        | (split at e
           · cases e; rename_i hc; rw[if_pos hc]; exact⟨_,rfl,t⟩
           · rename_i hc; rw[if_neg hc]; exact ih e)
    | rf r =>
      obtain⟨b,o,_,rfl⟩:=h1;simp only[qcD,exitTo]at e ⊢;exact ih e
def qD7 {id:Nat} {a:List qL} {l:List Item} (h:JB m a l) (e:qcD id a=none):exitTo id l=none:=by
  induction h with
  | nil=>rfl|cons h1 t ih =>
    rename_i a i k l
    cases a with
    | it j =>
      cases h1;cases i<;>simp only[qcD,exitTo]at e ⊢<;>first
        | exact ih e
        | (split at e
           · cases e
           · rename_i hc; rw[if_neg hc]; exact ih e)
    | rf r =>
      obtain⟨b,o,_,rfl⟩:=h1;simp only[qcD,exitTo]at e ⊢;exact ih e
def qD8 {id:Nat} {a:List qL} {l:List Item} (h:JB m a l) {a':List qL} (e:qe5 id a=some a'):∃l',gotoIn id l=some l'/\JB m a' l':=by
  induction h with
  | nil=>simp[qe5]at e|cons h1 t ih =>
    rename_i a i k l
    cases a with
    | it j =>
      cases h1;cases i<;>simp only[qe5,gotoIn]at e ⊢<;>first
        | exact ih e
        | (split at e
           · cases e; rename_i hc; rw[hc]; exact⟨_,rfl,.cons rfl (.cons rfl t)⟩
           · rename_i hc; rw[hc]; exact ih e)
    | rf r =>
      obtain⟨b,o,_,rfl⟩:=h1;simp only[qe5,gotoIn]at e ⊢;exact ih e
def qwe {xs:List V} {arr:Array Value} (h:REs m S w xs arr) {v:V} {u:Value} (hv:RV m S w v u) (d:Nat):REs m S w (xs.set d v) (arr.setIfInBounds d u):=by
 refine⟨by simp[h.1],fun j x y hx hy=>?_⟩
 by_cases e:d=j
 ·subst e;have hd:d<xs.length:=by have:=q7 hx; simpa using this
  rw[qUV hd]at hx;rw[qWd (by rw[h.1]; exact hd)]at hy;cases hx; cases hy; exact .inr hv
 ·rw[qUF e]at hx;rw[qVy e]at hy;exact h.2 j x y hx hy
def qa9 {xs:List V} {arr:Array Value} (h:REs m S w xs arr) {v:V} {u:Value} (hv:RV m S w v u) (d:Option Nat):REs m S w (JN xs d v) (qcZ arr d u):=by
 cases d with
 | none=>exact h|some d=>exact qwe h hv d
def qD9 {xs:List V} {arr:Array Value} (h:REs m S w xs arr) (t:Nat):RE m S w (xs.getD t V.undef) (arr.getD t Go.undef):=by
 rcases qTQ t xs.length with hl|hl
 ·have hl':t<arr.size:=by rw[h.1]; exact hl
  have:=h.2 t xs[t] arr[t] (by simp[hl]) (by simp[hl']);simpa[List.getD,hl,Array.getD,hl']using this
 ·have hl':arr.size<=t:=by rw[h.1]; exact hl
  have:¬t<arr.size:=by omega
  simp[List.getD,qUc hl,Array.getD,this];exact .inr qco
def qkO {xs:List V} {arr:Array Value} (h:REs m S w xs arr) {t:Nat} {v:V} (hk:qeK (xs.getD t V.undef)=some v):RV m S w v (arr.getD t Go.undef):=by
 obtain⟨rfl,hn⟩:=qCn hk;exact(qD9 h t).resolve_left hn
def REs.get {xs:List V} {arr:Array Value} (h:REs m S w xs arr) {j:Nat} {x:V} (hx:xs[j]?=some x) (hn:x≠.any):∃v,arr[j]?=some v/\RV m S w x v:=by
 have hl:=q7 hx;have hl':j<arr.size:=by rw[h.1]; exact hl
 exact⟨arr[j],by simp[hl'],(h.2 j x arr[j] hx (by simp[hl'])).resolve_left hn⟩
def qdX {fn:FuncId} {env:List V} {tmps:Array Value} {todo:List Item} {ds:List Deferred} {ro:Option Nat} (hgl:Glb S w) (h:REs m S w env tmps):qf0 m S w env (rfr fn tmps todo ds ro).eval:=by
 intro x v hx
 cases x with
 | tmp t=>exact qkO h hx|const u=>exact qoV hx|global g =>
  simp only[YX]at hx;split at hx
  ·rename_i x hg; cases hx; exact hgl.any hg
  ·cases hx
 | func f=>simp only[YX,qT4]at hx; subst hx; exact .fn f [] #[] rfl (fun j x v h=>by simp at h)
def qda {ops:Array Oper} {env:List V} {tmps:Array Value} (h:REs m S w env tmps) {o:Oper} {b:Bool} (hw:qaO ops env o=some b):Region.wanted o (yielded ops tmps)=b:=by
 unfold qaO at hw;unfold Region.wanted;split at hw
 ·rename_i hg; cases hw; rw[hg]
 ·rename_i j want hg;rw[hg];split at hw
  ·rename_i d hd;simp only[yielded,hd,qVt];split at hw
   ·rename_i b' hb;obtain⟨v,hv,hr⟩:=h.get hb (by simp);have e:=qdb hr; subst e;cases hw;rw[hv]; cases b'<;>cases want<;>rfl
   ·rename_i vs hb;obtain⟨v,hv,hr⟩:=h.get hb (by simp);cases hw;cases hr;rw[hv]; rfl
   ·cases hw
  ·cases hw
structure COK (c:Cfg):Prop where
 T:TOK c.P c.T
 F:∀g gf,c.F g=some gf->c.P.funcs[g]?=some gf/\(gf.name == "runtime.NumGoroutine")=false
 RC:qjZ c.P c.RC
 WC:qps c.P c.WC
 rc:∀g,c.rc g=true->∃gf,c.P.funcs[g]?=some gf/\gf.body.isSome=true/\(gf.name == "runtime.NumGoroutine")=false
 mixed:c.P.follows .mixedOrders=true
def qwf (rows:Rows) (vs:List V):GOK (qah rows vs) rows:=by
 intro r row h;unfold qah at h;split at h
 ·unfold qp at h;split at h
  ·rename_i row' hr; cases h; exact hr
  ·cases h
 ·cases h
def J4 (rows:Rows):GOK (qp rows) rows:=by
 intro r row h;unfold qp at h;split at h
 ·rename_i row' hr; cases h; exact hr
 ·cases h
def qkP {o:Op} {f:Operand} {args:List Operand} (h:qa6 o=some (f,args)):∃as ats,o=.call ⟨.value f,as,ats⟩/\args=as.toList:=by
 unfold qa6 at h;split at h
 ·cases h; exact⟨_,_,rfl,rfl⟩
 ·cases h
def qkQ {U:Operand->Value} {o:Oper} {f:Operand} {as:Array Operand} {ats:Array TypeId} {g:FuncId} {gf:Func} {caps:Array Value} (ho:o.op=.call ⟨.value f,as,ats⟩)
  {fs:Array Value} (he:U f=.func (.func g) fs caps) (hf:P.funcs[g]?=some gf) (hb:gf.body.isSome=true) (hn:(gf.name == "runtime.NumGoroutine")=false) :
  (execOp U o).run P w=.ok (.enter g (fs++as.map U++caps)) w:=by
 have hcall:=fun(w:World) (args:Array Value)=>qka (P:=P) (w:=w) (args:=args) hf hb hn
 obtain⟨dst,op,type,pos,after,guard⟩:=o;simp only at ho;subst ho;simp[execOp,resolve,he,Deferred.ofValue,invoke,hcall]
def qh0 {xs ys:List V} {a b:Array Value} (h:RVs m S w xs a) (k:RVs m S w ys b):RVs m S w (xs++ys) (a++b):=by
 refine⟨by simp[h.1,k.1],fun j x v hx hv=>?_⟩;rcases qTQ j xs.length with hl|hl
 ·rw[qTZ hl]at hx;rw[qU9 (by rw[h.1]; exact hl)]at hv;exact h.2 j x v hx hv
 ·rw[qT1 hl]at hx;rw[qWD (by rw[h.1]; exact hl),h.1]at hv;exact k.2 _ x v hx hv
def qkR {fv:V} {vs as:List V} {g:FuncId} {u:Value} {arr:Array Value} (h:qcy fv vs=some (g,as)) (hv:RV m S w fv u) (ha:RVs m S w vs arr) :
  ∃fs cs,u=.func (.func g) fs cs/\RVs m S w as (fs++arr++cs):=by
 unfold qcy at h;split at h
 ·cases h
  cases hv with
  | fn _ _ carr hcl hcd=>exact⟨#[],carr,rfl,by rw[Array.empty_append]; exact qh0 ha ⟨hcl,hcd⟩⟩
 ·cases h
  cases hv with
  | bf _ _ carr hcl hcd=>exact⟨carr,#[],rfl,by rw[Array.append_empty]; exact qh0 ⟨hcl,hcd⟩ ha⟩
 ·cases h
def qgf {U:Operand->Value} {env:List V} (h:qf0 m S w env U) {as:Array Operand} {vs:List V} (he:YR env as.toList=some vs):RVs m S w vs (as.map U):=by
 have:=qjT h he;have e:(as.toList.map U).toArray=as.map U:=by apply qUD; simp
 rwa[e]at this
def qh1 {o:Op} {f:Operand} {args:List Operand} (h:qa6 o=some (f,args)):∀c,o≠.defer c:=by
 obtain⟨as,ats,rfl,_⟩:=qkP h;intro c e; cases e
def qwg {T:TypeId->Option Ty} {g:qq} {slot:Nat} {o:Op} {vs:List V} {res:Res} (h:act T g slot o vs=some res):∀c,o≠.defer c:=by
 rintro c rfl
 simp[act]at h
def qEa {a:Rec} (h:∀r∈a.wr,r<rows.length):qag a.slot {v:=a.v,ups:=a.ups,fresh:=a.fresh} rows=qI a.all rows:=by
 unfold qag Rec.all;have hu:∀u∈a.ups,u.1<rows.length:=fun u hu=>h u.1 (by unfold Rec.wr; exact qTH.2 (.inl (qVi hu)))
 cases hf:a.fresh with
 | none=>simp only[qT7]; exact qf7 hu|some row =>
  simp only;have hs:a.slot<rows.length:=h a.slot (by unfold Rec.wr; rw[hf]; simp);rw[qf7 hu,qvK (by rw[qhX]; exact hs)];simp[qI]
def qEb {c:Cfg} (hc:COK c) {fn:FuncId} {ops:Array Oper} {slot0 i:Nat} {s:St} {a:Rec} (h:qc7 c ops slot0 i s=some a) {tmps:Array Value} {rest:List Nat} {k:List Item} {ds:List Deferred} {ro:Option Nat} {cs:List Frame}
  (inv:Inv w0 own m S w s.rows) (henv:REs m S w s.env tmps) (hle:slot0+i<=s.rows.length) (hnew:m (slot0+i)=none) :
  ∃m' S' w' tmps',Steps c.P (lone (rfr fn tmps (.inRegion ops (i::rest)::k) ds ro) cs w) (lone (rfr fn tmps' (.inRegion ops rest::k) ds ro) cs w') /\
   Inv w0 own m' S' w' (a.exec s).rows/\REs m' S' w' (a.exec s).env tmps'/\Ext m S w m' S' w':=by
 unfold qc7 at h;split at h
 ·cases h
 ·rename_i o ho;split at h
  ·cases h
  ·rename_i hw;cases h;refine⟨m,S,w,_,.one (qvd ho (qda henv hw)),inv,?_,Ext.refl ..⟩;exact qa9 henv qco o.dst
  ·rename_i hw;have hw':=qda henv hw;split at h
   ·cases h
   ·rename_i res hres;simp only at h;split at h
    ·rename_i hlt;cases h;have hlt':∀r∈Rec.wr {dst:=o.dst,v:=res.v,ups:=res.ups,fresh:=res.fresh,slot:=slot0+i,rdT:=qcz ops o,rdR:=qdT s.env s.rows o.op},r<s.rows.length :=
      fun r hr=>by simpa using(qTI.1 hlt) r hr
     have hrows:=qEa (rows:=s.rows) hlt';unfold qe0 at hres;split at hres
     ·rename_i f args hcv;obtain⟨as,ats,hop,rfl⟩:=qkP hcv;split at hres
      ·rename_i fv vs hf hvs;split at hres
       case h_2=>cases hres
       rename_i g as' hfa;split at hres
       ·rename_i hrc;obtain⟨gf,h1,h2,h3⟩:=hc.rc g hrc;have hU:=qdX (fn:=fn) (todo:=.inRegion ops (i::rest)::k) (ds:=ds) (ro:=ro) inv.glb henv;obtain⟨fs,cs',hfe,hargs⟩:=qkR hfa (hU f _ hf) (qgf hU hvs);have hrun:=qkQ (w:=w) hop hfe h1 h2 h3;have hcalls:=qvM (P:=c.P) hc.RC hc.WC inv (Yn.mk' inv hle hnew) hres hargs;obtain⟨e,w',fr,⟨u,rfl,m',S',i1,e1,r1⟩,hcomes,hfn,hlv⟩:=hcalls (rfr fn tmps (.inRegion ops (i::rest)::k) ds ro::cs);have hleave:=step_leave_returned (P:=c.P) (c:=rfr fn tmps (.inRegion ops (i::rest)::k) ds ro) (cs:=cs) hlv;rw[qeR ho]at hleave;refine⟨m',S',w',qcZ tmps o.dst u,Steps.head (qhI ho hw' (qh1 hcv) hrun) (Steps.trans hcomes (.one hleave)),?_,qa9 (henv.ext e1) r1 o.dst,e1⟩;show Inv w0 own m' S' w' (qI _ s.rows);rw[<-hrows]; exact i1
       ·cases hres
      ·cases hres
     ·rename_i hcv;split at hres
      ·rename_i vs hvs;have hU:=qdX (fn:=fn) (todo:=.inRegion ops (i::rest)::k) (ds:=ds) (ro:=ro) inv.glb henv;obtain⟨nx,u,w',m',S',hrun,hnx,i1,e1,r1⟩:=qoU hc.T (qwf s.rows vs) inv (Yn.mk' inv hle hnew) hU hvs hres;refine⟨m',S',w',_,.one (qhH ho hw' (qwg hres) hrun hnx),?_,qa9 (henv.ext e1) r1 o.dst,e1⟩;show Inv w0 own m' S' w' (qI _ s.rows);rw[<-hrows]; exact i1
      ·cases hres
    ·cases h
def qpL {c:Cfg} {ops:Array Oper} {slot0:Nat}:∀{l:List Nat} {s s':St} {rs:List Rec},qbx c ops slot0 l s=some (rs,s')->rs.length=l.length
 | [],s,s',rs,h=>by simp[qbx]at h; rw[h.1]; rfl
 | i::l,s,s',rs,h=>by
  simp only[qbx]at h;split at h
  ·split at h
   ·rename_i h2;cases h;simp[qpL h2]
   ·cases h
  ·cases h
def qpM {c:Cfg} {ops:Array Oper} {slot0:Nat} {R:Nat->Rec}:∀{l:List Nat} {s s':St} {rs:List Rec},qbx c ops slot0 l s=some (rs,s')->(∀j i:Nat,l[j]?=some i->rs[j]?=some (R i))->qe1 c ops slot0 R l s s'
 | [],s,s',rs,h,_=>by simp[qbx]at h; exact h.2.symm
 | i::l,s,s',rs,h,hR=>by
  simp only[qbx]at h;split at h
  ·rename_i a ha;split at h
   ·rename_i rs' s2 h2;cases h;have h0:=hR 0 i rfl;simp at h0;subst h0;exact⟨ha,qpM h2 (fun j x hj=>hR (j+1) x (by simpa using hj))⟩
   ·cases h
  ·cases h
def qwh (inv:Inv w0 own m S w rows) (n:Nat):Inv w0 own m S w (rows++List.replicate n qc.free):=by
 have get:∀{r:Nat} {x:qc},(rows++List.replicate n qc.free)[r]?=some x->rows[r]?=some x\/(x=qc.free/\rows.length<=r):=by
  intro r x h;rcases qTQ r rows.length with hl|hl
  ·rw[qTZ hl]at h; exact .inl h
  ·rw[qT1 hl]at h;right;have:=qUi h;exact⟨(qUz.1 this).2,hl⟩
 have live:∀{r:Nat} {row:Row},(rows++List.replicate n qc.free)[r]?=some (qc.live row)->rows[r]?=some (qc.live row):=by
  intro r row h;rcases get h with h|⟨h,_⟩
  ·exact h
  ·cases h
 refine⟨fun r hr=>inv.none r (by simp at hr; omega),fun r hr=>?_,fun r row hr=>inv.row r row (live hr),inv.bnd,fun r row b o h1=>inv.new r row b o (live h1),fun r r' row row' b o b' o' hne h1 h2=>inv.apart r r' row row' b o b' o' hne (live h1) (live h2),
  fun r row b o h1=>inv.stab r row b o (live h1),fun r row b o h1=>inv.rost r row b o (live h1),inv.sbnd,inv.base,inv.stb,inv.os,inv.tape,inv.output,inv.grow,inv.kept,inv.glb⟩
 rcases get hr with h|⟨_,h⟩
 ·exact inv.fre r h
 ·exact inv.none r h
def qEc (rows:Rows):∃l,rows=qgl rows++l/\∀x∈l,x=qc.free:=by
 refine⟨(rows.reverse.takeWhile qk2).reverse,?_,fun x hx=>?_⟩
 ·have h:=List.takeWhile_append_dropWhile (p:=qk2) (l:=rows.reverse);have h2:=congrArg List.reverse h;rw[List.reverse_append,List.reverse_reverse]at h2;exact h2.symm
 ·rw[List.mem_reverse]at hx;have:=List.all_takeWhile (p:=qk2) (l:=rows.reverse);have h3:=(qTI.1 this) x hx;cases x<;>first|rfl|cases h3
def qEd (inv:Inv w0 own m S w rows):Inv w0 own m S w (qgl rows):=by
 obtain⟨l,hl,hf⟩:=qEc rows;have live:∀{r:Nat} {x:qc},(qgl rows)[r]?=some x->rows[r]?=some x:=by
  intro r x h;have:=q7 h;rw[hl,qTZ this]; exact h
 refine⟨fun r hr=>?_,fun r hr=>inv.fre r (live hr),fun r row hr=>inv.row r row (live hr),inv.bnd,fun r row b o h1=>inv.new r row b o (live h1),fun r r' row row' b o b' o' hne h1 h2=>inv.apart r r' row row' b o b' o' hne (live h1) (live h2),
  fun r row b o h1=>inv.stab r row b o (live h1),fun r row b o h1=>inv.rost r row b o (live h1),inv.sbnd,inv.base,inv.stb,inv.os,inv.tape,inv.output,inv.grow,inv.kept,inv.glb⟩
 rcases qTQ r rows.length with h1|h1
 ·have hg:rows[r]?=some (rows[r]):=by simp[h1]
  have:rows[r]?=l[r - (qgl rows).length]?:=by rw[hl,qT1 hr,<-hl]
  rw[hg]at this;have hm:=hf _ (qUi this.symm);exact inv.fre r (by rw[hg,hm])
 ·exact inv.none r h1
def qwi {ops:Array Oper} {slot0:Nat} {rs:List Rec} {n:Nat} (h:qge (qbZ ops n) slot0 rs=true) (hn:rs.length=n) {R:Nat->Rec} (hR:∀i,i<n->rs[i]?=some (R i)) :
  ∀i k,i<n->k<n->i≠k->(Anc ops k i\/slot0+k∉(R i).wr)/\(i<k->Anc ops i k\/qgb (R i) (R k)=true):=by
 intro i k hi hk hne;unfold qge at h;have hb:(R k,k)∈rs.zipIdx:=by
  rw[qWE]; simpa using hR k hk
 have ha:(R i,i)∈rs.zipIdx:=by
  rw[qWE]; simpa using hR i hi
 have h1:=(qTI.1 ((qTI.1 h) _ hb)) _ ha;simp only[qTM,qTC,beq_iff_eq,decide_eq_true_eq,qUy,List.contains_iff_mem]at h1;rcases h1 with h1|⟨h1,h2⟩
 ·exact absurd h1 hne
 ·refine⟨?_,fun hlt=>?_⟩
  ·rcases h1 with h1|h1
   ·exact .inl (qkM n i k hi h1)
   ·right;intro hm;have:(R i).wr.contains (slot0+k)=true:=by simpa using hm
    rw[this]at h1; cases h1
  ·rcases h2 with(h2|h2) | h2
   ·omega
   ·exact .inl (qkM n k i hk h2)
   ·exact .inr h2
def qa7.steps {c:Cfg} (hc:COK c) {fn:FuncId} {ops:Array Oper} {slot0:Nat} {R:Nat->Rec} {k0:List Item} {ds:List Deferred} {ro:Option Nat} {cs:List Frame} {L J:List Nat} {n:Nat} {tl:List Nat} (hno:n<=ops.size) (h:qa7 ops L J) :
    ∀{m:Mp} {S:Nat->Prop} {w:World} {tmps:Array Value} {s s':St},qe1 c ops slot0 R L s s'->(∀x∈L,x<n)->L.Pairwise (·<·) ->
      (∀x,x<n->x∉L->∀j∈Ji ops x,j∉L)->(∀k,k<n->∀j∈Ji ops k,j<n) ->
      (∀i k,i<n->k<n->i≠k->(Anc ops k i\/slot0+k∉(R i).wr)/\(i<k->Anc ops i k\/qgb (R i) (R k)=true)) ->
      Inv w0 own m S w s.rows->REs m S w s.env tmps->slot0+ops.size<=s.rows.length->(∀x∈L,s.rows[slot0+x]?=some qc.free) ->
      ∃m' S' w' tmps',Steps c.P (lone (rfr fn tmps (.inRegion ops (J++tl)::k0) ds ro) cs w) (lone (rfr fn tmps' (.inRegion ops tl::k0) ds ro) cs w') /\
        Inv w0 own m' S' w' s'.rows/\REs m' S' w' s'.env tmps'/\Ext m S w m' S' w':=by
  induction h with
  | nil =>
    intro m S w tmps s s' hrun _ _ _ _ _ inv henv _ _;cases hrun;exact⟨m,S,w,tmps,Steps.refl _ _,inv,henv,Ext.refl ..⟩
  | cons k A B J hr _ ih =>
    intro m S w tmps s s' hrun hlt hsort hdc hdn hpair inv henv hlen hfree;have hnot:∀(i:Nat),i∈A++k::B->∀k',k'<n->(k'∉A++k::B\/k'=k)->¬Anc ops i k':=by
      intro i hi k' hk' hor hanc
      induction hanc with
      | one h =>
        rename_i k0;rcases hor with h1|h1
        · exact hdc k0 hk' h1 i h hi
        · subst h1; exact hr i h hi
      | more h _ ih2 =>
        rename_i j0 k0 _;have hj:j0∉A++k::B:=by
          rcases hor with h1|h1
          · exact hdc k0 hk' h1 j0 h
          · subst h1; exact hr j0 h
        exact ih2 (hdn k0 hk' j0 h) (.inl hj)
    have hkn:k<n:=hlt k (by simp);have hnd:(A++k::B).Nodup:=hsort.imp (fun h=>Nat.ne_of_lt h);have hind:∀a∈A,qgb (R a) (R k)=true:=by
      intro a ha;have hak:a<k:=(qWl.1 hsort).2.2 a ha k (by simp);rcases(hpair a k (hlt a (by simp[ha])) hkn (by omega)).2 hak with h1|h1
      · exact absurd h1 (hnot a (by simp[ha]) k hkn (.inr rfl))
      · exact h1
    obtain⟨h1,h2⟩:=hrun.move hind;have hfk:=hfree k (by simp);obtain⟨m1,S1,w1,tmps1,st1,i1,v1,e1⟩:=qEb (fn:=fn) (rest:=J++tl) (k:=k0) (ds:=ds) (ro:=ro) (cs:=cs) hc h1 inv henv (by omega) (inv.fre _ hfk);have hsub:∀x,x∈A++B->x∈A++k::B:=fun x hx=>by rcases qTH.1 hx with h|h<;>simp[h]
    have hne:∀x,x∈A++B->x≠k:=by
      intro x hx e;subst e;rw[qVm]at hnd;rcases qTH.1 hx with h|h
      · exact(hnd.2.2 x h x (by simp)) rfl
      · exact(qV2.1 hnd.2.1).1 h
    obtain⟨m2,S2,w2,tmps2,st2,i2,v2,e2⟩:=ih h2 (fun x hx=>hlt x (hsub x hx)) (by
        rw[qWl]at hsort ⊢;exact⟨hsort.1,(qVn.1 hsort.2.1).2,fun a ha b hb=>hsort.2.2 a ha b (by simp[hb])⟩)
      (by
        intro x hx hnx j hj hmem
        by_cases hxk:x=k
        · subst hxk; exact hr j hj (hsub j hmem)
        · refine hdc x hx (fun h=>?_) j hj (hsub j hmem)
          rcases qTH.1 h with h|h
          · exact hnx (by simp[h])
          · rcases qTD.1 h with h|h
            · exact hxk h
            · exact hnx (by simp[h])) hdn hpair i1 v1 (by rw[qvZ]; exact hlen)
      (by
        intro x hx;have hxn:=hlt x (hsub x hx);have hnw:slot0+x∉(R k).wr:=by
          rcases(hpair k x hkn hxn (fun e=>hne x hx e.symm)).1 with h3|h3
          · exact absurd h3 (hnot x (hsub x hx) k hkn (.inr rfl))
          · exact h3
        rw[qvY hnw];exact hfree x (hsub x hx))
    exact⟨m2,S2,w2,tmps2,st1.trans st2,i2,v2,e1.trans e2⟩
def qwj {c:Cfg} (hc:COK c) {fn:FuncId} {id:Nat} {ops:Array Oper} {s st:St} (h:qgm c ops s=some st) {tmps:Array Value} {k:List Item} {ds:List Deferred} {ro:Option Nat} {cs:List Frame}
  (inv:Inv w0 own m S w s.rows) (henv:REs m S w s.env tmps) :
  ∃m' S' w' tmps',Steps c.P (lone (rfr fn tmps (.code (.region id ops true)::k) ds ro) cs w) (lone (rfr fn tmps' k ds ro) cs w')/\Inv w0 own m' S' w' st.rows/\REs m' S' w' st.env tmps'/\Ext m S w m' S' w':=by
 unfold qgm at h;split at h
 ·rename_i hed;split at h
  ·rename_i rs s' hrun;split at h
   ·rename_i hp;cases h;have hlen:=qpL hrun;simp only[qVw]at hlen
    let R:Nat->Rec:=fun i=>(rs[i]?).getD {dst:=none,v:=V.undef,slot:=0,rdT:=[],rdR:=none}
    have hR:∀i,i<ops.size->rs[i]?=some (R i):=fun i hi=>by
     have:i<rs.length:=by omega
     simp[R,this]
    have hruns:=qpM (R:=R) hrun (fun j i hj=>by
     have hjl:=q7 hj;rw[qVw]at hjl;rw[qVj hjl]at hj;cases hj;exact hR j hjl)
    obtain⟨t,hstep⟩:=qvb (P:=c.P) (fn:=fn) (tmps:=tmps) (ds:=ds) (ro:=ro) (k:=k) (cs:=cs) (w:=w) (id:=id) (ops:=ops) hc.mixed;obtain⟨i0,e0⟩:=inv.same (w':={w with drawn:=w.drawn+1}) rfl rfl rfl rfl;have hdn:∀k,k<ops.size->∀j∈Ji ops k,j<ops.size:=fun k hk j hj=>qVQ (qkL hed k j hj) hk
    obtain⟨m',S',w',tmps',h1,h2,h3,h4⟩:=(qwc hed t).steps (tl:=[]) (w0:=w0) (own:=own) hc (qTF _) (fn:=fn) (k0:=k) (ds:=ds) (ro:=ro) (cs:=cs) hruns (fun x hx=>by simpa using hx) qV9
     (fun x hx hnx=>absurd (by simpa using hx) hnx) hdn (qwi hp hlen hR) (qwh i0 ops.size) (henv.ext e0) (by simp)
     (fun x hx=>by
      have hx':x<ops.size:=by simpa using hx
      rw[qT1 (by omega),qWa,if_pos (by omega)])
    exact⟨m',S',w',tmps',Steps.head hstep ((by simpa using h1:Steps _ _ _).trans (.one qvc)),qEd h2,h3,e0.trans h4⟩
   ·cases h
  ·cases h
 ·cases h
def quR {c:Cfg} (hc:COK c) {fn:FuncId} {id:Nat} {ops:Array Oper} {q:Nat} {s st:St} (h:qgh c ops q s=some st) {tmps:Array Value} {k:List Item} {ds:List Deferred} {ro:Option Nat} {cs:List Frame}
  (inv:Inv w0 own m S w s.rows) (henv:REs m S w s.env tmps) :
  ∃m' S' w' tmps',Steps c.P (lone (rfr fn tmps (.code (.region id ops true)::k) ds ro) cs w) (lone (rfr fn tmps' (.inRegion ops (q::List.range' (q+1) (ops.size - (q+1)))::k) ds ro) cs w')/\Inv w0 own m' S' w' st.rows/\REs m' S' w' st.env tmps'/\Ext m S w m' S' w':=by
 unfold qgh at h;split at h
 ·rename_i hcond;simp only[qTC,decide_eq_true_eq]at hcond;obtain⟨⟨⟨⟨hed,hq⟩,hsz⟩,hall⟩,hall2⟩:=hcond;split at h
  ·rename_i rs s' hrun;split at h
   ·rename_i hp;cases h;have hlen:=qpL hrun;simp only[qVw]at hlen
    let R:Nat->Rec:=fun i=>(rs[i]?).getD {dst:=none,v:=V.undef,slot:=0,rdT:=[],rdR:=none}
    have hR:∀i,i<q->rs[i]?=some (R i):=fun i hi=>by
     have:i<rs.length:=by omega
     simp[R,this]
    have hruns:=qpM (R:=R) hrun (fun j i hj=>by
     have hjl:=q7 hj;rw[qVw]at hjl;rw[qVj hjl]at hj;cases hj;exact hR j hjl)
    obtain⟨t,hstep⟩:=qvb (P:=c.P) (fn:=fn) (tmps:=tmps) (ds:=ds) (ro:=ro) (k:=k) (cs:=cs) (w:=w) (id:=id) (ops:=ops) hc.mixed;obtain⟨i0,e0⟩:=inv.same (w':={w with drawn:=w.drawn+1}) rfl rfl rfl rfl;have hdn:∀k,k<ops.size->∀j∈Ji ops k,j<ops.size:=fun k hk j hj=>qVQ (qkL hed k j hj) hk
    have hsched:=qwc hed t;rw[qkY hq]at hsched;obtain⟨J1,e1,s1⟩:=hsched.split (n:=ops.size) rfl
     (fun i hi=>qkM ops.size q i hq (by simpa using(qTI.1 hall) i hi))
     (fun i hi=>by
      have hi':=hi;rw[List.mem_range'_1]at hi';exact qkM ops.size i q (by omega) (by simpa using(qTI.1 hall2) i hi))
     (by rw[List.length_range']; omega)
     (fun x hx=>by rw[<-qkY hq]at hx; simpa using hx) (by rw[<-qkY hq]; exact List.nodup_range)
     (fun x hx hnx=>absurd (by rw[<-qkY hq]; simpa using hx) hnx) hdn
    rw[e1]at hstep;obtain⟨m',S',w',tmps',h1,h2,h3,h4⟩:=s1.steps (n:=q) (tl:=q::List.range' (q+1) (ops.size - (q+1))) (w0:=w0) (own:=own) hc (by omega) (fn:=fn) (k0:=k) (ds:=ds) (ro:=ro) (cs:=cs) hruns (fun x hx=>by simpa using hx) qV9
     (fun x hx hnx=>absurd (by simpa using hx) hnx) (fun k hk j hj=>qVQ (qkL hed k j hj) hk) (qwi hp hlen hR) (qwh i0 ops.size) (henv.ext e0) (by simp)
     (fun x hx=>by
      have hx':x<q:=by simpa using hx
      rw[qT1 (by omega),qWa,if_pos (by omega)])
    exact⟨m',S',w',tmps',Steps.head hstep h1,h2,h3,e0.trans h4⟩
   ·cases h
  ·cases h
 ·cases h
def qpN (inv:Inv w0 own m S w rows) {r:Nat} {st st':LoopState} {pend pend':Option Code} {fn:FuncId} {env:List V} {ps:List Tmp} {as bd:Code} {d:Nat}
  (hr:rows[r]?=some (qc.live (.loop st pend fn env ps as bd d))):∃l o L,m r=some (l,o)/\w.heap[l]?=some (.loop L)/\L.state=st/\L.pending=pend/\L.fn=fn/\REs m S w env L.tmps/\L.params.toList=ps/\L.assign=as/\L.body=bd/\(∃o',m d=some (L.defers,o')) /\
   Inv w0 own m S {w with heap:=w.heap.setIfInBounds l (.loop {L with state:=st',pending:=pend'})} (qv rows r (qc.live (.loop st' pend' fn env ps as bd d))) /\
   Ext m S w m S {w with heap:=w.heap.setIfInBounds l (.loop {L with state:=st',pending:=pend'})}:=by
 obtain⟨l,o,hm,L,h1,h2,h3,h4,h5,h6,h7,h8,o',h9⟩:=inv.row r _ hr;have hlt:=inv.bnd r l o hm;obtain⟨k1,k2⟩:=inv.writeG (w':={w with heap:=w.heap.setIfInBounds l (.loop {L with state:=st',pending:=pend'})}) (row':=.loop st' pend' fn env ps as bd d) hr hm rfl rfl (by simp) (fun c hc=>qkd w l c _ hc)
  (by simp[Yf,h1]) rfl rfl rfl (fun ext=>⟨{L with state:=st',pending:=pend'},qpb w l _ hlt,rfl,rfl,h4,h5.ext ext,h6,h7,h8,o',ext.map _ _ h9⟩)
 exact⟨l,o,L,hm,h1,h2,h3,h4,h5,h6,h7,h8,⟨o',h9⟩,k1,k2⟩
def qwk {fn:FuncId} {a a':AF} {v:V} {rows':Rows} (h:qh6 a v rows=some (a',rows')) {tmps:Array Value} {todo:List Item} {ds:List Deferred} {ro:Option Nat} {cs:List Frame} {u:Value}
  {hid:List Deferred} (inv:Inv w0 own m S w rows) (hfr:FR m S w hid a tmps todo ds ro) (hv:RV m S w v u) (hfn:a.fn=fn) :
  ∃m' S' w' tmps' todo',Steps P (lone ((rfr fn tmps todo ds ro).finish u) cs w) (lone (rfr fn tmps' todo' ds ro) cs w')/\Inv w0 own m' S' w' rows'/\FR m' S' w' hid a' tmps' todo' ds ro/\Ext m S w m' S' w'/\a'.fn=fn:=by
 unfold qh6 at h;split at h
 ·rename_i ops i rest k htodo;split at h
  ·rename_i o ho;cases h;have ht:=hfr.todo;rw[htodo]at ht
   cases ht with
   | cons hi t =>
   cases hi;rw[qeR ho];exact⟨m,S,w,_,_,Steps.refl _ _,inv,⟨qa9 hfr.env hv o.dst,.cons rfl t,hfr.ds,hfr.ro⟩,Ext.refl ..,hfn⟩
  ·cases h
 ·rename_i r k htodo;split at h
  ·rename_i st pend lfn env ps as bd d hl;have hr:=J4 rows r _ hl;obtain⟨l,o,L,hm,e1,e2,e3,e4,e5,e6,e7,e8,e9,k1,k2⟩:=qpN (st':=.exhausted) (pend':=pend) inv hr;have ht:=hfr.todo;rw[htodo]at ht
   cases ht with
   | cons hi t =>
   rename_i krest;obtain⟨l',o',hm',rfl⟩:=hi;rw[hm]at hm'; cases hm';have hb:L.state≠.busy:=by
    rw[e2]; intro e; subst e; simp at h
   have hres:a'={a with todo:=(pend.map fun c=>qL.it (.code c)).toList++k}/\rows'=qv rows r (.live (.loop .exhausted pend lfn env ps as bd d)):=by
    split at h
    ·cases h
    ·cases h; exact⟨rfl,rfl⟩
   obtain⟨rfl,rfl⟩:=hres;have hstep:=qDk (P:=P) (fn:=fn) (tmps:=tmps) (ds:=ds) (ro:=ro) (cs:=cs) (k:=krest) e1 hb;have hL:({L with state:=LoopState.exhausted}:Loop)={L with state:=.exhausted,pending:=pend}:=by rw[<-e3]
   rw[hL]at hstep;rw[qDj];refine⟨m,S,_,tmps,_,.one hstep,k1,⟨hfr.env.ext k2,?_,hfr.ds.ext k2,hfr.ro⟩,k2,hfn⟩;rw[e3]
   cases pend with
   | none=>exact t|some c=>exact .cons rfl t
  ·cases h
 ·cases h
def qwl {F:Frame} {hid:List Deferred} (hF:F.mode=.returning):∀{marks:List Nat} {ds:List Deferred} {rows rows':Rows} {w:World} {S:Nat->Prop},qgi marks rows=some rows'->qcC m hid marks ds->Inv w0 own m S w rows->∀{cs:List Frame},
  ∃w',Steps P (lone {F with defers:=ds} cs w) (lone {F with defers:=hid} cs w')/\Inv w0 own m S w' rows'/\Ext m S w m S w'
 | [],ds,rows,rows',w,S,h,hd,inv,cs=>by
  cases hd;simp[qgi]at h; subst h;exact⟨w,Steps.refl _ _,inv,Ext.refl ..⟩
 | r::rs,ds,rows,rows',w,S,h,hd,inv,cs=>by
  cases hd with
  | cons hm t =>
  rename_i b o ds;simp only[qgi]at h;split at h
  ·rename_i hl;have hr:=J4 rows r _ hl;have hlt:=qbU hr;obtain⟨b',o',hm',hrel⟩:=inv.row r _ hr;rw[hm]at hm'; cases hm';have hb:w.heap[b]?=some (.deferred (some [])):=hrel;have hother:∀(r':Nat) (row2:Row) (c2 o2:Nat),(qv rows r qc.dead)[r']?=some (qc.live row2)->m r'=some (c2,o2)->c2≠b:=by
    intro r' row2 c2 o2 h1 h2;rw[JJ (qUo hlt)]at h1
    by_cases e:r'=r
    ·simp[e]at h1
    ·simp only[e,if_false]at h1;exact fun e2=>inv.apart r r' _ row2 b o c2 o2 (fun e3=>e e3.symm) hr h1 rfl hm h2 e2.symm
   obtain⟨k2,e2⟩:=(inv.kill r hlt).scratch (w':={w with heap:=w.heap.setIfInBounds b (.deferred none)}) b (by simp) (fun c2 _ hne=>qkd w b c2 _ hne) hother (inv.stab r _ b o hr rfl hm) (inv.new r _ b o hr rfl hm)
    (by simp[Yf,hb]) rfl rfl rfl
   obtain⟨w',s1,i1,e1⟩:=qwl hF h t k2 (cs:=cs);have hstep:=qDl (P:=P) (fr:={F with defers:={target:=.collected b,args:=#[]}::ds}) (cs:=cs) (rest:=ds) hF rfl hb;exact⟨w',Steps.head hstep s1,i1,e2.trans e1⟩
  ·cases h
def qpO {T:TypeId->Option Ty} (hT:TOK P T) (inv:Inv w0 own m S w rows) {env:List V} {tmps:Array Value} (henv:REs m S w env tmps):∀{rs:List ResultVar} {vs:List V},qdc T rows env rs=some vs ->
  ∃us:List Value,(rs.mapM (fun x=>match x with
   | .tmp t=>pure (tmps.getD t Go.undef)|.cell a t=>do loadVar t (<-asAddr (tmps.getD a Go.undef)):ResultVar->Sem Value)).run P w=.ok us w/\RVs m S w vs us.toArray
 | [],vs,h=>by simp[qdc]at h; subst h; exact⟨[],rfl,RVs.nil⟩
 | .tmp t::r,vs,h=>by
  simp only[qdc]at h;split at h
  ·rename_i v0 l hv0 hl;cases h;obtain⟨us,h1,h2⟩:=qpO hT inv henv hl;have hk:=qkO henv hv0;refine⟨tmps.getD t Go.undef::us,?_,?_⟩
   ·rw[qWf];simp only[Sem.run_bind,Sem.run_pure,Result.andThen_ok,h1]
   ·refine⟨by have:=h2.1; simpa using this,fun j x v hx hv=>?_⟩
    cases j with
    | zero=>simp at hx hv; subst hx; subst hv; simpa using hk|succ j=>simp at hx hv; exact h2.2 j x v hx (by simpa using hv)
  ·cases h
 | .cell a t::r,vs,h=>by
  simp only[qdc]at h;split at h
  ·rename_i v l hv hl;cases h;obtain⟨us,h1,h2⟩:=qpO hT inv henv hl;rw[qVT]at hv;obtain⟨x0,hx0,hv⟩:=hv;obtain⟨u,h3,h4⟩:=qpW (P:=P) hT (J4 rows) inv hv (qkO henv hx0);have h3':(do loadVar t (<-asAddr (tmps.getD a Go.undef)):Sem Value).run P w=.ok u w:=by
    simp only[Instr.loadAt,Instr.sureAddr,asAddr,Sem.run_bind]at h3 ⊢;generalize tmps.getD a Go.undef=q at h3 ⊢
    cases q with
    | pointer p =>
     cases p with
     | some p=>exact h3|none=>simp at h3
    | _=>simp at h3
   refine⟨u::us,?_,?_⟩
   ·rw[qWf];rw[Sem.run_bind,h3',Result.andThen_ok,Sem.run_bind,h1];rfl
   ·refine⟨by have:=h2.1; simpa using this,fun j x v hx hv=>?_⟩
    cases j with
    | zero=>simp at hx hv; subst hx; subst hv; exact h4|succ j=>simp at hx hv; exact h2.2 j x v hx (by simpa using hv)
  ·cases h
def qEe {T:TypeId->Option Ty} (hT:TOK P T) (inv:Inv w0 own m S w rows) {env:List V} {tmps:Array Value} (henv:REs m S w env tmps) {gf:Func} {vs:List V} (h:qdc T rows env gf.results.toList=some vs) :
  ∃u,(results gf tmps).run P w=.ok u w/\RV m S w (qk1 vs) u:=by
 obtain⟨us,h1,h2⟩:=qpO hT inv henv h
 have hm:(gf.results.mapM (fun x=>match x with
   | .tmp t=>pure (tmps.getD t Go.undef)|.cell a t=>do loadVar t (<-asAddr (tmps.getD a Go.undef)):ResultVar->Sem Value)).run P w=.ok us.toArray w:=by
  rw[qWz];simp only[Sem.run_map,h1,Result.andThen_ok]
 have hrun:(results gf tmps).run P w=.ok (if h:us.toArray.size=1 then us.toArray[0]else .tuple us.toArray) w:=by
  unfold results;rw[Sem.run_bind]
  erw [hm]
  rfl
 refine⟨_,hrun,?_⟩;unfold qk1;split
 ·rename_i v;obtain⟨a,ea,hr⟩:=Jh h2;have:us=[a]:=by simpa using ea
  subst this;simpa using hr
 ·rename_i l hne;have hne1:¬us.toArray.size=1:=by
   intro e;have:vs.length=1:=by rw[<-h2.1]; exact e
   match vs,this with
   | [v],_=>exact hne v rfl
  rw[dif_neg hne1];exact .tup vs us.toArray h2.1 h2.2
end Go.Aev
end
