/- Lemmas for the statements of this seat: an abstract machine that the model follows, and contracts of functions. Conditions: none. -/
import Derived.Test.YtakpdahnlpjooaaGreatDoorA07
import Derived.Orders
set_option linter.all false
set_option maxRecDepth 1000000
set_option maxHeartbeats 0
noncomputable section
namespace Go.Aev
variable [Glob]
def J5 (n:Nat) (listed:Array Bool):List Nat:=(List.range n).filter fun i=>!listed.getD i true
theorem qjS {n:Nat} {listed:Array Bool} {i:Nat}:i∈J5 n listed↔i<n∧listed.getD i true=false:=by
 unfold J5; simp
theorem qt5 (n:Nat) (listed:Array Bool):(J5 n listed).Pairwise (·<·):=qV3 _ qV9
theorem qBE {L:List Nat} {k:Nat} (h:k∈L):∃A B,L=A++k::B:=List.append_of_mem h
theorem qBF {n:Nat} {listed:Array Bool} {k:Nat} {A B:List Nat} (hs:listed.size=n) (h:J5 n listed=A++k::B):J5 n (listed.setIfInBounds k true)=A++B:=by
  have hsort:=qt5 n listed;rw[h]at hsort;have hnd:(A++k::B).Nodup:=hsort.imp (fun h=>Nat.ne_of_lt h);have hk:k<n:=(qjS.1 (h ▸ (by simp:k∈A++k::B))).1;have hf:J5 n (listed.setIfInBounds k true)=(J5 n listed).filter (· != k):=by
    unfold J5;rw[qWj];apply qVE;intro i hi;have hin:i<n:=by simpa using hi
    by_cases e:i=k
    · subst e; simp[hs,hin]
    · have:(listed.setIfInBounds k true).getD i true=listed.getD i true:=by
        simp only[qWk];rw[qVy (fun h=>e h.symm)]
      rw[this]; simp[e]
  rw[hf,h,qV4,List.filter_cons];have hA:A.filter (· != k)=A:=by
    apply qVc.2;intro a ha;have:a≠k:=fun e=>by
      subst e;rw[qVm]at hnd;exact(hnd.2.2 a ha a (by simp)) rfl
    simpa using this
  have hB:B.filter (· != k)=B:=by
    apply qVc.2;intro a ha;have:a≠k:=fun e=>by
      subst e;rw[qVm]at hnd;exact(qV2.1 hnd.2.1).1 ha
    simpa using this
  simp[hA,hB]
theorem qjT {ops:Array Oper} {k j:Nat}:j∈Jj ops k↔∃o e,ops[k]?=some o∧e∈o.after∧Region.binds .any e=true∧e.on=j:=by
 unfold Jj
 cases h:ops[k]? with
 | none=>simp|some o=>simp[and_assoc]
theorem qt6 {ops:Array Oper} {listed:Array Bool} {k:Nat} (hs:listed.size=ops.size) (hd:∀j∈Jj ops k,j<ops.size) :
  k∈Region.ready .any ops listed↔k∈J5 ops.size listed∧∀j∈Jj ops k,j∉J5 ops.size listed:=by
 unfold Region.ready;rw[qUT,qU2,qjS];constructor
 ·rintro⟨h1,h2⟩
  simp only[qTC,qUy]at h2;refine⟨⟨h1,h2.1⟩,fun j hj hl=>?_⟩;obtain⟨o,e,ho,he,hb,rfl⟩:=qjT.1 hj;have h3:=h2.2;rw[ho]at h3;simp only[qUj,qTT]at h3;have h4:=(Array.all_eq_true'.1 h3) e he;rw[hb]at h4;simp only[qUP,qVF]at h4;have h5:=(qjS.1 hl).2;have hlt:e.on<listed.size:=by rw[hs]; exact hd e.on hj
  simp only[qWk,qVk hlt,qTT]at h4 h5;rw[h4]at h5; cases h5
 ·rintro⟨⟨h1,h2⟩,h3⟩
  refine⟨h1,?_⟩;simp only[h2,qVa,qUB];rw[qVk h1];simp only[qUj,qTT];refine Array.all_eq_true'.2 fun e he=>?_
  cases hb:Region.binds .any e with
  | false=>rfl|true =>
   simp only[qUP,qVF];have hj:e.on∈Jj ops k:=qjT.2 ⟨_,e,qVk h1,he,hb,rfl⟩;have hlt:e.on<listed.size:=by rw[hs]; exact hd _ hj
   have h5:=h3 _ hj;rw[qjS]at h5;simp only[qWk,qVk hlt,qTT]at h5 ⊢
   cases hl:listed[e.on]with
   | true=>rfl|false=>exact absurd ⟨by omega,hl⟩ h5
def qeR (ops:Array Oper):Bool:=(List.range ops.size).all fun k=>(Jj ops k).all fun j=>decide (j<k)
theorem qjU {ops:Array Oper} (h:qeR ops=true):∀k,∀j∈Jj ops k,j<k:=by
 intro k j hj;have hk:k<ops.size:=by
  obtain⟨o,e,ho,_⟩:=qjT.1 hj;exact(qUY.1 ho).1
 have:=(qTI.1 h) k (by simpa using hk);simpa using(qTI.1 this) j hj
theorem qt7 {ops:Array Oper} (he:qeR ops=true):∀(fuel t:Nat) (listed:Array Bool),listed.size=ops.size→(J5 ops.size listed).length=fuel →
  qa3 ops (J5 ops.size listed) (Region.linearise.go .any ops fuel t listed [])
 | 0,t,listed,hs,hl=>by
  have:J5 ops.size listed=[]:=qUr hl;rw[this];simp[Region.linearise.go];exact .nil
 | fuel+1,t,listed,hs,hl=>by
  have hed:=qjU he;have hdn:∀k,k<ops.size→∀j∈Jj ops k,j<ops.size:=fun k hk j hj=>qVQ (hed k j hj) hk
  have hdn':∀k j,j∈Jj ops k→j<ops.size:=fun k j hj=>by
   obtain⟨o,e,ho,_⟩:=qjT.1 hj;exact hdn k (qUY.1 ho).1 j hj
  simp only[Region.linearise.go]
  change qa3 ops _ (match (Region.ready .any ops listed)[t % (Region.ready .any ops listed).length]? with
   | some i=>Region.linearise.go .any ops fuel (t / (Region.ready .any ops listed).length) (listed.setIfInBounds i true) [i]|none=>[].reverse)
  have hne:Region.ready .any ops listed≠[]:=by
   cases hL:J5 ops.size listed with
   | nil=>rw[hL]at hl; simp at hl|cons x L =>
    have hx:x∈J5 ops.size listed:=by rw[hL]; simp
    have:x∈Region.ready .any ops listed:=by
     rw[qt6 hs (hdn' x)];refine⟨hx,fun j hj hjl=>?_⟩;have hjx:=hed x j hj;have hsort:=qt5 ops.size listed;rw[hL]at hsort hjl;rcases qTD.1 hjl with h|h
     ·omega
     ·have:=(qVn.1 hsort).1 j h; omega
    exact List.ne_nil_of_mem this
  have hlen:0<(Region.ready .any ops listed).length:=qVo.2 hne;have hidx:t % (Region.ready .any ops listed).length<(Region.ready .any ops listed).length:=qUX _ hlen;rw[qTE hidx];simp only[];generalize hk:(Region.ready .any ops listed)[t % (Region.ready .any ops listed).length]=k;have hkm:k∈Region.ready .any ops listed:=by rw[←hk]; exact qTL _
  rw[qt6 hs (hdn' k)]at hkm;obtain⟨A,B,hAB⟩:=qBE hkm.1;have hset:=qBF hs hAB;have ih:=qt7 he fuel (t / (Region.ready .any ops listed).length) (listed.setIfInBounds k true) (by simp[hs]) (by rw[hset]; rw[hAB]at hl; simp at hl ⊢; omega);rw[linearise_go_acc,List.reverse_singleton,qVA,hAB];rw[hset]at ih;exact .cons k A B _ (by rw[←hAB]; exact hkm.2) ih
theorem qt8 {ops:Array Oper} (he:qeR ops=true) (t:Nat):qa3 ops (List.range ops.size) (Region.schedule true ops t):=by
 have h:J5 ops.size (Array.replicate ops.size false)=List.range ops.size:=by
  unfold J5;apply qVc.2;intro i hi;have:i<ops.size:=by simpa using hi
  simp[this]
 have:=qt7 he ops.size t (Array.replicate ops.size false) (by simp) (by rw[h]; simp);rw[h]at this;simpa[Region.schedule,Region.linearise]using this
def qbu (c:Cfg) (ops:Array Oper) (slot0:Nat):List Nat→St→Option (List Rec×St)
 | [],s=>some ([],s)|i::l,s=>match qc8 c ops slot0 i s with
  | some a=>match qbu c ops slot0 l (a.exec s)with
   | some (rs,s')=>some (a::rs,s')|none=>none
  | none=>none
def qda (ops:Array Oper):Nat→List Nat
 | 0=>[]|k+1=>qda ops k++[(Jj ops k).foldl (fun m j=>m|||(2 ^ j|||(qda ops k).getD j 0)) 0]
def qbY (ops:Array Oper) (n:Nat):List (List Nat):=(qda ops n).map fun m=>(List.range n).filter fun i=>m.testBit i
theorem qhn (ops:Array Oper):∀n,(qda ops n).length=n
 | 0=>rfl|n+1=>by simp[qda,qhn ops n]
theorem qt9 {f:Nat→Nat} {i:Nat}:∀{l:List Nat} {m:Nat},(l.foldl (fun m j=>m|||(2 ^ j|||f j)) m).testBit i=true→m.testBit i=true∨∃j∈l,i=j∨(f j).testBit i=true
 | [],m,h=>.inl h|x::l,m,h=>by
  rw[qUK]at h;rcases qt9 h with h1|⟨j,hj,h1⟩
  ·rw[Nat.testBit_or,Nat.testBit_or,qTM,qTM]at h1;rcases h1 with h1|h1|h1
   ·exact .inl h1
   ·refine .inr ⟨x,by simp,.inl ?_⟩;rw[Nat.testBit_two_pow]at h1;exact(of_decide_eq_true h1).symm
   ·exact .inr ⟨x,by simp,.inr h1⟩
  ·exact .inr ⟨j,by simp[hj],h1⟩
theorem qoh {ops:Array Oper}:∀(n k i:Nat),k<n→((qda ops n).getD k 0).testBit i=true→Anc ops i k
 | 0,k,i,h,_=>by omega
 | n+1,k,i,h,hi=>by
  simp only[qda,List.getD]at hi;rcases qTQ k n with h1|h1
  ·rw[qTZ (by rw[qhn]; exact h1)]at hi;exact qoh n k i h1 (by simpa[List.getD]using hi)
  ·have:k=n:=by omega
   subst this;rw[qT1 (by rw[qhn]; exact qTF _),qhn,Nat.sub_self]at hi;simp only[List.getElem?_cons_zero,qTT]at hi;rcases qt9 (f:=fun j=>((qda ops k)[j]?).getD 0) hi with h2|⟨j,hj,h2⟩
   ·simp at h2
   ·rcases h2 with rfl|h2
    ·exact .one hj
    ·rcases qTQ j k with h3|h3
     ·exact .more hj (qoh k j i h3 (by simpa[List.getD]using h2))
     ·rw[qUc (by rw[qhn]; exact h3)]at h2; simp at h2
theorem qjV {ops:Array Oper} (n k i:Nat) (h:k<n) (hi:i∈(qbY ops n).getD k []):Anc ops i k:=by
 unfold qbY at hi;rw[List.getD_eq_getElem?_getD,qT3]at hi
 cases hm:(qda ops n)[k]? with
 | none=>rw[hm]at hi; simp at hi|some m =>
  rw[hm]at hi;simp only[qUj,qTT,qUT]at hi;exact qoh n k i h (by rw[List.getD_eq_getElem?_getD,hm]; exact hi.2)
def qfV (an:List (List Nat)) (slot0:Nat) (rs:List Rec):Bool :=
 rs.zipIdx.all fun(b,k)=>rs.zipIdx.all fun(a,i) =>
  (i==k)||(((an.getD i []).contains k||!a.wr.contains (slot0+k))&&(decide (k<i)||(an.getD k []).contains i||qfS a b))
end Go.Aev
end
section
namespace Go.Aev
variable [Glob]
variable {P:Program} {w0:World} {own:Own} {m:Mp} {S:Nat→Prop} {w:World} {rows:Rows}
def qfJ (m:Mp) (S:Nat→Prop) (rows:Rows) (rs:List Nat):Nat→Prop:=fun c=>S c∨∃r row o,r∈rs∧rows[r]?=some (qd.live row)∧row.freeze.rw=false∧m r=some (c,o)
theorem qi5 (inv:Inv w0 own m S w rows) (rs:List Nat):Ext m S w m (qfJ m S rows rs) w:=⟨fun _ _ h=>h,fun _ h=>.inl h,fun _ _=>rfl,fun _=>qTF _⟩
theorem qfK:∀{rs:List Nat} {u:Nat×qd},u∈JI rows rs→u.1∈rs∧∃row,rows[u.1]?=some (qd.live row)∧row.rw=true∧row.freeze.rw=false∧u.2=.live row.freeze
 | [],u,h=>by cases h
 | r::rs,u,h=>by
  simp only[JI]at h;split at h
  ·rename_i row hl;split at h
   ·rename_i hc;simp only[qTC,qUy]at hc;rcases qTD.1 h with rfl|h
    ·refine⟨by simp,row,?_,hc.1,hc.2,rfl⟩;simp only[qr]at hl;split at hl
     ·rename_i row' hr; cases hl; exact hr
     ·cases hl
    ·have:=qfK h; exact⟨qTG _ this.1,this.2⟩
   ·have:=qfK h; exact⟨qTG _ this.1,this.2⟩
  ·have:=qfK h; exact⟨qTG _ this.1,this.2⟩
theorem qsN:∀{rs:List Nat} {r:Nat} {row:Row},r∈rs→rows[r]?=some (qd.live row)→row.rw=true→row.freeze.rw=false→(r,qd.live row.freeze)∈JI rows rs
 | [],r,row,h,_,_,_=>by cases h
 | x::rs,r,row,h,hr,h1,h2=>by
  simp only[JI];rcases qTD.1 h with rfl|h
  ·have:qr rows r=some row:=by simp[qr,hr]
   rw[this]; simp[h1,h2]
  ·have ih:=qsN h hr h1 h2;split
   ·split
    ·exact qTG _ ih
    ·exact ih
   ·exact ih
theorem qsO {us:List (Nat×qd)} {r:Nat} {x:qd}:∀{rows:Rows},(∀u∈us,u.1=r→u.2=x)→((∃u∈us,u.1=r)∨rows[r]?=some x)→r<rows.length→(qE us rows)[r]?=some x:=by
 induction us with
 | nil=>intro rows _ h hl; rcases h with⟨u,hu,_⟩|h; cases hu; exact h
 | cons u us ih =>
  intro rows hall h hl;refine ih (rows:=rows.set u.1 u.2) (fun v hv=>hall v (qTG _ hv)) ?_ (by simpa using hl)
  by_cases e:u.1=r
  ·right; rw[e,qUV hl,hall u (by simp) e]
  ·rcases h with⟨v,hv,hvr⟩|h
   ·rcases qTD.1 hv with rfl|hv
    ·exact absurd hvr e
    ·exact .inl ⟨v,hv,hvr⟩
   ·right; rw[qUF e]; exact h
theorem qg0 {rs:List Nat} (r:Nat):(∃row,rows[r]?=some (qd.live row)∧r∈rs∧row.rw=true∧row.freeze.rw=false∧(qE (JI rows rs) rows)[r]?=some (qd.live row.freeze)) ∨
  ((qE (JI rows rs) rows)[r]?=rows[r]?∧∀row,rows[r]?=some (qd.live row)→r∈rs→row.freeze.rw=false→row.rw=false):=by
 by_cases h:r∈(JI rows rs).map (·.1)
 ·left;obtain⟨u,hu,rfl⟩:=qTV.1 h;obtain⟨h1,row,h2,h3,h4,h5⟩:=qfK hu;refine⟨row,h2,h1,h3,h4,qsO (fun v hv e=>?_) (.inl ⟨u,hu,rfl⟩) (qL h2)⟩;obtain⟨_,row',h2',_,_,h5'⟩:=qfK hv;rw[e,h2]at h2'; cases h2'; exact h5'
 ·right;refine⟨qjO h,fun row h1 h2 h3=>?_⟩
  cases hw:row.rw with
  | false=>rfl|true=>exact absurd (qVi (f:=(·.1)) (qsN h2 h1 hw h3)) h
theorem qsP (inv:Inv w0 own m S w rows) (rs:List Nat):Inv w0 own m (qfJ m S rows rs) w (qE (JI rows rs) rows):=by
 have he:=qi5 inv rs;have hlen:=qc9 (JI rows rs) rows;have back:∀{r:Nat} {row:Row},(qE (JI rows rs) rows)[r]?=some (qd.live row)→row.rw=true→rows[r]?=some (qd.live row)∧(r∈rs→row.freeze.rw=true):=by
  intro r row h hw;rcases qg0 (rows:=rows) (rs:=rs) r with⟨row0,h1,h2,h3,h4,h5⟩|⟨h1,h2⟩
  ·rw[h5]at h; cases h; rw[h4]at hw; cases hw
  ·rw[h1]at h;refine⟨h,fun hr=>?_⟩
   cases hf:row.freeze.rw with
   | true=>rfl|false=>have:=h2 row h hr hf; rw[this]at hw; cases hw
 refine⟨fun r hr=>inv.none r (by omega),fun r hr=>?_,fun r row hr=>?_,inv.bnd,fun r row b o h1 hw hm=>inv.new r row b o (back h1 hw).1 hw hm,fun r r' row row' b o b' o' hne h1 h2 hw e1 e2=>?_,fun r row b o h1 hw hm=>?_,
  fun r row b o h1 hw hm=>?_,fun c hc=>?_,fun c hc=>?_,fun c hc=>.inl (inv.stb c hc),inv.os,inv.tape,inv.output,inv.grow,inv.kept,inv.glb.ext he⟩
 ·rcases qg0 (rows:=rows) (rs:=rs) r with⟨row0,_,_,_,_,h5⟩|⟨h1,_⟩
  ·rw[h5]at hr; cases hr
  ·rw[h1]at hr; exact inv.fre r hr
 ·rcases qg0 (rows:=rows) (rs:=rs) r with⟨row0,h1,_,_,_,h5⟩|⟨h1,_⟩
  ·rw[h5]at hr; cases hr;obtain⟨b,o,hm,hrel⟩:=inv.row r row0 h1;exact⟨b,o,hm,(hrel.ext he rfl).freeze⟩
  ·rw[h1]at hr;obtain⟨b,o,hm,hrel⟩:=inv.row r row hr;exact⟨b,o,hm,hrel.ext he rfl⟩
 ·have hb:=(back h1 hw).1;rcases qg0 (rows:=rows) (rs:=rs) r' with⟨row0,g1,_,_,_,g5⟩|⟨g1,_⟩
  ·exact inv.apart r r' row row0 b o b' o' hne hb g1 hw e1 e2
  ·rw[g1]at h2; exact inv.apart r r' row row' b o b' o' hne hb h2 hw e1 e2
 ·obtain⟨hb,hfr⟩:=back h1 hw
  rintro(hS|⟨r2,row2,o2,hr2,hl2,hf2,hm2⟩)
  ·exact inv.stab r row b o hb hw hm hS
  ·by_cases e:r=r2
   ·subst e;rw[hb]at hl2; cases hl2;rw[hfr hr2]at hf2; cases hf2
   ·exact inv.apart r r2 row row2 b o b o2 e hb hl2 hw hm hm2 rfl
 ·rcases qg0 (rows:=rows) (rs:=rs) r with⟨row0,g1,g2,_,g4,g5⟩|⟨g1,_⟩
  ·exact .inr ⟨r,row0,o,g2,g1,g4,hm⟩
  ·rw[g1]at h1; exact .inl (inv.rost r row b o h1 hw hm)
 ·rcases hc with hc|⟨r,row,o,_,_,_,hm⟩
  ·exact inv.sbnd c hc
  ·exact inv.bnd r c o hm
 ·rcases hc with hc|⟨r,row,o,_,hl,_,hm⟩
  ·exact inv.base c hc
  ·cases hw:row.rw with
   | true=>exact .inr (inv.new r row c o hl hw hm)|false=>exact inv.base c (inv.rost r row c o hl hw hm)
mutual
theorem qsQ {S S':Nat→Prop} {w w':World}:∀{x:D} {v:Value},x.plain=true→RD S w x v→RD S' w' x v
 | .int k n,v,_,h=>by cases h; exact .int k n
 | .bool b,v,_,h=>by cases h; exact .bool b
 | .str s,v,_,h=>by cases h; exact .str s
 | .nilp,v,_,h=>by cases h; exact .nilp
 | .nilf,v,_,h=>by cases h; exact .nilf
 | .nilm,v,_,h=>by cases h; exact .nilm
 | .nili,v,_,h=>by cases h; exact .nili
 | .list es,v,hp,h=>by
  have:es=[]:=by simp[D.plain]at hp
  subst this
  cases h with
  | emp p cap=>exact .emp p cap|row es b o cap k n vs hn=>subst hn; exact .emp _ _
 | .agg cs,v,hp,h=>by
  cases h with
  | agg _ arr hlen hd=>exact .agg cs arr hlen (fun j d v e e'=>qsR (cs:=cs) hp j d v e (hd j d v e e'))
theorem qsR {S S':Nat→Prop} {w w':World}:∀{cs:List D},D.plains cs=true→∀(j:Nat) (d:D) (v:Value),cs[j]?=some d→RD S w d v→RD S' w' d v
 | [],_,j,d,v,e,_=>by simp at e
 | c::cs,hp,0,d,v,e,h=>by
  simp only[D.plains,qTC]at hp;simp at e; subst e;exact qsQ hp.1 h
 | c::cs,hp,j+1,d,v,e,h=>by
  simp only[D.plains,qTC]at hp;simp at e;exact qsR hp.2 j d v e h
end
theorem qnx {m':Mp} {S':Nat→Prop} {w':World} {x:V} {v:Value} (hp:x.plain1=true) (h:RV m S w x v):RV m' S' w' x v:=by
 cases h with
 | d x v h=>exact .d x v (qsQ hp h)|nil=>exact .nil|_=>simp[V.plain1]at hp
theorem qz1 {m':Mp} {S':Nat→Prop} {w':World} {x:V} {v:Value} (hp:x.plain=true) (h:RV m S w x v):RV m' S' w' x v:=by
 cases x with
 | tup vs =>
  cases h with
  | tup _ arr hlen hd =>
   refine .tup vs arr hlen (fun j y u e e'=>?_);simp only[V.plain]at hp;exact qnx ((qTI.1 hp) y (qUi e)) (hd j y u e e')
 | d x=>exact qnx hp h|nil=>exact qnx hp h|_=>simp[V.plain,V.plain1]at hp
def Yd (m:Mp) (rs:List Nat):Mp:=fun i=>(rs[i]?).bind m
theorem qsS {r:Nat}:∀{rs:List Nat} {i j:Nat},Yk r rs i=some j→i≤j∧rs[j - i]?=some r
 | [],_,_,h=>by cases h
 | x::l,i,j,h=>by
  simp only[Yk]at h;split at h
  ·rename_i hx;cases h;simp[hx]
  ·obtain⟨h1,h2⟩:=qsS h;refine⟨by omega,?_⟩;have:j - i=(j - (i+1))+1:=by omega
   rw[this,qUx];exact h2
theorem qsT {m:Mp} {rs:List Nat} {r j:Nat} (h:Yk r rs 0=some j):Yd m rs j=m r:=by
 have:=(qsS h).2;simp only[qUO]at this;simp[Yd,this]
theorem JS {α γ:Type} {f:α→Option γ}:∀{l:List α} {r:List γ},qQ f l=some r→r.length=l.length
 | [],r,h=>by cases h; rfl
 | x::l,r,h=>by
  simp only[qQ]at h;split at h
  ·rename_i y r' h1 h2;cases h;simp[JS h2]
  ·cases h
theorem Y6 {α γ:Type} {f:α→Option γ}:∀{l:List α} {r:List γ} {j:Nat} {y:γ},qQ f l=some r→r[j]?=some y→∃x,l[j]?=some x∧f x=some y
 | [],r,j,y,h,hy=>by cases h; simp at hy
 | x::l,r,j,y,h,hy=>by
  simp only[qQ]at h;split at h
  ·rename_i z r' h1 h2;cases h
   cases j with
   | zero=>simp at hy; subst hy; exact⟨x,rfl,h1⟩|succ j=>simp only[qUx]at hy ⊢; exact Y6 h2 hy
  ·cases h
theorem qcW {m mT:Mp} {S:Nat→Prop} {w:World} {f:Nat→Option Nat} (hf:∀r j,f r=some j→mT j=m r):∀{n:Nat} {v x:V} {u:Value},qC f n v=some x→RV m S w v u→RV mT S w x u:=by
 intro n
 induction n with
 | zero =>
  intro v x u h hv
  cases hv with
  | d y _ h1=>simp only[qC]at h; cases h; exact .d _ _ h1
  | nil=>simp only[qC]at h; cases h; exact .nil
  | top y h1=>simp only[qC]at h; cases h; exact .top _ h1
  | dp y b o vs h1 h2 h3=>simp only[qC]at h; cases h; exact .dp _ _ _ _ h1 h2 h3
  | sl r k off len c ex b o c' p hm hl hc he hp hb =>
   simp only[qC,qTP]at h;obtain⟨j,hj,rfl⟩:=h;exact .sl _ _ _ _ _ _ b o c' p ((hf _ _ hj).trans hm) hl hc he hp hb
  | pt r k i f b o hm =>
   simp only[qC,qTP]at h;obtain⟨j,hj,rfl⟩:=h;exact .pt _ _ _ _ b o ((hf _ _ hj).trans hm)
  | mp r b o hm =>
   simp only[qC,qTP]at h;obtain⟨j,hj,rfl⟩:=h;exact .mp _ b o ((hf _ _ hj).trans hm)
  | yl r b o hm =>
   simp only[qC,qTP]at h;obtain⟨j,hj,rfl⟩:=h;exact .yl _ b o ((hf _ _ hj).trans hm)
  | ifc t y u' h1=>simp only[qC]at h; cases h
  | fp cs b o h1=>simp only[qC]at h; cases h; exact .fp _ _ _ h1
  | fm ks xs b h1=>simp only[qC]at h; cases h; exact .fm _ _ _ h1
  | fn f cs arr hlen hd =>
   simp only[qC]at h;split at h
   ·rename_i hc;cases h;have:cs=[]:=by simpa using hc
    subst this;exact .fn _ _ arr hlen (fun j x v a=>by simp at a)
   ·cases h
  | bf f cs arr hlen hd=>simp only[qC]at h; cases h
  | agg cs arr hlen hd=>simp only[qC]at h; cases h
  | tup cs arr hlen hd =>
   simp only[qC]at h;split at h
   ·rename_i hc;cases h;have:cs=[]:=by simpa using hc
    subst this;exact .tup _ arr hlen (fun j x v a=>by simp at a)
   ·cases h
 | succ n ih =>
  intro v x u h hv;have all:∀{cs xs:List V} {arr:Array Value},qQ (qC f n) cs=some xs→arr.size=cs.length→(∀(j:Nat) (x:V) (v:Value),cs[j]?=some x→arr[j]?=some v→RV m S w x v) →
    arr.size=xs.length∧∀(j:Nat) (x:V) (v:Value),xs[j]?=some x→arr[j]?=some v→RV mT S w x v:=by
   intro cs xs arr h1 h2 h3;refine⟨by rw[JS h1]; exact h2,fun j x v hx hv=>?_⟩;obtain⟨y,hy,hr⟩:=Y6 h1 hx;exact ih hr (h3 j y v hy hv)
  cases hv with
  | d y _ h1=>simp only[qC]at h; cases h; exact .d _ _ h1
  | nil=>simp only[qC]at h; cases h; exact .nil
  | top y h1=>simp only[qC]at h; cases h; exact .top _ h1
  | dp y b o vs h1 h2 h3=>simp only[qC]at h; cases h; exact .dp _ _ _ _ h1 h2 h3
  | sl r k off len c ex b o c' p hm hl hc he hp hb =>
   simp only[qC,qTP]at h;obtain⟨j,hj,rfl⟩:=h;exact .sl _ _ _ _ _ _ b o c' p ((hf _ _ hj).trans hm) hl hc he hp hb
  | pt r k i f b o hm =>
   simp only[qC,qTP]at h;obtain⟨j,hj,rfl⟩:=h;exact .pt _ _ _ _ b o ((hf _ _ hj).trans hm)
  | mp r b o hm =>
   simp only[qC,qTP]at h;obtain⟨j,hj,rfl⟩:=h;exact .mp _ b o ((hf _ _ hj).trans hm)
  | yl r b o hm =>
   simp only[qC,qTP]at h;obtain⟨j,hj,rfl⟩:=h;exact .yl _ b o ((hf _ _ hj).trans hm)
  | ifc t y u' h1 =>
   simp only[qC,qTP]at h;obtain⟨x',hx,rfl⟩:=h;exact .ifc _ _ _ (ih hx h1)
  | fp cs b o h1=>simp only[qC]at h; cases h; exact .fp _ _ _ h1
  | fm ks xs b h1=>simp only[qC]at h; cases h; exact .fm _ _ _ h1
  | fn f cs arr hlen hd =>
   simp only[qC,qTP]at h;obtain⟨xs,hx,rfl⟩:=h;obtain⟨k1,k2⟩:=all hx hlen hd;exact .fn _ _ arr k1 k2
  | bf f cs arr hlen hd =>
   simp only[qC,qTP]at h;obtain⟨xs,hx,rfl⟩:=h;obtain⟨k1,k2⟩:=all hx hlen hd;exact .bf _ _ arr k1 k2
  | agg cs arr hlen hd =>
   simp only[qC,qTP]at h;obtain⟨xs,hx,rfl⟩:=h;obtain⟨k1,k2⟩:=all hx hlen hd;exact .agg _ arr k1 k2
  | tup cs arr hlen hd =>
   simp only[qC,qTP]at h;obtain⟨xs,hx,rfl⟩:=h;obtain⟨k1,k2⟩:=all hx hlen hd;exact .tup _ arr k1 k2
theorem qcj {m:Mp} {S:Nat→Prop} {w:World} {rs:List Nat} {n:Nat} {v x:V} {u:Value} (h:qC (fun r=>Yk r rs 0) n v=some x) (hv:RV m S w v u):RV (Yd m rs) S w x u :=
 qcW (fun _ _ hj=>qsT hj) h hv
theorem qz2 {m:Mp} {S:Nat→Prop} {w:World} {rs:List Nat} {b o:Nat} {row row':Row} (h:qbs (fun r=>Yk r rs 0) (some row)=some (.live row')) (hr:Yv m S w b o row) :
  Yv (Yd m rs) S w b o row'∧row'.rw=false∧row.freeze.rw=false:=by
 cases row with
 | dat k es ro=>simp only[qbs]at h; cases h; exact⟨hr,rfl,rfl⟩
 | box cs ro =>
  simp only[qbs,qTP]at h;obtain⟨xs,hx,h⟩:=h;cases h;obtain⟨c,e,h1,h2⟩:=hr;refine⟨⟨c,e,h1,fun j x hj=>?_⟩,rfl,rfl⟩;obtain⟨y,hy,hren⟩:=Y6 hx hj;obtain⟨v,hv,hrel⟩:=h2 j y hy;exact⟨v,hv,qcj hren hrel⟩
 | map es clock ro =>
  simp only[qbs,qTP]at h;obtain⟨xs,hx,h⟩:=h;cases h;obtain⟨ents,h1,h2,hbn,h3⟩:=hr;refine⟨⟨ents,h1,by rw[JS hx]; exact h2,⟨by rw[JS hx]; exact hbn.1,hbn.2⟩,fun j e x hj he=>?_⟩,rfl,rfl⟩;obtain⟨y,hy,hren⟩:=Y6 hx hj;simp only[qTP]at hren;obtain⟨z,hz,rfl⟩:=hren;obtain⟨k1,k2⟩:=h3 j y x hy he;exact⟨k1,qcj hz k2⟩
 | loop _ _ _ _ _ _ _ _=>simp only[qbs]at h; cases h
 | dfr=>simp only[qbs]at h; cases h
 | iter _ _=>simp only[qbs]at h; cases h
theorem qz3 (inv:Inv w0 own m S w rows) {rs:List Nat} {args args':List V} {rows':Rows} (h:qeO (qr rows) rs args=some (args',rows')) {vs:Array Value} (ha:RVs m S w args vs) :
  Inv w ⟨fun _=>False,qfJ m S rows rs⟩ (Yd m rs) (qfJ m S rows rs) w rows'∧(∀(r:Nat) (row:Row),rows'[r]?=some (qd.live row)→row.rw=false)∧RVs (Yd m rs) (qfJ m S rows rs) w args' vs:=by
 have he:=qi5 inv rs;unfold qeO at h;simp only at h;split at h
 ·rename_i as rws h1 h2;cases h;have live:∀(i:Nat) (row':Row),rows'[i]?=some (qd.live row')→∃r row b o,rs[i]?=some r∧rows[r]?=some (qd.live row)∧m r=some (b,o)∧row.freeze.rw=false∧row'.rw=false∧Yv (Yd m rs) (qfJ m S rows rs) w b o row':=by
   intro i row' hi;obtain⟨r,hr,hren⟩:=Y6 h2 hi
   cases hl:qr rows r with
   | none=>rw[hl]at hren; simp only[qbs]at hren; cases hren
   | some row =>
    rw[hl]at hren;have hrow:rows[r]?=some (qd.live row):=by
     unfold qr at hl;split at hl
     ·rename_i q hq; cases hl; exact hq
     ·cases hl
    obtain⟨b,o,hm,hrel⟩:=inv.row r row hrow;obtain⟨k1,k2,k3⟩:=qz2 hren (hrel.ext he rfl);exact⟨r,row,b,o,hr,hrow,hm,k3,k2,k1⟩
  have ro:∀(r:Nat) (row:Row),rows'[r]?=some (qd.live row)→row.rw=false:=fun r row hr=>by
   obtain⟨_,_,_,_,_,_,_,_,k,_⟩:=live r row hr;exact k
  refine⟨⟨fun i hi=>?_,fun i hi=>?_,fun i row hi=>?_,fun i b o hi=>?_,fun i row b o h1 hw _=>?_,fun i i' row _ b o b' o' hne h1 _ hw=>?_,fun i row b o h1 hw=>?_,
   fun i row b o h1 _ hm=>?_,fun c hc=>?_,fun c hc=>.inl hc,fun c hc=>hc,rfl,rfl,rfl,qTF _,fun _ _ _=>rfl,inv.glb.ext he⟩,ro,?_,fun j x v hx hv=>?_⟩
  ·rw[JS h2]at hi;simp[Yd,hi]
  ·obtain⟨r,hr,hren⟩:=Y6 h2 hi;unfold qbs at hren;split at hren
   ·cases hren
   ·rw[qTP]at hren; obtain⟨_,_,hq⟩:=hren; cases hq
   ·rw[qTP]at hren; obtain⟨_,_,hq⟩:=hren; cases hq
   ·cases hren
  ·obtain⟨r,row0,b,o,e1,e2,e3,_,_,e4⟩:=live i row hi;exact⟨b,o,by simp[Yd,e1,e3],e4⟩
  ·unfold Yd at hi
   cases hr:rs[i]? with
   | none=>rw[hr]at hi; cases hi
   | some r=>rw[hr]at hi; exact inv.bnd r b o hi
  ·rw[ro i row h1]at hw; cases hw
  ·rw[ro i row h1]at hw; cases hw
  ·rw[ro i row h1]at hw; cases hw
  ·obtain⟨r,row0,b0,o0,e1,e2,e3,e5,_,e4⟩:=live i row h1;simp only[Yd,e1,qVt]at hm;exact .inr ⟨r,row0,o,qUi e1,e2,e5,hm⟩
  ·rcases hc with hc|⟨r,row,o,_,_,_,hm⟩
   ·exact inv.sbnd c hc
   ·exact inv.bnd r c o hm
  ·rw[JS h1]; exact ha.1
  ·obtain⟨y,hy,hren⟩:=Y6 h1 hx;exact qcj hren ((ha.2 j y v hy hv).ext he)
 ·cases h
def qi6 (P:Program) (RC:FuncId→List V→Rows→Option V):Prop :=
 ∀g args rows v,RC g args rows=some v→∀(w0:World) (own:Own) (m:Mp) (S:Nat→Prop) (w:World) (vs:Array Value),Inv w0 own m S w rows→(∀(r:Nat) (row:Row),rows[r]?=some (qd.live row)→row.rw=false)→RVs m S w args vs →
  Calls P g vs w fun e w'=>∃u,e=.returned u∧∃S':Nat→Prop,(∀c,S c→S' c)∧(∀c,S' c→S c∨(w.heap.size≤c∧c<w'.heap.size))∧(∀m2:Mp,RV m2 S' w' v u) ∧
   (∀c,c<w.heap.size→w'.heap[c]?=w.heap[c]?)∧w.heap.size≤w'.heap.size∧w'.os=w.os∧w'.tape=w.tape∧w'.output=w.output
theorem qz4 {c:Cfg} (hRC:qi6 P c.RC) (inv:Inv w0 own m S w rows) {g:FuncId} {args:List V} {vs:Array Value} {res:Res} (h:qbt c g args rows=some res) (ha:RVs m S w args vs) :
  Calls P g vs w fun e w'=>∃u,e=.returned u∧∃S',Inv w0 own m S' w' (qE res.ups rows)∧Ext m S w m S' w'∧RV m S' w' res.v u∧res.fresh=none:=by
 unfold qbt at h;simp only at h;split at h
 ·rename_i args' rows' hcomp;obtain⟨vinv,vro,vargs⟩:=qz3 inv hcomp ha;split at h
  ·rename_i v hv;refine(hRC g args' _ v hv w _ _ _ w vs vinv vro vargs).mono fun e w' ⟨u,he,S2,s1,s2,hr,hb,hs,ho,ht,hu⟩=>⟨u,he,?_⟩
   split at h
   ·rename_i hp;cases h;obtain⟨k1,e1⟩:=inv.called (w':=w') (S':=S) hb hs (fun _ h=>h) (fun _ h=>.inl h) ho ht hu;exact⟨S,k1,e1,qz1 hp (hr m),rfl⟩
   ·cases h;obtain⟨k1,e1⟩:=(qsP inv (JU rows args)).called (w':=w') (S':=S2) hb hs s1 s2 ho ht hu;exact⟨S2,k1,(qi5 inv _).trans e1,hr m,rfl⟩
  ·cases h
 ·cases h
end Go.Aev
end
section
namespace Go.Aev
variable [Glob]
def rfr (fn:FuncId) (tmps:Array Value) (todo:List Item) (ds:List Deferred) (ro:Option Nat):Frame :=
 {fn,tmps,todo,defers:=ds,mode:=.run,kind:=.normal,roundOf:=ro}
section
variable {P:Program} {fn:FuncId} {tmps:Array Value} {ds:List Deferred} {ro:Option Nat} {k:List Item} {cs:List Frame} {w:World}
theorem qAy:step P (lone (rfr fn tmps (.code .skip::k) ds ro) cs w)=.next (lone (rfr fn tmps k ds ro) cs w):=step_lone_go (by simp[stepG,stepG.exec,rfr])
theorem qAz {l:Nat}:step P (lone (rfr fn tmps (.code (.label l)::k) ds ro) cs w)=.next (lone (rfr fn tmps k ds ro) cs w):=step_lone_go (by simp[stepG,stepG.exec,rfr])
theorem qAA {id:Nat}:step P (lone (rfr fn tmps (.inBlock id::k) ds ro) cs w)=.next (lone (rfr fn tmps k ds ro) cs w):=step_lone_go (by simp[stepG,stepG.exec,rfr])
theorem qAB {c:Code}:step P (lone (rfr fn tmps (.inScope c::k) ds ro) cs w)=.next (lone (rfr fn tmps k ds ro) cs w):=step_lone_go (by simp[stepG,stepG.exec,rfr])
theorem qAC {x y:Code}:step P (lone (rfr fn tmps (.code (.seq x y)::k) ds ro) cs w)=.next (lone (rfr fn tmps (.code x::.code y::k) ds ro) cs w):=step_lone_go (by simp[stepG,stepG.exec,rfr])
theorem qAD {c:Operand} {x y:Code} {t:Bool} (h:(rfr fn tmps (.code (.cond c x y)::k) ds ro).eval c=.bool t) :
  step P (lone (rfr fn tmps (.code (.cond c x y)::k) ds ro) cs w)=.next (lone (rfr fn tmps (.code (if t then x else y)::k) ds ro) cs w) :=
 step_lone_go (by
  simp only[rfr]at h;simp[stepG,stepG.exec,rfr,h])
theorem qAE {id:Nat} {c:Code}:step P (lone (rfr fn tmps (.code (.block id c)::k) ds ro) cs w)=.next (lone (rfr fn tmps (.code c::.inBlock id::k) ds ro) cs w):=step_lone_go (by simp[stepG,stepG.exec,rfr])
theorem qAF {c:Code}:step P (lone (rfr fn tmps (.code (.loop c)::k) ds ro) cs w)=.next (lone (rfr fn tmps (.code c::.inLoop c::k) ds ro) cs w):=step_lone_go (by simp[stepG,stepG.exec,rfr])
theorem qAG {c:Code}:step P (lone (rfr fn tmps (.inLoop c::k) ds ro) cs w)=.next (lone (rfr fn tmps (.code c::.inLoop c::k) ds ro) cs w):=step_lone_go (by simp[stepG,stepG.exec,rfr])
theorem qAH {c:Code}:step P (lone (rfr fn tmps (.code (.scope c)::k) ds ro) cs w)=.next (lone (rfr fn tmps (.code c::.inScope c::k) ds ro) cs w):=step_lone_go (by simp[stepG,stepG.exec,rfr])
theorem qAI {id:Nat} {k':List Item} (h:exitTo id k=some k'):step P (lone (rfr fn tmps (.code (.exit id)::k) ds ro) cs w)=.next (lone (rfr fn tmps k' ds ro) cs w):=step_lone_go (by simp[stepG,stepG.exec,rfr,h])
theorem qAJ {l:Nat} {k':List Item} (h:gotoIn l k=some k'):step P (lone (rfr fn tmps (.code (.goto l)::k) ds ro) cs w)=.next (lone (rfr fn tmps k' ds ro) cs w):=step_lone_go (by simp[stepG,stepG.exec,rfr,h])
theorem qAK {id:Nat} {ops:Array Oper}:step P (lone (rfr fn tmps (.code (.region id ops false)::k) ds ro) cs w)=.next (lone (rfr fn tmps (.inRegion ops (List.range ops.size)::k) ds ro) cs w) :=
 step_lone_go (by simp[stepG,stepG.exec,rfr])
theorem qtf {id:Nat} {ops:Array Oper} (hm:P.follows .mixedOrders=true):∃t,step P (lone (rfr fn tmps (.code (.region id ops true)::k) ds ro) cs w) =
  .next (lone (rfr fn tmps (.inRegion ops (Region.schedule true ops t)::k) ds ro) cs {w with drawn:=w.drawn+1}) :=
 ⟨w.tape w.drawn (.order fn id),step_lone_go (by simp[stepG,stepG.exec,rfr,choose,Sem.run,Question.forced,Question.cut,hm])⟩
theorem qtg {ops:Array Oper}:step P (lone (rfr fn tmps (.inRegion ops []::k) ds ro) cs w)=.next (lone (rfr fn tmps k ds ro) cs w):=step_lone_go (by simp[stepG,stepG.exec,rfr])
def qcn (tmps:Array Value) (dst:Option Nat) (v:Value):Array Value :=
 match dst with
 | some d=>tmps.setIfInBounds d v|none=>tmps
theorem qdE {ops:Array Oper} {i:Nat} {rest:List Nat} {o:Oper} (ho:ops[i]?=some o) (v:Value) :
  (rfr fn tmps (.inRegion ops (i::rest)::k) ds ro).finish v=rfr fn (qcn tmps o.dst v) (.inRegion ops rest::k) ds ro:=by
 simp only[rfr,Frame.finish,ho,qVt,qcn];cases o.dst<;>rfl
theorem qth {ops:Array Oper} {i:Nat} {rest:List Nat} {o:Oper} (ho:ops[i]?=some o) (hw:Region.wanted o (yielded ops tmps)=false) :
  step P (lone (rfr fn tmps (.inRegion ops (i::rest)::k) ds ro) cs w)=.next (lone (rfr fn (qcn tmps o.dst Go.undef) (.inRegion ops rest::k) ds ro) cs w):=by
 rw[←qdE ho];exact step_lone_go (by simp[stepG,stepG.exec,rfr,ho,hw])
theorem qnJ {ops:Array Oper} {i:Nat} {rest:List Nat} {o:Oper} (ho:ops[i]?=some o) (hw:Region.wanted o (yielded ops tmps)=true) (hnd:∀c,o.op≠.defer c) :
  stepG P true {frame:=rfr fn tmps (.inRegion ops (i::rest)::k) ds ro,callers:=cs,status:=.running,dying:=none} w =
   stepG.apply P true (rfr fn tmps (.inRegion ops (i::rest)::k) ds ro) cs none (execOp (rfr fn tmps (.inRegion ops (i::rest)::k) ds ro).eval o) w:=by
 cases ro with
 | none=>simp[stepG,stepG.exec,stepG.oper,Frame.oper?,rfr,ho,hw]|some l =>
  simp only[stepG,stepG.exec,stepG.oper,Frame.oper?,rfr,ho,hw,qUj,qTT,if_true];split
  ·rename_i h2; exact absurd h2 (hnd _)
  ·rfl
theorem qg7 {ops:Array Oper} {i:Nat} {rest:List Nat} {o:Oper} {nx:Next} {u:Value} {w':World} (ho:ops[i]?=some o) (hw:Region.wanted o (yielded ops tmps)=true) (hnd:∀c,o.op≠.defer c)
  (hr:(execOp (rfr fn tmps (.inRegion ops (i::rest)::k) ds ro).eval o).run P w=.ok nx w') (hn:nx=.value u∨(nx=.skip∧u=Go.undef)) :
  step P (lone (rfr fn tmps (.inRegion ops (i::rest)::k) ds ro) cs w)=.next (lone (rfr fn (qcn tmps o.dst u) (.inRegion ops rest::k) ds ro) cs w'):=by
 rw[←qdE ho];refine step_lone_go ?_;rw[qnJ ho hw hnd];rcases hn with rfl|⟨rfl,rfl⟩<;>simp[stepG.apply,hr]
theorem qfL {ops:Array Oper} {i:Nat} {rest:List Nat} {o:Oper} {g:FuncId} {args:Array Value} {w':World} (ho:ops[i]?=some o) (hw:Region.wanted o (yielded ops tmps)=true) (hnd:∀c,o.op≠.defer c)
  (hr:(execOp (rfr fn tmps (.inRegion ops (i::rest)::k) ds ro).eval o).run P w=.ok (.enter g args) w') :
  step P (lone (rfr fn tmps (.inRegion ops (i::rest)::k) ds ro) cs w)=.next (lone (Frame.enter P g args .normal) (rfr fn tmps (.inRegion ops (i::rest)::k) ds ro::cs) w'):=by
 refine step_lone_go ?_;rw[qnJ ho hw hnd];simp only[rfr]at hr;simp[stepG.apply,hr,rfr]
theorem qAL {ops:Array Oper} {i:Nat} {rest:List Nat} {o:Oper} {l:Nat} {f:FuncId} {ts:Array Value} {as body:Code} {w':World} (ho:ops[i]?=some o) (hw:Region.wanted o (yielded ops tmps)=true) (hnd:∀c,o.op≠.defer c)
  (hr:(execOp (rfr fn tmps (.inRegion ops (i::rest)::k) ds ro).eval o).run P w=.ok (.round l f ts as body) w') :
  step P (lone (rfr fn tmps (.inRegion ops (i::rest)::k) ds ro) cs w)=.next (lone (rfr f ts [.code as,.beginRound,.code body] [] (some l)) (rfr fn tmps (.inRegion ops (i::rest)::k) ds ro::cs) w'):=by
 refine step_lone_go ?_;rw[qnJ ho hw hnd];simp only[rfr]at hr;simp[stepG.apply,hr,rfr,Frame.round]
theorem qg8 {l:Nat} {L:Loop} (h:w.heap[l]?=some (.loop L)):(Instr.getLoop l).run P w=.ok L w:=by
 simp only[Instr.getLoop,Sem.run_bind,qco (P:=P) h (by simp),Result.andThen_ok,Sem.run_pure]
theorem qAM {l:Nat} {L:Loop} (hl:w.heap[l]?=some (.loop L)) (hs:L.state=.ready) :
  step P (lone (rfr fn tmps (.beginRound::k) ds (some l)) cs w)=.next (lone (rfr fn tmps k ds (some l)) cs {w with heap:=w.heap.setIfInBounds l (.loop {L with state:=.busy})}):=by
 have hrun:(Instr.beginRound l).run P w=.ok () {w with heap:=w.heap.setIfInBounds l (.loop {L with state:=.busy})}:=by
  simp only[Instr.beginRound,Sem.run_bind,qg8 hl,Result.andThen_ok,qeJ (P:=P) hl (by simp),hs,Sem.run_pure]
 refine step_lone_go ?_;simp[stepG,stepG.exec,rfr,stepG.apply,hrun,Frame.finish]
theorem qjk {g:FuncId} {gf:Func} {args:Array Value} (hf:P.funcs[g]?=some gf) (hb:gf.body.isSome=true) (hn:(gf.name == "runtime.NumGoroutine")=false) :
  (callFunc g args).run P w=.ok (.enter g args) w:=by
 have hb':gf.body.isNone=false:=by cases h:gf.body<;>simp_all
 simp only[callFunc,Sem.run_bind,run_program,Result.andThen_ok,hf,hn,hb',qUW,if_false,Sem.run_pure]
theorem qAN (fr:Frame) (v:Value):fr.eval (.const v)=v:=rfl
theorem qti {g:FuncId} {gf:Func} {caps:Array Value} {f:Operand} (fr:Frame) (y:Value) (he:fr.eval f=.func (.func g) #[] caps) (hf:P.funcs[g]?=some gf) (hb:gf.body.isSome=true) (hn:(gf.name == "runtime.NumGoroutine")=false) :
  (do let d ←resolve fr.eval {callee:=.value f,args:=#[.const y],argTypes:=#[]} 0; invoke d.target d.args:Sem Next).run P w=.ok (.enter g (#[y]++caps)) w:=by
 have hcall:=fun(w:World) (args:Array Value)=>qjk (P:=P) (w:=w) (args:=args) hf hb hn
 simp[resolve,he,Deferred.ofValue,invoke,hcall,qAN]
def qbR (fn:FuncId) (tmps:Array Value) (params:Array Tmp) (as body:Code) (d:Nat):Loop:={state:=.ready,pending:=none,fn,tmps,params,assign:=as,body,defers:=d}
theorem qAO {f:Operand} {params:Array Tmp} {as body:Code} {g:FuncId} {gf:Func} {caps:Array Value}
  (he:(rfr fn tmps (.code (.rangeFunc f params as body)::k) ds none).eval f=.func (.func g) #[] caps) (hf:P.funcs[g]?=some gf) (hb:gf.body.isSome=true) (hn:(gf.name == "runtime.NumGoroutine")=false) :
  step P (lone (rfr fn tmps (.code (.rangeFunc f params as body)::k) ds none) cs w) =
   .next (lone (Frame.enter P g (#[.func (.yield (w.heap.size+1)) #[] #[]]++caps) .normal)
    (rfr fn tmps (.inRangeFunc (w.heap.size+1)::k) ({target:=.collected w.heap.size,args:=#[]}::ds) none::cs)
    ((w.alloc (.deferred (some []))).alloc (.loop (qbR fn tmps params as body w.heap.size)))):=by
 refine step_lone_go ?_;have he':∀(d:List Deferred) (t:List Item),(rfr fn tmps t d none).eval f=.func (.func g) #[] caps:=by
  intro d t; cases f<;>simp[rfr,Frame.eval]at he ⊢<;>exact he
 have hsem:=fun(d:List Deferred) (t:List Item) (w:World) (y:Value)=>qti (w:=w) (rfr fn tmps t d none) y (he' d t) hf hb hn
 simp only[rfr,Sem.run_bind]at hsem;simp only[stepG,stepG.exec,rfr,Instr.enterLoop,stepG.apply,Sem.runT_eq,Sem.run_bind,Sem.run_pure,run_newObj,Result.andThen_ok,World.alloc_eq,World.size_alloc,GStep.bare_after,qVA,qUR,qUG];simp[hsem,qbR]
theorem qAP {f:Operand} {params:Array Tmp} {as body:Code} {g:FuncId} {gf:Func} {caps:Array Value} {l:Nat} {L:Loop} (hl:w.heap[l]?=some (.loop L))
  (he:(rfr fn tmps (.code (.rangeFunc f params as body)::k) ds (some l)).eval f=.func (.func g) #[] caps) (hf:P.funcs[g]?=some gf) (hb:gf.body.isSome=true) (hn:(gf.name == "runtime.NumGoroutine")=false) :
  step P (lone (rfr fn tmps (.code (.rangeFunc f params as body)::k) ds (some l)) cs w) =
   .next (lone (Frame.enter P g (#[.func (.yield w.heap.size) #[] #[]]++caps) .normal)
    (rfr fn tmps (.inRangeFunc w.heap.size::k) ds (some l)::cs)
    (w.alloc (.loop (qbR fn tmps params as body L.defers)))):=by
 refine step_lone_go ?_;have he':∀(d:List Deferred) (t:List Item),(rfr fn tmps t d (some l)).eval f=.func (.func g) #[] caps:=by
  intro d t; cases f<;>simp[rfr,Frame.eval]at he ⊢<;>exact he
 have hsem:=fun(d:List Deferred) (t:List Item) (w:World) (y:Value)=>qti (w:=w) (rfr fn tmps t d (some l)) y (he' d t) hf hb hn
 have hgl:=qg8 (P:=P) hl;simp only[rfr,Sem.run_bind]at hsem;simp only[stepG,stepG.exec,rfr,Instr.enterLoop,stepG.apply,Sem.runT_eq,Sem.run_bind,Sem.run_pure,run_newObj,Result.andThen_ok,World.alloc_eq,World.size_alloc,GStep.bare_after,hgl,qUG];simp[hsem,qbR]
theorem qAQ {l:Nat} {L:Loop} {jump:Option Code} (hl:w.heap[l]?=some (.loop L)) :
  (Instr.endRound l jump).run P w=.ok (.bool jump.isNone) {w with heap:=w.heap.setIfInBounds l (.loop {L with state:=if jump.isNone then .ready else .done,pending:=jump})}:=by
 simp only[Instr.endRound,Sem.run_bind,qg8 hl,Result.andThen_ok,qeJ (P:=P) hl (by simp),Sem.run_pure]
theorem qAR {todo:List Item} {c:Frame} {l:Nat} {L:Loop} {jump:Option Code} (hl:w.heap[l]?=some (.loop L))
  (h:(todo=[]∧jump=none)∨(∃k,todo=.code .ret::k∧jump=some .ret)∨∃id k,todo=.code (.exit id)::k∧exitTo id k=none∧jump=some (.exit id)) :
  step P (lone (rfr fn tmps todo ds (some l)) (c::cs) w) =
   .next (lone (c.finish (.bool jump.isNone)) cs {w with heap:=w.heap.setIfInBounds l (.loop {L with state:=if jump.isNone then .ready else .done,pending:=jump})}):=by
 have hrun:=fun(j:Option Code)=>qAQ (P:=P) (jump:=j) hl
 rcases h with⟨rfl,rfl⟩|⟨k,rfl,rfl⟩|⟨id,k,rfl,he,rfl⟩
 ·exact step_lone_go (by simp[stepG,stepG.exec,rfr,hrun,doReturn])
 ·exact step_lone_go (by simp[stepG,stepG.exec,rfr,hrun,doReturn])
 ·exact step_lone_go (by simp[stepG,stepG.exec,rfr,hrun,doReturn,he])
theorem qAS {l:Nat} (v:Value):(rfr fn tmps (.inRangeFunc l::k) ds ro).finish v=rfr fn tmps (.endRangeFunc l::k) ds ro:=rfl
theorem qAT {l:Nat} {L:Loop} (hl:w.heap[l]?=some (.loop L)) (hs:L.state≠.busy) :
  step P (lone (rfr fn tmps (.endRangeFunc l::k) ds ro) cs w) =
   .next (lone (rfr fn tmps ((L.pending.map Item.code).toList++k) ds ro) cs {w with heap:=w.heap.setIfInBounds l (.loop {L with state:=.exhausted})}):=by
 have hb:(L.state==LoopState.busy)=false:=by simpa using hs
 have hrun:(Instr.endLoop l).run P w=.ok L.pending {w with heap:=w.heap.setIfInBounds l (.loop {L with state:=.exhausted})}:=by
  simp only[Instr.endLoop,Sem.run_bind,qg8 hl,Result.andThen_ok,hb,qUW,if_false,qeJ (P:=P) hl (by simp),Sem.run_pure]
 exact step_lone_go (by simp[stepG,stepG.exec,rfr,hrun])
theorem qAU {fr:Frame} {b:Nat} {rest:List Deferred} (hm:fr.mode=.returning) (hd:fr.defers={target:=.collected b,args:=#[]}::rest) (hb:w.heap[b]?=some (.deferred (some []))) :
  step P (lone fr cs w)=.next (lone {fr with defers:=rest} cs {w with heap:=w.heap.setIfInBounds b (.deferred none)}):=by
 have hrun:(Instr.takeDeferred b).run P w=.ok [] {w with heap:=w.heap.setIfInBounds b (.deferred none)}:=by
  simp only[Instr.takeDeferred,Sem.run_bind,qco (P:=P) hb (by simp),Result.andThen_ok,qeJ (P:=P) hb (by simp),Sem.run_pure]
 exact step_lone_go (by simp[stepG,hm,unwind,hd,hrun])
theorem qAV {todo:List Item} (h:todo=[]∨∃k,todo=.code .ret::k) :
  step P (lone (rfr fn tmps todo ds none) cs w)=.next (lone {rfr fn tmps todo ds none with mode:=.returning} cs w):=by
 rcases h with rfl|⟨k,rfl⟩<;>exact step_lone_go (by simp[stepG,stepG.exec,rfr])
end
end Go.Aev
end
noncomputable section
namespace Go.Aev
variable [Glob]
theorem qCi {ops:Array Oper} {n k:Nat} {L:List Nat} (hr:∀j∈Jj ops k,j∉L) (hk:k<n) (hdc:∀x,x<n→x∉L→∀j∈Jj ops x,j∉L) (hdn:∀k,k<n→∀j∈Jj ops k,j<n)
  {i:Nat} (hi:i∈L):¬Anc ops i k:=by
 have key:∀i k',Anc ops i k'→i∈L→k'<n→(k'∉L∨k'=k)→False:=by
  intro i k' h
  induction h with
  | one h =>
   intro hi hk' hor;rcases hor with h1|h1
   ·exact hdc _ hk' h1 _ h hi
   ·subst h1; exact hr _ h hi
  | more h _ ih =>
   intro hi hk' hor;refine ih hi (hdn _ hk' _ h) (.inl ?_);rcases hor with h1|h1
   ·exact hdc _ hk' h1 _ h
   ·subst h1; exact hr _ h
 exact fun h=>key i k h hi hk (.inr rfl)
theorem qa3.short {ops:Array Oper} {L σ:List Nat} (h:qa3 ops L σ):L.length≤1→σ=L:=by
 induction h with
 | nil=>intro _; rfl
 | cons k A B σ _ hs ih =>
  intro hl;have hA:A=[]:=by cases A with|nil=>rfl|cons a A=>simp at hl
  have hB:B=[]:=by cases B with|nil=>rfl|cons a B=>simp at hl; omega
  subst hA; subst hB;have:=ih (by simp);rw[this]; rfl
theorem qa3.split {ops:Array Oper} {n c:Nat} {L σ:List Nat} (h:qa3 ops L σ):∀{L1 rest:List Nat},L=L1++c::rest→(∀i∈L1,Anc ops i c)→(∀i∈rest,Anc ops c i)→rest.length≤1→(∀x∈L,x<n)→L.Nodup →
  (∀x,x<n→x∉L→∀j∈Jj ops x,j∉L)→(∀k,k<n→∀j∈Jj ops k,j<n)→∃σ1,σ=σ1++c::rest∧qa3 ops L1 σ1:=by
 induction h with
 | nil=>intro L1 rest e; simp at e
 | cons k A B σ hr hs ih =>
  intro L1 rest e h1 h2 h3 hlt hnd hdc hdn;have hkn:k<n:=hlt k (by simp);have hnot:∀i,i∈A++k::B→¬Anc ops i k:=fun i hi=>qCi hr hkn hdc hdn hi
  have hcL:c∈A++k::B:=by rw[e]; simp
  have hk:k∈L1++c::rest:=by rw[←e]; simp
  rcases qTH.1 hk with hk1|hk1
  ·obtain⟨A1,B1,hA1⟩:=List.append_of_mem hk1;subst hA1;rw[qTW,qUR]at e;have hkA:k∉A:=by
    rw[qVm]at hnd;exact fun h=>hnd.2.2 k h k (by simp) rfl
   have hnd':=hnd;rw[e]at hnd';have hkA1:k∉A1:=by
    rw[qVm]at hnd';exact fun h=>hnd'.2.2 k h k (by simp) rfl
   have hAA:A=A1∧B=B1++c::rest:=by
    have:=List.append_eq_append_iff.1 e;rcases this with⟨a,e1,e2⟩|⟨a,e1,e2⟩
    ·cases a with
     | nil=>simp at e1 e2; exact⟨e1.symm,e2⟩|cons y a=>simp at e2; obtain⟨rfl,_⟩:=e2; exact absurd (by rw[e1]; simp) hkA1
    ·cases a with
     | nil=>simp at e1 e2; exact⟨e1,e2.symm⟩|cons y a=>simp at e2; obtain⟨rfl,_⟩:=e2; exact absurd (by rw[e1]; simp) hkA
   obtain⟨rfl,rfl⟩:=hAA;obtain⟨σ1,e1,s1⟩:=ih (L1:=A++B1) (rest:=rest) (by simp) (fun i hi=>h1 i (by rcases qTH.1 hi with h|h<;>simp[h])) h2 h3
    (fun x hx=>hlt x (by rcases qTH.1 hx with h|h<;>simp[h]))
    (by
     rw[qVm]at hnd ⊢;exact⟨hnd.1,(qV2.1 hnd.2.1).2,fun a ha b hb=>hnd.2.2 a ha b (by simp[hb])⟩)
    (fun x hx hnx j hj hmem=>by
     have hmem':j∈A++k::(B1++c::rest):=(qTH.1 hmem).elim (fun h=>qTH.2 (.inl h)) (fun h=>qTH.2 (.inr (qTG _ h)))
     by_cases hxk:x=k
     ·subst hxk; exact hr j hj hmem'
     ·refine hdc x hx (fun h=>?_) j hj hmem';rcases qTH.1 h with h|h
      ·exact hnx (by simp[h])
      ·rcases qTD.1 h with h|h
       ·exact hxk h
       ·exact hnx (by rw[qTH]; exact .inr h)) hdn
   refine⟨k::σ1,by rw[e1]; rfl,?_⟩;refine .cons k A B1 σ1 (fun j hj hm=>hr j hj ?_) s1;rcases qTH.1 hm with h|h
   ·simp[h]
   ·rcases qTD.1 h with h|h
    ·simp[h]
    ·simp[h]
  ·rcases qTD.1 hk1 with hk2|hk2
   ·subst hk2;have hL1:L1=[]:=by
     cases L1 with
     | nil=>rfl|cons i L1=>exact absurd (h1 i (by simp)) (hnot i (by rw[e]; simp))
    subst hL1;have hAB:A=[]∧B=rest:=by
     cases A with
     | nil=>simp at e; exact⟨rfl,e⟩|cons a A =>
      simp at e;obtain⟨rfl,_⟩:=e;simp at hnd
    obtain⟨rfl,rfl⟩:=hAB;refine⟨[],?_,.nil⟩;simp only[qUG]at hs ⊢
    congr 1
    exact hs.short h3
   ·exact absurd (h2 k hk2) (hnot c hcL)
def qfY (c:Cfg) (ops:Array Oper) (k:Nat) (s:St):Option St :=
 if qeR ops&&decide (k<ops.size)&&decide (ops.size≤k+2)&&(List.range k).all (fun i=>((qbY ops ops.size).getD k []).contains i) &&
   (List.range' (k+1) (ops.size - (k+1))).all (fun i=>((qbY ops ops.size).getD i []).contains k)then
  match qbu c ops s.rows.length (List.range k) {s with rows:=s.rows++List.replicate ops.size .free}with
  | some (rs,s')=>if qfV (qbY ops k) s.rows.length rs then some s' else none
  | none=>none
 else none
theorem qj4 {n k:Nat} (h:k<n):List.range n=List.range k++k::List.range' (k+1) (n - (k+1)):=by
 rw[qVV,qVV,←qVU (s:=k) (n:=n - (k+1)) (step:=1)];have:n=k+(n - (k+1)+1):=by omega
 conv=>lhs; rw[this]
 rw[←List.range'_append_1];simp
inductive qT where
 | it (i:Item)
 | rf (r:Nat)
structure AF where
 fn:FuncId
 env:List V
 todo:List qT
 round:Option Nat
 marks:List Nat
 dcl:List (FuncId×List V):=[]
structure AS where
 fr:AF
 stack:List AF
 rows:Rows
inductive Out where
 | next (s:AS)
 | done (v:V) (rows:Rows)
 | fail
def qcz (id:Nat):List qT→Option (List qT)
 | .it (.inBlock id')::k=>if id'==id then some k else qcz id k
 | _::k=>qcz id k|[]=>none
def qeW (l:Nat):List qT→Option (List qT)
 | .it (.inScope body)::k=>match findLabel body l with
  | some rest=>some (.it (.code rest)::.it (.inScope body)::k)|none=>qeW l k
 | _::k=>qeW l k|[]=>none
def Js (env:List V) (dst:Option Nat) (v:V):List V :=
 match dst with
 | some d=>env.set d v|none=>env
def qhv (fr:AF) (v:V) (rows:Rows):Option (AF×Rows) :=
 match fr.todo with
 | .it (.inRegion ops (i::rest))::k=>match ops[i]? with
  | some o=>some ({fr with env:=Js fr.env o.dst v,todo:=.it (.inRegion ops rest)::k},rows)
  | none=>none
 | .rf r::k=>match qr rows r with
  | some (.loop st pend fn env ps as bd d)=>match st with
   | .busy=>none|_=>some ({fr with todo:=(pend.map fun c=>qT.it (.code c)).toList++k},qz rows r (.live (.loop .exhausted pend fn env ps as bd d)))
  | _=>none
 | _=>none
def qfZ:List Nat→Rows→Option Rows
 | [],rows=>some rows|r::rs,rows=>match qr rows r with
  | some .dfr=>qfZ rs (qz rows r .dead)|_=>none
structure DSt where
 env:List V
 ups:List (Nat×qd)
inductive DEx where
 | normal
 | ret
 | exit (id:Nat)
def qj5 (g:Nat→Option Row):List (Nat×qd)→Nat→Option Row
 | [],r=>g r|u::us,r=>qj5 (fun r=>if r=u.1 then(match u.2 with | .live row=>some row|_=>none)else g r) us r
def dOK:Op→Bool
 | .move _ | .assign _ | .pick _ _ _ | .load _ _ | .store _ _ _ | .nilCheck _ | .binOp _ _ _ _ _ | .unOp _ _ _ | .fieldAddr _ _ _ | .field _ _ _ | .extract _ _=>true|.call {callee:=.builtin .len,..}=>true|_=>false
def dOp (T:TypeId→Option Ty) (g:Nat→Option Row) (ops:Array Oper) (o:Oper) (s:DSt):Option DSt :=
 match qaK ops s.env o with
 | none=>none|some false=>some {s with env:=Js s.env o.dst V.undef}
 | some true=>match o.op with
  | .call ⟨.builtin .recover,_,_⟩=>some {s with env:=Js s.env o.dst (.d .nili)}
  | op=>if !dOK op then none else
   match YX s.env (qN op)with
    | some vs=>match act T (fun r=>if (vs.flatMap V.refs).contains r then qj5 g s.ups r else none) 0 op vs with
     | some ⟨v,us,none⟩=>if us.all (fun u=>(g u.1).isSome)then some {env:=Js s.env o.dst v,ups:=s.ups++us}else none
     | _=>none
    | none=>none
def qhw (T:TypeId→Option Ty) (g:Nat→Option Row) (ops:Array Oper):List Nat→DSt→Option DSt
 | [],s=>some s|i::l,s=>match ops[i]? with
  | some o=>match dOp T g ops o s with
   | some s'=>qhw T g ops l s'|none=>none
  | none=>none
def JW (T:TypeId→Option Ty) (g:Nat→Option Row):Code→DSt→Option (DEx×DSt)
 | .skip,s=>some (.normal,s)|.ret,s=>some (.ret,s)|.exit id,s=>some (.exit id,s)|.seq a b,s=>match JW T g a s with
  | some (.normal,s')=>JW T g b s'|r=>r
 | .cond o x y,s=>match Y2 s.env o with
  | some (.d (.bool true))=>JW T g x s|some (.d (.bool false))=>JW T g y s|_=>none
 | .block id b,s=>match JW T g b s with
  | some (.exit id',s')=>if id'=id then some (.normal,s')else none
  | r=>r
 | .region _ ops false,s=>match qhw T g ops (List.range ops.size) s with
  | some s'=>some (.normal,s')|none=>none
 | _,_=>none
def qj6 (c:Cfg) (g:Nat→Option Row) (f:FuncId) (args:List V):Option (List (Nat×qd)) :=
 match c.F f with
 | some gf=>match gf.body with
  | some b=>if gf.results.isEmpty then match JW c.T g b {env:=args++List.replicate (gf.ntmps - args.length) V.undef,ups:=[]}with
   | some (.normal,s)=>some s.ups|some (.ret,s)=>some s.ups|_=>none else none
  | none=>none
 | none=>none
def qf0 (c:Cfg):List (FuncId×List V)→Rows→Option Rows
 | [],rows=>some rows|d::ds,rows=>match qj6 c (qr rows) d.1 d.2 with
  | some us=>qf0 c ds (qE us rows)|none=>none
def qdd (T:TypeId→Option Ty) (rows:Rows) (env:List V):List ResultVar→Option (List V)
 | []=>some []|.tmp t::r=>match qeA (env.getD t V.undef),qdd T rows env r with
  | some v,some l=>some (v::l)|_,_=>none
 | .cell a t::r=>match (qeA (env.getD a V.undef)).bind (qa0 T (qr rows) t),qdd T rows env r with
  | some v,some l=>some (v::l)|_,_=>none
def qj7 (l:List V):V :=
 match l with
 | [v]=>v|l=>.tup l
def qf1 (stack:List AF) (v:V) (rows:Rows):Out :=
 match stack with
 | []=>.done v rows|caller::st=>match qhv caller v rows with
  | some (fr,rows)=>.next {fr,stack:=st,rows}|none=>.fail
def qhx (c:Cfg) (s:AS) (jump:Option Code):Out :=
 match s.fr.round with
 | none=>match jump with
  | none|some .ret=>match c.F s.fr.fn,(qfZ s.fr.marks s.rows).bind (qf0 c s.fr.dcl)with
   | some gf,some rows=>match qdd c.T rows s.fr.env gf.results.toList with
    | some vs=>qf1 s.stack (qj7 vs) rows|none=>.fail
   | _,_=>.fail
  | _=>.fail
 | some r=>match qr s.rows r with
  | some (.loop _ _ fn env ps as bd d)=>match s.stack with
   | []=>.fail|caller::st=>qf1 (caller::st) (.d (.bool jump.isNone)) (qz s.rows r (.live (.loop (if jump.isNone then .ready else .done) jump fn env ps as bd d)))
  | _=>.fail
def Jd (c:Cfg) (g:FuncId) (args:List V):Option AF :=
 match c.F g with
 | some gf=>match gf.body with
  | some b=>some {fn:=g,env:=args++List.replicate (gf.ntmps - args.length) V.undef,todo:=[.it (.code b)],round:=none,marks:=[]}|none=>none
 | none=>none
def qhy (env:List V):List Tmp→List V→List V
 | p::ps,v::vs=>qhy (env.set p v) ps vs|_,_=>env
def toA (s:AS) (k:List qT):Out:=.next {s with fr:={s.fr with todo:=k}}
def qoy (c:Cfg) (look:Nat→Option Row) (t:TypeId) (v:V) (name:String):Option (FuncId×V) :=
 match c.P.info? t,c.T t with
 | some i,some y=>match i.methods.find? (·.name==name)with
  | some ⟨_,_,⟨[]⟩,some (f,pr)⟩=>match y.desc,pr with
   | .pointer _,true=>some (f,v)|.pointer e,false=>(qa0 c.T look e v).map fun x=>(f,x)
   | _,_=>none
  | _=>none
 | _,_=>none
def quw (c:Cfg) (s:AS) (o:Op) (vs:List V):Out :=
 match o with
 | .call ⟨.invoke recv name,_,_⟩=>match Y2 s.fr.env recv with
  | some (.ifc t v)=>match qoy c (qr s.rows) t v name with
   | some (g,rv)=>match Jd c g (rv::vs)with
    | some fr=>.next {fr,stack:=s.fr::s.stack,rows:=s.rows}|none=>.fail
   | none=>.fail
  | _=>.fail
 | _=>.fail
def qux (s:AS) (o:Oper) (k:List qT):Out :=
 match o.op with
 | .defer ⟨.value f,as,_⟩=>match Y2 s.fr.env f,YX s.fr.env as.toList with
  | some fv,some vs=>match qct fv vs with
   | some ga=>if s.fr.round.isNone&&s.fr.marks.isEmpty then .next {s with fr:={s.fr with env:=Js s.fr.env o.dst V.undef,todo:=k,dcl:=ga::s.fr.dcl}}else .fail
   | none=>.fail
  | _,_=>.fail
 | _=>.fail
def qoz (T:TypeId→Option Ty) (look:Nat→Option Row) (o:Op) (vs:List V):Option V :=
 match o,vs with
 | .call ⟨.builtin .len,_,⟨[t]⟩⟩,[.mp r]=>match look r,T t with
  | some (.map es _ _),some y=>match y.desc with
   | .map _ _=>some (.d (.int .i64 es.length))|_=>none
  | _,_=>none
 | _,_=>none
def qb0 (c:Cfg) (s:AS) (ops:Array Oper) (i:Nat) (rest:List Nat) (k:List qT):Out :=
 match ops[i]? with
 | none=>.fail|some o=>match qaK ops s.fr.env o with
  | none=>.fail|some false=>.next {s with fr:={s.fr with env:=Js s.fr.env o.dst V.undef,todo:=.it (.inRegion ops rest)::k}}
  | some true=>match qa2 o.op with
   | some (f,args)=>match Y2 s.fr.env f,YX s.fr.env args with
    | some (.yl r),some vs=>match qr s.rows r with
     | some (.loop _ _ fn env ps as bd _) =>
      if ps.length=vs.length then
       .next {fr:={fn,env:=qhy env ps vs,todo:=[.it (.code as),.it .beginRound,.it (.code bd)],round:=some r,marks:=[]},stack:=s.fr::s.stack,rows:=s.rows}
      else .fail
     | _=>.fail
    | some fv,some vs=>match qct fv vs with
     | some (g,as) =>
      if c.po g&&c.rc g then
       match qcs c s.rows.length g as s.rows with
       | some res=>.next {s with fr:={s.fr with env:=Js s.fr.env o.dst res.v,todo:=.it (.inRegion ops rest)::k},rows:=qaf s.rows.length res s.rows}
       | none=>.fail
      else match Jd c g as with
       | some fr=>.next {fr,stack:=s.fr::s.stack,rows:=s.rows}|none=>.fail
     | none=>.fail
    | _,_=>.fail
   | none=>match YX s.fr.env (qN o.op)with
    | some vs=>match act c.T (qag s.rows vs) s.rows.length o.op vs with
     | some res=>.next {s with fr:={s.fr with env:=Js s.fr.env o.dst res.v,todo:=.it (.inRegion ops rest)::k},rows:=qaf s.rows.length res s.rows}
     | none=>match qoz c.T (qr s.rows) o.op vs with
      | some v=>.next {s with fr:={s.fr with env:=Js s.fr.env o.dst v,todo:=.it (.inRegion ops rest)::k}}
      | none=>match o.op with
       | .defer _=>qux s o (.it (.inRegion ops rest)::k)|_=>quw c s o.op vs
    | none=>.fail
def qoA (c : Cfg) (s : AS) (f : Operand) (params : Array Tmp) (as body : Code) (k : List qT) : Out :=
  match Y2 s.fr.env f with
  | some (.fn g caps) => match s.fr.round with
    | none =>
      let d := s.rows.length
      match Jd c g (.yl (d+1)::caps)with
      | some fr => .next {fr, stack := {s.fr with todo := .rf (d+1)::k, marks := d::s.fr.marks}::s.stack,
                           rows := (s.rows++[.live .dfr])++[.live (.loop .ready none s.fr.fn s.fr.env params.toList as body d)]}
      | none => .fail
    | some r => match qr s.rows r with
      | some (.loop _ _ _ _ _ _ _ d) =>
        let l := s.rows.length
        match Jd c g (.yl l::caps)with
        | some fr => .next {fr, stack := {s.fr with todo := .rf l::k}::s.stack, rows := s.rows++[.live (.loop .ready none s.fr.fn s.fr.env params.toList as body d)]}
        | none => .fail
      | _ => .fail
  | _ => .fail
def qj8:qd→Bool
 | .free=>true|_=>false
def qf2 (rows:Rows):Rows:=(rows.reverse.dropWhile qj8).reverse
def qf3 (c:Cfg) (ops:Array Oper) (s:St):Option St :=
 if qeR ops then
  match qbu c ops s.rows.length (List.range ops.size) {s with rows:=s.rows++List.replicate ops.size .free}with
  | some (rs,s')=>if qfV (qbY ops ops.size) s.rows.length rs then some {s' with rows:=qf2 s'.rows}else none
  | none=>none
 else none
def quy (look:Nat→Option Row) (rs:List Rec):List Nat :=
 (rs.flatMap (·.ups)).filterMap fun u=>match u.2,look u.1 with
  | .live row',some row=>if row.rw&&!row'.rw then some u.1 else none
  | _,_=>none
def qoB (c:Cfg) (ops:Array Oper) (s:St):Option St :=
 match qbu c ops s.rows.length (List.range ops.size) {s with rows:=s.rows++List.replicate ops.size .free}with
 | some (rs,_)=>qf3 c ops {s with rows:=qE (JI s.rows (quy (qr s.rows) rs)) s.rows}
 | none=>none
def qbw (ops:Array Oper):Nat :=
 match ops[ops.size - 1]? with
 | some o=>if (qa2 o.op).isSome then ops.size - 1 else ops.size - 2
 | none=>0
def qcA (c:Cfg) (s:AS):Out :=
 match s.fr.todo with
 | []=>qhx c s none|.rf _::_=>.fail|.it i::k=>match i with
  | .code cd=>match cd with
   | .ret=>qhx c s (some .ret)|.skip=>toA s k|.label _=>toA s k|.seq a b=>toA s (.it (.code a)::.it (.code b)::k)|.cond o x y=>match Y2 s.fr.env o with
    | some (.d (.bool b))=>toA s (.it (.code (if b then x else y))::k)
    | _=>.fail
   | .block id b=>toA s (.it (.code b)::.it (.inBlock id)::k)|.loop b=>toA s (.it (.code b)::.it (.inLoop b)::k)|.scope b=>toA s (.it (.code b)::.it (.inScope b)::k)|.exit id=>match qcz id k with
    | some k'=>toA s k'|none=>match s.fr.round with
     | some _=>qhx c s (some (.exit id))|none=>.fail
   | .goto l=>match qeW l k with
    | some k'=>toA s k'|none=>.fail
   | .region _ ops false=>toA s (.it (.inRegion ops (List.range ops.size))::k)|.region _ ops true=>match qf3 c ops {env:=s.fr.env,rows:=s.rows}with
    | some st=>.next {s with fr:={s.fr with env:=st.env,todo:=k},rows:=st.rows}
    | none=>match qfY c ops (qbw ops) {env:=s.fr.env,rows:=s.rows}with
     | some st=>.next {s with fr:={s.fr with env:=st.env,todo:=.it (.inRegion ops (qbw ops::List.range' (qbw ops+1) (ops.size - (qbw ops+1))))::k},rows:=st.rows}
     | none=>match qoB c ops {env:=s.fr.env,rows:=s.rows}with
      | some st=>.next {s with fr:={s.fr with env:=st.env,todo:=k},rows:=st.rows}
      | none=>.fail
   | .rangeFunc f params as body=>qoA c s f params as body k|.refuse _=>.fail
  | .inBlock _=>toA s k|.inScope _=>toA s k|.inLoop b=>toA s (.it (.code b)::.it (.inLoop b)::k)|.inRegion ops []=>toA s k|.inRegion ops (i::rest)=>qb0 c s ops i rest k|.beginRound=>match s.fr.round with
   | some r=>match qr s.rows r with
    | some (.loop .ready pend fn env ps as bd d)=>.next {s with fr:={s.fr with todo:=k},rows:=qz s.rows r (.live (.loop .busy pend fn env ps as bd d))}
    | _=>.fail
   | none=>.fail
  | _=>.fail
def qde (c:Cfg):Nat→AS→Out
 | 0,s=>.next s|n+1,s=>match qcA c s with
  | .next s'=>qde c n s'|o=>o
end Go.Aev
end
section
namespace Go.Aev
variable [Glob]
theorem qc2 {rows:Rows} {r:Nat} {row:Row} (h:qr rows r=some row):rows[r]?=some (qd.live row):=by
 unfold qr at h;split at h
 ·rename_i q hq; cases h; exact hq
 ·cases h
section
variable {m:Mp} {S:Nat→Prop} {w:World}
theorem qBl {mT:Mp} {f:Nat→Option Nat} (hf:∀r j,f r=some j→mT j=m r) {x:V} {v:Value} (h:RE m S w x v):RE mT S w (qob f x) v:=by
 unfold qob
 cases hr:qC f 8 x with
 | none=>exact .inl rfl|some y =>
  rcases h with rfl|h
  ·simp only[qC]at hr; cases hr
  ·exact .inr (qcW hf hr h)
theorem qjv {mT:Mp} {f:Nat→Option Nat} (hf:∀r j,f r=some j→mT j=m r) {b o:Nat} {row row':Row} (h:qJ f (some row)=some (.live row')) (hr:Yv m S w b o row):Yv mT S w b o row'∧row'.rw=row.rw:=by
 cases row with
 | dat k es ro=>simp only[qJ]at h; cases h; exact⟨hr,rfl⟩
 | box cs ro =>
  simp only[qJ,qTP]at h;obtain⟨xs,hx,h⟩:=h;cases h;obtain⟨c,e,h1,h2⟩:=hr;refine⟨⟨c,e,h1,fun j x hj=>?_⟩,rfl⟩;obtain⟨y,hy,hren⟩:=Y6 hx hj;obtain⟨v,hv,hrel⟩:=h2 j y hy;exact⟨v,hv,qcW hf hren hrel⟩
 | map es clock ro =>
  simp only[qJ,qTP]at h;obtain⟨xs,hx,h⟩:=h;cases h;obtain⟨ents,h1,h2,hbn,h3⟩:=hr;refine⟨⟨ents,h1,by rw[JS hx]; exact h2,⟨by rw[JS hx]; exact hbn.1,hbn.2⟩,fun j e x hj he=>?_⟩,rfl⟩;obtain⟨y,hy,hren⟩:=Y6 hx hj;simp only[qTP]at hren;obtain⟨z,hz,rfl⟩:=hren;obtain⟨k1,k2⟩:=h3 j y x hy he;exact⟨k1,qcW hf hz k2⟩
 | loop st pend fn env params assign body dfr =>
  simp only[qJ]at h;split at h
  ·rename_i d' hd;cases h;obtain⟨L,h1,h2,h3,h4,h5,h6,h7,h8,o',h9⟩:=hr;refine⟨⟨L,h1,h2,h3,h4,⟨by rw[qTS]; exact h5.1,fun j x v hx hv=>?_⟩,h6,h7,h8,o',(hf _ _ hd).trans h9⟩,rfl⟩;rw[qT3,qTP]at hx;obtain⟨y,hy,rfl⟩:=hx;exact qBl hf (h5.2 j y v hy hv)
  ·cases h
 | dfr=>simp only[qJ]at h; cases h; exact⟨hr,rfl⟩
 | iter _ _=>simp only[qJ]at h; cases h
theorem qtJ {rs:List Nat} {b o:Nat} {row row':Row} (h:qJ (fun r=>Yk r rs 0) (some row)=some (.live row')) (hr:Yv m S w b o row):Yv (Yd m rs) S w b o row'∧row'.rw=row.rw :=
 qjv (fun _ _ hj=>qsT hj) h hr
theorem qn0 {l:List Nat} (h:l.eraseDups.length=l.length):∀(i j x:Nat),l[i]?=some x→l[j]?=some x→i=j:=by
 have hnd:l.Nodup:=by
  induction l with
  | nil=>exact List.nodup_nil|cons a l ih =>
   rw[List.eraseDups_cons]at h;have h1:(l.filter fun b=>!b==a).eraseDups.length≤(l.filter fun b=>!b==a).length:=by
    have:∀(n:Nat) (l:List Nat),l.length≤n→l.eraseDups.length≤l.length:=by
     intro n
     induction n with
     | zero=>intro l hl; have:l=[]:=qVS.1 (by omega); subst this; simp
     | succ n ih =>
      intro l hl
      cases l with
      | nil=>simp|cons a l =>
       rw[List.eraseDups_cons];have h2:=qVD (fun b=>!b==a) l;have h3:=ih (l.filter fun b=>!b==a) (by simp at hl; omega);simp only[qT9];omega
    exact this _ _ (qTF _)
   have h2:=qVD (fun b=>!b==a) l;simp only[qT9]at h;have h3:(l.filter fun b=>!b==a).length=l.length:=by omega
   have h4:=qVc.2 (qWA.1 h3);have h5:=qWA.1 h3;rw[h4]at h;rw[qV2];refine⟨fun ha=>?_,ih (by omega)⟩;have:=h5 a ha;simp at this
 intro i j x hi hj;have h1:=qL hi;have h2:=qL hj;rw[qTE h1]at hi;rw[qTE h2]at hj;have e:l[i]=l[j]:=by
  injection hi with hi; injection hj with hj; rw[hi,hj]
 have hp:=qWB.1 hnd;rcases qVX i j with h|h|h
 ·exact absurd e (hp i j h1 h2 h)
 ·exact h
 ·exact absurd e.symm (hp j i h2 h1 h)
theorem qhd {w0:World} {own:Own} {rows rows':Rows} {rs:List Nat} (inv:Inv w0 own m S w rows) (hrs:rs.eraseDups.length=rs.length)
  (h:qQ (fun r=>qJ (fun r=>Yk r rs 0) (qr rows r)) rs=some rows'):Inv w0 own (Yd m rs) S w rows':=by
 have live:∀(i:Nat) (row':Row),rows'[i]?=some (qd.live row')→∃r row b o,rs[i]?=some r∧rows[r]?=some (qd.live row)∧m r=some (b,o)∧row'.rw=row.rw∧Yv (Yd m rs) S w b o row':=by
  intro i row' hi;obtain⟨r,hr,hren⟩:=Y6 h hi
  cases hl:qr rows r with
  | none=>rw[hl]at hren; simp only[qJ]at hren; cases hren
  | some row =>
   rw[hl]at hren;have hrow:=qc2 hl;obtain⟨b,o,hm,hrel⟩:=inv.row r row hrow;obtain⟨k1,k2⟩:=qtJ hren hrel;exact⟨r,row,b,o,hr,hrow,hm,k2,k1⟩
 have mget:∀{i:Nat} {p:Nat×Nat},Yd m rs i=some p→∃r,rs[i]?=some r∧m r=some p:=by
  intro i p hi;unfold Yd at hi
  cases hr:rs[i]? with
  | none=>rw[hr]at hi; cases hi
  | some r=>rw[hr]at hi; exact⟨r,rfl,hi⟩
 refine⟨fun i hi=>?_,fun i hi=>?_,fun i row hi=>?_,fun i b o hi=>?_,fun i row b o h1 hw hm=>?_,fun i i' row row' b o b' o' hne h1 h2 hw hm hm'=>?_,fun i row b o h1 hw hm=>?_,
  fun i row b o h1 hw hm=>?_,inv.sbnd,inv.base,inv.stb,inv.os,inv.tape,inv.output,inv.grow,inv.kept,inv.glb⟩
 ·rw[JS h]at hi;simp[Yd,hi]
 ·obtain⟨r,hr,hren⟩:=Y6 h hi;unfold qJ at hren;split at hren
  ·cases hren
  ·rw[qTP]at hren; obtain⟨_,_,hq⟩:=hren; cases hq
  ·rw[qTP]at hren; obtain⟨_,_,hq⟩:=hren; cases hq
  ·split at hren<;>cases hren
  ·cases hren
  ·cases hren
 ·obtain⟨r,row0,b,o,e1,e2,e3,_,e4⟩:=live i row hi;exact⟨b,o,by simp[Yd,e1,e3],e4⟩
 ·obtain⟨r,_,hm⟩:=mget hi;exact inv.bnd r b o hm
 ·obtain⟨r,row0,b0,o0,e1,e2,e3,e5,_⟩:=live i row h1;obtain⟨r',q1,q2⟩:=mget hm;rw[e1]at q1; cases q1;exact inv.new r row0 b o e2 (by rw[←e5]; exact hw) q2
 ·obtain⟨r,row0,_,_,e1,e2,_,e5,_⟩:=live i row h1;obtain⟨r',row1,_,_,f1,f2,_,_,_⟩:=live i' row' h2;obtain⟨q,q1,q2⟩:=mget hm;rw[e1]at q1; cases q1;obtain⟨q',q3,q4⟩:=mget hm';rw[f1]at q3; cases q3;exact inv.apart r r' row0 row1 b o b' o' (fun e=>hne (qn0 hrs i i' r e1 (by rw[f1,e]))) e2 f2 (by rw[←e5]; exact hw) q2 q4
 ·obtain⟨r,row0,_,_,e1,e2,_,e5,_⟩:=live i row h1;obtain⟨q,q1,q2⟩:=mget hm;rw[e1]at q1; cases q1;exact inv.stab r row0 b o e2 (by rw[←e5]; exact hw) q2
 ·obtain⟨r,row0,_,_,e1,e2,_,e5,_⟩:=live i row h1;obtain⟨q,q1,q2⟩:=mget hm;rw[e1]at q1; cases q1;exact inv.rost r row0 b o e2 (by rw[←e5]; exact hw) q2
end
def qS (P:Program) (g:FuncId) (k:Nat) (args:List V) (rows:Rows) (R:V→Rows→Prop):Prop :=
 ∀(w0:World) (own:Own) (m:Mp) (S:Nat→Prop) (w:World) (vs:Array Value),Inv w0 own m S w rows→RVs m S w args vs →
  Calls P g vs w fun e w'=>∃u v rows',e=.returned u∧R v rows'∧∃m' S',Inv w0 own m' S' w' rows'∧RV m' S' w' v u∧(∀r,r<k→∀p,m r=some p→m' r=some p)∧(∀b,qZ w b≤qZ w' b)
def JT (rs:List Nat):Nat→Rows→Rows→Option Rows
 | _,[],rows=>some rows|i,x::l,rows=>match rs[i]? with
  | none=>some rows|some r=>match x with
   | .live row=>match qJ (fun j=>rs[j]?) (some row)with
    | some (.live row')=>JT rs (i+1) l (rows.set r (.live row'))|_=>none
   | _=>JT rs (i+1) l (rows.set r .dead)
theorem qn1 {rs:List Nat}:∀{l:Rows} {i:Nat} {rows rows':Rows},JT rs i l rows=some rows'→(∀(a b r:Nat),rs[a]?=some r→rs[b]?=some r→a=b) →
  rows'.length=rows.length∧∀(q:Nat),(∀j,i≤j→j<i+l.length→rs[j]?≠some q)→rows'[q]?=rows[q]?
 | [],i,rows,rows',h,_=>by cases h; exact⟨rfl,fun q _=>rfl⟩
 | x::l,i,rows,rows',h,hn=>by
  simp only[JT]at h
  cases hr:rs[i]? with
  | none=>rw[hr]at h; cases h; exact⟨rfl,fun q _=>rfl⟩
  | some r =>
   rw[hr]at h;have key:∀(s:qd),JT rs (i+1) l (rows.set r s)=some rows'→rows'.length=rows.length∧∀(q:Nat),(∀j,i≤j→j<i+(x::l).length→rs[j]?≠some q)→rows'[q]?=rows[q]?:=by
    intro s hs;obtain⟨h1,h2⟩:=qn1 hs hn;refine⟨by rw[h1,qUI],fun q hq=>?_⟩;rw[h2 q (fun j hj hj'=>hq j (by omega) (by simp; omega)),qUF (fun e=>hq i (qTF _) (by simp) (by rw[hr,e]))]
   simp only at h
   cases x with
   | live row =>
    simp only at h;split at h
    ·exact key _ h
    ·cases h
   | free=>exact key _ h|dead=>exact key _ h
theorem qjw {rs:List Nat}:∀{l:Rows} {i:Nat} {rows rows':Rows},JT rs i l rows=some rows'→(∀(a b r:Nat),rs[a]?=some r→rs[b]?=some r→a=b)→(∀(a r:Nat),rs[a]?=some r→r<rows.length) →
  ∀(j r:Nat) (x:qd),l[j]?=some x→rs[i+j]?=some r→rows'[r]?=some (match x with | .live row=>(match qJ (fun j=>rs[j]?) (some row)with|some y=>y|none=>.dead) | _=>.dead)∧(∀row,x=.live row→∃row',qJ (fun j=>rs[j]?) (some row)=some (.live row'))
 | [],i,rows,rows',h,_,_,j,r,x,hx,_=>by simp at hx
 | y::l,i,rows,rows',h,hn,hb,j,r,x,hx,hr=>by
  simp only[JT]at h
  cases j with
  | succ j =>
   simp only[qUx]at hx;have hr':rs[i+1+j]?=some r:=by rw[←hr]; congr 1; omega
   cases hi:rs[i]? with
   | none =>
    have h1:=qL hr;rw[qWC]at hi;omega
   | some r0 =>
    rw[hi]at h;simp only at h
    cases y with
    | live row =>
     simp only at h;split at h
     ·exact qjw h hn (fun a r h=>by rw[qUI]; exact hb a r h) j r x hx hr'
     ·cases h
    | free=>exact qjw h hn (fun a r h=>by rw[qUI]; exact hb a r h) j r x hx hr'
    | dead=>exact qjw h hn (fun a r h=>by rw[qUI]; exact hb a r h) j r x hx hr'
  | zero =>
   simp at hx; subst hx;rw[qUQ]at hr;rw[hr]at h;have fin:∀(s:qd),JT rs (i+1) l (rows.set r s)=some rows'→rows'[r]?=some s:=by
    intro s hs;rw[(qn1 hs hn).2 r (fun j hj _ he=>by have:=hn j i r he hr; omega),qUV (hb i r hr)]
   simp only at h
   cases y with
   | live row =>
    simp only at h;split at h
    ·rename_i row' hm;refine⟨?_,fun row2 e=>?_⟩
     ·rw[fin _ h]; simp only[hm]
     ·cases e; exact⟨row',hm⟩
    ·cases h
   | free=>exact⟨fin _ h,fun row e=>by cases e⟩
   | dead=>exact⟨fin _ h,fun row e=>by cases e⟩
variable {w0:World} {own:Own} {m:Mp} {S:Nat→Prop} {w:World} {rows:Rows}
def qao (m:Mp) (S:Nat→Prop) (rows:Rows) (rs:List Nat):Own:=⟨fun b=>∃r row o,r∈rs∧rows[r]?=some (qd.live row)∧row.rw=true∧m r=some (b,o),S⟩
theorem qn2 (inv:Inv w0 own m S w rows) {rs:List Nat} {rows':Rows} (hrs:rs.eraseDups.length=rs.length)
  (h:qQ (fun r=>qJ (fun r=>Yk r rs 0) (qr rows r)) rs=some rows'):Inv w (qao m S rows rs) (Yd m rs) S w rows':=by
 have i1:=qhd inv hrs h;refine⟨i1.none,i1.fre,i1.row,i1.bnd,fun i row b o h1 hw hm=>?_,i1.apart,i1.stab,i1.rost,i1.sbnd,fun b hb=>.inl hb,fun b hb=>hb,rfl,rfl,rfl,qTF _,fun _ _ _=>rfl,i1.glb⟩;obtain⟨r,hr,hren⟩:=Y6 h h1
 cases hl:qr rows r with
 | none=>rw[hl]at hren; simp only[qJ]at hren; cases hren
 | some row0 =>
  rw[hl]at hren;have hrow:=qc2 hl;obtain⟨b0,o0,hm0,hrel⟩:=inv.row r row0 hrow;obtain⟨_,k2⟩:=qtJ hren hrel;have:Yd m rs i=m r:=by simp[Yd,hr]
  rw[this]at hm;exact .inr ⟨r,row0,o,qUi hr,hrow,by rw[←k2]; exact hw,hm⟩
theorem qBm (inv:Inv w0 own m S w rows) {rs:List Nat} {Yt rows2 rows3:Rows} (hrs:rs.eraseDups.length=rs.length)
  (h:qQ (fun r=>qJ (fun r=>Yk r rs 0) (qr rows r)) rs=some Yt) (hlive:Yt.all qhj=true) {m':Mp} {S':Nat→Prop} {w':World}
  (i2:Inv w (qao m S rows rs) m' S' w' rows2) (hm':∀r,r<rs.length→∀p,Yd m rs r=some p→m' r=some p) (hsz:∀b,qZ w b≤qZ w' b) (hb:JT rs 0 rows2 rows=some rows3) :
  Inv w0 own m S' w' rows3∧Ext m S w m S' w'∧∀j r,rs[j]?=some r→m r=m' j:=by
 have hnd:=qn0 hrs;have hlen:=JS h;have old:∀j r,rs[j]?=some r→∃row b o,rows[r]?=some (qd.live row)∧m r=some (b,o)∧m' j=some (b,o):=by
  intro j r hr;have hj:=qL hr;have hjc:j<Yt.length:=by omega
  have hlv:=(qTI.1 hlive) Yt[j] (qTL hjc);obtain⟨r2,hr2,hren⟩:=Y6 h (qTE hjc);rw[hr]at hr2; cases hr2
  cases hl:qr rows r with
  | none=>rw[hl]at hren; simp only[qJ]at hren; injection hren with he; rw[←he]at hlv; cases hlv
  | some row =>
   have hrow:=qc2 hl;obtain⟨b,o,hm,_⟩:=inv.row r row hrow;exact⟨row,b,o,hrow,hm,hm' j hj (b,o) (by simp[Yd,hr,hm])⟩
 have hback:∀j r,rs[j]?=some r→m r=m' j:=by
  intro j r hr;obtain⟨row,b,o,_,h1,h2⟩:=old j r hr;rw[h1,h2]
 have hbnd:∀(a r:Nat),rs[a]?=some r→r<rows.length:=fun a r hr=>by
  obtain⟨row,_,_,h1,_⟩:=old a r hr;exact qL h1
 obtain⟨hl3,hoth⟩:=qn1 hb hnd;have ownOK:∀b,(qao m S rows rs) b→w0.heap.size≤b∨own b:=fun b ⟨r,row,o,_,h1,h2,h3⟩=>inv.new r row b o h1 h2 h3
 have ownS:∀b,(qao m S rows rs) b→¬S b:=fun b ⟨r,row,o,_,h1,h2,h3⟩=>inv.stab r row b o h1 h2 h3
 have heapS:∀b,b<w.heap.size→¬(qao m S rows rs) b→w'.heap[b]?=w.heap[b]?:=i2.kept;have ext:Ext m S w m S' w':=⟨fun _ _ e=>e,fun b hb=>i2.stb b hb,fun b hb=>heapS b (inv.sbnd b hb) (fun hc=>ownS b hc hb),hsz⟩
 have notIn:∀q,(∀j,0≤j→j<0+rows2.length→rs[j]?≠some q)∨∃j,j<rows2.length∧rs[j]?=some q:=by
  intro q
  by_cases hq:∃j,j<rows2.length∧rs[j]?=some q
  ·exact .inr hq
  ·exact .inl fun j _ hj e=>hq ⟨j,by omega,e⟩
 have cases3:∀(q:Nat) (x:qd),rows3[q]?=some x→(rows[q]?=some x∧∀j,j<rows2.length→rs[j]?≠some q) ∨
   ∃(j:Nat) (y:qd),rs[j]?=some q∧rows2[j]?=some y∧((∃row row',y=qd.live row∧qJ (fun j=>rs[j]?) (some row)=some (qd.live row')∧x=qd.live row')∨((∀row,y≠qd.live row)∧x=qd.dead)):=by
  intro q x hx;rcases notIn q with h1|⟨j,hj,hq⟩
  ·left;rw[hoth q h1]at hx;exact⟨hx,fun j hj=>h1 j (qVB _) (by omega)⟩
  ·right;have hy:rows2[j]?=some rows2[j]:=qTE hj;obtain⟨e1,e2⟩:=qjw hb hnd hbnd j q rows2[j] hy (by rw[qT6]; exact hq);refine⟨j,rows2[j],hq,hy,?_⟩;rw[e1]at hx
   cases hyc:rows2[j]with
   | live row =>
    obtain⟨row',hr'⟩:=e2 row hyc;rw[hyc]at hx;simp only[hr']at hx;cases hx;exact .inl ⟨row,row',rfl,hr',rfl⟩
   | free=>rw[hyc]at hx; cases hx; exact .inr ⟨fun row e=>(by cases e),rfl⟩
   | dead=>rw[hyc]at hx; cases hx; exact .inr ⟨fun row e=>(by cases e),rfl⟩
 have notOwn:∀q row b o,rows[q]?=some (qd.live row)→m q=some (b,o)→(∀j,j<rs.length→rs[j]?≠some q)→¬(qao m S rows rs) b:=by
  intro q row b o hq hm hn ⟨r,row2,o2,hr,h1,h2,h3⟩;obtain⟨j,hj⟩:=qUS hr;have hne:r≠q:=fun e=>hn j (qL hj) (by rw[hj,e])
  exact inv.apart r q row2 row b o2 b o hne h1 hq h2 h3 hm rfl
 have hlen2:rs.length≤rows2.length∨∃j,rows2.length≤j∧j<rs.length:=by
  rcases qTQ rows2.length rs.length with h1|h1
  ·exact .inr ⟨rows2.length,qTF _,h1⟩
  ·exact .inl h1
 have full:rs.length≤rows2.length:=by
  rcases hlen2 with h1|⟨j,h1,h2⟩
  ·exact h1
  ·obtain⟨_,b,o,_,_,h3⟩:=old j rs[j] (qTE h2);rw[i2.none j h1]at h3; cases h3
 have hmove:∀(b o:Nat) (row row':Row),qJ (fun j=>rs[j]?) (some row)=some (.live row')→Yv m' S' w' b o row→Yv m S' w' b o row'∧row'.rw=row.rw :=
  fun b o row row' h1 h2=>qjv (fun r j hj=>hback r j hj) h1 h2
 refine⟨⟨fun r hr=>inv.none r (by rw[hl3]at hr; exact hr),fun r hr=>?_,fun r row hr=>?_,fun r b o hm=>qUn (inv.bnd r b o hm) i2.grow,fun r row b o hr hw hm=>?_,
  fun r r' row row' b o b' o' hne hr hr' hw hm hmm=>?_,fun r row b o hr hw hm=>?_,fun r row b o hr hw hm=>?_,i2.sbnd,fun b hb=>?_,fun b hb=>i2.stb b (inv.stb b hb),i2.os.trans inv.os,i2.tape.trans inv.tape,
  i2.output.trans inv.output,qT2 inv.grow i2.grow,fun b hb hn=>?_,i2.glb⟩,ext,hback⟩
 ·rcases cases3 r _ hr with⟨h1,_⟩|⟨j,y,_,_,⟨_,_,_,_,h5⟩|⟨_,h5⟩⟩
  ·exact inv.fre r h1
  ·cases h5
  ·cases h5
 ·rcases cases3 r _ hr with⟨h1,h2⟩|⟨j,y,h1,h2,⟨row0,row',e1,e2,e3⟩|⟨_,h5⟩⟩
  ·obtain⟨b,o,hm,hrel⟩:=inv.row r row h1;exact⟨b,o,hm,hrel.ext ext (heapS b (inv.bnd r b o hm) (notOwn r row b o h1 hm (fun j hj=>h2 j (by omega))))⟩
  ·cases e3;subst e1;obtain⟨b,o,hm,hrel⟩:=i2.row j row0 h2;exact⟨b,o,by rw[hback j r h1]; exact hm,(hmove b o row0 row e2 hrel).1⟩
  ·cases h5
 ·rcases cases3 r _ hr with⟨h1,_⟩|⟨j,y,h1,h2,⟨row0,row',e1,e2,e3⟩|⟨_,h5⟩⟩
  ·exact inv.new r row b o h1 hw hm
  ·cases e3;subst e1;obtain⟨b1,o1,hm1,hrel⟩:=i2.row j row0 h2;have hrw:=(hmove b1 o1 row0 row e2 hrel).2;rcases i2.new j row0 b o h2 (by rw[←hrw]; exact hw) (by rw[←hback j r h1]; exact hm)with h3|h3
   ·exact .inl (qT2 inv.grow h3)
   ·exact ownOK b h3
  ·cases h5
 ·have rwOf:∀(r:Nat) (row:Row),rows3[r]?=some (qd.live row)→(rows[r]?=some (qd.live row)∧∀j,j<rows2.length→rs[j]?≠some r)∨∃(j:Nat) (row0:Row),rs[j]?=some r∧rows2[j]?=some (qd.live row0)∧row0.rw=row.rw:=by
   intro r row hr;rcases cases3 r _ hr with h1|⟨j,y,h1,h2,⟨row0,row',e1,e2,e3⟩|⟨_,h5⟩⟩
   ·exact .inl h1
   ·cases e3;subst e1;obtain⟨b1,o1,hm1,hrel⟩:=i2.row j row0 h2;exact .inr ⟨j,row0,h1,h2,(hmove b1 o1 row0 row e2 hrel).2.symm⟩
   ·cases h5
  rcases rwOf r row hr with⟨a1,a2⟩|⟨j,row0,a1,a2,a3⟩<;>rcases rwOf r' row' hr' with⟨c1,c2⟩|⟨j',row1,c1,c2,c3⟩
  ·exact inv.apart r r' row row' b o b' o' hne a1 c1 hw hm hmm
  ·obtain⟨rowq,bq,oq,q1,q2,q3⟩:=old j' r' c1;rw[hmm]at q2; cases q2;exact inv.apart r r' row rowq b o b' o' hne a1 q1 hw hm hmm
  ·
   intro e;subst e;have hmj:m' j=some (b,o):=by rw[←hback j r a1]; exact hm
   rcases i2.new j row0 b o a2 (by rw[a3]; exact hw) hmj with h3|h3
   ·have:=inv.bnd r' b o' hmm; omega
   ·exact notOwn r' row' b o' c1 hmm (fun i hi=>c2 i (by omega)) h3
  ·refine i2.apart j j' row0 row1 b o b' o' (fun e=>hne ?_) a2 c2 (by rw[a3]; exact hw) (by rw[←hback j r a1]; exact hm) (by rw[←hback j' r' c1]; exact hmm);subst e;rw[a1]at c1; cases c1; rfl
 ·rcases cases3 r _ hr with⟨h1,h2⟩|⟨j,y,h1,h2,⟨row0,row',e1,e2,e3⟩|⟨_,h5⟩⟩
  ·intro hs;rcases i2.base b hs with h3|h3|h3
   ·exact inv.stab r row b o h1 hw hm h3
   ·have:=inv.bnd r b o hm; omega
   ·exact notOwn r row b o h1 hm (fun j hj=>h2 j (by omega)) h3
  ·cases e3;subst e1;obtain⟨b1,o1,hm1,hrel⟩:=i2.row j row0 h2;have hrw:=(hmove b1 o1 row0 row e2 hrel).2;exact i2.stab j row0 b o h2 (by rw[←hrw]; exact hw) (by rw[←hback j r h1]; exact hm)
  ·cases h5
 ·rcases cases3 r _ hr with⟨h1,h2⟩|⟨j,y,h1,h2,⟨row0,row',e1,e2,e3⟩|⟨_,h5⟩⟩
  ·exact ext.sub b (inv.rost r row b o h1 hw hm)
  ·cases e3;subst e1;obtain⟨b1,o1,hm1,hrel⟩:=i2.row j row0 h2;have hrw:=(hmove b1 o1 row0 row e2 hrel).2;exact i2.rost j row0 b o h2 (by rw[←hrw]; exact hw) (by rw[←hback j r h1]; exact hm)
  ·cases h5
 ·rcases i2.base b hb with h3|h3|h3
  ·exact inv.base b h3
  ·exact .inr (.inl (qT2 inv.grow h3))
  ·exact .inr (ownOK b h3)
 ·have hbw:b<w.heap.size:=qUn hb inv.grow;rw[heapS b hbw (fun hc=>by rcases ownOK b hc with h1|h1; omega; exact hn h1)];exact inv.kept b hb hn
theorem qtK {r:Nat} {x:qd} (h:r<rows.length):qz rows r x=rows.set r x:=by unfold qz; rw[if_pos h]
theorem qfO:∀{us:List (Nat×qd)} {rows:Rows},(∀u∈us,u.1<rows.length)→YP us rows=qE us rows
 | [],rows,_=>rfl|u::us,rows,h=>by
  simp only[YP,qE,qUK];rw[qtK (h u (by simp))];exact qfO (fun v hv=>by rw[qUI]; exact h v (qTG _ hv))
def qn3 (P:Program) (WC:FuncId→List V→Rows→Option (V×Rows)):Prop :=
 ∀g args rows v rows2,WC g args rows=some (v,rows2)→qS P g rows.length args rows (fun x y=>x=v∧y=rows2)
theorem qn4 {rs:List Nat}:∀{l:Rows} {i:Nat} {us:List (Nat×qd)} {rows:Rows},qhk rs i l=some us →
  JT rs i l rows=some (qE us rows)∧(∀u∈us,∃j:Nat,rs[j]?=some u.1)∧∀(j:Nat) (x:qd),l[j]?=some x→i+j<rs.length→∃row,x=.live row
 | [],i,us,rows,h=>by cases h; exact⟨rfl,fun u hu=>(by cases hu),fun j x hx=>by simp at hx⟩
 | x::l,i,us,rows,h=>by
  simp only[qhk]at h
  cases hr:rs[i]? with
  | none =>
   rw[hr]at h; cases h;have hi:rs.length≤i:=qWC.1 hr;exact⟨by simp only[JT,hr]; rfl,fun u hu=>(by cases hu),fun j x _ hj=>by omega⟩
  | some r =>
   rw[hr]at h;simp only at h
   cases x with
   | live row =>
    simp only at h;split at h
    ·rename_i row' hm;rw[qTP]at h;obtain⟨us',hu,rfl⟩:=h;obtain⟨h1,h2,h3⟩:=qn4 (rows:=rows.set r (.live row')) hu;refine⟨by simp only[JT,hr,hm,h1]; rfl,fun u hu=>?_,fun j x hx hj=>?_⟩
     ·rcases qTD.1 hu with rfl|hu
      ·exact⟨i,hr⟩
      ·exact h2 u hu
     ·cases j with
      | zero=>simp at hx; subst hx; exact⟨row,rfl⟩|succ j=>exact h3 j x (by simpa using hx) (by omega)
    ·cases h
   | free=>cases h
   | dead=>cases h
theorem qBn {c:Cfg} {g:FuncId} {args:List V} {res:Res} (h:qbt c g args rows=some res):res.fresh=none∧∀u∈res.ups,u.1<rows.length:=by
 unfold qbt at h;simp only at h;split at h
 ·split at h
  ·split at h
   ·cases h; exact⟨rfl,fun u hu=>by cases hu⟩
   ·cases h;refine⟨rfl,fun u hu=>?_⟩;obtain⟨_,row,h1,_⟩:=qfK hu;exact qL h1
  ·cases h
 ·cases h
theorem qtL {c:Cfg} {g:FuncId} {args:List V} {look:Nat→Option Row} {rs:List Nat} {slot:Nat} {res:Res} (h:qc7 c look rs slot g args=some res) :
  ∃args' Yt v rows2 us fr v',rs.eraseDups.length=rs.length∧qQ (qC (fun r=>Yk r rs 0) 8) args=some args'∧qQ (fun r=>qJ (fun r=>Yk r rs 0) (look r)) rs=some Yt∧Yt.all qhj=true ∧
   c.WC g args' Yt=some (v,rows2)∧qhk rs 0 (rows2.take rs.length)=some us∧qoc (rows2.drop rs.length)=some fr∧qC (qjK rs slot fr.isSome) 8 v=some v'∧res={v:=v',ups:=us,fresh:=fr}:=by
 unfold qc7 at h;split at h
 ·rename_i args' Yt hpre;split at h
  ·rename_i v rows2 hwc;unfold qjL at hpre;split at hpre
   ·rename_i hrs;split at hpre
    ·rename_i a b h1 h2;split at hpre
     ·rename_i hl;cases hpre;unfold qod at h;split at h
      ·rename_i us fr h3 h4;split at h
       ·rename_i v' h5;cases h;exact⟨args',Yt,v,rows2,us,fr,v',hrs,h1,h2,hl,hwc,h3,h4,h5,rfl⟩
       ·cases h
      ·cases h
     ·cases hpre
    ·cases hpre
   ·cases hpre
  ·cases h
 ·cases h
theorem qBo {c:Cfg} {g:FuncId} {args:List V} {look:Nat→Option Row} {rs:List Nat} {slot:Nat} {res:Res} (h:qc7 c look rs slot g args=some res) (hl:∀r row,look r=some row→r<rows.length):∀u∈res.ups,u.1<rows.length:=by
 obtain⟨args',rows',v,rows2,us,fr,v',hrs,h1,h2,hlive,hwc,hus,hfr,hv',rfl⟩:=qtL h;intro u hu;obtain⟨j,hj⟩:=(qn4 (rows:=rows) hus).2.1 u hu;have hlen:=JS h2;have hjl:=qL hj;have hlv:=(qTI.1 hlive) rows'[j] (qTL (by omega));obtain⟨r,hr,hren⟩:=Y6 h2 (qTE (by omega:j<rows'.length));rw[hj]at hr; cases hr
 cases hk:look u.1 with
 | none=>rw[hk]at hren; simp only[qJ]at hren; injection hren with he; rw[←he]at hlv; cases hlv
 | some row=>exact hl _ row hk
theorem qBp {P:Program} {c:Cfg} (hWC:qn3 P c.WC) (inv:Inv w0 own m S w rows) {slot:Nat} (hs:Ym m rows slot) {rs:List Nat} {g:FuncId} {args:List V} {vs:Array Value} {res:Res}
  (h:qc7 c (qr rows) rs slot g args=some res) (ha:RVs m S w args vs) :
  Calls P g vs w fun e w'=>∃u,e=.returned u∧∃m' S',Inv w0 own m' S' w' (qaf slot res rows)∧Ext m S w m' S' w'∧RV m' S' w' res.v u:=by
 have hups:=qBo h (rows:=rows) (fun r row hl=>qL (qc2 hl));obtain⟨args',Yt,v,rows2,us,fr,v',hrs,has,hrows,hlive,hwc,hus,hfr,hv',rfl⟩:=qtL h;have hlen:Yt.length=rs.length:=JS hrows;have hargs':RVs (Yd m rs) S w args' vs:=by
  refine⟨by rw[JS has]; exact ha.1,fun j x v hx hv=>?_⟩;obtain⟨y,hy,hren⟩:=Y6 has hx;exact qcj hren (ha.2 j y v hy hv)
 refine(hWC g args' Yt v rows2 hwc w (qao m S rows rs) _ S w vs (qn2 inv hrs hrows) hargs').mono fun e w' ⟨u,x,y,he,⟨hx,hy⟩,m',S',i2,r2,hm',hsz⟩=>⟨u,he,?_⟩
 subst hx; subst hy;rw[hlen]at hm';have htd:=qUw rs.length y;obtain⟨hb,hin,hlv2⟩:=qn4 (rows:=rows) hus;have hb2:∀(l l2:Rows) (i:Nat) (rows rows3:Rows),JT rs i l rows=some rows3→rs.length≤i+l.length→JT rs i (l++l2) rows=some rows3:=by
  intro l
  induction l with
  | nil =>
   intro l2 i rows rows3 h hi;simp only[qV1]at hi;have hn:rs[i]?=none:=qUc (by omega)
   cases l2 with
   | nil=>exact h|cons x l2 =>
    simp only[JT]at h;simp only[qUG,JT,hn];exact h
  | cons x l ih =>
   intro l2 i rows rows3 h hi;simp only[qT9]at hi;simp only[JT,qUR]at h ⊢
   cases hr:rs[i]? with
   | none=>rw[hr]at h; exact h|some r =>
    rw[hr]at h;simp only at h ⊢
    cases x with
    | live row =>
     simp only at h ⊢;split at h
     ·exact ih l2 (i+1) _ _ h (by omega)
     ·cases h
    | free=>exact ih l2 (i+1) _ _ h (by omega)
    | dead=>exact ih l2 (i+1) _ _ h (by omega)
 have hfull:rs.length≤y.length:=by
  rcases qTQ y.length rs.length with h1|h1
  ·exfalso;have hjc:y.length<Yt.length:=by omega
   have hlv:=(qTI.1 hlive) Yt[y.length] (qTL hjc);obtain⟨r2,hr2,hren⟩:=Y6 hrows (qTE hjc)
   cases hl:qr rows r2 with
   | none=>rw[hl]at hren; simp only[qJ]at hren; injection hren with he; rw[←he]at hlv; cases hlv
   | some row =>
    obtain⟨b,o,hm,_⟩:=inv.row r2 row (qc2 hl);have:=hm' y.length h1 (b,o) (by simp[Yd,hr2,hm]);rw[i2.none _ (qTF _)]at this; cases this
  ·exact h1
 have hb3:JT rs 0 y rows=some (qE us rows):=by
  rw[←htd];exact hb2 _ _ 0 _ _ hb (by rw[qTU]; omega)
 obtain⟨i3,e3,hback⟩:=qBm inv hrs hrows hlive i2 hm' hsz hb3;have hslot:∀u∈us,u.1≠slot:=by
  intro u hu e;obtain⟨j,hj⟩:=hin u hu;have hjc:j<Yt.length:=by have:=qL hj; omega
  have hlv:=(qTI.1 hlive) Yt[j] (qTL hjc);obtain⟨r2,hr2,hren⟩:=Y6 hrows (qTE hjc);rw[hj]at hr2; cases hr2
  cases hl:qr rows u.1 with
  | none=>rw[hl]at hren; simp only[qJ]at hren; injection hren with he; rw[←he]at hlv; cases hlv
  | some row=>rw[e]at hl; exact hs.dead row (qc2 hl)
 have hrsl:∀(j r:Nat),rs[j]?=some r→r≠slot:=by
  intro j r hj e;have hjc:j<Yt.length:=by have:=qL hj; omega
  have hlv:=(qTI.1 hlive) Yt[j] (qTL hjc);obtain⟨r2,hr2,hren⟩:=Y6 hrows (qTE hjc);rw[hj]at hr2; cases hr2
  cases hl:qr rows r with
  | none=>rw[hl]at hren; simp only[qJ]at hren; injection hren with he; rw[←he]at hlv; cases hlv
  | some row=>rw[e]at hl; exact hs.dead row (qc2 hl)
 cases fr with
 | none =>
  refine⟨m,S',?_,e3,?_⟩
  ·show Inv w0 own m S' w' (YP us rows);rw[qfO hups]; exact i3
  ·refine qcW (fun r j hj=>?_) hv' r2;unfold qjK at hj;split at hj
   ·exact hback r j hj
   ·simp at hj
 | some row =>
  have hat:y[rs.length]?=some (qd.live row)∧∃k es,row=.dat k es false:=by
   unfold qoc at hfr;split at hfr
   ·cases hfr
   ·rename_i k es heq;cases hfr;refine⟨?_,k,es,rfl⟩;have:=congrArg (fun l=>l[0]?) heq;simpa[qUk]using this
   ·cases hfr
  obtain⟨hat,k,es,rfl⟩:=hat;obtain⟨b,o,hmb,hrel⟩:=i2.row _ _ hat;have hnew:w.heap.size≤b:=by
   rcases i2.new _ _ b o hat rfl hmb with h1|⟨r,row0,o2,hr,hrl,hrw,hmr⟩
   ·exact h1
   ·exfalso;obtain⟨j,hj⟩:=qUS hr;have hjl:=qL hj;have hmj:m' j=some (b,o2):=by rw[←hback j r hj]; exact hmr
    have hjy:j<(y.take rs.length).length:=by rw[qTU]; omega
    obtain⟨rowj,hrj⟩:=hlv2 j (y.take rs.length)[j] (qTE hjy) (by omega);have hyj:y[j]?=some (qd.live rowj):=by
     rw[←hrj,List.getElem_take];exact qTE (by omega)
    exact i2.apart rs.length j _ rowj b o b o2 (by omega) hat hyj rfl hmb hmj rfl
  have hlen3:(qE us rows).length=rows.length:=qc9 us rows;have hg3:(qE us rows)[slot]?=rows[slot]?:=qjO (fun h=>by
   obtain⟨u,hu,e⟩:=qTV.1 h;exact hslot u hu e)
  obtain⟨i4,e4⟩:=i3.adopt slot (.dat k es false) b o (by rw[hlen3]; exact hs.le) (fun row'=>by rw[hg3]; exact hs.dead row') (.inl hs.new)
   (fun r row' c o' hr hm=>by have:=inv.bnd r c o' hm; omega) (i2.stab _ _ b o hat rfl hmb) (i2.bnd _ b o hmb) (.inl (qT2 inv.grow hnew)) rfl hrel
  refine⟨_,S',?_,e3.trans e4,?_⟩
  ·show Inv w0 own _ S' w' (qz (YP us rows) slot _);rw[qfO hups]; exact i4
  ·refine qcW (fun r j hj=>?_) hv' r2;unfold qjK at hj;split at hj
   ·have hne:=hrsl r j hj;unfold qR;rw[if_neg hne];exact hback r j hj
   ·split at hj
    ·rename_i hc;cases hj;have:r=rs.length:=by simpa using hc
     subst this;unfold qR;rw[if_pos rfl,hmb]
    ·cases hj
theorem qtM {P:Program} {c:Cfg} (hRC:qi6 P c.RC) (hWC:qn3 P c.WC) (inv:Inv w0 own m S w rows) {slot:Nat} (hs:Ym m rows slot) {g:FuncId} {args:List V} {vs:Array Value} {res:Res}
  (h:qcs c slot g args rows=some res) (ha:RVs m S w args vs) :
  Calls P g vs w fun e w'=>∃u,e=.returned u∧∃m' S',Inv w0 own m' S' w' (qaf slot res rows)∧Ext m S w m' S' w'∧RV m' S' w' res.v u:=by
 unfold qcs at h;split at h
 ·rename_i r hr;cases h;refine(qz4 hRC inv hr ha).mono fun e w' ⟨u,he,S',i1,e1,r1,hf⟩=>⟨u,he,m,S',?_,e1,r1⟩
  unfold qaf;rw[hf];simp only;rw[qfO (qBn hr).2];exact i1
 ·exact qBp hWC inv hs h ha
end Go.Aev
end
noncomputable section
namespace Go.Aev
variable [Glob]
variable {P:Program} {w0:World} {own:Own} {m:Mp} {S:Nat→Prop} {w:World} {rows:Rows}
def qjW (m:Mp):qT→Item→Prop
 | .it i,j=>j=i|.rf r,j=>∃l o,m r=some (l,o)∧j=.inRangeFunc l
inductive JV (m:Mp):List qT→List Item→Prop
 | nil:JV m [] []
 | cons {a i k l} (h:qjW m a i) (t:JV m k l):JV m (a::k) (i::l)
inductive qdR (m:Mp) (hid:List Deferred):List Nat→List Deferred→Prop
 | nil:qdR m hid [] hid
 | cons {r b o rs ds} (h:m r=some (b,o)) (t:qdR m hid rs ds):qdR m hid (r::rs) ({target:=.collected b,args:=#[]}::ds)
inductive qdS (m:Mp) (S:Nat→Prop) (w:World) (hid:List Deferred):List (FuncId×List V)→List Deferred→Prop
 | nil:qdS m S w hid [] hid
 | cons {g:FuncId} {args:List V} {cap da:Array Value} {l ds} (h:RVs m S w args (da++cap)) (t:qdS m S w hid l ds):qdS m S w hid ((g,args)::l) ({target:=.fn (.func g) cap,args:=da}::ds)
def FDs (m:Mp) (S:Nat→Prop) (w:World) (hid:List Deferred) (dcl:List (FuncId×List V)) (marks:List Nat) (ds:List Deferred):Prop :=
 ∃dd,qdS m S w hid dcl dd∧qdR m dd marks ds
theorem FDs.none {m:Mp} {S:Nat→Prop} {w:World} {hid:List Deferred}:FDs m S w hid [] [] hid:=⟨_,.nil,.nil⟩
def qeS (m:Mp):Option Nat→Option Nat→Prop
 | none,ro=>ro=none|some r,ro=>∃l o,m r=some (l,o)∧ro=some l
structure FR (m:Mp) (S:Nat→Prop) (w:World) (hid:List Deferred) (a:AF) (tmps:Array Value) (todo:List Item) (ds:List Deferred) (ro:Option Nat):Prop where
 env:REs m S w a.env tmps
 todo:JV m a.todo todo
 ds:FDs m S w hid a.dcl a.marks ds
 ro:qeS m a.round ro
structure Bot where
 cs:List Frame
 k:Nat
 hid:List Deferred:=[]
 B:Mp→World→Prop
 mono:∀m w m' w',(∀r,r<k→∀p,m r=some p→m' r=some p)→(∀b,qZ w b≤qZ w' b)→B m w→B m' w'
def qcx (bt:Bot):List AF→List Deferred
 | []=>bt.hid|_::_=>[]
inductive qbZ (m:Mp) (S:Nat→Prop) (w:World) (cs0:Bot):List AF→List Frame→Prop
 | nil (h:cs0.B m w):qbZ m S w cs0 [] cs0.cs
 | cons {a st tmps todo ds ro cs} (h:FR m S w (qcx cs0 st) a tmps todo ds ro) (t:qbZ m S w cs0 st cs):qbZ m S w cs0 (a::st) (rfr a.fn tmps todo ds ro::cs)
theorem qjW.mono {m':Mp} (h:∀r p,m r=some p→m' r=some p) {a:qT} {i:Item} (e:qjW m a i):qjW m' a i:=by
 cases a with
 | it i=>exact e|rf r=>obtain⟨l,o,h1,h2⟩:=e; exact⟨l,o,h r _ h1,h2⟩
theorem JV.mono {m':Mp} (h:∀r p,m r=some p→m' r=some p) {a:List qT} {i:List Item} (e:JV m a i):JV m' a i:=by
 induction e with
 | nil=>exact .nil|cons h1 _ ih=>exact .cons (h1.mono h) ih
theorem qdR.mono {m':Mp} (h:∀r p,m r=some p→m' r=some p) {hid:List Deferred} {a:List Nat} {i:List Deferred} (e:qdR m hid a i):qdR m' hid a i:=by
 induction e with
 | nil=>exact .nil|cons h1 _ ih=>exact .cons (h _ _ h1) ih
theorem qdS.ext {m':Mp} {S':Nat→Prop} {w':World} {hid:List Deferred} {l:List (FuncId×List V)} {ds:List Deferred} (h:qdS m S w hid l ds) (e:Ext m S w m' S' w'):qdS m' S' w' hid l ds:=by
 induction h with
 | nil=>exact .nil|cons h1 _ ih=>exact .cons (h1.ext e) ih
theorem FDs.ext {m':Mp} {S':Nat→Prop} {w':World} {hid:List Deferred} {dcl:List (FuncId×List V)} {marks:List Nat} {ds:List Deferred} (h:FDs m S w hid dcl marks ds) (e:Ext m S w m' S' w'):FDs m' S' w' hid dcl marks ds :=
 let ⟨dd,h1,h2⟩:=h; ⟨dd,h1.ext e,h2.mono e.map⟩
theorem FDs.push {hid:List Deferred} {dcl:List (FuncId×List V)} {marks:List Nat} {ds:List Deferred} {r b o:Nat} (hm:m r=some (b,o)) (h:FDs m S w hid dcl marks ds):FDs m S w hid dcl (r::marks) ({target:=.collected b,args:=#[]}::ds) :=
 let ⟨dd,h1,h2⟩:=h; ⟨dd,h1,.cons hm h2⟩
theorem FDs.call {hid:List Deferred} {dcl:List (FuncId×List V)} {ds:List Deferred} {g:FuncId} {args:List V} {cap da:Array Value} (ha:RVs m S w args (da++cap)) (h:FDs m S w hid dcl [] ds) :
  FDs m S w hid ((g,args)::dcl) [] ({target:=.fn (.func g) cap,args:=da}::ds):=by
 obtain⟨dd,h1,h2⟩:=h;cases h2;exact⟨_,.cons ha h1,.nil⟩
theorem qeS.mono {m':Mp} (h:∀r p,m r=some p→m' r=some p) {a ro:Option Nat} (e:qeS m a ro):qeS m' a ro:=by
 cases a with
 | none=>exact e|some r=>obtain⟨l,o,h1,h2⟩:=e; exact⟨l,o,h r _ h1,h2⟩
theorem FR.ext {m':Mp} {S':Nat→Prop} {w':World} {hid:List Deferred} {a:AF} {tmps todo ds ro} (h:FR m S w hid a tmps todo ds ro) (e:Ext m S w m' S' w'):FR m' S' w' hid a tmps todo ds ro :=
 ⟨h.env.ext e,h.todo.mono e.map,h.ds.ext e,h.ro.mono e.map⟩
theorem qbZ.ext {m':Mp} {S':Nat→Prop} {w':World} {cs0:Bot} {st:List AF} {cs:List Frame} (h:qbZ m S w cs0 st cs) (e:Ext m S w m' S' w'):qbZ m' S' w' cs0 st cs:=by
 induction h with
 | nil h=>exact .nil (cs0.mono _ _ _ _ (fun r _=>e.map r) e.size h)
 | cons h1 _ ih=>exact .cons (h1.ext e) ih
def Sim (P:Program) (w0:World) (own:Own) (cs0:Bot) (s:AS) (M:Machine):Prop :=
 ∃m S w tmps todo ds ro cs,M=lone (rfr s.fr.fn tmps todo ds ro) cs w∧Inv w0 own m S w s.rows∧FR m S w (qcx cs0 s.stack) s.fr tmps todo ds ro∧qbZ m S w cs0 s.stack cs
theorem qBG {id:Nat} {a:List qT} {l:List Item} (h:JV m a l) {a':List qT} (e:qcz id a=some a'):∃l',exitTo id l=some l'∧JV m a' l':=by
  induction h with
  | nil=>simp[qcz]at e|cons h1 t ih =>
    rename_i a i k l
    cases a with
    | it j =>
      cases h1;cases i<;>simp only[qcz,exitTo]at e ⊢<;>first
        | exact ih e
        | (split at e
           · cases e; rename_i hc; rw[if_pos hc]; exact⟨_,rfl,t⟩
           · rename_i hc; rw[if_neg hc]; exact ih e)
    | rf r =>
      obtain⟨b,o,_,rfl⟩:=h1;simp only[qcz,exitTo]at e ⊢;exact ih e
theorem qBH {id:Nat} {a:List qT} {l:List Item} (h:JV m a l) (e:qcz id a=none):exitTo id l=none:=by
  induction h with
  | nil=>rfl|cons h1 t ih =>
    rename_i a i k l
    cases a with
    | it j =>
      cases h1;cases i<;>simp only[qcz,exitTo]at e ⊢<;>first
        | exact ih e
        | (split at e
           · cases e
           · rename_i hc; rw[if_neg hc]; exact ih e)
    | rf r =>
      obtain⟨b,o,_,rfl⟩:=h1;simp only[qcz,exitTo]at e ⊢;exact ih e
theorem qBI {id:Nat} {a:List qT} {l:List Item} (h:JV m a l) {a':List qT} (e:qeW id a=some a'):∃l',gotoIn id l=some l'∧JV m a' l':=by
  induction h with
  | nil=>simp[qeW]at e|cons h1 t ih =>
    rename_i a i k l
    cases a with
    | it j =>
      cases h1;cases i<;>simp only[qeW,gotoIn]at e ⊢<;>first
        | exact ih e
        | (split at e
           · cases e; rename_i hc; rw[hc]; exact⟨_,rfl,.cons rfl (.cons rfl t)⟩
           · rename_i hc; rw[hc]; exact ih e)
    | rf r =>
      obtain⟨b,o,_,rfl⟩:=h1;simp only[qeW,gotoIn]at e ⊢;exact ih e
theorem qua {xs:List V} {arr:Array Value} (h:REs m S w xs arr) {v:V} {u:Value} (hv:RV m S w v u) (d:Nat):REs m S w (xs.set d v) (arr.setIfInBounds d u):=by
 refine⟨by simp[h.1],fun j x y hx hy=>?_⟩
 by_cases e:d=j
 ·subst e;have hd:d<xs.length:=by have:=qL hx; simpa using this
  rw[qUV hd]at hx;rw[qWd (by rw[h.1]; exact hd)]at hy;cases hx; cases hy; exact .inr hv
 ·rw[qUF e]at hx;rw[qVy e]at hy;exact h.2 j x y hx hy
theorem qaL {xs:List V} {arr:Array Value} (h:REs m S w xs arr) {v:V} {u:Value} (hv:RV m S w v u) (d:Option Nat):REs m S w (Js xs d v) (qcn arr d u):=by
 cases d with
 | none=>exact h|some d=>exact qua h hv d
theorem qBJ {xs:List V} {arr:Array Value} (h:REs m S w xs arr) (t:Nat):RE m S w (xs.getD t V.undef) (arr.getD t Go.undef):=by
 rcases qTQ t xs.length with hl|hl
 ·have hl':t<arr.size:=by rw[h.1]; exact hl
  have:=h.2 t xs[t] arr[t] (by simp[hl]) (by simp[hl']);simpa[List.getD,hl,Array.getD,hl']using this
 ·have hl':arr.size≤t:=by rw[h.1]; exact hl
  have:¬t<arr.size:=by omega
  simp[List.getD,qUc hl,Array.getD,this];exact .inr qch
theorem qjX {xs:List V} {arr:Array Value} (h:REs m S w xs arr) {t:Nat} {v:V} (hk:qeA (xs.getD t V.undef)=some v):RV m S w v (arr.getD t Go.undef):=by
 obtain⟨rfl,hn⟩:=qzW hk;exact(qBJ h t).resolve_left hn
theorem REs.get {xs:List V} {arr:Array Value} (h:REs m S w xs arr) {j:Nat} {x:V} (hx:xs[j]?=some x) (hn:x≠.any):∃v,arr[j]?=some v∧RV m S w x v:=by
 have hl:=qL hx;have hl':j<arr.size:=by rw[h.1]; exact hl
 exact⟨arr[j],by simp[hl'],(h.2 j x arr[j] hx (by simp[hl'])).resolve_left hn⟩
theorem qdb {fn:FuncId} {env:List V} {tmps:Array Value} {todo:List Item} {ds:List Deferred} {ro:Option Nat} (hgl:Glb S w) (h:REs m S w env tmps):qfI m S w env (rfr fn tmps todo ds ro).eval:=by
 intro x v hx
 cases x with
 | tmp t=>exact qjX h hx|const u=>exact qnu hx|global g =>
  simp only[Y2]at hx;split at hx
  ·rename_i x hg; cases hx; exact hgl.any hg
  ·cases hx
 | func f=>simp only[Y2,qT4]at hx; subst hx; exact .fn f [] #[] rfl (fun j x v h=>by simp at h)
theorem qcy {ops:Array Oper} {env:List V} {tmps:Array Value} (h:REs m S w env tmps) {o:Oper} {b:Bool} (hw:qaK ops env o=some b):Region.wanted o (yielded ops tmps)=b:=by
 unfold qaK at hw;unfold Region.wanted;split at hw
 ·rename_i hg; cases hw; rw[hg]
 ·rename_i j want hg;rw[hg];split at hw
  ·rename_i d hd;simp only[yielded,hd,qVt];split at hw
   ·rename_i b' hb;obtain⟨v,hv,hr⟩:=h.get hb (by simp);have e:=qdc hr; subst e;cases hw;rw[hv]; cases b'<;>cases want<;>rfl
   ·rename_i vs hb;obtain⟨v,hv,hr⟩:=h.get hb (by simp);cases hw;cases hr;rw[hv]; rfl
   ·cases hw
  ·cases hw
structure COK (c:Cfg):Prop where
 T:TOK c.P c.T
 F:∀g gf,c.F g=some gf→c.P.funcs[g]?=some gf∧(gf.name == "runtime.NumGoroutine")=false
 RC:qi6 c.P c.RC
 WC:qn3 c.P c.WC
 rc:∀g,c.rc g=true→∃gf,c.P.funcs[g]?=some gf∧gf.body.isSome=true∧(gf.name == "runtime.NumGoroutine")=false
 mixed:c.P.follows .mixedOrders=true
theorem qub (rows:Rows) (vs:List V):GOK (qag rows vs) rows:=by
 intro r row h;unfold qag at h;split at h
 ·unfold qr at h;split at h
  ·rename_i row' hr; cases h; exact hr
  ·cases h
 ·cases h
theorem J6 (rows:Rows):GOK (qr rows) rows:=by
 intro r row h;unfold qr at h;split at h
 ·rename_i row' hr; cases h; exact hr
 ·cases h
theorem qho {o:Op} {f:Operand} {args:List Operand} (h:qa2 o=some (f,args)):∃as ats,o=.call ⟨.value f,as,ats⟩∧args=as.toList:=by
 unfold qa2 at h;split at h
 ·cases h; exact⟨_,_,rfl,rfl⟩
 ·cases h
theorem qhp {ρ:Operand→Value} {o:Oper} {f:Operand} {as:Array Operand} {ats:Array TypeId} {g:FuncId} {gf:Func} {caps:Array Value} (ho:o.op=.call ⟨.value f,as,ats⟩)
  {fs:Array Value} (he:ρ f=.func (.func g) fs caps) (hf:P.funcs[g]?=some gf) (hb:gf.body.isSome=true) (hn:(gf.name == "runtime.NumGoroutine")=false) :
  (execOp ρ o).run P w=.ok (.enter g (fs++as.map ρ++caps)) w:=by
 have hcall:=fun(w:World) (args:Array Value)=>qjk (P:=P) (w:=w) (args:=args) hf hb hn
 obtain⟨dst,op,type,pos,after,guard⟩:=o;simp only at ho;subst ho;simp[execOp,resolve,he,Deferred.ofValue,invoke,hcall]
theorem qhq {xs ys:List V} {a b:Array Value} (h:RVs m S w xs a) (k:RVs m S w ys b):RVs m S w (xs++ys) (a++b):=by
 refine⟨by simp[h.1,k.1],fun j x v hx hv=>?_⟩;rcases qTQ j xs.length with hl|hl
 ·rw[qTZ hl]at hx;rw[qU9 (by rw[h.1]; exact hl)]at hv;exact h.2 j x v hx hv
 ·rw[qT1 hl]at hx;rw[qWD (by rw[h.1]; exact hl),h.1]at hv;exact k.2 _ x v hx hv
theorem qhr {fv:V} {vs as:List V} {g:FuncId} {u:Value} {arr:Array Value} (h:qct fv vs=some (g,as)) (hv:RV m S w fv u) (ha:RVs m S w vs arr) :
  ∃fs cs,u=.func (.func g) fs cs∧RVs m S w as (fs++arr++cs):=by
 unfold qct at h;split at h
 ·cases h
  cases hv with
  | fn _ _ carr hcl hcd=>exact⟨#[],carr,rfl,by rw[Array.empty_append]; exact qhq ha ⟨hcl,hcd⟩⟩
 ·cases h
  cases hv with
  | bf _ _ carr hcl hcd=>exact⟨carr,#[],rfl,by rw[Array.append_empty]; exact qhq ⟨hcl,hcd⟩ ha⟩
 ·cases h
theorem qeT {ρ:Operand→Value} {env:List V} (h:qfI m S w env ρ) {as:Array Operand} {vs:List V} (he:YX env as.toList=some vs):RVs m S w vs (as.map ρ):=by
 have:=qi1 h he;have e:(as.toList.map ρ).toArray=as.map ρ:=by apply qUD; simp
 rwa[e]at this
theorem qfW {o:Op} {f:Operand} {args:List Operand} (h:qa2 o=some (f,args)):∀c,o≠.defer c:=by
 obtain⟨as,ats,rfl,_⟩:=qho h;intro c e; cases e
theorem quc {T:TypeId→Option Ty} {g:qv} {slot:Nat} {o:Op} {vs:List V} {res:Res} (h:act T g slot o vs=some res):∀c,o≠.defer c:=by
 rintro c rfl
 simp[act]at h
theorem qBK {a:Rec} (h:∀r∈a.wr,r<rows.length):qaf a.slot {v:=a.v,ups:=a.ups,fresh:=a.fresh} rows=qE a.all rows:=by
 unfold qaf Rec.all;have hu:∀u∈a.ups,u.1<rows.length:=fun u hu=>h u.1 (by unfold Rec.wr; exact qTH.2 (.inl (qVi hu)))
 cases hf:a.fresh with
 | none=>simp only[qT7]; exact qfO hu|some row =>
  simp only;have hs:a.slot<rows.length:=h a.slot (by unfold Rec.wr; rw[hf]; simp);rw[qfO hu,qtK (by rw[qc9]; exact hs)];simp[qE]
theorem qBL {c:Cfg} (hc:COK c) {fn:FuncId} {ops:Array Oper} {slot0 i:Nat} {s:St} {a:Rec} (h:qc8 c ops slot0 i s=some a) {tmps:Array Value} {rest:List Nat} {k:List Item} {ds:List Deferred} {ro:Option Nat} {cs:List Frame}
  (inv:Inv w0 own m S w s.rows) (henv:REs m S w s.env tmps) (hle:slot0+i≤s.rows.length) (hnew:m (slot0+i)=none) :
  ∃m' S' w' tmps',Steps c.P (lone (rfr fn tmps (.inRegion ops (i::rest)::k) ds ro) cs w) (lone (rfr fn tmps' (.inRegion ops rest::k) ds ro) cs w') ∧
   Inv w0 own m' S' w' (a.exec s).rows∧REs m' S' w' (a.exec s).env tmps'∧Ext m S w m' S' w':=by
 unfold qc8 at h;split at h
 ·cases h
 ·rename_i o ho;split at h
  ·cases h
  ·rename_i hw;cases h;refine⟨m,S,w,_,.one (qth ho (qcy henv hw)),inv,?_,Ext.refl ..⟩;exact qaL henv qch o.dst
  ·rename_i hw;have hw':=qcy henv hw;split at h
   ·cases h
   ·rename_i res hres;simp only at h;split at h
    ·rename_i hlt;cases h;have hlt':∀r∈Rec.wr {dst:=o.dst,v:=res.v,ups:=res.ups,fresh:=res.fresh,slot:=slot0+i,rdT:=qcu ops o,rdR:=qdO s.env s.rows o.op},r<s.rows.length :=
      fun r hr=>by simpa using(qTI.1 hlt) r hr
     have hrows:=qBK (rows:=s.rows) hlt';unfold qeP at hres;split at hres
     ·rename_i f args hcv;obtain⟨as,ats,hop,rfl⟩:=qho hcv;split at hres
      ·rename_i fv vs hf hvs;split at hres
       case h_2=>cases hres
       rename_i g as' hfa;split at hres
       ·rename_i hrc;obtain⟨gf,h1,h2,h3⟩:=hc.rc g hrc;have hρ:=qdb (fn:=fn) (todo:=.inRegion ops (i::rest)::k) (ds:=ds) (ro:=ro) inv.glb henv;obtain⟨fs,cs',hfe,hargs⟩:=qhr hfa (hρ f _ hf) (qeT hρ hvs);have hrun:=qhp (w:=w) hop hfe h1 h2 h3;have hcalls:=qtM (P:=c.P) hc.RC hc.WC inv (Ym.mk' inv hle hnew) hres hargs;obtain⟨e,w',fr,⟨u,rfl,m',S',i1,e1,r1⟩,hcomes,hfn,hlv⟩:=hcalls (rfr fn tmps (.inRegion ops (i::rest)::k) ds ro::cs);have hleave:=step_leave_returned (P:=c.P) (c:=rfr fn tmps (.inRegion ops (i::rest)::k) ds ro) (cs:=cs) hlv;rw[qdE ho]at hleave;refine⟨m',S',w',qcn tmps o.dst u,Steps.head (qfL ho hw' (qfW hcv) hrun) (Steps.trans hcomes (.one hleave)),?_,qaL (henv.ext e1) r1 o.dst,e1⟩;show Inv w0 own m' S' w' (qE _ s.rows);rw[←hrows]; exact i1
       ·cases hres
      ·cases hres
     ·rename_i hcv;split at hres
      ·rename_i vs hvs;have hρ:=qdb (fn:=fn) (todo:=.inRegion ops (i::rest)::k) (ds:=ds) (ro:=ro) inv.glb henv;obtain⟨nx,u,w',m',S',hrun,hnx,i1,e1,r1⟩:=qnt hc.T (qub s.rows vs) inv (Ym.mk' inv hle hnew) hρ hvs hres;refine⟨m',S',w',_,.one (qg7 ho hw' (quc hres) hrun hnx),?_,qaL (henv.ext e1) r1 o.dst,e1⟩;show Inv w0 own m' S' w' (qE _ s.rows);rw[←hrows]; exact i1
      ·cases hres
    ·cases h
theorem qoi {c:Cfg} {ops:Array Oper} {slot0:Nat}:∀{l:List Nat} {s s':St} {rs:List Rec},qbu c ops slot0 l s=some (rs,s')→rs.length=l.length
 | [],s,s',rs,h=>by simp[qbu]at h; rw[h.1]; rfl
 | i::l,s,s',rs,h=>by
  simp only[qbu]at h;split at h
  ·split at h
   ·rename_i h2;cases h;simp[qoi h2]
   ·cases h
  ·cases h
theorem qoj {c:Cfg} {ops:Array Oper} {slot0:Nat} {R:Nat→Rec}:∀{l:List Nat} {s s':St} {rs:List Rec},qbu c ops slot0 l s=some (rs,s')→(∀j i:Nat,l[j]?=some i→rs[j]?=some (R i))→qeQ c ops slot0 R l s s'
 | [],s,s',rs,h,_=>by simp[qbu]at h; exact h.2.symm
 | i::l,s,s',rs,h,hR=>by
  simp only[qbu]at h;split at h
  ·rename_i a ha;split at h
   ·rename_i rs' s2 h2;cases h;have h0:=hR 0 i rfl;simp at h0;subst h0;exact⟨ha,qoj h2 (fun j x hj=>hR (j+1) x (by simpa using hj))⟩
   ·cases h
  ·cases h
theorem qud (inv:Inv w0 own m S w rows) (n:Nat):Inv w0 own m S w (rows++List.replicate n qd.free):=by
 have get:∀{r:Nat} {x:qd},(rows++List.replicate n qd.free)[r]?=some x→rows[r]?=some x∨(x=qd.free∧rows.length≤r):=by
  intro r x h;rcases qTQ r rows.length with hl|hl
  ·rw[qTZ hl]at h; exact .inl h
  ·rw[qT1 hl]at h;right;have:=qUi h;exact⟨(qUz.1 this).2,hl⟩
 have live:∀{r:Nat} {row:Row},(rows++List.replicate n qd.free)[r]?=some (qd.live row)→rows[r]?=some (qd.live row):=by
  intro r row h;rcases get h with h|⟨h,_⟩
  ·exact h
  ·cases h
 refine⟨fun r hr=>inv.none r (by simp at hr; omega),fun r hr=>?_,fun r row hr=>inv.row r row (live hr),inv.bnd,fun r row b o h1=>inv.new r row b o (live h1),fun r r' row row' b o b' o' hne h1 h2=>inv.apart r r' row row' b o b' o' hne (live h1) (live h2),
  fun r row b o h1=>inv.stab r row b o (live h1),fun r row b o h1=>inv.rost r row b o (live h1),inv.sbnd,inv.base,inv.stb,inv.os,inv.tape,inv.output,inv.grow,inv.kept,inv.glb⟩
 rcases get hr with h|⟨_,h⟩
 ·exact inv.fre r h
 ·exact inv.none r h
theorem qBM (rows:Rows):∃l,rows=qf2 rows++l∧∀x∈l,x=qd.free:=by
 refine⟨(rows.reverse.takeWhile qj8).reverse,?_,fun x hx=>?_⟩
 ·have h:=List.takeWhile_append_dropWhile (p:=qj8) (l:=rows.reverse);have h2:=congrArg List.reverse h;rw[List.reverse_append,List.reverse_reverse]at h2;exact h2.symm
 ·rw[List.mem_reverse]at hx;have:=List.all_takeWhile (p:=qj8) (l:=rows.reverse);have h3:=(qTI.1 this) x hx;cases x<;>first|rfl|cases h3
theorem qBN (inv:Inv w0 own m S w rows):Inv w0 own m S w (qf2 rows):=by
 obtain⟨l,hl,hf⟩:=qBM rows;have live:∀{r:Nat} {x:qd},(qf2 rows)[r]?=some x→rows[r]?=some x:=by
  intro r x h;have:=qL h;rw[hl,qTZ this]; exact h
 refine⟨fun r hr=>?_,fun r hr=>inv.fre r (live hr),fun r row hr=>inv.row r row (live hr),inv.bnd,fun r row b o h1=>inv.new r row b o (live h1),fun r r' row row' b o b' o' hne h1 h2=>inv.apart r r' row row' b o b' o' hne (live h1) (live h2),
  fun r row b o h1=>inv.stab r row b o (live h1),fun r row b o h1=>inv.rost r row b o (live h1),inv.sbnd,inv.base,inv.stb,inv.os,inv.tape,inv.output,inv.grow,inv.kept,inv.glb⟩
 rcases qTQ r rows.length with h1|h1
 ·have hg:rows[r]?=some (rows[r]):=by simp[h1]
  have:rows[r]?=l[r - (qf2 rows).length]?:=by rw[hl,qT1 hr,←hl]
  rw[hg]at this;have hm:=hf _ (qUi this.symm);exact inv.fre r (by rw[hg,hm])
 ·exact inv.none r h1
theorem que {ops:Array Oper} {slot0:Nat} {rs:List Rec} {n:Nat} (h:qfV (qbY ops n) slot0 rs=true) (hn:rs.length=n) {R:Nat→Rec} (hR:∀i,i<n→rs[i]?=some (R i)) :
  ∀i k,i<n→k<n→i≠k→(Anc ops k i∨slot0+k∉(R i).wr)∧(i<k→Anc ops i k∨qfS (R i) (R k)=true):=by
 intro i k hi hk hne;unfold qfV at h;have hb:(R k,k)∈rs.zipIdx:=by
  rw[qWE]; simpa using hR k hk
 have ha:(R i,i)∈rs.zipIdx:=by
  rw[qWE]; simpa using hR i hi
 have h1:=(qTI.1 ((qTI.1 h) _ hb)) _ ha;simp only[qTM,qTC,beq_iff_eq,decide_eq_true_eq,qUy,List.contains_iff_mem]at h1;rcases h1 with h1|⟨h1,h2⟩
 ·exact absurd h1 hne
 ·refine⟨?_,fun hlt=>?_⟩
  ·rcases h1 with h1|h1
   ·exact .inl (qjV n i k hi h1)
   ·right;intro hm;have:(R i).wr.contains (slot0+k)=true:=by simpa using hm
    rw[this]at h1; cases h1
  ·rcases h2 with(h2|h2) | h2
   ·omega
   ·exact .inl (qjV n k i hk h2)
   ·exact .inr h2
theorem qa3.steps {c:Cfg} (hc:COK c) {fn:FuncId} {ops:Array Oper} {slot0:Nat} {R:Nat→Rec} {k0:List Item} {ds:List Deferred} {ro:Option Nat} {cs:List Frame} {L σ:List Nat} {n:Nat} {tl:List Nat} (hno:n≤ops.size) (h:qa3 ops L σ) :
    ∀{m:Mp} {S:Nat→Prop} {w:World} {tmps:Array Value} {s s':St},qeQ c ops slot0 R L s s'→(∀x∈L,x<n)→L.Pairwise (·<·) →
      (∀x,x<n→x∉L→∀j∈Jj ops x,j∉L)→(∀k,k<n→∀j∈Jj ops k,j<n) →
      (∀i k,i<n→k<n→i≠k→(Anc ops k i∨slot0+k∉(R i).wr)∧(i<k→Anc ops i k∨qfS (R i) (R k)=true)) →
      Inv w0 own m S w s.rows→REs m S w s.env tmps→slot0+ops.size≤s.rows.length→(∀x∈L,s.rows[slot0+x]?=some qd.free) →
      ∃m' S' w' tmps',Steps c.P (lone (rfr fn tmps (.inRegion ops (σ++tl)::k0) ds ro) cs w) (lone (rfr fn tmps' (.inRegion ops tl::k0) ds ro) cs w') ∧
        Inv w0 own m' S' w' s'.rows∧REs m' S' w' s'.env tmps'∧Ext m S w m' S' w':=by
  induction h with
  | nil =>
    intro m S w tmps s s' hrun _ _ _ _ _ inv henv _ _;cases hrun;exact⟨m,S,w,tmps,Steps.refl _ _,inv,henv,Ext.refl ..⟩
  | cons k A B σ hr _ ih =>
    intro m S w tmps s s' hrun hlt hsort hdc hdn hpair inv henv hlen hfree;have hnot:∀(i:Nat),i∈A++k::B→∀k',k'<n→(k'∉A++k::B∨k'=k)→¬Anc ops i k':=by
      intro i hi k' hk' hor hanc
      induction hanc with
      | one h =>
        rename_i k0;rcases hor with h1|h1
        · exact hdc k0 hk' h1 i h hi
        · subst h1; exact hr i h hi
      | more h _ ih2 =>
        rename_i j0 k0 _;have hj:j0∉A++k::B:=by
          rcases hor with h1|h1
          · exact hdc k0 hk' h1 j0 h
          · subst h1; exact hr j0 h
        exact ih2 (hdn k0 hk' j0 h) (.inl hj)
    have hkn:k<n:=hlt k (by simp);have hnd:(A++k::B).Nodup:=hsort.imp (fun h=>Nat.ne_of_lt h);have hind:∀a∈A,qfS (R a) (R k)=true:=by
      intro a ha;have hak:a<k:=(qWl.1 hsort).2.2 a ha k (by simp);rcases(hpair a k (hlt a (by simp[ha])) hkn (by omega)).2 hak with h1|h1
      · exact absurd h1 (hnot a (by simp[ha]) k hkn (.inr rfl))
      · exact h1
    obtain⟨h1,h2⟩:=hrun.move hind;have hfk:=hfree k (by simp);obtain⟨m1,S1,w1,tmps1,st1,i1,v1,e1⟩:=qBL (fn:=fn) (rest:=σ++tl) (k:=k0) (ds:=ds) (ro:=ro) (cs:=cs) hc h1 inv henv (by omega) (inv.fre _ hfk);have hsub:∀x,x∈A++B→x∈A++k::B:=fun x hx=>by rcases qTH.1 hx with h|h<;>simp[h]
    have hne:∀x,x∈A++B→x≠k:=by
      intro x hx e;subst e;rw[qVm]at hnd;rcases qTH.1 hx with h|h
      · exact(hnd.2.2 x h x (by simp)) rfl
      · exact(qV2.1 hnd.2.1).1 h
    obtain⟨m2,S2,w2,tmps2,st2,i2,v2,e2⟩:=ih h2 (fun x hx=>hlt x (hsub x hx)) (by
        rw[qWl]at hsort ⊢;exact⟨hsort.1,(qVn.1 hsort.2.1).2,fun a ha b hb=>hsort.2.2 a ha b (by simp[hb])⟩)
      (by
        intro x hx hnx j hj hmem
        by_cases hxk:x=k
        · subst hxk; exact hr j hj (hsub j hmem)
        · refine hdc x hx (fun h=>?_) j hj (hsub j hmem)
          rcases qTH.1 h with h|h
          · exact hnx (by simp[h])
          · rcases qTD.1 h with h|h
            · exact hxk h
            · exact hnx (by simp[h])) hdn hpair i1 v1 (by rw[qtV]; exact hlen)
      (by
        intro x hx;have hxn:=hlt x (hsub x hx);have hnw:slot0+x∉(R k).wr:=by
          rcases(hpair k x hkn hxn (fun e=>hne x hx e.symm)).1 with h3|h3
          · exact absurd h3 (hnot x (hsub x hx) k hkn (.inr rfl))
          · exact h3
        rw[qtU hnw];exact hfree x (hsub x hx))
    exact⟨m2,S2,w2,tmps2,st1.trans st2,i2,v2,e1.trans e2⟩
theorem quf {c:Cfg} (hc:COK c) {fn:FuncId} {id:Nat} {ops:Array Oper} {s st:St} (h:qf3 c ops s=some st) {tmps:Array Value} {k:List Item} {ds:List Deferred} {ro:Option Nat} {cs:List Frame}
  (inv:Inv w0 own m S w s.rows) (henv:REs m S w s.env tmps) :
  ∃m' S' w' tmps',Steps c.P (lone (rfr fn tmps (.code (.region id ops true)::k) ds ro) cs w) (lone (rfr fn tmps' k ds ro) cs w')∧Inv w0 own m' S' w' st.rows∧REs m' S' w' st.env tmps'∧Ext m S w m' S' w':=by
 unfold qf3 at h;split at h
 ·rename_i hed;split at h
  ·rename_i rs s' hrun;split at h
   ·rename_i hp;cases h;have hlen:=qoi hrun;simp only[qVw]at hlen
    let R:Nat→Rec:=fun i=>(rs[i]?).getD {dst:=none,v:=V.undef,slot:=0,rdT:=[],rdR:=none}
    have hR:∀i,i<ops.size→rs[i]?=some (R i):=fun i hi=>by
     have:i<rs.length:=by omega
     simp[R,this]
    have hruns:=qoj (R:=R) hrun (fun j i hj=>by
     have hjl:=qL hj;rw[qVw]at hjl;rw[qVj hjl]at hj;cases hj;exact hR j hjl)
    obtain⟨t,hstep⟩:=qtf (P:=c.P) (fn:=fn) (tmps:=tmps) (ds:=ds) (ro:=ro) (k:=k) (cs:=cs) (w:=w) (id:=id) (ops:=ops) hc.mixed;obtain⟨i0,e0⟩:=inv.same (w':={w with drawn:=w.drawn+1}) rfl rfl rfl rfl;have hdn:∀k,k<ops.size→∀j∈Jj ops k,j<ops.size:=fun k hk j hj=>qVQ (qjU hed k j hj) hk
    obtain⟨m',S',w',tmps',h1,h2,h3,h4⟩:=(qt8 hed t).steps (tl:=[]) (w0:=w0) (own:=own) hc (qTF _) (fn:=fn) (k0:=k) (ds:=ds) (ro:=ro) (cs:=cs) hruns (fun x hx=>by simpa using hx) qV9
     (fun x hx hnx=>absurd (by simpa using hx) hnx) hdn (que hp hlen hR) (qud i0 ops.size) (henv.ext e0) (by simp)
     (fun x hx=>by
      have hx':x<ops.size:=by simpa using hx
      rw[qT1 (by omega),qWa,if_pos (by omega)])
    exact⟨m',S',w',tmps',Steps.head hstep ((by simpa using h1:Steps _ _ _).trans (.one qtg)),qBN h2,h3,e0.trans h4⟩
   ·cases h
  ·cases h
 ·cases h
theorem qsV {c:Cfg} (hc:COK c) {fn:FuncId} {id:Nat} {ops:Array Oper} {q:Nat} {s st:St} (h:qfY c ops q s=some st) {tmps:Array Value} {k:List Item} {ds:List Deferred} {ro:Option Nat} {cs:List Frame}
  (inv:Inv w0 own m S w s.rows) (henv:REs m S w s.env tmps) :
  ∃m' S' w' tmps',Steps c.P (lone (rfr fn tmps (.code (.region id ops true)::k) ds ro) cs w) (lone (rfr fn tmps' (.inRegion ops (q::List.range' (q+1) (ops.size - (q+1)))::k) ds ro) cs w')∧Inv w0 own m' S' w' st.rows∧REs m' S' w' st.env tmps'∧Ext m S w m' S' w':=by
 unfold qfY at h;split at h
 ·rename_i hcond;simp only[qTC,decide_eq_true_eq]at hcond;obtain⟨⟨⟨⟨hed,hq⟩,hsz⟩,hall⟩,hall2⟩:=hcond;split at h
  ·rename_i rs s' hrun;split at h
   ·rename_i hp;cases h;have hlen:=qoi hrun;simp only[qVw]at hlen
    let R:Nat→Rec:=fun i=>(rs[i]?).getD {dst:=none,v:=V.undef,slot:=0,rdT:=[],rdR:=none}
    have hR:∀i,i<q→rs[i]?=some (R i):=fun i hi=>by
     have:i<rs.length:=by omega
     simp[R,this]
    have hruns:=qoj (R:=R) hrun (fun j i hj=>by
     have hjl:=qL hj;rw[qVw]at hjl;rw[qVj hjl]at hj;cases hj;exact hR j hjl)
    obtain⟨t,hstep⟩:=qtf (P:=c.P) (fn:=fn) (tmps:=tmps) (ds:=ds) (ro:=ro) (k:=k) (cs:=cs) (w:=w) (id:=id) (ops:=ops) hc.mixed;obtain⟨i0,e0⟩:=inv.same (w':={w with drawn:=w.drawn+1}) rfl rfl rfl rfl;have hdn:∀k,k<ops.size→∀j∈Jj ops k,j<ops.size:=fun k hk j hj=>qVQ (qjU hed k j hj) hk
    have hsched:=qt8 hed t;rw[qj4 hq]at hsched;obtain⟨σ1,e1,s1⟩:=hsched.split (n:=ops.size) rfl
     (fun i hi=>qjV ops.size q i hq (by simpa using(qTI.1 hall) i hi))
     (fun i hi=>by
      have hi':=hi;rw[List.mem_range'_1]at hi';exact qjV ops.size i q (by omega) (by simpa using(qTI.1 hall2) i hi))
     (by rw[List.length_range']; omega)
     (fun x hx=>by rw[←qj4 hq]at hx; simpa using hx) (by rw[←qj4 hq]; exact List.nodup_range)
     (fun x hx hnx=>absurd (by rw[←qj4 hq]; simpa using hx) hnx) hdn
    rw[e1]at hstep;obtain⟨m',S',w',tmps',h1,h2,h3,h4⟩:=s1.steps (n:=q) (tl:=q::List.range' (q+1) (ops.size - (q+1))) (w0:=w0) (own:=own) hc (by omega) (fn:=fn) (k0:=k) (ds:=ds) (ro:=ro) (cs:=cs) hruns (fun x hx=>by simpa using hx) qV9
     (fun x hx hnx=>absurd (by simpa using hx) hnx) (fun k hk j hj=>qVQ (qjU hed k j hj) hk) (que hp hlen hR) (qud i0 ops.size) (henv.ext e0) (by simp)
     (fun x hx=>by
      have hx':x<q:=by simpa using hx
      rw[qT1 (by omega),qWa,if_pos (by omega)])
    exact⟨m',S',w',tmps',Steps.head hstep h1,h2,h3,e0.trans h4⟩
   ·cases h
  ·cases h
 ·cases h
theorem qok (inv:Inv w0 own m S w rows) {r:Nat} {st st':LoopState} {pend pend':Option Code} {fn:FuncId} {env:List V} {ps:List Tmp} {as bd:Code} {d:Nat}
  (hr:rows[r]?=some (qd.live (.loop st pend fn env ps as bd d))):∃l o L,m r=some (l,o)∧w.heap[l]?=some (.loop L)∧L.state=st∧L.pending=pend∧L.fn=fn∧REs m S w env L.tmps∧L.params.toList=ps∧L.assign=as∧L.body=bd∧(∃o',m d=some (L.defers,o')) ∧
   Inv w0 own m S {w with heap:=w.heap.setIfInBounds l (.loop {L with state:=st',pending:=pend'})} (qz rows r (qd.live (.loop st' pend' fn env ps as bd d))) ∧
   Ext m S w m S {w with heap:=w.heap.setIfInBounds l (.loop {L with state:=st',pending:=pend'})}:=by
 obtain⟨l,o,hm,L,h1,h2,h3,h4,h5,h6,h7,h8,o',h9⟩:=inv.row r _ hr;have hlt:=inv.bnd r l o hm;obtain⟨k1,k2⟩:=inv.writeG (w':={w with heap:=w.heap.setIfInBounds l (.loop {L with state:=st',pending:=pend'})}) (row':=.loop st' pend' fn env ps as bd d) hr hm rfl rfl (by simp) (fun c hc=>qjm w l c _ hc)
  (by simp[qZ,h1]) rfl rfl rfl (fun ext=>⟨{L with state:=st',pending:=pend'},qnL w l _ hlt,rfl,rfl,h4,h5.ext ext,h6,h7,h8,o',ext.map _ _ h9⟩)
 exact⟨l,o,L,hm,h1,h2,h3,h4,h5,h6,h7,h8,⟨o',h9⟩,k1,k2⟩
theorem qug {fn:FuncId} {a a':AF} {v:V} {rows':Rows} (h:qhv a v rows=some (a',rows')) {tmps:Array Value} {todo:List Item} {ds:List Deferred} {ro:Option Nat} {cs:List Frame} {u:Value}
  {hid:List Deferred} (inv:Inv w0 own m S w rows) (hfr:FR m S w hid a tmps todo ds ro) (hv:RV m S w v u) (hfn:a.fn=fn) :
  ∃m' S' w' tmps' todo',Steps P (lone ((rfr fn tmps todo ds ro).finish u) cs w) (lone (rfr fn tmps' todo' ds ro) cs w')∧Inv w0 own m' S' w' rows'∧FR m' S' w' hid a' tmps' todo' ds ro∧Ext m S w m' S' w'∧a'.fn=fn:=by
 unfold qhv at h;split at h
 ·rename_i ops i rest k htodo;split at h
  ·rename_i o ho;cases h;have ht:=hfr.todo;rw[htodo]at ht
   cases ht with
   | cons hi t =>
   cases hi;rw[qdE ho];exact⟨m,S,w,_,_,Steps.refl _ _,inv,⟨qaL hfr.env hv o.dst,.cons rfl t,hfr.ds,hfr.ro⟩,Ext.refl ..,hfn⟩
  ·cases h
 ·rename_i r k htodo;split at h
  ·rename_i st pend lfn env ps as bd d hl;have hr:=J6 rows r _ hl;obtain⟨l,o,L,hm,e1,e2,e3,e4,e5,e6,e7,e8,e9,k1,k2⟩:=qok (st':=.exhausted) (pend':=pend) inv hr;have ht:=hfr.todo;rw[htodo]at ht
   cases ht with
   | cons hi t =>
   rename_i krest;obtain⟨l',o',hm',rfl⟩:=hi;rw[hm]at hm'; cases hm';have hb:L.state≠.busy:=by
    rw[e2]; intro e; subst e; simp at h
   have hres:a'={a with todo:=(pend.map fun c=>qT.it (.code c)).toList++k}∧rows'=qz rows r (.live (.loop .exhausted pend lfn env ps as bd d)):=by
    split at h
    ·cases h
    ·cases h; exact⟨rfl,rfl⟩
   obtain⟨rfl,rfl⟩:=hres;have hstep:=qAT (P:=P) (fn:=fn) (tmps:=tmps) (ds:=ds) (ro:=ro) (cs:=cs) (k:=krest) e1 hb;have hL:({L with state:=LoopState.exhausted}:Loop)={L with state:=.exhausted,pending:=pend}:=by rw[←e3]
   rw[hL]at hstep;rw[qAS];refine⟨m,S,_,tmps,_,.one hstep,k1,⟨hfr.env.ext k2,?_,hfr.ds.ext k2,hfr.ro⟩,k2,hfn⟩;rw[e3]
   cases pend with
   | none=>exact t|some c=>exact .cons rfl t
  ·cases h
 ·cases h
theorem quh {F:Frame} {hid:List Deferred} (hF:F.mode=.returning):∀{marks:List Nat} {ds:List Deferred} {rows rows':Rows} {w:World} {S:Nat→Prop},qfZ marks rows=some rows'→qdR m hid marks ds→Inv w0 own m S w rows→∀{cs:List Frame},
  ∃w',Steps P (lone {F with defers:=ds} cs w) (lone {F with defers:=hid} cs w')∧Inv w0 own m S w' rows'∧Ext m S w m S w'
 | [],ds,rows,rows',w,S,h,hd,inv,cs=>by
  cases hd;simp[qfZ]at h; subst h;exact⟨w,Steps.refl _ _,inv,Ext.refl ..⟩
 | r::rs,ds,rows,rows',w,S,h,hd,inv,cs=>by
  cases hd with
  | cons hm t =>
  rename_i b o ds;simp only[qfZ]at h;split at h
  ·rename_i hl;have hr:=J6 rows r _ hl;have hlt:=qbT hr;obtain⟨b',o',hm',hrel⟩:=inv.row r _ hr;rw[hm]at hm'; cases hm';have hb:w.heap[b]?=some (.deferred (some [])):=hrel;have hother:∀(r':Nat) (row2:Row) (c2 o2:Nat),(qz rows r qd.dead)[r']?=some (qd.live row2)→m r'=some (c2,o2)→c2≠b:=by
    intro r' row2 c2 o2 h1 h2;rw[JF (qUo hlt)]at h1
    by_cases e:r'=r
    ·simp[e]at h1
    ·simp only[e,if_false]at h1;exact fun e2=>inv.apart r r' _ row2 b o c2 o2 (fun e3=>e e3.symm) hr h1 rfl hm h2 e2.symm
   obtain⟨k2,e2⟩:=(inv.kill r hlt).scratch (w':={w with heap:=w.heap.setIfInBounds b (.deferred none)}) b (by simp) (fun c2 _ hne=>qjm w b c2 _ hne) hother (inv.stab r _ b o hr rfl hm) (inv.new r _ b o hr rfl hm)
    (by simp[qZ,hb]) rfl rfl rfl
   obtain⟨w',s1,i1,e1⟩:=quh hF h t k2 (cs:=cs);have hstep:=qAU (P:=P) (fr:={F with defers:={target:=.collected b,args:=#[]}::ds}) (cs:=cs) (rest:=ds) hF rfl hb;exact⟨w',Steps.head hstep s1,i1,e2.trans e1⟩
  ·cases h
theorem qol {T:TypeId→Option Ty} (hT:TOK P T) (inv:Inv w0 own m S w rows) {env:List V} {tmps:Array Value} (henv:REs m S w env tmps):∀{rs:List ResultVar} {vs:List V},qdd T rows env rs=some vs →
  ∃us:List Value,(rs.mapM (fun x=>match x with
   | .tmp t=>pure (tmps.getD t Go.undef)|.cell a t=>do loadVar t (←asAddr (tmps.getD a Go.undef)):ResultVar→Sem Value)).run P w=.ok us w∧RVs m S w vs us.toArray
 | [],vs,h=>by simp[qdd]at h; subst h; exact⟨[],rfl,RVs.nil⟩
 | .tmp t::r,vs,h=>by
  simp only[qdd]at h;split at h
  ·rename_i v0 l hv0 hl;cases h;obtain⟨us,h1,h2⟩:=qol hT inv henv hl;have hk:=qjX henv hv0;refine⟨tmps.getD t Go.undef::us,?_,?_⟩
   ·rw[qWf];simp only[Sem.run_bind,Sem.run_pure,Result.andThen_ok,h1]
   ·refine⟨by have:=h2.1; simpa using this,fun j x v hx hv=>?_⟩
    cases j with
    | zero=>simp at hx hv; subst hx; subst hv; simpa using hk|succ j=>simp at hx hv; exact h2.2 j x v hx (by simpa using hv)
  ·cases h
 | .cell a t::r,vs,h=>by
  simp only[qdd]at h;split at h
  ·rename_i v l hv hl;cases h;obtain⟨us,h1,h2⟩:=qol hT inv henv hl;rw[qVT]at hv;obtain⟨x0,hx0,hv⟩:=hv;obtain⟨u,h3,h4⟩:=qou (P:=P) hT (J6 rows) inv hv (qjX henv hx0);have h3':(do loadVar t (←asAddr (tmps.getD a Go.undef)):Sem Value).run P w=.ok u w:=by
    simp only[Instr.loadAt,Instr.sureAddr,asAddr,Sem.run_bind]at h3 ⊢;generalize tmps.getD a Go.undef=q at h3 ⊢
    cases q with
    | pointer p =>
     cases p with
     | some p=>exact h3|none=>simp at h3
    | _=>simp at h3
   refine⟨u::us,?_,?_⟩
   ·rw[qWf];rw[Sem.run_bind,h3',Result.andThen_ok,Sem.run_bind,h1];rfl
   ·refine⟨by have:=h2.1; simpa using this,fun j x v hx hv=>?_⟩
    cases j with
    | zero=>simp at hx hv; subst hx; subst hv; exact h4|succ j=>simp at hx hv; exact h2.2 j x v hx (by simpa using hv)
  ·cases h
theorem qBO {T:TypeId→Option Ty} (hT:TOK P T) (inv:Inv w0 own m S w rows) {env:List V} {tmps:Array Value} (henv:REs m S w env tmps) {gf:Func} {vs:List V} (h:qdd T rows env gf.results.toList=some vs) :
  ∃u,(results gf tmps).run P w=.ok u w∧RV m S w (qj7 vs) u:=by
 obtain⟨us,h1,h2⟩:=qol hT inv henv h
 have hm:(gf.results.mapM (fun x=>match x with
   | .tmp t=>pure (tmps.getD t Go.undef)|.cell a t=>do loadVar t (←asAddr (tmps.getD a Go.undef)):ResultVar→Sem Value)).run P w=.ok us.toArray w:=by
  rw[qWz];simp only[Sem.run_map,h1,Result.andThen_ok]
 have hrun:(results gf tmps).run P w=.ok (if h:us.toArray.size=1 then us.toArray[0]else .tuple us.toArray) w:=by
  unfold results;rw[Sem.run_bind]
  erw [hm]
  rfl
 refine⟨_,hrun,?_⟩;unfold qj7;split
 ·rename_i v;obtain⟨a,ea,hr⟩:=Ji h2;have:us=[a]:=by simpa using ea
  subst this;simpa using hr
 ·rename_i l hne;have hne1:¬us.toArray.size=1:=by
   intro e;have:vs.length=1:=by rw[←h2.1]; exact e
   match vs,this with
   | [v],_=>exact hne v rfl
  rw[dif_neg hne1];exact .tup vs us.toArray h2.1 h2.2
end Go.Aev
end
