/- Lemmas for the statements of this seat: an abstract machine that the model follows, and contracts of functions. Conditions: none. -/
import Derived.Test.YtjchifhnckdnaaaGreatDoorA07
import Derived.Orders
set_option linter.unusedVariables false
set_option linter.unusedSimpArgs false
set_option linter.unusedSectionVars false
section
namespace Go.Aev
variable [Glob]
def leftOf (n:Nat) (listed:Array Bool):List Nat:=(List.range n).filter fun i=>!listed.getD i true
theorem mem_left {n:Nat} {listed:Array Bool} {i:Nat}:i ∈ leftOf n listed ↔ i < n∧listed.getD i true = false:=by
 unfold leftOf; simp
theorem left_sorted (n:Nat) (listed:Array Bool):(leftOf n listed).Pairwise (· < ·):=List.Pairwise.filter _ List.pairwise_lt_range
theorem split_at {L:List Nat} {k:Nat} (h:k ∈ L):∃ A B,L = A ++ k :: B:=List.append_of_mem h
theorem left_set {n:Nat} {listed:Array Bool} {k:Nat} {A B:List Nat} (hs:listed.size = n) (h:leftOf n listed = A ++ k :: B):leftOf n (listed.setIfInBounds k true) = A ++ B:=by
  have hsort:=left_sorted n listed
  rw [h] at hsort
  have hnd:(A ++ k :: B).Nodup:=hsort.imp (fun h=>Nat.ne_of_lt h)
  have hk:k < n:=(mem_left.1 (h ▸ (by simp:k ∈ A ++ k :: B))).1
  have hf:leftOf n (listed.setIfInBounds k true) = (leftOf n listed).filter (· != k):=by
    unfold leftOf
    rw [List.filter_filter]
    apply List.filter_congr
    intro i hi
    have hin:i < n:=by simpa using hi
    by_cases e:i = k
    · subst e; simp [hs,hin]
    · have:(listed.setIfInBounds k true).getD i true = listed.getD i true:=by
        simp only [Array.getD_eq_getD_getElem?]
        rw [Array.getElem?_setIfInBounds_ne (fun h=>e h.symm)]
      rw [this]; simp [e]
  rw [hf,h,List.filter_append,List.filter_cons]
  have hA:A.filter (· != k) = A:=by
    apply List.filter_eq_self.2
    intro a ha
    have:a ≠ k:=fun e=>by
      subst e
      rw [List.nodup_append] at hnd
      exact (hnd.2.2 a ha a (by simp)) rfl
    simpa using this
  have hB:B.filter (· != k) = B:=by
    apply List.filter_eq_self.2
    intro a ha
    have:a ≠ k:=fun e=>by
      subst e
      rw [List.nodup_append] at hnd
      exact (List.nodup_cons.1 hnd.2.1).1 ha
    simpa using this
  simp [hA,hB]
theorem mem_directs {ops:Array Oper} {k j:Nat}:j ∈ directs ops k ↔ ∃ o e,ops[k]? = some o∧e ∈ o.after∧Region.binds .any e = true∧e.on = j:=by
 unfold directs
 cases h:ops[k]? with
 | none=>simp
 | some o=>simp [and_assoc]
theorem ready_iff {ops:Array Oper} {listed:Array Bool} {k:Nat} (hs:listed.size = ops.size) (hd:∀ j ∈ directs ops k,j < ops.size) :
  k ∈ Region.ready .any ops listed ↔ k ∈ leftOf ops.size listed∧∀ j ∈ directs ops k,j ∉ leftOf ops.size listed:=by
 unfold Region.ready
 rw [List.mem_filter,List.mem_range,mem_left]
 constructor
 ·rintro ⟨h1,h2⟩
  simp only [Bool.and_eq_true,Bool.not_eq_true'] at h2
  refine ⟨⟨h1,h2.1⟩,fun j hj hl=>?_⟩
  obtain ⟨o,e,ho,he,hb,rfl⟩:=mem_directs.1 hj
  have h3:=h2.2
  rw [ho] at h3
  simp only [Option.map_some,Option.getD_some] at h3
  have h4:=(Array.all_eq_true'.1 h3) e he
  rw [hb] at h4
  simp only [Bool.not_true,Bool.false_or] at h4
  have h5:=(mem_left.1 hl).2
  have hlt:e.on < listed.size:=by rw [hs]; exact hd e.on hj
  simp only [Array.getD_eq_getD_getElem?,Array.getElem?_eq_getElem hlt,Option.getD_some] at h4 h5
  rw [h4] at h5; cases h5
 ·rintro ⟨⟨h1,h2⟩,h3⟩
  refine ⟨h1,?_⟩
  simp only [h2,Bool.not_false,Bool.true_and]
  rw [Array.getElem?_eq_getElem h1]
  simp only [Option.map_some,Option.getD_some]
  refine Array.all_eq_true'.2 fun e he=>?_
  cases hb:Region.binds .any e with
  | false=>rfl
  | true =>
   simp only [Bool.not_true,Bool.false_or]
   have hj:e.on ∈ directs ops k:=mem_directs.2 ⟨_,e,Array.getElem?_eq_getElem h1,he,hb,rfl⟩
   have hlt:e.on < listed.size:=by rw [hs]; exact hd _ hj
   have h5:=h3 _ hj
   rw [mem_left] at h5
   simp only [Array.getD_eq_getD_getElem?,Array.getElem?_eq_getElem hlt,Option.getD_some] at h5 ⊢
   cases hl:listed[e.on] with
   | true=>rfl
   | false=>exact absurd ⟨by omega,hl⟩ h5
def edgesOK (ops:Array Oper):Bool:=(List.range ops.size).all fun k=>(directs ops k).all fun j=>decide (j < k)
theorem edgesOK_spec {ops:Array Oper} (h:edgesOK ops = true):∀ k,∀ j ∈ directs ops k,j < k:=by
 intro k j hj
 have hk:k < ops.size:=by
  obtain ⟨o,e,ho,_⟩:=mem_directs.1 hj
  exact (Array.getElem?_eq_some_iff.1 ho).1
 have:=(List.all_eq_true.1 h) k (by simpa using hk)
 simpa using (List.all_eq_true.1 this) j hj
theorem linearise_sched {ops:Array Oper} (he:edgesOK ops = true):∀ (fuel t:Nat) (listed:Array Bool),listed.size = ops.size→(leftOf ops.size listed).length = fuel →
  Sched ops (leftOf ops.size listed) (Region.linearise.go .any ops fuel t listed [])
 | 0,t,listed,hs,hl=>by
  have:leftOf ops.size listed = []:=List.eq_nil_of_length_eq_zero hl
  rw [this]
  simp [Region.linearise.go]
  exact .nil
 | fuel + 1,t,listed,hs,hl=>by
  have hed:=edgesOK_spec he
  have hdn:∀ k,k < ops.size→∀ j ∈ directs ops k,j < ops.size:=fun k hk j hj=>Nat.lt_trans (hed k j hj) hk
  have hdn':∀ k j,j ∈ directs ops k→j < ops.size:=fun k j hj=>by
   obtain ⟨o,e,ho,_⟩:=mem_directs.1 hj
   exact hdn k (Array.getElem?_eq_some_iff.1 ho).1 j hj
  simp only [Region.linearise.go]
  change Sched ops _ (match (Region.ready .any ops listed)[t % (Region.ready .any ops listed).length]? with
   | some i=>Region.linearise.go .any ops fuel (t / (Region.ready .any ops listed).length) (listed.setIfInBounds i true) [i]
   | none=>[].reverse)
  -- the first one left is ready
  have hne:Region.ready .any ops listed ≠ []:=by
   cases hL:leftOf ops.size listed with
   | nil=>rw [hL] at hl; simp at hl
   | cons x L =>
    have hx:x ∈ leftOf ops.size listed:=by rw [hL]; simp
    have:x ∈ Region.ready .any ops listed:=by
     rw [ready_iff hs (hdn' x)]
     refine ⟨hx,fun j hj hjl=>?_⟩
     have hjx:=hed x j hj
     have hsort:=left_sorted ops.size listed
     rw [hL] at hsort hjl
     rcases List.mem_cons.1 hjl with h | h
     ·omega
     ·have:=(List.pairwise_cons.1 hsort).1 j h; omega
    exact List.ne_nil_of_mem this
  have hlen:0 < (Region.ready .any ops listed).length:=List.length_pos_iff.2 hne
  have hidx:t % (Region.ready .any ops listed).length < (Region.ready .any ops listed).length:=Nat.mod_lt _ hlen
  rw [List.getElem?_eq_getElem hidx]
  simp only []
  generalize hk:(Region.ready .any ops listed)[t % (Region.ready .any ops listed).length] = k
  have hkm:k ∈ Region.ready .any ops listed:=by rw [← hk]; exact List.getElem_mem _
  rw [ready_iff hs (hdn' k)] at hkm
  obtain ⟨A,B,hAB⟩:=split_at hkm.1
  have hset:=left_set hs hAB
  have ih:=linearise_sched he fuel (t / (Region.ready .any ops listed).length) (listed.setIfInBounds k true) (by simp [hs]) (by rw [hset]; rw [hAB] at hl; simp at hl ⊢; omega)
  rw [linearise_go_acc,List.reverse_singleton,List.singleton_append,hAB]
  rw [hset] at ih
  exact .cons k A B _ (by rw [← hAB]; exact hkm.2) ih
theorem schedule_sched {ops:Array Oper} (he:edgesOK ops = true) (t:Nat):Sched ops (List.range ops.size) (Region.schedule true ops t):=by
 have h:leftOf ops.size (Array.replicate ops.size false) = List.range ops.size:=by
  unfold leftOf
  apply List.filter_eq_self.2
  intro i hi
  have:i < ops.size:=by simpa using hi
  simp [this]
 have:=linearise_sched he ops.size t (Array.replicate ops.size false) (by simp) (by rw [h]; simp)
 rw [h] at this
 simpa [Region.schedule,Region.linearise] using this
def runAll (c:Cfg) (ops:Array Oper) (slot0:Nat):List Nat→St→Option (List Rec × St)
 | [],s=>some ([],s)
 | i :: l,s=>match stepR c ops slot0 i s with
  | some a=>match runAll c ops slot0 l (a.exec s) with
   | some (rs,s')=>some (a :: rs,s')
   | none=>none
  | none=>none
def ancMasks (ops:Array Oper):Nat→List Nat
 | 0=>[]
 | k + 1=>ancMasks ops k ++ [(directs ops k).foldl (fun m j=>m ||| (2 ^ j ||| (ancMasks ops k).getD j 0)) 0]
def ancs (ops:Array Oper) (n:Nat):List (List Nat):=(ancMasks ops n).map fun m=>(List.range n).filter fun i=>m.testBit i
theorem ancMasks_len (ops:Array Oper):∀ n,(ancMasks ops n).length = n
 | 0=>rfl
 | n + 1=>by simp [ancMasks,ancMasks_len ops n]
theorem foldl_bit {f:Nat→Nat} {i:Nat}:∀ {l:List Nat} {m:Nat},(l.foldl (fun m j=>m ||| (2 ^ j ||| f j)) m).testBit i = true→m.testBit i = true ∨ ∃ j ∈ l,i = j ∨ (f j).testBit i = true
 | [],m,h=>.inl h
 | x :: l,m,h=>by
  rw [List.foldl_cons] at h
  rcases foldl_bit h with h1 | ⟨j,hj,h1⟩
  ·rw [Nat.testBit_or,Nat.testBit_or,Bool.or_eq_true,Bool.or_eq_true] at h1
   rcases h1 with h1 | h1 | h1
   ·exact .inl h1
   ·refine .inr ⟨x,by simp,.inl ?_⟩
    rw [Nat.testBit_two_pow] at h1
    exact (of_decide_eq_true h1).symm
   ·exact .inr ⟨x,by simp,.inr h1⟩
  ·exact .inr ⟨j,by simp [hj],h1⟩
theorem ancMasks_spec {ops:Array Oper}:∀ (n k i:Nat),k < n→((ancMasks ops n).getD k 0).testBit i = true→Anc ops i k
 | 0,k,i,h,_=>by omega
 | n + 1,k,i,h,hi=>by
  simp only [ancMasks,List.getD] at hi
  rcases Nat.lt_or_ge k n with h1 | h1
  ·rw [List.getElem?_append_left (by rw [ancMasks_len]; exact h1)] at hi
   exact ancMasks_spec n k i h1 (by simpa [List.getD] using hi)
  ·have:k = n:=by omega
   subst this
   rw [List.getElem?_append_right (by rw [ancMasks_len]; exact Nat.le_refl _),ancMasks_len,Nat.sub_self] at hi
   simp only [List.getElem?_cons_zero,Option.getD_some] at hi
   rcases foldl_bit (f:=fun j=>((ancMasks ops k)[j]?).getD 0) hi with h2 | ⟨j,hj,h2⟩
   ·simp at h2
   ·rcases h2 with rfl | h2
    ·exact .one hj
    ·rcases Nat.lt_or_ge j k with h3 | h3
     ·exact .more hj (ancMasks_spec k j i h3 (by simpa [List.getD] using h2))
     ·rw [List.getElem?_eq_none (by rw [ancMasks_len]; exact h3)] at h2; simp at h2
theorem ancs_spec {ops:Array Oper} (n k i:Nat) (h:k < n) (hi:i ∈ (ancs ops n).getD k []):Anc ops i k:=by
 unfold ancs at hi
 rw [List.getD_eq_getElem?_getD,List.getElem?_map] at hi
 cases hm:(ancMasks ops n)[k]? with
 | none=>rw [hm] at hi; simp at hi
 | some m =>
  rw [hm] at hi
  simp only [Option.map_some,Option.getD_some,List.mem_filter] at hi
  exact ancMasks_spec n k i h (by rw [List.getD_eq_getElem?_getD,hm]; exact hi.2)
def pairsOK (an:List (List Nat)) (slot0:Nat) (rs:List Rec):Bool :=
 rs.zipIdx.all fun (b,k)=>rs.zipIdx.all fun (a,i) =>
  (i == k) || (((an.getD i []).contains k || !a.wr.contains (slot0 + k)) && (decide (k < i) || (an.getD k []).contains i || indep a b))
end Go.Aev
end
section
namespace Go.Aev
variable [Glob]
variable {P:Program} {w0:World} {own:Own} {m:Mp} {S:Nat→Prop} {w:World} {rows:Rows}
def viewS (m:Mp) (S:Nat→Prop) (rows:Rows) (rs:List Nat):Nat→Prop:=fun c=>S c ∨ ∃ r row o,r ∈ rs∧rows[r]? = some (Slot.live row)∧row.freeze.rw = false∧m r = some (c,o)
theorem viewS_ext (inv:Inv w0 own m S w rows) (rs:List Nat):Ext m S w m (viewS m S rows rs) w:=⟨fun _ _ h=>h,fun _ h=>.inl h,fun _ _=>rfl,fun _=>Nat.le_refl _⟩
theorem frozenUps_mem:∀ {rs:List Nat} {u:Nat × Slot},u ∈ frozenUps rows rs→u.1 ∈ rs∧∃ row,rows[u.1]? = some (Slot.live row)∧row.rw = true∧row.freeze.rw = false∧u.2 = .live row.freeze
 | [],u,h=>by cases h
 | r :: rs,u,h=>by
  simp only [frozenUps] at h
  split at h
  ·rename_i row hl
   split at h
   ·rename_i hc
    simp only [Bool.and_eq_true,Bool.not_eq_true'] at hc
    rcases List.mem_cons.1 h with rfl | h
    ·refine ⟨by simp,row,?_,hc.1,hc.2,rfl⟩
     simp only [liveAt] at hl
     split at hl
     ·rename_i row' hr; cases hl; exact hr
     ·cases hl
    ·have:=frozenUps_mem h; exact ⟨List.mem_cons_of_mem _ this.1,this.2⟩
   ·have:=frozenUps_mem h; exact ⟨List.mem_cons_of_mem _ this.1,this.2⟩
  ·have:=frozenUps_mem h; exact ⟨List.mem_cons_of_mem _ this.1,this.2⟩
theorem mem_frozenUps:∀ {rs:List Nat} {r:Nat} {row:Row},r ∈ rs→rows[r]? = some (Slot.live row)→row.rw = true→row.freeze.rw = false→(r,Slot.live row.freeze) ∈ frozenUps rows rs
 | [],r,row,h,_,_,_=>by cases h
 | x :: rs,r,row,h,hr,h1,h2=>by
  simp only [frozenUps]
  rcases List.mem_cons.1 h with rfl | h
  ·have:liveAt rows r = some row:=by simp [liveAt,hr]
   rw [this]; simp [h1,h2]
  ·have ih:=mem_frozenUps h hr h1 h2
   split
   ·split
    ·exact List.mem_cons_of_mem _ ih
    ·exact ih
   ·exact ih
theorem setRows_mem {us:List (Nat × Slot)} {r:Nat} {x:Slot}:∀ {rows:Rows},(∀ u ∈ us,u.1 = r→u.2 = x)→((∃ u ∈ us,u.1 = r) ∨ rows[r]? = some x)→r < rows.length→(setRows us rows)[r]? = some x:=by
 induction us with
 | nil=>intro rows _ h hl; rcases h with ⟨u,hu,_⟩ | h; cases hu; exact h
 | cons u us ih =>
  intro rows hall h hl
  refine ih (rows:=rows.set u.1 u.2) (fun v hv=>hall v (List.mem_cons_of_mem _ hv)) ?_ (by simpa using hl)
  by_cases e:u.1 = r
  ·right; rw [e,List.getElem?_set_self hl,hall u (by simp) e]
  ·rcases h with ⟨v,hv,hvr⟩ | h
   ·rcases List.mem_cons.1 hv with rfl | hv
    ·exact absurd hvr e
    ·exact .inl ⟨v,hv,hvr⟩
   ·right; rw [List.getElem?_set_ne e]; exact h
theorem frozen_get {rs:List Nat} (r:Nat):(∃ row,rows[r]? = some (Slot.live row)∧r ∈ rs∧row.rw = true∧row.freeze.rw = false∧(setRows (frozenUps rows rs) rows)[r]? = some (Slot.live row.freeze)) ∨
  ((setRows (frozenUps rows rs) rows)[r]? = rows[r]?∧∀ row,rows[r]? = some (Slot.live row)→r ∈ rs→row.freeze.rw = false→row.rw = false):=by
 by_cases h:r ∈ (frozenUps rows rs).map (·.1)
 ·left
  obtain ⟨u,hu,rfl⟩:=List.mem_map.1 h
  obtain ⟨h1,row,h2,h3,h4,h5⟩:=frozenUps_mem hu
  refine ⟨row,h2,h1,h3,h4,setRows_mem (fun v hv e=>?_) (.inl ⟨u,hu,rfl⟩) (lt_of_get h2)⟩
  obtain ⟨_,row',h2',_,_,h5'⟩:=frozenUps_mem hv
  rw [e,h2] at h2'; cases h2'; exact h5'
 ·right
  refine ⟨setRows_get h,fun row h1 h2 h3=>?_⟩
  cases hw:row.rw with
  | false=>rfl
  | true=>exact absurd (List.mem_map_of_mem (f:=(·.1)) (mem_frozenUps h2 h1 hw h3)) h
theorem freeze_inv (inv:Inv w0 own m S w rows) (rs:List Nat):Inv w0 own m (viewS m S rows rs) w (setRows (frozenUps rows rs) rows):=by
 have he:=viewS_ext inv rs
 have hlen:=setRows_len (frozenUps rows rs) rows
 have back:∀ {r:Nat} {row:Row},(setRows (frozenUps rows rs) rows)[r]? = some (Slot.live row)→row.rw = true→rows[r]? = some (Slot.live row)∧(r ∈ rs→row.freeze.rw = true):=by
  intro r row h hw
  rcases frozen_get (rows:=rows) (rs:=rs) r with ⟨row0,h1,h2,h3,h4,h5⟩ | ⟨h1,h2⟩
  ·rw [h5] at h; cases h; rw [h4] at hw; cases hw
  ·rw [h1] at h
   refine ⟨h,fun hr=>?_⟩
   cases hf:row.freeze.rw with
   | true=>rfl
   | false=>have:=h2 row h hr hf; rw [this] at hw; cases hw
 refine ⟨fun r hr=>inv.none r (by omega),fun r hr=>?_,fun r row hr=>?_,inv.bnd,fun r row b o h1 hw hm=>inv.new r row b o (back h1 hw).1 hw hm,fun r r' row row' b o b' o' hne h1 h2 hw e1 e2=>?_,fun r row b o h1 hw hm=>?_,
  fun r row b o h1 hw hm=>?_,fun c hc=>?_,fun c hc=>?_,fun c hc=>.inl (inv.stb c hc),inv.os,inv.tape,inv.output,inv.grow,inv.kept,inv.glb.ext he⟩
 ·rcases frozen_get (rows:=rows) (rs:=rs) r with ⟨row0,_,_,_,_,h5⟩ | ⟨h1,_⟩
  ·rw [h5] at hr; cases hr
  ·rw [h1] at hr; exact inv.fre r hr
 ·rcases frozen_get (rows:=rows) (rs:=rs) r with ⟨row0,h1,_,_,_,h5⟩ | ⟨h1,_⟩
  ·rw [h5] at hr; cases hr
   obtain ⟨b,o,hm,hrel⟩:=inv.row r row0 h1
   exact ⟨b,o,hm,(hrel.ext he rfl).freeze⟩
  ·rw [h1] at hr
   obtain ⟨b,o,hm,hrel⟩:=inv.row r row hr
   exact ⟨b,o,hm,hrel.ext he rfl⟩
 ·have hb:=(back h1 hw).1
  rcases frozen_get (rows:=rows) (rs:=rs) r' with ⟨row0,g1,_,_,_,g5⟩ | ⟨g1,_⟩
  ·exact inv.apart r r' row row0 b o b' o' hne hb g1 hw e1 e2
  ·rw [g1] at h2; exact inv.apart r r' row row' b o b' o' hne hb h2 hw e1 e2
 ·obtain ⟨hb,hfr⟩:=back h1 hw
  rintro (hS | ⟨r2,row2,o2,hr2,hl2,hf2,hm2⟩)
  ·exact inv.stab r row b o hb hw hm hS
  ·by_cases e:r = r2
   ·subst e
    rw [hb] at hl2; cases hl2
    rw [hfr hr2] at hf2; cases hf2
   ·exact inv.apart r r2 row row2 b o b o2 e hb hl2 hw hm hm2 rfl
 ·rcases frozen_get (rows:=rows) (rs:=rs) r with ⟨row0,g1,g2,_,g4,g5⟩ | ⟨g1,_⟩
  ·exact .inr ⟨r,row0,o,g2,g1,g4,hm⟩
  ·rw [g1] at h1; exact .inl (inv.rost r row b o h1 hw hm)
 ·rcases hc with hc | ⟨r,row,o,_,_,_,hm⟩
  ·exact inv.sbnd c hc
  ·exact inv.bnd r c o hm
 ·rcases hc with hc | ⟨r,row,o,_,hl,_,hm⟩
  ·exact inv.base c hc
  ·cases hw:row.rw with
   | true=>exact .inr (inv.new r row c o hl hw hm)
   | false=>exact inv.base c (inv.rost r row c o hl hw hm)
mutual
theorem plain_RD {S S':Nat→Prop} {w w':World}:∀ {x:D} {v:Value},x.plain = true→RD S w x v→RD S' w' x v
 | .int k n,v,_,h=>by cases h; exact .int k n
 | .bool b,v,_,h=>by cases h; exact .bool b
 | .str s,v,_,h=>by cases h; exact .str s
 | .nilp,v,_,h=>by cases h; exact .nilp
 | .nilf,v,_,h=>by cases h; exact .nilf
 | .nilm,v,_,h=>by cases h; exact .nilm
 | .nili,v,_,h=>by cases h; exact .nili
 | .list es,v,hp,h=>by
  have:es = []:=by simp [D.plain] at hp
  subst this
  cases h with
  | emp p cap=>exact .emp p cap
  | row es b o cap k n vs hn=>subst hn; exact .emp _ _
 | .agg cs,v,hp,h=>by
  cases h with
  | agg _ arr hlen hd=>exact .agg cs arr hlen (fun j d v e e'=>plain_RDs (cs:=cs) hp j d v e (hd j d v e e'))
theorem plain_RDs {S S':Nat→Prop} {w w':World}:∀ {cs:List D},D.plains cs = true→∀ (j:Nat) (d:D) (v:Value),cs[j]? = some d→RD S w d v→RD S' w' d v
 | [],_,j,d,v,e,_=>by simp at e
 | c :: cs,hp,0,d,v,e,h=>by
  simp only [D.plains,Bool.and_eq_true] at hp
  simp at e; subst e
  exact plain_RD hp.1 h
 | c :: cs,hp,j + 1,d,v,e,h=>by
  simp only [D.plains,Bool.and_eq_true] at hp
  simp at e
  exact plain_RDs hp.2 j d v e h
end
theorem plain1_any {m':Mp} {S':Nat→Prop} {w':World} {x:V} {v:Value} (hp:x.plain1 = true) (h:RV m S w x v):RV m' S' w' x v:=by
 cases h with
 | d x v h=>exact .d x v (plain_RD hp h)
 | nil=>exact .nil
 | _=>simp [V.plain1] at hp
theorem plain_any {m':Mp} {S':Nat→Prop} {w':World} {x:V} {v:Value} (hp:x.plain = true) (h:RV m S w x v):RV m' S' w' x v:=by
 cases x with
 | tup vs =>
  cases h with
  | tup _ arr hlen hd =>
   refine .tup vs arr hlen (fun j y u e e'=>?_)
   simp only [V.plain] at hp
   exact plain1_any ((List.all_eq_true.1 hp) y (List.mem_of_getElem? e)) (hd j y u e e')
 | d x=>exact plain1_any hp h
 | nil=>exact plain1_any hp h
 | _=>simp [V.plain,V.plain1] at hp
def renM (m:Mp) (rs:List Nat):Mp:=fun i=>(rs[i]?).bind m
theorem idxIn_spec {r:Nat}:∀ {rs:List Nat} {i j:Nat},idxIn r rs i = some j→i ≤ j∧rs[j - i]? = some r
 | [],_,_,h=>by cases h
 | x :: l,i,j,h=>by
  simp only [idxIn] at h
  split at h
  ·rename_i hx
   cases h
   simp [hx]
  ·obtain ⟨h1,h2⟩:=idxIn_spec h
   refine ⟨by omega,?_⟩
   have:j - i = (j - (i + 1)) + 1:=by omega
   rw [this,List.getElem?_cons_succ]
   exact h2
theorem renM_idx {m:Mp} {rs:List Nat} {r j:Nat} (h:idxIn r rs 0 = some j):renM m rs j = m r:=by
 have:=(idxIn_spec h).2
 simp only [Nat.sub_zero] at this
 simp [renM,this]
theorem mapO_len {α γ:Type} {f:α→Option γ}:∀ {l:List α} {r:List γ},mapO f l = some r→r.length = l.length
 | [],r,h=>by cases h; rfl
 | x :: l,r,h=>by
  simp only [mapO] at h
  split at h
  ·rename_i y r' h1 h2
   cases h
   simp [mapO_len h2]
  ·cases h
theorem mapO_get {α γ:Type} {f:α→Option γ}:∀ {l:List α} {r:List γ} {j:Nat} {y:γ},mapO f l = some r→r[j]? = some y→∃ x,l[j]? = some x∧f x = some y
 | [],r,j,y,h,hy=>by cases h; simp at hy
 | x :: l,r,j,y,h,hy=>by
  simp only [mapO] at h
  split at h
  ·rename_i z r' h1 h2
   cases h
   cases j with
   | zero=>simp at hy; subst hy; exact ⟨x,rfl,h1⟩
   | succ j=>simp only [List.getElem?_cons_succ] at hy ⊢; exact mapO_get h2 hy
  ·cases h
theorem renV_by {m mT:Mp} {S:Nat→Prop} {w:World} {f:Nat→Option Nat} (hf:∀ r j,f r = some j→mT j = m r):∀ {n:Nat} {v x:V} {u:Value},renV f n v = some x→RV m S w v u→RV mT S w x u:=by
 intro n
 induction n with
 | zero =>
  intro v x u h hv
  cases hv with
  | d y _ h1=>simp only [renV] at h; cases h; exact .d _ _ h1
  | nil=>simp only [renV] at h; cases h; exact .nil
  | top y h1=>simp only [renV] at h; cases h; exact .top _ h1
  | dp y b o vs h1 h2 h3=>simp only [renV] at h; cases h; exact .dp _ _ _ _ h1 h2 h3
  | sl r k off len c ex b o c' p hm hl hc he hp hb =>
   simp only [renV,Option.map_eq_some_iff] at h
   obtain ⟨j,hj,rfl⟩:=h
   exact .sl _ _ _ _ _ _ b o c' p ((hf _ _ hj).trans hm) hl hc he hp hb
  | pt r k i f b o hm =>
   simp only [renV,Option.map_eq_some_iff] at h
   obtain ⟨j,hj,rfl⟩:=h
   exact .pt _ _ _ _ b o ((hf _ _ hj).trans hm)
  | mp r b o hm =>
   simp only [renV,Option.map_eq_some_iff] at h
   obtain ⟨j,hj,rfl⟩:=h
   exact .mp _ b o ((hf _ _ hj).trans hm)
  | yl r b o hm =>
   simp only [renV,Option.map_eq_some_iff] at h
   obtain ⟨j,hj,rfl⟩:=h
   exact .yl _ b o ((hf _ _ hj).trans hm)
  | ifc t y u' h1=>simp only [renV] at h; cases h
  | fp cs b o h1=>simp only [renV] at h; cases h; exact .fp _ _ _ h1
  | fm ks xs b h1=>simp only [renV] at h; cases h; exact .fm _ _ _ h1
  | fn f cs arr hlen hd =>
   simp only [renV] at h
   split at h
   ·rename_i hc
    cases h
    have:cs = []:=by simpa using hc
    subst this
    exact .fn _ _ arr hlen (fun j x v a=>by simp at a)
   ·cases h
  | bf f cs arr hlen hd=>simp only [renV] at h; cases h
  | agg cs arr hlen hd=>simp only [renV] at h; cases h
  | tup cs arr hlen hd =>
   simp only [renV] at h
   split at h
   ·rename_i hc
    cases h
    have:cs = []:=by simpa using hc
    subst this
    exact .tup _ arr hlen (fun j x v a=>by simp at a)
   ·cases h
 | succ n ih =>
  intro v x u h hv
  have all:∀ {cs xs:List V} {arr:Array Value},mapO (renV f n) cs = some xs→arr.size = cs.length→(∀ (j:Nat) (x:V) (v:Value),cs[j]? = some x→arr[j]? = some v→RV m S w x v) →
    arr.size = xs.length∧∀ (j:Nat) (x:V) (v:Value),xs[j]? = some x→arr[j]? = some v→RV mT S w x v:=by
   intro cs xs arr h1 h2 h3
   refine ⟨by rw [mapO_len h1]; exact h2,fun j x v hx hv=>?_⟩
   obtain ⟨y,hy,hr⟩:=mapO_get h1 hx
   exact ih hr (h3 j y v hy hv)
  cases hv with
  | d y _ h1=>simp only [renV] at h; cases h; exact .d _ _ h1
  | nil=>simp only [renV] at h; cases h; exact .nil
  | top y h1=>simp only [renV] at h; cases h; exact .top _ h1
  | dp y b o vs h1 h2 h3=>simp only [renV] at h; cases h; exact .dp _ _ _ _ h1 h2 h3
  | sl r k off len c ex b o c' p hm hl hc he hp hb =>
   simp only [renV,Option.map_eq_some_iff] at h
   obtain ⟨j,hj,rfl⟩:=h
   exact .sl _ _ _ _ _ _ b o c' p ((hf _ _ hj).trans hm) hl hc he hp hb
  | pt r k i f b o hm =>
   simp only [renV,Option.map_eq_some_iff] at h
   obtain ⟨j,hj,rfl⟩:=h
   exact .pt _ _ _ _ b o ((hf _ _ hj).trans hm)
  | mp r b o hm =>
   simp only [renV,Option.map_eq_some_iff] at h
   obtain ⟨j,hj,rfl⟩:=h
   exact .mp _ b o ((hf _ _ hj).trans hm)
  | yl r b o hm =>
   simp only [renV,Option.map_eq_some_iff] at h
   obtain ⟨j,hj,rfl⟩:=h
   exact .yl _ b o ((hf _ _ hj).trans hm)
  | ifc t y u' h1 =>
   simp only [renV,Option.map_eq_some_iff] at h
   obtain ⟨x',hx,rfl⟩:=h
   exact .ifc _ _ _ (ih hx h1)
  | fp cs b o h1=>simp only [renV] at h; cases h; exact .fp _ _ _ h1
  | fm ks xs b h1=>simp only [renV] at h; cases h; exact .fm _ _ _ h1
  | fn f cs arr hlen hd =>
   simp only [renV,Option.map_eq_some_iff] at h
   obtain ⟨xs,hx,rfl⟩:=h
   obtain ⟨k1,k2⟩:=all hx hlen hd
   exact .fn _ _ arr k1 k2
  | bf f cs arr hlen hd =>
   simp only [renV,Option.map_eq_some_iff] at h
   obtain ⟨xs,hx,rfl⟩:=h
   obtain ⟨k1,k2⟩:=all hx hlen hd
   exact .bf _ _ arr k1 k2
  | agg cs arr hlen hd =>
   simp only [renV,Option.map_eq_some_iff] at h
   obtain ⟨xs,hx,rfl⟩:=h
   obtain ⟨k1,k2⟩:=all hx hlen hd
   exact .agg _ arr k1 k2
  | tup cs arr hlen hd =>
   simp only [renV,Option.map_eq_some_iff] at h
   obtain ⟨xs,hx,rfl⟩:=h
   obtain ⟨k1,k2⟩:=all hx hlen hd
   exact .tup _ arr k1 k2
theorem renV_rel {m:Mp} {S:Nat→Prop} {w:World} {rs:List Nat} {n:Nat} {v x:V} {u:Value} (h:renV (fun r=>idxIn r rs 0) n v = some x) (hv:RV m S w v u):RV (renM m rs) S w x u :=
 renV_by (fun _ _ hj=>renM_idx hj) h hv
theorem renRow_rel {m:Mp} {S:Nat→Prop} {w:World} {rs:List Nat} {b o:Nat} {row row':Row} (h:renRow (fun r=>idxIn r rs 0) (some row) = some (.live row')) (hr:RowRel m S w b o row) :
  RowRel (renM m rs) S w b o row'∧row'.rw = false∧row.freeze.rw = false:=by
 cases row with
 | dat k es ro=>simp only [renRow] at h; cases h; exact ⟨hr,rfl,rfl⟩
 | box cs ro =>
  simp only [renRow,Option.map_eq_some_iff] at h
  obtain ⟨xs,hx,h⟩:=h
  cases h
  obtain ⟨c,e,h1,h2⟩:=hr
  refine ⟨⟨c,e,h1,fun j x hj=>?_⟩,rfl,rfl⟩
  obtain ⟨y,hy,hren⟩:=mapO_get hx hj
  obtain ⟨v,hv,hrel⟩:=h2 j y hy
  exact ⟨v,hv,renV_rel hren hrel⟩
 | map es clock ro =>
  simp only [renRow,Option.map_eq_some_iff] at h
  obtain ⟨xs,hx,h⟩:=h
  cases h
  obtain ⟨ents,h1,h2,hbn,h3⟩:=hr
  refine ⟨⟨ents,h1,by rw [mapO_len hx]; exact h2,⟨by rw [mapO_len hx]; exact hbn.1,hbn.2⟩,fun j e x hj he=>?_⟩,rfl,rfl⟩
  obtain ⟨y,hy,hren⟩:=mapO_get hx hj
  simp only [Option.map_eq_some_iff] at hren
  obtain ⟨z,hz,rfl⟩:=hren
  obtain ⟨k1,k2⟩:=h3 j y x hy he
  exact ⟨k1,renV_rel hz k2⟩
 | loop _ _ _ _ _ _ _ _=>simp only [renRow] at h; cases h
 | dfr=>simp only [renRow] at h; cases h
 | iter _ _=>simp only [renRow] at h; cases h
theorem compact_inv (inv:Inv w0 own m S w rows) {rs:List Nat} {args args':List V} {rows':Rows} (h:compact (liveAt rows) rs args = some (args',rows')) {vs:Array Value} (ha:RVs m S w args vs) :
  Inv w ⟨fun _=>False,viewS m S rows rs⟩ (renM m rs) (viewS m S rows rs) w rows'∧(∀ (r:Nat) (row:Row),rows'[r]? = some (Slot.live row)→row.rw = false)∧RVs (renM m rs) (viewS m S rows rs) w args' vs:=by
 have he:=viewS_ext inv rs
 unfold compact at h
 simp only at h
 split at h
 ·rename_i as rws h1 h2
  cases h
  have live:∀ (i:Nat) (row':Row),rows'[i]? = some (Slot.live row')→∃ r row b o,rs[i]? = some r∧rows[r]? = some (Slot.live row)∧m r = some (b,o)∧row.freeze.rw = false∧row'.rw = false∧RowRel (renM m rs) (viewS m S rows rs) w b o row':=by
   intro i row' hi
   obtain ⟨r,hr,hren⟩:=mapO_get h2 hi
   cases hl:liveAt rows r with
   | none=>rw [hl] at hren; simp only [renRow] at hren; cases hren
   | some row =>
    rw [hl] at hren
    have hrow:rows[r]? = some (Slot.live row):=by
     unfold liveAt at hl
     split at hl
     ·rename_i q hq; cases hl; exact hq
     ·cases hl
    obtain ⟨b,o,hm,hrel⟩:=inv.row r row hrow
    obtain ⟨k1,k2,k3⟩:=renRow_rel hren (hrel.ext he rfl)
    exact ⟨r,row,b,o,hr,hrow,hm,k3,k2,k1⟩
  have ro:∀ (r:Nat) (row:Row),rows'[r]? = some (Slot.live row)→row.rw = false:=fun r row hr=>by
   obtain ⟨_,_,_,_,_,_,_,_,k,_⟩:=live r row hr
   exact k
  refine ⟨⟨fun i hi=>?_,fun i hi=>?_,fun i row hi=>?_,fun i b o hi=>?_,fun i row b o h1 hw _=>?_,fun i i' row _ b o b' o' hne h1 _ hw=>?_,fun i row b o h1 hw=>?_,
   fun i row b o h1 _ hm=>?_,fun c hc=>?_,fun c hc=>.inl hc,fun c hc=>hc,rfl,rfl,rfl,Nat.le_refl _,fun _ _ _=>rfl,inv.glb.ext he⟩,ro,?_,fun j x v hx hv=>?_⟩
  ·rw [mapO_len h2] at hi
   simp [renM,hi]
  ·obtain ⟨r,hr,hren⟩:=mapO_get h2 hi
   unfold renRow at hren
   split at hren
   ·cases hren
   ·rw [Option.map_eq_some_iff] at hren; obtain ⟨_,_,hq⟩:=hren; cases hq
   ·rw [Option.map_eq_some_iff] at hren; obtain ⟨_,_,hq⟩:=hren; cases hq
   ·cases hren
  ·obtain ⟨r,row0,b,o,e1,e2,e3,_,_,e4⟩:=live i row hi
   exact ⟨b,o,by simp [renM,e1,e3],e4⟩
  ·unfold renM at hi
   cases hr:rs[i]? with
   | none=>rw [hr] at hi; cases hi
   | some r=>rw [hr] at hi; exact inv.bnd r b o hi
  ·rw [ro i row h1] at hw; cases hw
  ·rw [ro i row h1] at hw; cases hw
  ·rw [ro i row h1] at hw; cases hw
  ·obtain ⟨r,row0,b0,o0,e1,e2,e3,e5,_,e4⟩:=live i row h1
   simp only [renM,e1,Option.bind_some] at hm
   exact .inr ⟨r,row0,o,List.mem_of_getElem? e1,e2,e5,hm⟩
  ·rcases hc with hc | ⟨r,row,o,_,_,_,hm⟩
   ·exact inv.sbnd c hc
   ·exact inv.bnd r c o hm
  ·rw [mapO_len h1]; exact ha.1
  ·obtain ⟨y,hy,hren⟩:=mapO_get h1 hx
   exact renV_rel hren ((ha.2 j y v hy hv).ext he)
 ·cases h
def RCOK (P:Program) (RC:FuncId→List V→Rows→Option V):Prop :=
 ∀ g args rows v,RC g args rows = some v→∀ (w0:World) (own:Own) (m:Mp) (S:Nat→Prop) (w:World) (vs:Array Value),Inv w0 own m S w rows→(∀ (r:Nat) (row:Row),rows[r]? = some (Slot.live row)→row.rw = false)→RVs m S w args vs →
  Calls P g vs w fun e w'=>∃ u,e = .returned u∧∃ S':Nat→Prop,(∀ c,S c→S' c)∧(∀ c,S' c→S c ∨ (w.heap.size ≤ c∧c < w'.heap.size))∧(∀ m2:Mp,RV m2 S' w' v u) ∧
   (∀ c,c < w.heap.size→w'.heap[c]? = w.heap[c]?)∧w.heap.size ≤ w'.heap.size∧w'.os = w.os∧w'.tape = w.tape∧w'.output = w.output
theorem callRC_sound {c:Cfg} (hRC:RCOK P c.RC) (inv:Inv w0 own m S w rows) {g:FuncId} {args:List V} {vs:Array Value} {res:Res} (h:callRC c g args rows = some res) (ha:RVs m S w args vs) :
  Calls P g vs w fun e w'=>∃ u,e = .returned u∧∃ S',Inv w0 own m S' w' (setRows res.ups rows)∧Ext m S w m S' w'∧RV m S' w' res.v u∧res.fresh = none:=by
 unfold callRC at h
 simp only at h
 split at h
 ·rename_i args' rows' hcomp
  obtain ⟨vinv,vro,vargs⟩:=compact_inv inv hcomp ha
  split at h
  ·rename_i v hv
   refine (hRC g args' _ v hv w _ _ _ w vs vinv vro vargs).mono fun e w' ⟨u,he,S2,s1,s2,hr,hb,hs,ho,ht,hu⟩=>⟨u,he,?_⟩
   split at h
   ·rename_i hp
    cases h
    obtain ⟨k1,e1⟩:=inv.called (w':=w') (S':=S) hb hs (fun _ h=>h) (fun _ h=>.inl h) ho ht hu
    exact ⟨S,k1,e1,plain_any hp (hr m),rfl⟩
   ·cases h
    obtain ⟨k1,e1⟩:=(freeze_inv inv (reach rows args)).called (w':=w') (S':=S2) hb hs s1 s2 ho ht hu
    exact ⟨S2,k1,(viewS_ext inv _).trans e1,hr m,rfl⟩
  ·cases h
 ·cases h
end Go.Aev
end
section
namespace Go.Aev
variable [Glob]
def rfr (fn:FuncId) (tmps:Array Value) (todo:List Item) (ds:List Deferred) (ro:Option Nat):Frame :=
 {fn,tmps,todo,defers:=ds,mode:=.run,kind:=.normal,roundOf:=ro }
section
variable {P:Program} {fn:FuncId} {tmps:Array Value} {ds:List Deferred} {ro:Option Nat} {k:List Item} {cs:List Frame} {w:World}
theorem m_skip:step P (lone (rfr fn tmps (.code .skip :: k) ds ro) cs w) = .next (lone (rfr fn tmps k ds ro) cs w):=step_lone_go (by simp [stepG,stepG.exec,rfr])
theorem m_label {l:Nat}:step P (lone (rfr fn tmps (.code (.label l) :: k) ds ro) cs w) = .next (lone (rfr fn tmps k ds ro) cs w):=step_lone_go (by simp [stepG,stepG.exec,rfr])
theorem m_inBlock {id:Nat}:step P (lone (rfr fn tmps (.inBlock id :: k) ds ro) cs w) = .next (lone (rfr fn tmps k ds ro) cs w):=step_lone_go (by simp [stepG,stepG.exec,rfr])
theorem m_inScope {c:Code}:step P (lone (rfr fn tmps (.inScope c :: k) ds ro) cs w) = .next (lone (rfr fn tmps k ds ro) cs w):=step_lone_go (by simp [stepG,stepG.exec,rfr])
theorem m_seq {x y:Code}:step P (lone (rfr fn tmps (.code (.seq x y) :: k) ds ro) cs w) = .next (lone (rfr fn tmps (.code x :: .code y :: k) ds ro) cs w):=step_lone_go (by simp [stepG,stepG.exec,rfr])
theorem m_cond {c:Operand} {x y:Code} {t:Bool} (h:(rfr fn tmps (.code (.cond c x y) :: k) ds ro).eval c = .bool t) :
  step P (lone (rfr fn tmps (.code (.cond c x y) :: k) ds ro) cs w) = .next (lone (rfr fn tmps (.code (if t then x else y) :: k) ds ro) cs w) :=
 step_lone_go (by
  simp only [rfr] at h
  simp [stepG,stepG.exec,rfr,h])
theorem m_block {id:Nat} {c:Code}:step P (lone (rfr fn tmps (.code (.block id c) :: k) ds ro) cs w) = .next (lone (rfr fn tmps (.code c :: .inBlock id :: k) ds ro) cs w):=step_lone_go (by simp [stepG,stepG.exec,rfr])
theorem m_loop {c:Code}:step P (lone (rfr fn tmps (.code (.loop c) :: k) ds ro) cs w) = .next (lone (rfr fn tmps (.code c :: .inLoop c :: k) ds ro) cs w):=step_lone_go (by simp [stepG,stepG.exec,rfr])
theorem m_inLoop {c:Code}:step P (lone (rfr fn tmps (.inLoop c :: k) ds ro) cs w) = .next (lone (rfr fn tmps (.code c :: .inLoop c :: k) ds ro) cs w):=step_lone_go (by simp [stepG,stepG.exec,rfr])
theorem m_scope {c:Code}:step P (lone (rfr fn tmps (.code (.scope c) :: k) ds ro) cs w) = .next (lone (rfr fn tmps (.code c :: .inScope c :: k) ds ro) cs w):=step_lone_go (by simp [stepG,stepG.exec,rfr])
theorem m_exit {id:Nat} {k':List Item} (h:exitTo id k = some k'):step P (lone (rfr fn tmps (.code (.exit id) :: k) ds ro) cs w) = .next (lone (rfr fn tmps k' ds ro) cs w):=step_lone_go (by simp [stepG,stepG.exec,rfr,h])
theorem m_goto {l:Nat} {k':List Item} (h:gotoIn l k = some k'):step P (lone (rfr fn tmps (.code (.goto l) :: k) ds ro) cs w) = .next (lone (rfr fn tmps k' ds ro) cs w):=step_lone_go (by simp [stepG,stepG.exec,rfr,h])
theorem m_region {id:Nat} {ops:Array Oper}:step P (lone (rfr fn tmps (.code (.region id ops false) :: k) ds ro) cs w) = .next (lone (rfr fn tmps (.inRegion ops (List.range ops.size) :: k) ds ro) cs w) :=
 step_lone_go (by simp [stepG,stepG.exec,rfr])
theorem m_draw {id:Nat} {ops:Array Oper} (hm:P.follows .mixedOrders = true):∃ t,step P (lone (rfr fn tmps (.code (.region id ops true) :: k) ds ro) cs w) =
  .next (lone (rfr fn tmps (.inRegion ops (Region.schedule true ops t) :: k) ds ro) cs { w with drawn:=w.drawn + 1 }) :=
 ⟨w.tape w.drawn (.order fn id),step_lone_go (by simp [stepG,stepG.exec,rfr,choose,Sem.run,Question.forced,Question.cut,hm])⟩
theorem m_regionEnd {ops:Array Oper}:step P (lone (rfr fn tmps (.inRegion ops [] :: k) ds ro) cs w) = .next (lone (rfr fn tmps k ds ro) cs w):=step_lone_go (by simp [stepG,stepG.exec,rfr])
def putT (tmps:Array Value) (dst:Option Nat) (v:Value):Array Value :=
 match dst with
 | some d=>tmps.setIfInBounds d v
 | none=>tmps
theorem finish_rfr {ops:Array Oper} {i:Nat} {rest:List Nat} {o:Oper} (ho:ops[i]? = some o) (v:Value) :
  (rfr fn tmps (.inRegion ops (i :: rest) :: k) ds ro).finish v = rfr fn (putT tmps o.dst v) (.inRegion ops rest :: k) ds ro:=by
 simp only [rfr,Frame.finish,ho,Option.bind_some,putT]
 cases o.dst <;> rfl
theorem m_opskip {ops:Array Oper} {i:Nat} {rest:List Nat} {o:Oper} (ho:ops[i]? = some o) (hw:Region.wanted o (yielded ops tmps) = false) :
  step P (lone (rfr fn tmps (.inRegion ops (i :: rest) :: k) ds ro) cs w) = .next (lone (rfr fn (putT tmps o.dst Go.undef) (.inRegion ops rest :: k) ds ro) cs w):=by
 rw [← finish_rfr ho]
 exact step_lone_go (by simp [stepG,stepG.exec,rfr,ho,hw])
theorem stepG_op' {ops:Array Oper} {i:Nat} {rest:List Nat} {o:Oper} (ho:ops[i]? = some o) (hw:Region.wanted o (yielded ops tmps) = true) (hnd:∀ c,o.op ≠ .defer c) :
  stepG P true { frame:=rfr fn tmps (.inRegion ops (i :: rest) :: k) ds ro,callers:=cs,status:=.running,dying:=none } w =
   stepG.apply P true (rfr fn tmps (.inRegion ops (i :: rest) :: k) ds ro) cs none (execOp (rfr fn tmps (.inRegion ops (i :: rest) :: k) ds ro).eval o) w:=by
 cases ro with
 | none=>simp [stepG,stepG.exec,stepG.oper,Frame.oper?,rfr,ho,hw]
 | some l =>
  simp only [stepG,stepG.exec,stepG.oper,Frame.oper?,rfr,ho,hw,Option.map_some,Option.getD_some,if_true]
  split
  ·rename_i h2; exact absurd h2 (hnd _)
  ·rfl
theorem m_op {ops:Array Oper} {i:Nat} {rest:List Nat} {o:Oper} {nx:Next} {u:Value} {w':World} (ho:ops[i]? = some o) (hw:Region.wanted o (yielded ops tmps) = true) (hnd:∀ c,o.op ≠ .defer c)
  (hr:(execOp (rfr fn tmps (.inRegion ops (i :: rest) :: k) ds ro).eval o).run P w = .ok nx w') (hn:nx = .value u ∨ (nx = .skip∧u = Go.undef)) :
  step P (lone (rfr fn tmps (.inRegion ops (i :: rest) :: k) ds ro) cs w) = .next (lone (rfr fn (putT tmps o.dst u) (.inRegion ops rest :: k) ds ro) cs w'):=by
 rw [← finish_rfr ho]
 refine step_lone_go ?_
 rw [stepG_op' ho hw hnd]
 rcases hn with rfl | ⟨rfl,rfl⟩ <;> simp [stepG.apply,hr]
theorem m_enter {ops:Array Oper} {i:Nat} {rest:List Nat} {o:Oper} {g:FuncId} {args:Array Value} {w':World} (ho:ops[i]? = some o) (hw:Region.wanted o (yielded ops tmps) = true) (hnd:∀ c,o.op ≠ .defer c)
  (hr:(execOp (rfr fn tmps (.inRegion ops (i :: rest) :: k) ds ro).eval o).run P w = .ok (.enter g args) w') :
  step P (lone (rfr fn tmps (.inRegion ops (i :: rest) :: k) ds ro) cs w) = .next (lone (Frame.enter P g args .normal) (rfr fn tmps (.inRegion ops (i :: rest) :: k) ds ro :: cs) w'):=by
 refine step_lone_go ?_
 rw [stepG_op' ho hw hnd]
 simp only [rfr] at hr
 simp [stepG.apply,hr,rfr]
theorem m_round {ops:Array Oper} {i:Nat} {rest:List Nat} {o:Oper} {l:Nat} {f:FuncId} {ts:Array Value} {as body:Code} {w':World} (ho:ops[i]? = some o) (hw:Region.wanted o (yielded ops tmps) = true) (hnd:∀ c,o.op ≠ .defer c)
  (hr:(execOp (rfr fn tmps (.inRegion ops (i :: rest) :: k) ds ro).eval o).run P w = .ok (.round l f ts as body) w') :
  step P (lone (rfr fn tmps (.inRegion ops (i :: rest) :: k) ds ro) cs w) = .next (lone (rfr f ts [.code as,.beginRound,.code body] [] (some l)) (rfr fn tmps (.inRegion ops (i :: rest) :: k) ds ro :: cs) w'):=by
 refine step_lone_go ?_
 rw [stepG_op' ho hw hnd]
 simp only [rfr] at hr
 simp [stepG.apply,hr,rfr,Frame.round]
theorem run_getLoop {l:Nat} {L:Loop} (h:w.heap[l]? = some (.loop L)):(Instr.getLoop l).run P w = .ok L w:=by
 simp only [Instr.getLoop,Sem.run_bind,run_getObj (P:=P) h (by simp),Result.andThen_ok,Sem.run_pure]
theorem m_begin {l:Nat} {L:Loop} (hl:w.heap[l]? = some (.loop L)) (hs:L.state = .ready) :
  step P (lone (rfr fn tmps (.beginRound :: k) ds (some l)) cs w) = .next (lone (rfr fn tmps k ds (some l)) cs { w with heap:=w.heap.setIfInBounds l (.loop { L with state:=.busy }) }):=by
 have hrun:(Instr.beginRound l).run P w = .ok () { w with heap:=w.heap.setIfInBounds l (.loop { L with state:=.busy }) }:=by
  simp only [Instr.beginRound,Sem.run_bind,run_getLoop hl,Result.andThen_ok,run_setObj (P:=P) hl (by simp),hs,Sem.run_pure]
 refine step_lone_go ?_
 simp [stepG,stepG.exec,rfr,stepG.apply,hrun,Frame.finish]
theorem run_callFunc {g:FuncId} {gf:Func} {args:Array Value} (hf:P.funcs[g]? = some gf) (hb:gf.body.isSome = true) (hn:(gf.name == "runtime.NumGoroutine") = false) :
  (callFunc g args).run P w = .ok (.enter g args) w:=by
 have hb':gf.body.isNone = false:=by cases h:gf.body <;> simp_all
 simp only [callFunc,Sem.run_bind,run_program,Result.andThen_ok,hf,hn,hb',Bool.false_eq_true,if_false,Sem.run_pure]
theorem eval_const (fr:Frame) (v:Value):fr.eval (.const v) = v:=rfl
theorem run_rangeCall {g:FuncId} {gf:Func} {caps:Array Value} {f:Operand} (fr:Frame) (y:Value) (he:fr.eval f = .func (.func g) #[] caps) (hf:P.funcs[g]? = some gf) (hb:gf.body.isSome = true) (hn:(gf.name == "runtime.NumGoroutine") = false) :
  (do let d ← resolve fr.eval { callee:=.value f,args:=#[.const y],argTypes:=#[] } 0; invoke d.target d.args:Sem Next).run P w = .ok (.enter g (#[y] ++ caps)) w:=by
 have hcall:=fun (w:World) (args:Array Value)=>run_callFunc (P:=P) (w:=w) (args:=args) hf hb hn
 simp [resolve,he,Deferred.ofValue,invoke,hcall,eval_const]
def loopOf (fn:FuncId) (tmps:Array Value) (params:Array Tmp) (as body:Code) (d:Nat):Loop:={ state:=.ready,pending:=none,fn,tmps,params,assign:=as,body,defers:=d }
theorem m_range {f:Operand} {params:Array Tmp} {as body:Code} {g:FuncId} {gf:Func} {caps:Array Value}
  (he:(rfr fn tmps (.code (.rangeFunc f params as body) :: k) ds none).eval f = .func (.func g) #[] caps) (hf:P.funcs[g]? = some gf) (hb:gf.body.isSome = true) (hn:(gf.name == "runtime.NumGoroutine") = false) :
  step P (lone (rfr fn tmps (.code (.rangeFunc f params as body) :: k) ds none) cs w) =
   .next (lone (Frame.enter P g (#[.func (.yield (w.heap.size + 1)) #[] #[]] ++ caps) .normal)
    (rfr fn tmps (.inRangeFunc (w.heap.size + 1) :: k) ({ target:=.collected w.heap.size,args:=#[] } :: ds) none :: cs)
    ((w.alloc (.deferred (some []))).alloc (.loop (loopOf fn tmps params as body w.heap.size)))):=by
 refine step_lone_go ?_
 have he':∀ (d:List Deferred) (t:List Item),(rfr fn tmps t d none).eval f = .func (.func g) #[] caps:=by
  intro d t; cases f <;> simp [rfr,Frame.eval] at he ⊢ <;> exact he
 have hsem:=fun (d:List Deferred) (t:List Item) (w:World) (y:Value)=>run_rangeCall (w:=w) (rfr fn tmps t d none) y (he' d t) hf hb hn
 simp only [rfr,Sem.run_bind] at hsem
 simp only [stepG,stepG.exec,rfr,Instr.enterLoop,stepG.apply,Sem.runT_eq,Sem.run_bind,Sem.run_pure,run_newObj,Result.andThen_ok,World.alloc_eq,World.size_alloc,GStep.bare_after,List.singleton_append,List.cons_append,List.nil_append]
 simp [hsem,loopOf]
theorem m_range_in {f:Operand} {params:Array Tmp} {as body:Code} {g:FuncId} {gf:Func} {caps:Array Value} {l:Nat} {L:Loop} (hl:w.heap[l]? = some (.loop L))
  (he:(rfr fn tmps (.code (.rangeFunc f params as body) :: k) ds (some l)).eval f = .func (.func g) #[] caps) (hf:P.funcs[g]? = some gf) (hb:gf.body.isSome = true) (hn:(gf.name == "runtime.NumGoroutine") = false) :
  step P (lone (rfr fn tmps (.code (.rangeFunc f params as body) :: k) ds (some l)) cs w) =
   .next (lone (Frame.enter P g (#[.func (.yield w.heap.size) #[] #[]] ++ caps) .normal)
    (rfr fn tmps (.inRangeFunc w.heap.size :: k) ds (some l) :: cs)
    (w.alloc (.loop (loopOf fn tmps params as body L.defers)))):=by
 refine step_lone_go ?_
 have he':∀ (d:List Deferred) (t:List Item),(rfr fn tmps t d (some l)).eval f = .func (.func g) #[] caps:=by
  intro d t; cases f <;> simp [rfr,Frame.eval] at he ⊢ <;> exact he
 have hsem:=fun (d:List Deferred) (t:List Item) (w:World) (y:Value)=>run_rangeCall (w:=w) (rfr fn tmps t d (some l)) y (he' d t) hf hb hn
 have hgl:=run_getLoop (P:=P) hl
 simp only [rfr,Sem.run_bind] at hsem
 simp only [stepG,stepG.exec,rfr,Instr.enterLoop,stepG.apply,Sem.runT_eq,Sem.run_bind,Sem.run_pure,run_newObj,Result.andThen_ok,World.alloc_eq,World.size_alloc,GStep.bare_after,hgl,List.nil_append]
 simp [hsem,loopOf]
theorem run_endRound {l:Nat} {L:Loop} {jump:Option Code} (hl:w.heap[l]? = some (.loop L)) :
  (Instr.endRound l jump).run P w = .ok (.bool jump.isNone) { w with heap:=w.heap.setIfInBounds l (.loop { L with state:=if jump.isNone then .ready else .done,pending:=jump }) }:=by
 simp only [Instr.endRound,Sem.run_bind,run_getLoop hl,Result.andThen_ok,run_setObj (P:=P) hl (by simp),Sem.run_pure]
theorem m_endRound {todo:List Item} {c:Frame} {l:Nat} {L:Loop} {jump:Option Code} (hl:w.heap[l]? = some (.loop L))
  (h:(todo = []∧jump = none) ∨ (∃ k,todo = .code .ret :: k∧jump = some .ret) ∨ ∃ id k,todo = .code (.exit id) :: k∧exitTo id k = none∧jump = some (.exit id)) :
  step P (lone (rfr fn tmps todo ds (some l)) (c :: cs) w) =
   .next (lone (c.finish (.bool jump.isNone)) cs { w with heap:=w.heap.setIfInBounds l (.loop { L with state:=if jump.isNone then .ready else .done,pending:=jump }) }):=by
 have hrun:=fun (j:Option Code)=>run_endRound (P:=P) (jump:=j) hl
 rcases h with ⟨rfl,rfl⟩ | ⟨k,rfl,rfl⟩ | ⟨id,k,rfl,he,rfl⟩
 ·exact step_lone_go (by simp [stepG,stepG.exec,rfr,hrun,doReturn])
 ·exact step_lone_go (by simp [stepG,stepG.exec,rfr,hrun,doReturn])
 ·exact step_lone_go (by simp [stepG,stepG.exec,rfr,hrun,doReturn,he])
theorem finish_range {l:Nat} (v:Value):(rfr fn tmps (.inRangeFunc l :: k) ds ro).finish v = rfr fn tmps (.endRangeFunc l :: k) ds ro:=rfl
theorem m_endRange {l:Nat} {L:Loop} (hl:w.heap[l]? = some (.loop L)) (hs:L.state ≠ .busy) :
  step P (lone (rfr fn tmps (.endRangeFunc l :: k) ds ro) cs w) =
   .next (lone (rfr fn tmps ((L.pending.map Item.code).toList ++ k) ds ro) cs { w with heap:=w.heap.setIfInBounds l (.loop { L with state:=.exhausted }) }):=by
 have hb:(L.state == LoopState.busy) = false:=by simpa using hs
 have hrun:(Instr.endLoop l).run P w = .ok L.pending { w with heap:=w.heap.setIfInBounds l (.loop { L with state:=.exhausted }) }:=by
  simp only [Instr.endLoop,Sem.run_bind,run_getLoop hl,Result.andThen_ok,hb,Bool.false_eq_true,if_false,run_setObj (P:=P) hl (by simp),Sem.run_pure]
 exact step_lone_go (by simp [stepG,stepG.exec,rfr,hrun])
theorem m_mark {fr:Frame} {b:Nat} {rest:List Deferred} (hm:fr.mode = .returning) (hd:fr.defers = { target:=.collected b,args:=#[] } :: rest) (hb:w.heap[b]? = some (.deferred (some []))) :
  step P (lone fr cs w) = .next (lone { fr with defers:=rest } cs { w with heap:=w.heap.setIfInBounds b (.deferred none) }):=by
 have hrun:(Instr.takeDeferred b).run P w = .ok [] { w with heap:=w.heap.setIfInBounds b (.deferred none) }:=by
  simp only [Instr.takeDeferred,Sem.run_bind,run_getObj (P:=P) hb (by simp),Result.andThen_ok,run_setObj (P:=P) hb (by simp),Sem.run_pure]
 exact step_lone_go (by simp [stepG,hm,unwind,hd,hrun])
theorem m_ret_plain {todo:List Item} (h:todo = [] ∨ ∃ k,todo = .code .ret :: k) :
  step P (lone (rfr fn tmps todo ds none) cs w) = .next (lone { rfr fn tmps todo ds none with mode:=.returning } cs w):=by
 rcases h with rfl | ⟨k,rfl⟩ <;> exact step_lone_go (by simp [stepG,stepG.exec,rfr])
end
end Go.Aev
end
section
namespace Go.Aev
variable [Glob]
theorem anc_not {ops:Array Oper} {n k:Nat} {L:List Nat} (hr:∀ j ∈ directs ops k,j ∉ L) (hk:k < n) (hdc:∀ x,x < n→x ∉ L→∀ j ∈ directs ops x,j ∉ L) (hdn:∀ k,k < n→∀ j ∈ directs ops k,j < n)
  {i:Nat} (hi:i ∈ L):¬ Anc ops i k:=by
 have key:∀ i k',Anc ops i k'→i ∈ L→k' < n→(k' ∉ L ∨ k' = k)→False:=by
  intro i k' h
  induction h with
  | one h =>
   intro hi hk' hor
   rcases hor with h1 | h1
   ·exact hdc _ hk' h1 _ h hi
   ·subst h1; exact hr _ h hi
  | more h _ ih =>
   intro hi hk' hor
   refine ih hi (hdn _ hk' _ h) (.inl ?_)
   rcases hor with h1 | h1
   ·exact hdc _ hk' h1 _ h
   ·subst h1; exact hr _ h
 exact fun h=>key i k h hi hk (.inr rfl)
theorem Sched.short {ops:Array Oper} {L σ:List Nat} (h:Sched ops L σ):L.length ≤ 1→σ = L:=by
 induction h with
 | nil=>intro _; rfl
 | cons k A B σ _ hs ih =>
  intro hl
  have hA:A = []:=by cases A with | nil=>rfl | cons a A=>simp at hl
  have hB:B = []:=by cases B with | nil=>rfl | cons a B=>simp at hl; omega
  subst hA; subst hB
  have:=ih (by simp)
  rw [this]; rfl
theorem Sched.split {ops:Array Oper} {n c:Nat} {L σ:List Nat} (h:Sched ops L σ):∀ {L1 rest:List Nat},L = L1 ++ c :: rest→(∀ i ∈ L1,Anc ops i c)→(∀ i ∈ rest,Anc ops c i)→rest.length ≤ 1→(∀ x ∈ L,x < n)→L.Nodup →
  (∀ x,x < n→x ∉ L→∀ j ∈ directs ops x,j ∉ L)→(∀ k,k < n→∀ j ∈ directs ops k,j < n)→∃ σ1,σ = σ1 ++ c :: rest∧Sched ops L1 σ1:=by
 induction h with
 | nil=>intro L1 rest e; simp at e
 | cons k A B σ hr hs ih =>
  intro L1 rest e h1 h2 h3 hlt hnd hdc hdn
  have hkn:k < n:=hlt k (by simp)
  have hnot:∀ i,i ∈ A ++ k :: B→¬ Anc ops i k:=fun i hi=>anc_not hr hkn hdc hdn hi
  have hcL:c ∈ A ++ k :: B:=by rw [e]; simp
  have hk:k ∈ L1 ++ c :: rest:=by rw [← e]; simp
  rcases List.mem_append.1 hk with hk1 | hk1
  ·obtain ⟨A1,B1,hA1⟩:=List.append_of_mem hk1
   subst hA1
   rw [List.append_assoc,List.cons_append] at e
   have hkA:k ∉ A:=by
    rw [List.nodup_append] at hnd
    exact fun h=>hnd.2.2 k h k (by simp) rfl
   have hnd':=hnd
   rw [e] at hnd'
   have hkA1:k ∉ A1:=by
    rw [List.nodup_append] at hnd'
    exact fun h=>hnd'.2.2 k h k (by simp) rfl
   have hAA:A = A1∧B = B1 ++ c :: rest:=by
    have:=List.append_eq_append_iff.1 e
    rcases this with ⟨a,e1,e2⟩ | ⟨a,e1,e2⟩
    ·cases a with
     | nil=>simp at e1 e2; exact ⟨e1.symm,e2⟩
     | cons y a=>simp at e2; obtain ⟨rfl,_⟩:=e2; exact absurd (by rw [e1]; simp) hkA1
    ·cases a with
     | nil=>simp at e1 e2; exact ⟨e1,e2.symm⟩
     | cons y a=>simp at e2; obtain ⟨rfl,_⟩:=e2; exact absurd (by rw [e1]; simp) hkA
   obtain ⟨rfl,rfl⟩:=hAA
   obtain ⟨σ1,e1,s1⟩:=ih (L1:=A ++ B1) (rest:=rest) (by simp) (fun i hi=>h1 i (by rcases List.mem_append.1 hi with h | h <;> simp [h])) h2 h3
    (fun x hx=>hlt x (by rcases List.mem_append.1 hx with h | h <;> simp [h]))
    (by
     rw [List.nodup_append] at hnd ⊢
     exact ⟨hnd.1,(List.nodup_cons.1 hnd.2.1).2,fun a ha b hb=>hnd.2.2 a ha b (by simp [hb])⟩)
    (fun x hx hnx j hj hmem=>by
     have hmem':j ∈ A ++ k :: (B1 ++ c :: rest):=(List.mem_append.1 hmem).elim (fun h=>List.mem_append.2 (.inl h)) (fun h=>List.mem_append.2 (.inr (List.mem_cons_of_mem _ h)))
     by_cases hxk:x = k
     ·subst hxk; exact hr j hj hmem'
     ·refine hdc x hx (fun h=>?_) j hj hmem'
      rcases List.mem_append.1 h with h | h
      ·exact hnx (by simp [h])
      ·rcases List.mem_cons.1 h with h | h
       ·exact hxk h
       ·exact hnx (by rw [List.mem_append]; exact .inr h)) hdn
   refine ⟨k :: σ1,by rw [e1]; rfl,?_⟩
   refine .cons k A B1 σ1 (fun j hj hm=>hr j hj ?_) s1
   rcases List.mem_append.1 hm with h | h
   ·simp [h]
   ·rcases List.mem_cons.1 h with h | h
    ·simp [h]
    ·simp [h]
  ·rcases List.mem_cons.1 hk1 with hk2 | hk2
   ·subst hk2
    have hL1:L1 = []:=by
     cases L1 with
     | nil=>rfl
     | cons i L1=>exact absurd (h1 i (by simp)) (hnot i (by rw [e]; simp))
    subst hL1
    have hAB:A = []∧B = rest:=by
     cases A with
     | nil=>simp at e; exact ⟨rfl,e⟩
     | cons a A =>
      simp at e
      obtain ⟨rfl,_⟩:=e
      simp at hnd
    obtain ⟨rfl,rfl⟩:=hAB
    refine ⟨[],?_,.nil⟩
    simp only [List.nil_append] at hs ⊢
    congr 1
    exact hs.short h3
   ·exact absurd (h2 k hk2) (hnot c hcL)
def cutA (c:Cfg) (ops:Array Oper) (k:Nat) (s:St):Option St :=
 if edgesOK ops && decide (k < ops.size) && decide (ops.size ≤ k + 2) && (List.range k).all (fun i=>((ancs ops ops.size).getD k []).contains i) &&
   (List.range' (k + 1) (ops.size - (k + 1))).all (fun i=>((ancs ops ops.size).getD i []).contains k) then
  match runAll c ops s.rows.length (List.range k) { s with rows:=s.rows ++ List.replicate ops.size .free } with
  | some (rs,s')=>if pairsOK (ancs ops k) s.rows.length rs then some s' else none
  | none=>none
 else none
theorem range_cut {n k:Nat} (h:k < n):List.range n = List.range k ++ k :: List.range' (k + 1) (n - (k + 1)):=by
 rw [List.range_eq_range',List.range_eq_range',← List.range'_succ (s:=k) (n:=n - (k + 1)) (step:=1)]
 have:n = k + (n - (k + 1) + 1):=by omega
 conv=>lhs; rw [this]
 rw [← List.range'_append_1]
 simp
end Go.Aev
end
section
namespace Go.Aev
variable [Glob]
inductive AItem where
 | it (i:Item)
 | rf (r:Nat)
structure AF where
 fn:FuncId
 env:List V
 todo:List AItem
 round:Option Nat
 marks:List Nat
 dcl:List (FuncId × List V):=[]
structure AS where
 fr:AF
 stack:List AF
 rows:Rows
inductive Out where
 | next (s:AS)
 | done (v:V) (rows:Rows)
 | fail
def aExitTo (id:Nat):List AItem→Option (List AItem)
 | .it (.inBlock id') :: k=>if id' == id then some k else aExitTo id k
 | _ :: k=>aExitTo id k
 | []=>none
def aGotoIn (l:Nat):List AItem→Option (List AItem)
 | .it (.inScope body) :: k=>match findLabel body l with
  | some rest=>some (.it (.code rest) :: .it (.inScope body) :: k)
  | none=>aGotoIn l k
 | _ :: k=>aGotoIn l k
 | []=>none
def setTmp (env:List V) (dst:Option Nat) (v:V):List V :=
 match dst with
 | some d=>env.set d v
 | none=>env
def finishA (fr:AF) (v:V) (rows:Rows):Option (AF × Rows) :=
 match fr.todo with
 | .it (.inRegion ops (i :: rest)) :: k=>match ops[i]? with
  | some o=>some ({ fr with env:=setTmp fr.env o.dst v,todo:=.it (.inRegion ops rest) :: k },rows)
  | none=>none
 | .rf r :: k=>match liveAt rows r with
  | some (.loop st pend fn env ps as bd d)=>match st with
   | .busy=>none
   | _=>some ({ fr with todo:=(pend.map fun c=>AItem.it (.code c)).toList ++ k },setSlot rows r (.live (.loop .exhausted pend fn env ps as bd d)))
  | _=>none
 | _=>none
def killMarks:List Nat→Rows→Option Rows
 | [],rows=>some rows
 | r :: rs,rows=>match liveAt rows r with
  | some .dfr=>killMarks rs (setSlot rows r .dead)
  | _=>none
structure DSt where
 env:List V
 ups:List (Nat × Slot)
inductive DEx where
 | normal
 | ret
 | exit (id:Nat)
def upsLook (g:Nat→Option Row):List (Nat × Slot)→Nat→Option Row
 | [],r=>g r
 | u :: us,r=>upsLook (fun r=>if r = u.1 then (match u.2 with | .live row=>some row | _=>none) else g r) us r
def dOK:Op→Bool
 | .move _ | .assign _ | .pick _ _ _ | .load _ _ | .store _ _ _ | .nilCheck _ | .binOp _ _ _ _ _ | .unOp _ _ _ | .fieldAddr _ _ _ | .field _ _ _ | .extract _ _=>true
 | .call { callee:=.builtin .len,.. }=>true
 | _=>false
def dOp (T:TypeId→Option Ty) (g:Nat→Option Row) (ops:Array Oper) (o:Oper) (s:DSt):Option DSt :=
 match wantedA ops s.env o with
 | none=>none
 | some false=>some { s with env:=setTmp s.env o.dst V.undef }
 | some true=>match o.op with
  | .call ⟨.builtin .recover,_,_⟩=>some { s with env:=setTmp s.env o.dst (.d .nili) }
  | op=>if !dOK op then none else
   match evalOs s.env (opnds op) with
    | some vs=>match act T (fun r=>if (vs.flatMap V.refs).contains r then upsLook g s.ups r else none) 0 op vs with
     | some ⟨v,us,none⟩=>if us.all (fun u=>(g u.1).isSome) then some { env:=setTmp s.env o.dst v,ups:=s.ups ++ us } else none
     | _=>none
    | none=>none
def dOps (T:TypeId→Option Ty) (g:Nat→Option Row) (ops:Array Oper):List Nat→DSt→Option DSt
 | [],s=>some s
 | i :: l,s=>match ops[i]? with
  | some o=>match dOp T g ops o s with
   | some s'=>dOps T g ops l s'
   | none=>none
  | none=>none
def dCode (T:TypeId→Option Ty) (g:Nat→Option Row):Code→DSt→Option (DEx × DSt)
 | .skip,s=>some (.normal,s)
 | .ret,s=>some (.ret,s)
 | .exit id,s=>some (.exit id,s)
 | .seq a b,s=>match dCode T g a s with
  | some (.normal,s')=>dCode T g b s'
  | r=>r
 | .cond o x y,s=>match evalO s.env o with
  | some (.d (.bool true))=>dCode T g x s
  | some (.d (.bool false))=>dCode T g y s
  | _=>none
 | .block id b,s=>match dCode T g b s with
  | some (.exit id',s')=>if id' = id then some (.normal,s') else none
  | r=>r
 | .region _ ops false,s=>match dOps T g ops (List.range ops.size) s with
  | some s'=>some (.normal,s')
  | none=>none
 | _,_=>none
def dRun (c:Cfg) (g:Nat→Option Row) (f:FuncId) (args:List V):Option (List (Nat × Slot)) :=
 match c.F f with
 | some gf=>match gf.body with
  | some b=>if gf.results.isEmpty then match dCode c.T g b { env:=args ++ List.replicate (gf.ntmps - args.length) V.undef,ups:=[] } with
   | some (.normal,s)=>some s.ups
   | some (.ret,s)=>some s.ups
   | _=>none else none
  | none=>none
 | none=>none
def dRuns (c:Cfg):List (FuncId × List V)→Rows→Option Rows
 | [],rows=>some rows
 | d :: ds,rows=>match dRun c (liveAt rows) d.1 d.2 with
  | some us=>dRuns c ds (setRows us rows)
  | none=>none
def resultsA (T:TypeId→Option Ty) (rows:Rows) (env:List V):List ResultVar→Option (List V)
 | []=>some []
 | .tmp t :: r=>match known (env.getD t V.undef),resultsA T rows env r with
  | some v,some l=>some (v :: l)
  | _,_=>none
 | .cell a t :: r=>match (known (env.getD a V.undef)).bind (loadA T (liveAt rows) t),resultsA T rows env r with
  | some v,some l=>some (v :: l)
  | _,_=>none
def oneOr (l:List V):V :=
 match l with
 | [v]=>v
 | l=>.tup l
def popA (stack:List AF) (v:V) (rows:Rows):Out :=
 match stack with
 | []=>.done v rows
 | caller :: st=>match finishA caller v rows with
  | some (fr,rows)=>.next { fr,stack:=st,rows }
  | none=>.fail
def leaveA (c:Cfg) (s:AS) (jump:Option Code):Out :=
 match s.fr.round with
 | none=>match jump with
  | none | some .ret=>match c.F s.fr.fn,(killMarks s.fr.marks s.rows).bind (dRuns c s.fr.dcl) with
   | some gf,some rows=>match resultsA c.T rows s.fr.env gf.results.toList with
    | some vs=>popA s.stack (oneOr vs) rows
    | none=>.fail
   | _,_=>.fail
  | _=>.fail
 | some r=>match liveAt s.rows r with
  | some (.loop _ _ fn env ps as bd d)=>match s.stack with
   | []=>.fail
   | caller :: st=>popA (caller :: st) (.d (.bool jump.isNone)) (setSlot s.rows r (.live (.loop (if jump.isNone then .ready else .done) jump fn env ps as bd d)))
  | _=>.fail
def enterA (c:Cfg) (g:FuncId) (args:List V):Option AF :=
 match c.F g with
 | some gf=>match gf.body with
  | some b=>some { fn:=g,env:=args ++ List.replicate (gf.ntmps - args.length) V.undef,todo:=[.it (.code b)],round:=none,marks:=[] }
  | none=>none
 | none=>none
def setEnvs (env:List V):List Tmp→List V→List V
 | p :: ps,v :: vs=>setEnvs (env.set p v) ps vs
 | _,_=>env
def toA (s:AS) (k:List AItem):Out:=.next { s with fr:={ s.fr with todo:=k } }
def methA (c:Cfg) (look:Nat→Option Row) (t:TypeId) (v:V) (name:String):Option (FuncId × V) :=
 match c.P.info? t,c.T t with
 | some i,some y=>match i.methods.find? (·.name == name) with
  | some ⟨_,_,⟨[]⟩,some (f,pr)⟩=>match y.desc,pr with
   | .pointer _,true=>some (f,v)
   | .pointer e,false=>(loadA c.T look e v).map fun x=>(f,x)
   | _,_=>none
  | _=>none
 | _,_=>none
def invokeA (c:Cfg) (s:AS) (o:Op) (vs:List V):Out :=
 match o with
 | .call ⟨.invoke recv name,_,_⟩=>match evalO s.fr.env recv with
  | some (.ifc t v)=>match methA c (liveAt s.rows) t v name with
   | some (g,rv)=>match enterA c g (rv :: vs) with
    | some fr=>.next { fr,stack:=s.fr :: s.stack,rows:=s.rows }
    | none=>.fail
   | none=>.fail
  | _=>.fail
 | _=>.fail
def deferA (s:AS) (o:Oper) (k:List AItem):Out :=
 match o.op with
 | .defer ⟨.value f,as,_⟩=>match evalO s.fr.env f,evalOs s.fr.env as.toList with
  | some fv,some vs=>match fnArgs fv vs with
   | some ga=>if s.fr.round.isNone && s.fr.marks.isEmpty then .next { s with fr:={ s.fr with env:=setTmp s.fr.env o.dst V.undef,todo:=k,dcl:=ga :: s.fr.dcl } } else .fail
   | none=>.fail
  | _,_=>.fail
 | _=>.fail
def lenMapA (T:TypeId→Option Ty) (look:Nat→Option Row) (o:Op) (vs:List V):Option V :=
 match o,vs with
 | .call ⟨.builtin .len,_,⟨[t]⟩⟩,[.mp r]=>match look r,T t with
  | some (.map es _ _),some y=>match y.desc with
   | .map _ _=>some (.d (.int .i64 es.length))
   | _=>none
  | _,_=>none
 | _,_=>none
def opStepA (c:Cfg) (s:AS) (ops:Array Oper) (i:Nat) (rest:List Nat) (k:List AItem):Out :=
 match ops[i]? with
 | none=>.fail
 | some o=>match wantedA ops s.fr.env o with
  | none=>.fail
  | some false=>.next { s with fr:={ s.fr with env:=setTmp s.fr.env o.dst V.undef,todo:=.it (.inRegion ops rest) :: k } }
  | some true=>match callView o.op with
   | some (f,args)=>match evalO s.fr.env f,evalOs s.fr.env args with
    | some (.yl r),some vs=>match liveAt s.rows r with
     | some (.loop _ _ fn env ps as bd _) =>
      if ps.length = vs.length then
       .next { fr:={ fn,env:=setEnvs env ps vs,todo:=[.it (.code as),.it .beginRound,.it (.code bd)],round:=some r,marks:=[] },stack:=s.fr :: s.stack,rows:=s.rows }
      else .fail
     | _=>.fail
    | some fv,some vs=>match fnArgs fv vs with
     | some (g,as) =>
      if c.po g && c.rc g then
       match callX c s.rows.length g as s.rows with
       | some res=>.next { s with fr:={ s.fr with env:=setTmp s.fr.env o.dst res.v,todo:=.it (.inRegion ops rest) :: k },rows:=applyRes s.rows.length res s.rows }
       | none=>.fail
      else match enterA c g as with
       | some fr=>.next { fr,stack:=s.fr :: s.stack,rows:=s.rows }
       | none=>.fail
     | none=>.fail
    | _,_=>.fail
   | none=>match evalOs s.fr.env (opnds o.op) with
    | some vs=>match act c.T (lookOf s.rows vs) s.rows.length o.op vs with
     | some res=>.next { s with fr:={ s.fr with env:=setTmp s.fr.env o.dst res.v,todo:=.it (.inRegion ops rest) :: k },rows:=applyRes s.rows.length res s.rows }
     | none=>match lenMapA c.T (liveAt s.rows) o.op vs with
      | some v=>.next { s with fr:={ s.fr with env:=setTmp s.fr.env o.dst v,todo:=.it (.inRegion ops rest) :: k } }
      | none=>match o.op with
       | .defer _=>deferA s o (.it (.inRegion ops rest) :: k)
       | _=>invokeA c s o.op vs
    | none=>.fail
def rangeA (c : Cfg) (s : AS) (f : Operand) (params : Array Tmp) (as body : Code) (k : List AItem) : Out :=
  match evalO s.fr.env f with
  | some (.fn g caps) => match s.fr.round with
    | none =>
      let d := s.rows.length
      match enterA c g (.yl (d + 1) :: caps) with
      | some fr => .next { fr, stack := { s.fr with todo := .rf (d + 1) :: k, marks := d :: s.fr.marks } :: s.stack,
                           rows := (s.rows ++ [.live .dfr]) ++ [.live (.loop .ready none s.fr.fn s.fr.env params.toList as body d)] }
      | none => .fail
    | some r => match liveAt s.rows r with
      | some (.loop _ _ _ _ _ _ _ d) =>
        let l := s.rows.length
        match enterA c g (.yl l :: caps) with
        | some fr => .next { fr, stack := { s.fr with todo := .rf l :: k } :: s.stack, rows := s.rows ++ [.live (.loop .ready none s.fr.fn s.fr.env params.toList as body d)] }
        | none => .fail
      | _ => .fail
  | _ => .fail
def isFree:Slot→Bool
 | .free=>true
 | _=>false
def trimFree (rows:Rows):Rows:=(rows.reverse.dropWhile isFree).reverse
def regionA (c:Cfg) (ops:Array Oper) (s:St):Option St :=
 if edgesOK ops then
  match runAll c ops s.rows.length (List.range ops.size) { s with rows:=s.rows ++ List.replicate ops.size .free } with
  | some (rs,s')=>if pairsOK (ancs ops ops.size) s.rows.length rs then some { s' with rows:=trimFree s'.rows } else none
  | none=>none
 else none
def frzList (look:Nat→Option Row) (rs:List Rec):List Nat :=
 (rs.flatMap (·.ups)).filterMap fun u=>match u.2,look u.1 with
  | .live row',some row=>if row.rw && !row'.rw then some u.1 else none
  | _,_=>none
def frzA (c:Cfg) (ops:Array Oper) (s:St):Option St :=
 match runAll c ops s.rows.length (List.range ops.size) { s with rows:=s.rows ++ List.replicate ops.size .free } with
 | some (rs,_)=>regionA c ops { s with rows:=setRows (frozenUps s.rows (frzList (liveAt s.rows) rs)) s.rows }
 | none=>none
def cutAt (ops:Array Oper):Nat :=
 match ops[ops.size - 1]? with
 | some o=>if (callView o.op).isSome then ops.size - 1 else ops.size - 2
 | none=>0
def aStep (c:Cfg) (s:AS):Out :=
 match s.fr.todo with
 | []=>leaveA c s none
 | .rf _ :: _=>.fail
 | .it i :: k=>match i with
  | .code cd=>match cd with
   | .ret=>leaveA c s (some .ret)
   | .skip=>toA s k
   | .label _=>toA s k
   | .seq a b=>toA s (.it (.code a) :: .it (.code b) :: k)
   | .cond o x y=>match evalO s.fr.env o with
    | some (.d (.bool b))=>toA s (.it (.code (if b then x else y)) :: k)
    | _=>.fail
   | .block id b=>toA s (.it (.code b) :: .it (.inBlock id) :: k)
   | .loop b=>toA s (.it (.code b) :: .it (.inLoop b) :: k)
   | .scope b=>toA s (.it (.code b) :: .it (.inScope b) :: k)
   | .exit id=>match aExitTo id k with
    | some k'=>toA s k'
    | none=>match s.fr.round with
     | some _=>leaveA c s (some (.exit id))
     | none=>.fail
   | .goto l=>match aGotoIn l k with
    | some k'=>toA s k'
    | none=>.fail
   | .region _ ops false=>toA s (.it (.inRegion ops (List.range ops.size)) :: k)
   | .region _ ops true=>match regionA c ops { env:=s.fr.env,rows:=s.rows } with
    | some st=>.next { s with fr:={ s.fr with env:=st.env,todo:=k },rows:=st.rows }
    | none=>match cutA c ops (cutAt ops) { env:=s.fr.env,rows:=s.rows } with
     | some st=>.next { s with fr:={ s.fr with env:=st.env,todo:=.it (.inRegion ops (cutAt ops :: List.range' (cutAt ops + 1) (ops.size - (cutAt ops + 1)))) :: k },rows:=st.rows }
     | none=>match frzA c ops { env:=s.fr.env,rows:=s.rows } with
      | some st=>.next { s with fr:={ s.fr with env:=st.env,todo:=k },rows:=st.rows }
      | none=>.fail
   | .rangeFunc f params as body=>rangeA c s f params as body k
   | .refuse _=>.fail
  | .inBlock _=>toA s k
  | .inScope _=>toA s k
  | .inLoop b=>toA s (.it (.code b) :: .it (.inLoop b) :: k)
  | .inRegion ops []=>toA s k
  | .inRegion ops (i :: rest)=>opStepA c s ops i rest k
  | .beginRound=>match s.fr.round with
   | some r=>match liveAt s.rows r with
    | some (.loop .ready pend fn env ps as bd d)=>.next { s with fr:={ s.fr with todo:=k },rows:=setSlot s.rows r (.live (.loop .busy pend fn env ps as bd d)) }
    | _=>.fail
   | none=>.fail
  | _=>.fail
def aRun (c:Cfg):Nat→AS→Out
 | 0,s=>.next s
 | n + 1,s=>match aStep c s with
  | .next s'=>aRun c n s'
  | o=>o
end Go.Aev
end
section
namespace Go.Aev
variable [Glob]
theorem liveAt_look {rows:Rows} {r:Nat} {row:Row} (h:liveAt rows r = some row):rows[r]? = some (Slot.live row):=by
 unfold liveAt at h
 split at h
 ·rename_i q hq; cases h; exact hq
 ·cases h
section
variable {m:Mp} {S:Nat→Prop} {w:World}
theorem moveAny_rel {mT:Mp} {f:Nat→Option Nat} (hf:∀ r j,f r = some j→mT j = m r) {x:V} {v:Value} (h:RE m S w x v):RE mT S w (moveAny f x) v:=by
 unfold moveAny
 cases hr:renV f 8 x with
 | none=>exact .inl rfl
 | some y =>
  rcases h with rfl | h
  ·simp only [renV] at hr; cases hr
  ·exact .inr (renV_by hf hr h)
theorem moveRow_by {mT:Mp} {f:Nat→Option Nat} (hf:∀ r j,f r = some j→mT j = m r) {b o:Nat} {row row':Row} (h:moveRow f (some row) = some (.live row')) (hr:RowRel m S w b o row):RowRel mT S w b o row'∧row'.rw = row.rw:=by
 cases row with
 | dat k es ro=>simp only [moveRow] at h; cases h; exact ⟨hr,rfl⟩
 | box cs ro =>
  simp only [moveRow,Option.map_eq_some_iff] at h
  obtain ⟨xs,hx,h⟩:=h
  cases h
  obtain ⟨c,e,h1,h2⟩:=hr
  refine ⟨⟨c,e,h1,fun j x hj=>?_⟩,rfl⟩
  obtain ⟨y,hy,hren⟩:=mapO_get hx hj
  obtain ⟨v,hv,hrel⟩:=h2 j y hy
  exact ⟨v,hv,renV_by hf hren hrel⟩
 | map es clock ro =>
  simp only [moveRow,Option.map_eq_some_iff] at h
  obtain ⟨xs,hx,h⟩:=h
  cases h
  obtain ⟨ents,h1,h2,hbn,h3⟩:=hr
  refine ⟨⟨ents,h1,by rw [mapO_len hx]; exact h2,⟨by rw [mapO_len hx]; exact hbn.1,hbn.2⟩,fun j e x hj he=>?_⟩,rfl⟩
  obtain ⟨y,hy,hren⟩:=mapO_get hx hj
  simp only [Option.map_eq_some_iff] at hren
  obtain ⟨z,hz,rfl⟩:=hren
  obtain ⟨k1,k2⟩:=h3 j y x hy he
  exact ⟨k1,renV_by hf hz k2⟩
 | loop st pend fn env params assign body dfr =>
  simp only [moveRow] at h
  split at h
  ·rename_i d' hd
   cases h
   obtain ⟨L,h1,h2,h3,h4,h5,h6,h7,h8,o',h9⟩:=hr
   refine ⟨⟨L,h1,h2,h3,h4,⟨by rw [List.length_map]; exact h5.1,fun j x v hx hv=>?_⟩,h6,h7,h8,o',(hf _ _ hd).trans h9⟩,rfl⟩
   rw [List.getElem?_map,Option.map_eq_some_iff] at hx
   obtain ⟨y,hy,rfl⟩:=hx
   exact moveAny_rel hf (h5.2 j y v hy hv)
  ·cases h
 | dfr=>simp only [moveRow] at h; cases h; exact ⟨hr,rfl⟩
 | iter _ _=>simp only [moveRow] at h; cases h
theorem moveRow_rel {rs:List Nat} {b o:Nat} {row row':Row} (h:moveRow (fun r=>idxIn r rs 0) (some row) = some (.live row')) (hr:RowRel m S w b o row):RowRel (renM m rs) S w b o row'∧row'.rw = row.rw :=
 moveRow_by (fun _ _ hj=>renM_idx hj) h hr
theorem eraseDups_nodup {l:List Nat} (h:l.eraseDups.length = l.length):∀ (i j x:Nat),l[i]? = some x→l[j]? = some x→i = j:=by
 have hnd:l.Nodup:=by
  induction l with
  | nil=>exact List.nodup_nil
  | cons a l ih =>
   rw [List.eraseDups_cons] at h
   have h1:(l.filter fun b=>!b == a).eraseDups.length ≤ (l.filter fun b=>!b == a).length:=by
    have:∀ (n:Nat) (l:List Nat),l.length ≤ n→l.eraseDups.length ≤ l.length:=by
     intro n
     induction n with
     | zero=>intro l hl; have:l = []:=List.length_eq_zero_iff.1 (by omega); subst this; simp
     | succ n ih =>
      intro l hl
      cases l with
      | nil=>simp
      | cons a l =>
       rw [List.eraseDups_cons]
       have h2:=List.length_filter_le (fun b=>!b == a) l
       have h3:=ih (l.filter fun b=>!b == a) (by simp at hl; omega)
       simp only [List.length_cons]
       omega
    exact this _ _ (Nat.le_refl _)
   have h2:=List.length_filter_le (fun b=>!b == a) l
   simp only [List.length_cons] at h
   have h3:(l.filter fun b=>!b == a).length = l.length:=by omega
   have h4:=List.filter_eq_self.2 (List.length_filter_eq_length_iff.1 h3)
   have h5:=List.length_filter_eq_length_iff.1 h3
   rw [h4] at h
   rw [List.nodup_cons]
   refine ⟨fun ha=>?_,ih (by omega)⟩
   have:=h5 a ha
   simp at this
 intro i j x hi hj
 have h1:=lt_of_get hi
 have h2:=lt_of_get hj
 rw [List.getElem?_eq_getElem h1] at hi
 rw [List.getElem?_eq_getElem h2] at hj
 have e:l[i] = l[j]:=by
  injection hi with hi; injection hj with hj; rw [hi,hj]
 have hp:=List.pairwise_iff_getElem.1 hnd
 rcases Nat.lt_trichotomy i j with h | h | h
 ·exact absurd e (hp i j h1 h2 h)
 ·exact h
 ·exact absurd e.symm (hp j i h2 h1 h)
theorem move_inv {w0:World} {own:Own} {rows rows':Rows} {rs:List Nat} (inv:Inv w0 own m S w rows) (hrs:rs.eraseDups.length = rs.length)
  (h:mapO (fun r=>moveRow (fun r=>idxIn r rs 0) (liveAt rows r)) rs = some rows'):Inv w0 own (renM m rs) S w rows':=by
 have live:∀ (i:Nat) (row':Row),rows'[i]? = some (Slot.live row')→∃ r row b o,rs[i]? = some r∧rows[r]? = some (Slot.live row)∧m r = some (b,o)∧row'.rw = row.rw∧RowRel (renM m rs) S w b o row':=by
  intro i row' hi
  obtain ⟨r,hr,hren⟩:=mapO_get h hi
  cases hl:liveAt rows r with
  | none=>rw [hl] at hren; simp only [moveRow] at hren; cases hren
  | some row =>
   rw [hl] at hren
   have hrow:=liveAt_look hl
   obtain ⟨b,o,hm,hrel⟩:=inv.row r row hrow
   obtain ⟨k1,k2⟩:=moveRow_rel hren hrel
   exact ⟨r,row,b,o,hr,hrow,hm,k2,k1⟩
 have mget:∀ {i:Nat} {p:Nat × Nat},renM m rs i = some p→∃ r,rs[i]? = some r∧m r = some p:=by
  intro i p hi
  unfold renM at hi
  cases hr:rs[i]? with
  | none=>rw [hr] at hi; cases hi
  | some r=>rw [hr] at hi; exact ⟨r,rfl,hi⟩
 refine ⟨fun i hi=>?_,fun i hi=>?_,fun i row hi=>?_,fun i b o hi=>?_,fun i row b o h1 hw hm=>?_,fun i i' row row' b o b' o' hne h1 h2 hw hm hm'=>?_,fun i row b o h1 hw hm=>?_,
  fun i row b o h1 hw hm=>?_,inv.sbnd,inv.base,inv.stb,inv.os,inv.tape,inv.output,inv.grow,inv.kept,inv.glb⟩
 ·rw [mapO_len h] at hi
  simp [renM,hi]
 ·obtain ⟨r,hr,hren⟩:=mapO_get h hi
  unfold moveRow at hren
  split at hren
  ·cases hren
  ·rw [Option.map_eq_some_iff] at hren; obtain ⟨_,_,hq⟩:=hren; cases hq
  ·rw [Option.map_eq_some_iff] at hren; obtain ⟨_,_,hq⟩:=hren; cases hq
  ·split at hren <;> cases hren
  ·cases hren
  ·cases hren
 ·obtain ⟨r,row0,b,o,e1,e2,e3,_,e4⟩:=live i row hi
  exact ⟨b,o,by simp [renM,e1,e3],e4⟩
 ·obtain ⟨r,_,hm⟩:=mget hi
  exact inv.bnd r b o hm
 ·obtain ⟨r,row0,b0,o0,e1,e2,e3,e5,_⟩:=live i row h1
  obtain ⟨r',q1,q2⟩:=mget hm
  rw [e1] at q1; cases q1
  exact inv.new r row0 b o e2 (by rw [← e5]; exact hw) q2
 ·obtain ⟨r,row0,_,_,e1,e2,_,e5,_⟩:=live i row h1
  obtain ⟨r',row1,_,_,f1,f2,_,_,_⟩:=live i' row' h2
  obtain ⟨q,q1,q2⟩:=mget hm
  rw [e1] at q1; cases q1
  obtain ⟨q',q3,q4⟩:=mget hm'
  rw [f1] at q3; cases q3
  exact inv.apart r r' row0 row1 b o b' o' (fun e=>hne (eraseDups_nodup hrs i i' r e1 (by rw [f1,e]))) e2 f2 (by rw [← e5]; exact hw) q2 q4
 ·obtain ⟨r,row0,_,_,e1,e2,_,e5,_⟩:=live i row h1
  obtain ⟨q,q1,q2⟩:=mget hm
  rw [e1] at q1; cases q1
  exact inv.stab r row0 b o e2 (by rw [← e5]; exact hw) q2
 ·obtain ⟨r,row0,_,_,e1,e2,_,e5,_⟩:=live i row h1
  obtain ⟨q,q1,q2⟩:=mget hm
  rw [e1] at q1; cases q1
  exact inv.rost r row0 b o e2 (by rw [← e5]; exact hw) q2
end
def Does (P:Program) (g:FuncId) (k:Nat) (args:List V) (rows:Rows) (R:V→Rows→Prop):Prop :=
 ∀ (w0:World) (own:Own) (m:Mp) (S:Nat→Prop) (w:World) (vs:Array Value),Inv w0 own m S w rows→RVs m S w args vs →
  Calls P g vs w fun e w'=>∃ u v rows',e = .returned u∧R v rows'∧∃ m' S',Inv w0 own m' S' w' rows'∧RV m' S' w' v u∧(∀ r,r < k→∀ p,m r = some p→m' r = some p)∧(∀ b,bsize w b ≤ bsize w' b)
def backRows (rs:List Nat):Nat→Rows→Rows→Option Rows
 | _,[],rows=>some rows
 | i,x :: l,rows=>match rs[i]? with
  | none=>some rows
  | some r=>match x with
   | .live row=>match moveRow (fun j=>rs[j]?) (some row) with
    | some (.live row')=>backRows rs (i + 1) l (rows.set r (.live row'))
    | _=>none
   | _=>backRows rs (i + 1) l (rows.set r .dead)
theorem backRows_get {rs:List Nat}:∀ {l:Rows} {i:Nat} {rows rows':Rows},backRows rs i l rows = some rows'→(∀ (a b r:Nat),rs[a]? = some r→rs[b]? = some r→a = b) →
  rows'.length = rows.length∧∀ (q:Nat),(∀ j,i ≤ j→j < i + l.length→rs[j]? ≠ some q)→rows'[q]? = rows[q]?
 | [],i,rows,rows',h,_=>by cases h; exact ⟨rfl,fun q _=>rfl⟩
 | x :: l,i,rows,rows',h,hn=>by
  simp only [backRows] at h
  cases hr:rs[i]? with
  | none=>rw [hr] at h; cases h; exact ⟨rfl,fun q _=>rfl⟩
  | some r =>
   rw [hr] at h
   have key:∀ (s:Slot),backRows rs (i + 1) l (rows.set r s) = some rows'→rows'.length = rows.length∧∀ (q:Nat),(∀ j,i ≤ j→j < i + (x :: l).length→rs[j]? ≠ some q)→rows'[q]? = rows[q]?:=by
    intro s hs
    obtain ⟨h1,h2⟩:=backRows_get hs hn
    refine ⟨by rw [h1,List.length_set],fun q hq=>?_⟩
    rw [h2 q (fun j hj hj'=>hq j (by omega) (by simp; omega)),List.getElem?_set_ne (fun e=>hq i (Nat.le_refl _) (by simp) (by rw [hr,e]))]
   simp only at h
   cases x with
   | live row =>
    simp only at h
    split at h
    ·exact key _ h
    ·cases h
   | free=>exact key _ h
   | dead=>exact key _ h
theorem backRows_at {rs:List Nat}:∀ {l:Rows} {i:Nat} {rows rows':Rows},backRows rs i l rows = some rows'→(∀ (a b r:Nat),rs[a]? = some r→rs[b]? = some r→a = b)→(∀ (a r:Nat),rs[a]? = some r→r < rows.length) →
  ∀ (j r:Nat) (x:Slot),l[j]? = some x→rs[i + j]? = some r→rows'[r]? = some (match x with | .live row=>(match moveRow (fun j=>rs[j]?) (some row) with | some y=>y | none=>.dead) | _=>.dead)∧(∀ row,x = .live row→∃ row',moveRow (fun j=>rs[j]?) (some row) = some (.live row'))
 | [],i,rows,rows',h,_,_,j,r,x,hx,_=>by simp at hx
 | y :: l,i,rows,rows',h,hn,hb,j,r,x,hx,hr=>by
  simp only [backRows] at h
  cases j with
  | succ j =>
   simp only [List.getElem?_cons_succ] at hx
   have hr':rs[i + 1 + j]? = some r:=by rw [← hr]; congr 1; omega
   cases hi:rs[i]? with
   | none =>
    have h1:=lt_of_get hr
    rw [List.getElem?_eq_none_iff] at hi
    omega
   | some r0 =>
    rw [hi] at h
    simp only at h
    cases y with
    | live row =>
     simp only at h
     split at h
     ·exact backRows_at h hn (fun a r h=>by rw [List.length_set]; exact hb a r h) j r x hx hr'
     ·cases h
    | free=>exact backRows_at h hn (fun a r h=>by rw [List.length_set]; exact hb a r h) j r x hx hr'
    | dead=>exact backRows_at h hn (fun a r h=>by rw [List.length_set]; exact hb a r h) j r x hx hr'
  | zero =>
   simp at hx; subst hx
   rw [Nat.add_zero] at hr
   rw [hr] at h
   have fin:∀ (s:Slot),backRows rs (i + 1) l (rows.set r s) = some rows'→rows'[r]? = some s:=by
    intro s hs
    rw [(backRows_get hs hn).2 r (fun j hj _ he=>by have:=hn j i r he hr; omega),List.getElem?_set_self (hb i r hr)]
   simp only at h
   cases y with
   | live row =>
    simp only at h
    split at h
    ·rename_i row' hm
     refine ⟨?_,fun row2 e=>?_⟩
     ·rw [fin _ h]; simp only [hm]
     ·cases e; exact ⟨row',hm⟩
    ·cases h
   | free=>exact ⟨fin _ h,fun row e=>by cases e⟩
   | dead=>exact ⟨fin _ h,fun row e=>by cases e⟩
variable {w0:World} {own:Own} {m:Mp} {S:Nat→Prop} {w:World} {rows:Rows}
def callOwn (m:Mp) (S:Nat→Prop) (rows:Rows) (rs:List Nat):Own:=⟨fun b=>∃ r row o,r ∈ rs∧rows[r]? = some (Slot.live row)∧row.rw = true∧m r = some (b,o),S⟩
theorem call_inv (inv:Inv w0 own m S w rows) {rs:List Nat} {rows':Rows} (hrs:rs.eraseDups.length = rs.length)
  (h:mapO (fun r=>moveRow (fun r=>idxIn r rs 0) (liveAt rows r)) rs = some rows'):Inv w (callOwn m S rows rs) (renM m rs) S w rows':=by
 have i1:=move_inv inv hrs h
 refine ⟨i1.none,i1.fre,i1.row,i1.bnd,fun i row b o h1 hw hm=>?_,i1.apart,i1.stab,i1.rost,i1.sbnd,fun b hb=>.inl hb,fun b hb=>hb,rfl,rfl,rfl,Nat.le_refl _,fun _ _ _=>rfl,i1.glb⟩
 obtain ⟨r,hr,hren⟩:=mapO_get h h1
 cases hl:liveAt rows r with
 | none=>rw [hl] at hren; simp only [moveRow] at hren; cases hren
 | some row0 =>
  rw [hl] at hren
  have hrow:=liveAt_look hl
  obtain ⟨b0,o0,hm0,hrel⟩:=inv.row r row0 hrow
  obtain ⟨_,k2⟩:=moveRow_rel hren hrel
  have:renM m rs i = m r:=by simp [renM,hr]
  rw [this] at hm
  exact .inr ⟨r,row0,o,List.mem_of_getElem? hr,hrow,by rw [← k2]; exact hw,hm⟩
theorem back_inv (inv:Inv w0 own m S w rows) {rs:List Nat} {rowsC rows2 rows3:Rows} (hrs:rs.eraseDups.length = rs.length)
  (h:mapO (fun r=>moveRow (fun r=>idxIn r rs 0) (liveAt rows r)) rs = some rowsC) (hlive:rowsC.all slotLive = true) {m':Mp} {S':Nat→Prop} {w':World}
  (i2:Inv w (callOwn m S rows rs) m' S' w' rows2) (hm':∀ r,r < rs.length→∀ p,renM m rs r = some p→m' r = some p) (hsz:∀ b,bsize w b ≤ bsize w' b) (hb:backRows rs 0 rows2 rows = some rows3) :
  Inv w0 own m S' w' rows3∧Ext m S w m S' w'∧∀ j r,rs[j]? = some r→m r = m' j:=by
 have hnd:=eraseDups_nodup hrs
 have hlen:=mapO_len h
 -- the reached rows were live
 have old:∀ j r,rs[j]? = some r→∃ row b o,rows[r]? = some (Slot.live row)∧m r = some (b,o)∧m' j = some (b,o):=by
  intro j r hr
  have hj:=lt_of_get hr
  have hjc:j < rowsC.length:=by omega
  have hlv:=(List.all_eq_true.1 hlive) rowsC[j] (List.getElem_mem hjc)
  obtain ⟨r2,hr2,hren⟩:=mapO_get h (List.getElem?_eq_getElem hjc)
  rw [hr] at hr2; cases hr2
  cases hl:liveAt rows r with
  | none=>rw [hl] at hren; simp only [moveRow] at hren; injection hren with he; rw [← he] at hlv; cases hlv
  | some row =>
   have hrow:=liveAt_look hl
   obtain ⟨b,o,hm,_⟩:=inv.row r row hrow
   exact ⟨row,b,o,hrow,hm,hm' j hj (b,o) (by simp [renM,hr,hm])⟩
 have hback:∀ j r,rs[j]? = some r→m r = m' j:=by
  intro j r hr
  obtain ⟨row,b,o,_,h1,h2⟩:=old j r hr
  rw [h1,h2]
 have hbnd:∀ (a r:Nat),rs[a]? = some r→r < rows.length:=fun a r hr=>by
  obtain ⟨row,_,_,h1,_⟩:=old a r hr
  exact lt_of_get h1
 obtain ⟨hl3,hoth⟩:=backRows_get hb hnd
 -- own blocks are among those that the caller may write
 have ownOK:∀ b,(callOwn m S rows rs) b→w0.heap.size ≤ b ∨ own b:=fun b ⟨r,row,o,_,h1,h2,h3⟩=>inv.new r row b o h1 h2 h3
 have ownS:∀ b,(callOwn m S rows rs) b→¬ S b:=fun b ⟨r,row,o,_,h1,h2,h3⟩=>inv.stab r row b o h1 h2 h3
 have heapS:∀ b,b < w.heap.size→¬ (callOwn m S rows rs) b→w'.heap[b]? = w.heap[b]?:=i2.kept
 have ext:Ext m S w m S' w':=⟨fun _ _ e=>e,fun b hb=>i2.stb b hb,fun b hb=>heapS b (inv.sbnd b hb) (fun hc=>ownS b hc hb),hsz⟩
 -- rows that were not reached
 have notIn:∀ q,(∀ j,0 ≤ j→j < 0 + rows2.length→rs[j]? ≠ some q) ∨ ∃ j,j < rows2.length∧rs[j]? = some q:=by
  intro q
  by_cases hq:∃ j,j < rows2.length∧rs[j]? = some q
  ·exact .inr hq
  ·exact .inl fun j _ hj e=>hq ⟨j,by omega,e⟩
 have cases3:∀ (q:Nat) (x:Slot),rows3[q]? = some x→(rows[q]? = some x∧∀ j,j < rows2.length→rs[j]? ≠ some q) ∨
   ∃ (j:Nat) (y:Slot),rs[j]? = some q∧rows2[j]? = some y∧((∃ row row',y = Slot.live row∧moveRow (fun j=>rs[j]?) (some row) = some (Slot.live row')∧x = Slot.live row') ∨ ((∀ row,y ≠ Slot.live row)∧x = Slot.dead)):=by
  intro q x hx
  rcases notIn q with h1 | ⟨j,hj,hq⟩
  ·left
   rw [hoth q h1] at hx
   exact ⟨hx,fun j hj=>h1 j (Nat.zero_le _) (by omega)⟩
  ·right
   have hy:rows2[j]? = some rows2[j]:=List.getElem?_eq_getElem hj
   obtain ⟨e1,e2⟩:=backRows_at hb hnd hbnd j q rows2[j] hy (by rw [Nat.zero_add]; exact hq)
   refine ⟨j,rows2[j],hq,hy,?_⟩
   rw [e1] at hx
   cases hyc:rows2[j] with
   | live row =>
    obtain ⟨row',hr'⟩:=e2 row hyc
    rw [hyc] at hx
    simp only [hr'] at hx
    cases hx
    exact .inl ⟨row,row',rfl,hr',rfl⟩
   | free=>rw [hyc] at hx; cases hx; exact .inr ⟨fun row e=>(by cases e),rfl⟩
   | dead=>rw [hyc] at hx; cases hx; exact .inr ⟨fun row e=>(by cases e),rfl⟩
 -- a block of a row that was not reached is not the call's own
 have notOwn:∀ q row b o,rows[q]? = some (Slot.live row)→m q = some (b,o)→(∀ j,j < rs.length→rs[j]? ≠ some q)→¬ (callOwn m S rows rs) b:=by
  intro q row b o hq hm hn ⟨r,row2,o2,hr,h1,h2,h3⟩
  obtain ⟨j,hj⟩:=List.getElem?_of_mem hr
  have hne:r ≠ q:=fun e=>hn j (lt_of_get hj) (by rw [hj,e])
  exact inv.apart r q row2 row b o2 b o hne h1 hq h2 h3 hm rfl
 -- rows2 may be shorter than rs: then the rest stays; but a row of rs that stays must not have been written: excluded by the length
 have hlen2:rs.length ≤ rows2.length ∨ ∃ j,rows2.length ≤ j∧j < rs.length:=by
  rcases Nat.lt_or_ge rows2.length rs.length with h1 | h1
  ·exact .inr ⟨rows2.length,Nat.le_refl _,h1⟩
  ·exact .inl h1
 have full:rs.length ≤ rows2.length:=by
  rcases hlen2 with h1 | ⟨j,h1,h2⟩
  ·exact h1
  ·obtain ⟨_,b,o,_,_,h3⟩:=old j rs[j] (List.getElem?_eq_getElem h2)
   rw [i2.none j h1] at h3; cases h3
 have hmove:∀ (b o:Nat) (row row':Row),moveRow (fun j=>rs[j]?) (some row) = some (.live row')→RowRel m' S' w' b o row→RowRel m S' w' b o row'∧row'.rw = row.rw :=
  fun b o row row' h1 h2=>moveRow_by (fun r j hj=>hback r j hj) h1 h2
 refine ⟨⟨fun r hr=>inv.none r (by rw [hl3] at hr; exact hr),fun r hr=>?_,fun r row hr=>?_,fun r b o hm=>Nat.lt_of_lt_of_le (inv.bnd r b o hm) i2.grow,fun r row b o hr hw hm=>?_,
  fun r r' row row' b o b' o' hne hr hr' hw hm hmm=>?_,fun r row b o hr hw hm=>?_,fun r row b o hr hw hm=>?_,i2.sbnd,fun b hb=>?_,fun b hb=>i2.stb b (inv.stb b hb),i2.os.trans inv.os,i2.tape.trans inv.tape,
  i2.output.trans inv.output,Nat.le_trans inv.grow i2.grow,fun b hb hn=>?_,i2.glb⟩,ext,hback⟩
 ·rcases cases3 r _ hr with ⟨h1,_⟩ | ⟨j,y,_,_,⟨_,_,_,_,h5⟩ | ⟨_,h5⟩⟩
  ·exact inv.fre r h1
  ·cases h5
  ·cases h5
 ·rcases cases3 r _ hr with ⟨h1,h2⟩ | ⟨j,y,h1,h2,⟨row0,row',e1,e2,e3⟩ | ⟨_,h5⟩⟩
  ·obtain ⟨b,o,hm,hrel⟩:=inv.row r row h1
   exact ⟨b,o,hm,hrel.ext ext (heapS b (inv.bnd r b o hm) (notOwn r row b o h1 hm (fun j hj=>h2 j (by omega))))⟩
  ·cases e3
   subst e1
   obtain ⟨b,o,hm,hrel⟩:=i2.row j row0 h2
   exact ⟨b,o,by rw [hback j r h1]; exact hm,(hmove b o row0 row e2 hrel).1⟩
  ·cases h5
 ·rcases cases3 r _ hr with ⟨h1,_⟩ | ⟨j,y,h1,h2,⟨row0,row',e1,e2,e3⟩ | ⟨_,h5⟩⟩
  ·exact inv.new r row b o h1 hw hm
  ·cases e3
   subst e1
   obtain ⟨b1,o1,hm1,hrel⟩:=i2.row j row0 h2
   have hrw:=(hmove b1 o1 row0 row e2 hrel).2
   rcases i2.new j row0 b o h2 (by rw [← hrw]; exact hw) (by rw [← hback j r h1]; exact hm) with h3 | h3
   ·exact .inl (Nat.le_trans inv.grow h3)
   ·exact ownOK b h3
  ·cases h5
 ·have rwOf:∀ (r:Nat) (row:Row),rows3[r]? = some (Slot.live row)→(rows[r]? = some (Slot.live row)∧∀ j,j < rows2.length→rs[j]? ≠ some r) ∨ ∃ (j:Nat) (row0:Row),rs[j]? = some r∧rows2[j]? = some (Slot.live row0)∧row0.rw = row.rw:=by
   intro r row hr
   rcases cases3 r _ hr with h1 | ⟨j,y,h1,h2,⟨row0,row',e1,e2,e3⟩ | ⟨_,h5⟩⟩
   ·exact .inl h1
   ·cases e3
    subst e1
    obtain ⟨b1,o1,hm1,hrel⟩:=i2.row j row0 h2
    exact .inr ⟨j,row0,h1,h2,(hmove b1 o1 row0 row e2 hrel).2.symm⟩
   ·cases h5
  rcases rwOf r row hr with ⟨a1,a2⟩ | ⟨j,row0,a1,a2,a3⟩ <;> rcases rwOf r' row' hr' with ⟨c1,c2⟩ | ⟨j',row1,c1,c2,c3⟩
  ·exact inv.apart r r' row row' b o b' o' hne a1 c1 hw hm hmm
  ·obtain ⟨rowq,bq,oq,q1,q2,q3⟩:=old j' r' c1
   rw [hmm] at q2; cases q2
   exact inv.apart r r' row rowq b o b' o' hne a1 q1 hw hm hmm
  ·-- r was reached and is written; r' was not reached
   intro e
   subst e
   have hmj:m' j = some (b,o):=by rw [← hback j r a1]; exact hm
   rcases i2.new j row0 b o a2 (by rw [a3]; exact hw) hmj with h3 | h3
   ·have:=inv.bnd r' b o' hmm; omega
   ·exact notOwn r' row' b o' c1 hmm (fun i hi=>c2 i (by omega)) h3
  ·refine i2.apart j j' row0 row1 b o b' o' (fun e=>hne ?_) a2 c2 (by rw [a3]; exact hw) (by rw [← hback j r a1]; exact hm) (by rw [← hback j' r' c1]; exact hmm)
   subst e
   rw [a1] at c1; cases c1; rfl
 ·rcases cases3 r _ hr with ⟨h1,h2⟩ | ⟨j,y,h1,h2,⟨row0,row',e1,e2,e3⟩ | ⟨_,h5⟩⟩
  ·intro hs
   rcases i2.base b hs with h3 | h3 | h3
   ·exact inv.stab r row b o h1 hw hm h3
   ·have:=inv.bnd r b o hm; omega
   ·exact notOwn r row b o h1 hm (fun j hj=>h2 j (by omega)) h3
  ·cases e3
   subst e1
   obtain ⟨b1,o1,hm1,hrel⟩:=i2.row j row0 h2
   have hrw:=(hmove b1 o1 row0 row e2 hrel).2
   exact i2.stab j row0 b o h2 (by rw [← hrw]; exact hw) (by rw [← hback j r h1]; exact hm)
  ·cases h5
 ·rcases cases3 r _ hr with ⟨h1,h2⟩ | ⟨j,y,h1,h2,⟨row0,row',e1,e2,e3⟩ | ⟨_,h5⟩⟩
  ·exact ext.sub b (inv.rost r row b o h1 hw hm)
  ·cases e3
   subst e1
   obtain ⟨b1,o1,hm1,hrel⟩:=i2.row j row0 h2
   have hrw:=(hmove b1 o1 row0 row e2 hrel).2
   exact i2.rost j row0 b o h2 (by rw [← hrw]; exact hw) (by rw [← hback j r h1]; exact hm)
  ·cases h5
 ·rcases i2.base b hb with h3 | h3 | h3
  ·exact inv.base b h3
  ·exact .inr (.inl (Nat.le_trans inv.grow h3))
  ·exact .inr (ownOK b h3)
 ·have hbw:b < w.heap.size:=Nat.lt_of_lt_of_le hb inv.grow
  rw [heapS b hbw (fun hc=>by rcases ownOK b hc with h1 | h1; omega; exact hn h1)]
  exact inv.kept b hb hn
theorem setSlot_eq {r:Nat} {x:Slot} (h:r < rows.length):setSlot rows r x = rows.set r x:=by unfold setSlot; rw [if_pos h]
theorem applyUps_eq:∀ {us:List (Nat × Slot)} {rows:Rows},(∀ u ∈ us,u.1 < rows.length)→applyUps us rows = setRows us rows
 | [],rows,_=>rfl
 | u :: us,rows,h=>by
  simp only [applyUps,setRows,List.foldl_cons]
  rw [setSlot_eq (h u (by simp))]
  exact applyUps_eq (fun v hv=>by rw [List.length_set]; exact h v (List.mem_cons_of_mem _ hv))
def WCOK (P:Program) (WC:FuncId→List V→Rows→Option (V × Rows)):Prop :=
 ∀ g args rows v rows2,WC g args rows = some (v,rows2)→Does P g rows.length args rows (fun x y=>x = v∧y = rows2)
theorem wcUps_back {rs:List Nat}:∀ {l:Rows} {i:Nat} {us:List (Nat × Slot)} {rows:Rows},wcUps rs i l = some us →
  backRows rs i l rows = some (setRows us rows)∧(∀ u ∈ us,∃ j:Nat,rs[j]? = some u.1)∧∀ (j:Nat) (x:Slot),l[j]? = some x→i + j < rs.length→∃ row,x = .live row
 | [],i,us,rows,h=>by cases h; exact ⟨rfl,fun u hu=>(by cases hu),fun j x hx=>by simp at hx⟩
 | x :: l,i,us,rows,h=>by
  simp only [wcUps] at h
  cases hr:rs[i]? with
  | none =>
   rw [hr] at h; cases h
   have hi:rs.length ≤ i:=List.getElem?_eq_none_iff.1 hr
   exact ⟨by simp only [backRows,hr]; rfl,fun u hu=>(by cases hu),fun j x _ hj=>by omega⟩
  | some r =>
   rw [hr] at h
   simp only at h
   cases x with
   | live row =>
    simp only at h
    split at h
    ·rename_i row' hm
     rw [Option.map_eq_some_iff] at h
     obtain ⟨us',hu,rfl⟩:=h
     obtain ⟨h1,h2,h3⟩:=wcUps_back (rows:=rows.set r (.live row')) hu
     refine ⟨by simp only [backRows,hr,hm,h1]; rfl,fun u hu=>?_,fun j x hx hj=>?_⟩
     ·rcases List.mem_cons.1 hu with rfl | hu
      ·exact ⟨i,hr⟩
      ·exact h2 u hu
     ·cases j with
      | zero=>simp at hx; subst hx; exact ⟨row,rfl⟩
      | succ j=>exact h3 j x (by simpa using hx) (by omega)
    ·cases h
   | free=>cases h
   | dead=>cases h
theorem callRC_ups {c:Cfg} {g:FuncId} {args:List V} {res:Res} (h:callRC c g args rows = some res):res.fresh = none∧∀ u ∈ res.ups,u.1 < rows.length:=by
 unfold callRC at h
 simp only at h
 split at h
 ·split at h
  ·split at h
   ·cases h; exact ⟨rfl,fun u hu=>by cases hu⟩
   ·cases h
    refine ⟨rfl,fun u hu=>?_⟩
    obtain ⟨_,row,h1,_⟩:=frozenUps_mem hu
    exact lt_of_get h1
  ·cases h
 ·cases h
theorem callWC_inv {c:Cfg} {g:FuncId} {args:List V} {look:Nat→Option Row} {rs:List Nat} {slot:Nat} {res:Res} (h:callWC c look rs slot g args = some res) :
  ∃ args' rowsC v rows2 us fr v',rs.eraseDups.length = rs.length∧mapO (renV (fun r=>idxIn r rs 0) 8) args = some args'∧mapO (fun r=>moveRow (fun r=>idxIn r rs 0) (look r)) rs = some rowsC∧rowsC.all slotLive = true ∧
   c.WC g args' rowsC = some (v,rows2)∧wcUps rs 0 (rows2.take rs.length) = some us∧wcFresh (rows2.drop rs.length) = some fr∧renV (wcBack rs slot fr.isSome) 8 v = some v'∧res = { v:=v',ups:=us,fresh:=fr }:=by
 unfold callWC at h
 split at h
 ·rename_i args' rowsC hpre
  split at h
  ·rename_i v rows2 hwc
   unfold wcPre at hpre
   split at hpre
   ·rename_i hrs
    split at hpre
    ·rename_i a b h1 h2
     split at hpre
     ·rename_i hl
      cases hpre
      unfold wcPost at h
      split at h
      ·rename_i us fr h3 h4
       split at h
       ·rename_i v' h5
        cases h
        exact ⟨args',rowsC,v,rows2,us,fr,v',hrs,h1,h2,hl,hwc,h3,h4,h5,rfl⟩
       ·cases h
      ·cases h
     ·cases hpre
    ·cases hpre
   ·cases hpre
  ·cases h
 ·cases h
theorem callWC_ups {c:Cfg} {g:FuncId} {args:List V} {look:Nat→Option Row} {rs:List Nat} {slot:Nat} {res:Res} (h:callWC c look rs slot g args = some res) (hl:∀ r row,look r = some row→r < rows.length):∀ u ∈ res.ups,u.1 < rows.length:=by
 obtain ⟨args',rows',v,rows2,us,fr,v',hrs,h1,h2,hlive,hwc,hus,hfr,hv',rfl⟩:=callWC_inv h
 intro u hu
 obtain ⟨j,hj⟩:=(wcUps_back (rows:=rows) hus).2.1 u hu
 have hlen:=mapO_len h2
 have hjl:=lt_of_get hj
 have hlv:=(List.all_eq_true.1 hlive) rows'[j] (List.getElem_mem (by omega))
 obtain ⟨r,hr,hren⟩:=mapO_get h2 (List.getElem?_eq_getElem (by omega:j < rows'.length))
 rw [hj] at hr; cases hr
 cases hk:look u.1 with
 | none=>rw [hk] at hren; simp only [moveRow] at hren; injection hren with he; rw [← he] at hlv; cases hlv
 | some row=>exact hl _ row hk
theorem callWC_sound {P:Program} {c:Cfg} (hWC:WCOK P c.WC) (inv:Inv w0 own m S w rows) {slot:Nat} (hs:SlotOK m rows slot) {rs:List Nat} {g:FuncId} {args:List V} {vs:Array Value} {res:Res}
  (h:callWC c (liveAt rows) rs slot g args = some res) (ha:RVs m S w args vs) :
  Calls P g vs w fun e w'=>∃ u,e = .returned u∧∃ m' S',Inv w0 own m' S' w' (applyRes slot res rows)∧Ext m S w m' S' w'∧RV m' S' w' res.v u:=by
 have hups:=callWC_ups h (rows:=rows) (fun r row hl=>lt_of_get (liveAt_look hl))
 obtain ⟨args',rowsC,v,rows2,us,fr,v',hrs,has,hrows,hlive,hwc,hus,hfr,hv',rfl⟩:=callWC_inv h
 have hlen:rowsC.length = rs.length:=mapO_len hrows
 have hargs':RVs (renM m rs) S w args' vs:=by
  refine ⟨by rw [mapO_len has]; exact ha.1,fun j x v hx hv=>?_⟩
  obtain ⟨y,hy,hren⟩:=mapO_get has hx
  exact renV_rel hren (ha.2 j y v hy hv)
 refine (hWC g args' rowsC v rows2 hwc w (callOwn m S rows rs) _ S w vs (call_inv inv hrs hrows) hargs').mono fun e w' ⟨u,x,y,he,⟨hx,hy⟩,m',S',i2,r2,hm',hsz⟩=>⟨u,he,?_⟩
 subst hx; subst hy
 rw [hlen] at hm'
 have htd:=List.take_append_drop rs.length y
 obtain ⟨hb,hin,hlv2⟩:=wcUps_back (rows:=rows) hus
 have hb2:∀ (l l2:Rows) (i:Nat) (rows rows3:Rows),backRows rs i l rows = some rows3→rs.length ≤ i + l.length→backRows rs i (l ++ l2) rows = some rows3:=by
  intro l
  induction l with
  | nil =>
   intro l2 i rows rows3 h hi
   simp only [List.length_nil] at hi
   have hn:rs[i]? = none:=List.getElem?_eq_none (by omega)
   cases l2 with
   | nil=>exact h
   | cons x l2 =>
    simp only [backRows] at h
    simp only [List.nil_append,backRows,hn]
    exact h
  | cons x l ih =>
   intro l2 i rows rows3 h hi
   simp only [List.length_cons] at hi
   simp only [backRows,List.cons_append] at h ⊢
   cases hr:rs[i]? with
   | none=>rw [hr] at h; exact h
   | some r =>
    rw [hr] at h
    simp only at h ⊢
    cases x with
    | live row =>
     simp only at h ⊢
     split at h
     ·exact ih l2 (i + 1) _ _ h (by omega)
     ·cases h
    | free=>exact ih l2 (i + 1) _ _ h (by omega)
    | dead=>exact ih l2 (i + 1) _ _ h (by omega)
 have hfull:rs.length ≤ y.length:=by
  rcases Nat.lt_or_ge y.length rs.length with h1 | h1
  ·exfalso
   have hjc:y.length < rowsC.length:=by omega
   have hlv:=(List.all_eq_true.1 hlive) rowsC[y.length] (List.getElem_mem hjc)
   obtain ⟨r2,hr2,hren⟩:=mapO_get hrows (List.getElem?_eq_getElem hjc)
   cases hl:liveAt rows r2 with
   | none=>rw [hl] at hren; simp only [moveRow] at hren; injection hren with he; rw [← he] at hlv; cases hlv
   | some row =>
    obtain ⟨b,o,hm,_⟩:=inv.row r2 row (liveAt_look hl)
    have:=hm' y.length h1 (b,o) (by simp [renM,hr2,hm])
    rw [i2.none _ (Nat.le_refl _)] at this; cases this
  ·exact h1
 have hb3:backRows rs 0 y rows = some (setRows us rows):=by
  rw [← htd]
  exact hb2 _ _ 0 _ _ hb (by rw [List.length_take]; omega)
 obtain ⟨i3,e3,hback⟩:=back_inv inv hrs hrows hlive i2 hm' hsz hb3
 have hslot:∀ u ∈ us,u.1 ≠ slot:=by
  intro u hu e
  obtain ⟨j,hj⟩:=hin u hu
  have hjc:j < rowsC.length:=by have:=lt_of_get hj; omega
  have hlv:=(List.all_eq_true.1 hlive) rowsC[j] (List.getElem_mem hjc)
  obtain ⟨r2,hr2,hren⟩:=mapO_get hrows (List.getElem?_eq_getElem hjc)
  rw [hj] at hr2; cases hr2
  cases hl:liveAt rows u.1 with
  | none=>rw [hl] at hren; simp only [moveRow] at hren; injection hren with he; rw [← he] at hlv; cases hlv
  | some row=>rw [e] at hl; exact hs.dead row (liveAt_look hl)
 have hrsl:∀ (j r:Nat),rs[j]? = some r→r ≠ slot:=by
  intro j r hj e
  have hjc:j < rowsC.length:=by have:=lt_of_get hj; omega
  have hlv:=(List.all_eq_true.1 hlive) rowsC[j] (List.getElem_mem hjc)
  obtain ⟨r2,hr2,hren⟩:=mapO_get hrows (List.getElem?_eq_getElem hjc)
  rw [hj] at hr2; cases hr2
  cases hl:liveAt rows r with
  | none=>rw [hl] at hren; simp only [moveRow] at hren; injection hren with he; rw [← he] at hlv; cases hlv
  | some row=>rw [e] at hl; exact hs.dead row (liveAt_look hl)
 cases fr with
 | none =>
  refine ⟨m,S',?_,e3,?_⟩
  ·show Inv w0 own m S' w' (applyUps us rows)
   rw [applyUps_eq hups]; exact i3
  ·refine renV_by (fun r j hj=>?_) hv' r2
   unfold wcBack at hj
   split at hj
   ·exact hback r j hj
   ·simp at hj
 | some row =>
  have hat:y[rs.length]? = some (Slot.live row)∧∃ k es,row = .dat k es false:=by
   unfold wcFresh at hfr
   split at hfr
   ·cases hfr
   ·rename_i k es heq
    cases hfr
    refine ⟨?_,k,es,rfl⟩
    have:=congrArg (fun l=>l[0]?) heq
    simpa [List.getElem?_drop] using this
   ·cases hfr
  obtain ⟨hat,k,es,rfl⟩:=hat
  obtain ⟨b,o,hmb,hrel⟩:=i2.row _ _ hat
  have hnew:w.heap.size ≤ b:=by
   rcases i2.new _ _ b o hat rfl hmb with h1 | ⟨r,row0,o2,hr,hrl,hrw,hmr⟩
   ·exact h1
   ·exfalso
    obtain ⟨j,hj⟩:=List.getElem?_of_mem hr
    have hjl:=lt_of_get hj
    have hmj:m' j = some (b,o2):=by rw [← hback j r hj]; exact hmr
    have hjy:j < (y.take rs.length).length:=by rw [List.length_take]; omega
    obtain ⟨rowj,hrj⟩:=hlv2 j (y.take rs.length)[j] (List.getElem?_eq_getElem hjy) (by omega)
    have hyj:y[j]? = some (Slot.live rowj):=by
     rw [← hrj,List.getElem_take]
     exact List.getElem?_eq_getElem (by omega)
    exact i2.apart rs.length j _ rowj b o b o2 (by omega) hat hyj rfl hmb hmj rfl
  have hlen3:(setRows us rows).length = rows.length:=setRows_len us rows
  have hg3:(setRows us rows)[slot]? = rows[slot]?:=setRows_get (fun h=>by
   obtain ⟨u,hu,e⟩:=List.mem_map.1 h
   exact hslot u hu e)
  obtain ⟨i4,e4⟩:=i3.adopt slot (.dat k es false) b o (by rw [hlen3]; exact hs.le) (fun row'=>by rw [hg3]; exact hs.dead row') (.inl hs.new)
   (fun r row' c o' hr hm=>by have:=inv.bnd r c o' hm; omega) (i2.stab _ _ b o hat rfl hmb) (i2.bnd _ b o hmb) (.inl (Nat.le_trans inv.grow hnew)) rfl hrel
  refine ⟨_,S',?_,e3.trans e4,?_⟩
  ·show Inv w0 own _ S' w' (setSlot (applyUps us rows) slot _)
   rw [applyUps_eq hups]; exact i4
  ·refine renV_by (fun r j hj=>?_) hv' r2
   unfold wcBack at hj
   split at hj
   ·have hne:=hrsl r j hj
    unfold updM
    rw [if_neg hne]
    exact hback r j hj
   ·split at hj
    ·rename_i hc
     cases hj
     have:r = rs.length:=by simpa using hc
     subst this
     unfold updM
     rw [if_pos rfl,hmb]
    ·cases hj
theorem callX_sound {P:Program} {c:Cfg} (hRC:RCOK P c.RC) (hWC:WCOK P c.WC) (inv:Inv w0 own m S w rows) {slot:Nat} (hs:SlotOK m rows slot) {g:FuncId} {args:List V} {vs:Array Value} {res:Res}
  (h:callX c slot g args rows = some res) (ha:RVs m S w args vs) :
  Calls P g vs w fun e w'=>∃ u,e = .returned u∧∃ m' S',Inv w0 own m' S' w' (applyRes slot res rows)∧Ext m S w m' S' w'∧RV m' S' w' res.v u:=by
 unfold callX at h
 split at h
 ·rename_i r hr
  cases h
  refine (callRC_sound hRC inv hr ha).mono fun e w' ⟨u,he,S',i1,e1,r1,hf⟩=>⟨u,he,m,S',?_,e1,r1⟩
  unfold applyRes
  rw [hf]
  simp only
  rw [applyUps_eq (callRC_ups hr).2]
  exact i1
 ·exact callWC_sound hWC inv hs h ha
end Go.Aev
end
section
namespace Go.Aev
variable [Glob]
variable {P:Program} {w0:World} {own:Own} {m:Mp} {S:Nat→Prop} {w:World} {rows:Rows}
def ItemRel (m:Mp):AItem→Item→Prop
 | .it i,j=>j = i
 | .rf r,j=>∃ l o,m r = some (l,o)∧j = .inRangeFunc l
inductive TodoRel (m:Mp):List AItem→List Item→Prop
 | nil:TodoRel m [] []
 | cons {a i k l} (h:ItemRel m a i) (t:TodoRel m k l):TodoRel m (a :: k) (i :: l)
inductive DsRel (m:Mp) (hid:List Deferred):List Nat→List Deferred→Prop
 | nil:DsRel m hid [] hid
 | cons {r b o rs ds} (h:m r = some (b,o)) (t:DsRel m hid rs ds):DsRel m hid (r :: rs) ({ target:=.collected b,args:=#[] } :: ds)
inductive DcRel (m:Mp) (S:Nat→Prop) (w:World) (hid:List Deferred):List (FuncId × List V)→List Deferred→Prop
 | nil:DcRel m S w hid [] hid
 | cons {g:FuncId} {args:List V} {cap da:Array Value} {l ds} (h:RVs m S w args (da ++ cap)) (t:DcRel m S w hid l ds):DcRel m S w hid ((g,args) :: l) ({ target:=.fn (.func g) cap,args:=da } :: ds)
def FDs (m:Mp) (S:Nat→Prop) (w:World) (hid:List Deferred) (dcl:List (FuncId × List V)) (marks:List Nat) (ds:List Deferred):Prop :=
 ∃ dd,DcRel m S w hid dcl dd∧DsRel m dd marks ds
theorem FDs.none {m:Mp} {S:Nat→Prop} {w:World} {hid:List Deferred}:FDs m S w hid [] [] hid:=⟨_,.nil,.nil⟩
def RoRel (m:Mp):Option Nat→Option Nat→Prop
 | none,ro=>ro = none
 | some r,ro=>∃ l o,m r = some (l,o)∧ro = some l
structure FR (m:Mp) (S:Nat→Prop) (w:World) (hid:List Deferred) (a:AF) (tmps:Array Value) (todo:List Item) (ds:List Deferred) (ro:Option Nat):Prop where
 env:REs m S w a.env tmps
 todo:TodoRel m a.todo todo
 ds:FDs m S w hid a.dcl a.marks ds
 ro:RoRel m a.round ro
structure Bot where
 cs:List Frame
 k:Nat
 hid:List Deferred:=[]
 B:Mp→World→Prop
 mono:∀ m w m' w',(∀ r,r < k→∀ p,m r = some p→m' r = some p)→(∀ b,bsize w b ≤ bsize w' b)→B m w→B m' w'
def hidOf (bt:Bot):List AF→List Deferred
 | []=>bt.hid
 | _ :: _=>[]
inductive StackRel (m:Mp) (S:Nat→Prop) (w:World) (cs0:Bot):List AF→List Frame→Prop
 | nil (h:cs0.B m w):StackRel m S w cs0 [] cs0.cs
 | cons {a st tmps todo ds ro cs} (h:FR m S w (hidOf cs0 st) a tmps todo ds ro) (t:StackRel m S w cs0 st cs):StackRel m S w cs0 (a :: st) (rfr a.fn tmps todo ds ro :: cs)
theorem ItemRel.mono {m':Mp} (h:∀ r p,m r = some p→m' r = some p) {a:AItem} {i:Item} (e:ItemRel m a i):ItemRel m' a i:=by
 cases a with
 | it i=>exact e
 | rf r=>obtain ⟨l,o,h1,h2⟩:=e; exact ⟨l,o,h r _ h1,h2⟩
theorem TodoRel.mono {m':Mp} (h:∀ r p,m r = some p→m' r = some p) {a:List AItem} {i:List Item} (e:TodoRel m a i):TodoRel m' a i:=by
 induction e with
 | nil=>exact .nil
 | cons h1 _ ih=>exact .cons (h1.mono h) ih
theorem DsRel.mono {m':Mp} (h:∀ r p,m r = some p→m' r = some p) {hid:List Deferred} {a:List Nat} {i:List Deferred} (e:DsRel m hid a i):DsRel m' hid a i:=by
 induction e with
 | nil=>exact .nil
 | cons h1 _ ih=>exact .cons (h _ _ h1) ih
theorem DcRel.ext {m':Mp} {S':Nat→Prop} {w':World} {hid:List Deferred} {l:List (FuncId × List V)} {ds:List Deferred} (h:DcRel m S w hid l ds) (e:Ext m S w m' S' w'):DcRel m' S' w' hid l ds:=by
 induction h with
 | nil=>exact .nil
 | cons h1 _ ih=>exact .cons (h1.ext e) ih
theorem FDs.ext {m':Mp} {S':Nat→Prop} {w':World} {hid:List Deferred} {dcl:List (FuncId × List V)} {marks:List Nat} {ds:List Deferred} (h:FDs m S w hid dcl marks ds) (e:Ext m S w m' S' w'):FDs m' S' w' hid dcl marks ds :=
 let ⟨dd,h1,h2⟩:=h; ⟨dd,h1.ext e,h2.mono e.map⟩
theorem FDs.push {hid:List Deferred} {dcl:List (FuncId × List V)} {marks:List Nat} {ds:List Deferred} {r b o:Nat} (hm:m r = some (b,o)) (h:FDs m S w hid dcl marks ds):FDs m S w hid dcl (r :: marks) ({ target:=.collected b,args:=#[] } :: ds) :=
 let ⟨dd,h1,h2⟩:=h; ⟨dd,h1,.cons hm h2⟩
theorem FDs.call {hid:List Deferred} {dcl:List (FuncId × List V)} {ds:List Deferred} {g:FuncId} {args:List V} {cap da:Array Value} (ha:RVs m S w args (da ++ cap)) (h:FDs m S w hid dcl [] ds) :
  FDs m S w hid ((g,args) :: dcl) [] ({ target:=.fn (.func g) cap,args:=da } :: ds):=by
 obtain ⟨dd,h1,h2⟩:=h
 cases h2
 exact ⟨_,.cons ha h1,.nil⟩
theorem RoRel.mono {m':Mp} (h:∀ r p,m r = some p→m' r = some p) {a ro:Option Nat} (e:RoRel m a ro):RoRel m' a ro:=by
 cases a with
 | none=>exact e
 | some r=>obtain ⟨l,o,h1,h2⟩:=e; exact ⟨l,o,h r _ h1,h2⟩
theorem FR.ext {m':Mp} {S':Nat→Prop} {w':World} {hid:List Deferred} {a:AF} {tmps todo ds ro} (h:FR m S w hid a tmps todo ds ro) (e:Ext m S w m' S' w'):FR m' S' w' hid a tmps todo ds ro :=
 ⟨h.env.ext e,h.todo.mono e.map,h.ds.ext e,h.ro.mono e.map⟩
theorem StackRel.ext {m':Mp} {S':Nat→Prop} {w':World} {cs0:Bot} {st:List AF} {cs:List Frame} (h:StackRel m S w cs0 st cs) (e:Ext m S w m' S' w'):StackRel m' S' w' cs0 st cs:=by
 induction h with
 | nil h=>exact .nil (cs0.mono _ _ _ _ (fun r _=>e.map r) e.size h)
 | cons h1 _ ih=>exact .cons (h1.ext e) ih
def Sim (P:Program) (w0:World) (own:Own) (cs0:Bot) (s:AS) (M:Machine):Prop :=
 ∃ m S w tmps todo ds ro cs,M = lone (rfr s.fr.fn tmps todo ds ro) cs w∧Inv w0 own m S w s.rows∧FR m S w (hidOf cs0 s.stack) s.fr tmps todo ds ro∧StackRel m S w cs0 s.stack cs
theorem exitTo_some {id:Nat} {a:List AItem} {l:List Item} (h:TodoRel m a l) {a':List AItem} (e:aExitTo id a = some a'):∃ l',exitTo id l = some l'∧TodoRel m a' l':=by
  induction h with
  | nil=>simp [aExitTo] at e
  | cons h1 t ih =>
    rename_i a i k l
    cases a with
    | it j =>
      cases h1
      cases i <;> simp only [aExitTo,exitTo] at e ⊢ <;> first
        | exact ih e
        | (split at e
           · cases e; rename_i hc; rw [if_pos hc]; exact ⟨_,rfl,t⟩
           · rename_i hc; rw [if_neg hc]; exact ih e)
    | rf r =>
      obtain ⟨b,o,_,rfl⟩:=h1
      simp only [aExitTo,exitTo] at e ⊢
      exact ih e
theorem exitTo_none {id:Nat} {a:List AItem} {l:List Item} (h:TodoRel m a l) (e:aExitTo id a = none):exitTo id l = none:=by
  induction h with
  | nil=>rfl
  | cons h1 t ih =>
    rename_i a i k l
    cases a with
    | it j =>
      cases h1
      cases i <;> simp only [aExitTo,exitTo] at e ⊢ <;> first
        | exact ih e
        | (split at e
           · cases e
           · rename_i hc; rw [if_neg hc]; exact ih e)
    | rf r =>
      obtain ⟨b,o,_,rfl⟩:=h1
      simp only [aExitTo,exitTo] at e ⊢
      exact ih e
theorem gotoIn_some {id:Nat} {a:List AItem} {l:List Item} (h:TodoRel m a l) {a':List AItem} (e:aGotoIn id a = some a'):∃ l',gotoIn id l = some l'∧TodoRel m a' l':=by
  induction h with
  | nil=>simp [aGotoIn] at e
  | cons h1 t ih =>
    rename_i a i k l
    cases a with
    | it j =>
      cases h1
      cases i <;> simp only [aGotoIn,gotoIn] at e ⊢ <;> first
        | exact ih e
        | (split at e
           · cases e; rename_i hc; rw [hc]; exact ⟨_,rfl,.cons rfl (.cons rfl t)⟩
           · rename_i hc; rw [hc]; exact ih e)
    | rf r =>
      obtain ⟨b,o,_,rfl⟩:=h1
      simp only [aGotoIn,gotoIn] at e ⊢
      exact ih e
theorem set_rel {xs:List V} {arr:Array Value} (h:REs m S w xs arr) {v:V} {u:Value} (hv:RV m S w v u) (d:Nat):REs m S w (xs.set d v) (arr.setIfInBounds d u):=by
 refine ⟨by simp [h.1],fun j x y hx hy=>?_⟩
 by_cases e:d = j
 ·subst e
  have hd:d < xs.length:=by have:=lt_of_get hx; simpa using this
  rw [List.getElem?_set_self hd] at hx
  rw [Array.getElem?_setIfInBounds_self_of_lt (by rw [h.1]; exact hd)] at hy
  cases hx; cases hy; exact .inr hv
 ·rw [List.getElem?_set_ne e] at hx
  rw [Array.getElem?_setIfInBounds_ne e] at hy
  exact h.2 j x y hx hy
theorem putT_rel {xs:List V} {arr:Array Value} (h:REs m S w xs arr) {v:V} {u:Value} (hv:RV m S w v u) (d:Option Nat):REs m S w (setTmp xs d v) (putT arr d u):=by
 cases d with
 | none=>exact h
 | some d=>exact set_rel h hv d
theorem env_get {xs:List V} {arr:Array Value} (h:REs m S w xs arr) (t:Nat):RE m S w (xs.getD t V.undef) (arr.getD t Go.undef):=by
 rcases Nat.lt_or_ge t xs.length with hl | hl
 ·have hl':t < arr.size:=by rw [h.1]; exact hl
  have:=h.2 t xs[t] arr[t] (by simp [hl]) (by simp [hl'])
  simpa [List.getD,hl,Array.getD,hl'] using this
 ·have hl':arr.size ≤ t:=by rw [h.1]; exact hl
  have:¬ t < arr.size:=by omega
  simp [List.getD,List.getElem?_eq_none hl,Array.getD,this]
  exact .inr undef_rel
theorem env_known {xs:List V} {arr:Array Value} (h:REs m S w xs arr) {t:Nat} {v:V} (hk:known (xs.getD t V.undef) = some v):RV m S w v (arr.getD t Go.undef):=by
 obtain ⟨rfl,hn⟩:=known_eq hk
 exact (env_get h t).resolve_left hn
theorem REs.get {xs:List V} {arr:Array Value} (h:REs m S w xs arr) {j:Nat} {x:V} (hx:xs[j]? = some x) (hn:x ≠ .any):∃ v,arr[j]? = some v∧RV m S w x v:=by
 have hl:=lt_of_get hx
 have hl':j < arr.size:=by rw [h.1]; exact hl
 exact ⟨arr[j],by simp [hl'],(h.2 j x arr[j] hx (by simp [hl'])).resolve_left hn⟩
theorem opRel_of {fn:FuncId} {env:List V} {tmps:Array Value} {todo:List Item} {ds:List Deferred} {ro:Option Nat} (hgl:Glb S w) (h:REs m S w env tmps):OpRel m S w env (rfr fn tmps todo ds ro).eval:=by
 intro x v hx
 cases x with
 | tmp t=>exact env_known h hx
 | const u=>exact ofVal_sound hx
 | global g =>
  simp only [evalO] at hx
  split at hx
  ·rename_i x hg; cases hx; exact hgl.any hg
  ·cases hx
 | func f=>simp only [evalO,Option.some.injEq] at hx; subst hx; exact .fn f [] #[] rfl (fun j x v h=>by simp at h)
theorem wanted_rel {ops:Array Oper} {env:List V} {tmps:Array Value} (h:REs m S w env tmps) {o:Oper} {b:Bool} (hw:wantedA ops env o = some b):Region.wanted o (yielded ops tmps) = b:=by
 unfold wantedA at hw
 unfold Region.wanted
 split at hw
 ·rename_i hg; cases hw; rw [hg]
 ·rename_i j want hg
  rw [hg]
  split at hw
  ·rename_i d hd
   simp only [yielded,hd,Option.bind_some]
   split at hw
   ·rename_i b' hb
    obtain ⟨v,hv,hr⟩:=h.get hb (by simp)
    have e:=bool_inv hr; subst e
    cases hw
    rw [hv]; cases b' <;> cases want <;> rfl
   ·rename_i vs hb
    obtain ⟨v,hv,hr⟩:=h.get hb (by simp)
    cases hw
    cases hr
    rw [hv]; rfl
   ·cases hw
  ·cases hw
structure COK (c:Cfg):Prop where
 T:TOK c.P c.T
 F:∀ g gf,c.F g = some gf→c.P.funcs[g]? = some gf∧(gf.name == "runtime.NumGoroutine") = false
 RC:RCOK c.P c.RC
 WC:WCOK c.P c.WC
 rc:∀ g,c.rc g = true→∃ gf,c.P.funcs[g]? = some gf∧gf.body.isSome = true∧(gf.name == "runtime.NumGoroutine") = false
 mixed:c.P.follows .mixedOrders = true
theorem lookOf_ok (rows:Rows) (vs:List V):GOK (lookOf rows vs) rows:=by
 intro r row h
 unfold lookOf at h
 split at h
 ·unfold liveAt at h
  split at h
  ·rename_i row' hr; cases h; exact hr
  ·cases h
 ·cases h
theorem liveAt_ok (rows:Rows):GOK (liveAt rows) rows:=by
 intro r row h
 unfold liveAt at h
 split at h
 ·rename_i row' hr; cases h; exact hr
 ·cases h
theorem callView_spec {o:Op} {f:Operand} {args:List Operand} (h:callView o = some (f,args)):∃ as ats,o = .call ⟨.value f,as,ats⟩∧args = as.toList:=by
 unfold callView at h
 split at h
 ·cases h; exact ⟨_,_,rfl,rfl⟩
 ·cases h
theorem run_call {ρ:Operand→Value} {o:Oper} {f:Operand} {as:Array Operand} {ats:Array TypeId} {g:FuncId} {gf:Func} {caps:Array Value} (ho:o.op = .call ⟨.value f,as,ats⟩)
  {fs:Array Value} (he:ρ f = .func (.func g) fs caps) (hf:P.funcs[g]? = some gf) (hb:gf.body.isSome = true) (hn:(gf.name == "runtime.NumGoroutine") = false) :
  (execOp ρ o).run P w = .ok (.enter g (fs ++ as.map ρ ++ caps)) w:=by
 have hcall:=fun (w:World) (args:Array Value)=>run_callFunc (P:=P) (w:=w) (args:=args) hf hb hn
 obtain ⟨dst,op,type,pos,after,guard⟩:=o
 simp only at ho
 subst ho
 simp [execOp,resolve,he,Deferred.ofValue,invoke,hcall]
theorem RVs_append {xs ys:List V} {a b:Array Value} (h:RVs m S w xs a) (k:RVs m S w ys b):RVs m S w (xs ++ ys) (a ++ b):=by
 refine ⟨by simp [h.1,k.1],fun j x v hx hv=>?_⟩
 rcases Nat.lt_or_ge j xs.length with hl | hl
 ·rw [List.getElem?_append_left hl] at hx
  rw [Array.getElem?_append_left (by rw [h.1]; exact hl)] at hv
  exact h.2 j x v hx hv
 ·rw [List.getElem?_append_right hl] at hx
  rw [Array.getElem?_append_right (by rw [h.1]; exact hl),h.1] at hv
  exact k.2 _ x v hx hv
theorem fnArgs_rel {fv:V} {vs as:List V} {g:FuncId} {u:Value} {arr:Array Value} (h:fnArgs fv vs = some (g,as)) (hv:RV m S w fv u) (ha:RVs m S w vs arr) :
  ∃ fs cs,u = .func (.func g) fs cs∧RVs m S w as (fs ++ arr ++ cs):=by
 unfold fnArgs at h
 split at h
 ·cases h
  cases hv with
  | fn _ _ carr hcl hcd=>exact ⟨#[],carr,rfl,by rw [Array.empty_append]; exact RVs_append ha ⟨hcl,hcd⟩⟩
 ·cases h
  cases hv with
  | bf _ _ carr hcl hcd=>exact ⟨carr,#[],rfl,by rw [Array.append_empty]; exact RVs_append ⟨hcl,hcd⟩ ha⟩
 ·cases h
theorem args_rel {ρ:Operand→Value} {env:List V} (h:OpRel m S w env ρ) {as:Array Operand} {vs:List V} (he:evalOs env as.toList = some vs):RVs m S w vs (as.map ρ):=by
 have:=evalOs_sound h he
 have e:(as.toList.map ρ).toArray = as.map ρ:=by apply Array.ext'; simp
 rwa [e] at this
theorem isNotDefer {o:Op} {f:Operand} {args:List Operand} (h:callView o = some (f,args)):∀ c,o ≠ .defer c:=by
 obtain ⟨as,ats,rfl,_⟩:=callView_spec h
 intro c e; cases e
theorem act_notDefer {T:TypeId→Option Ty} {g:Look} {slot:Nat} {o:Op} {vs:List V} {res:Res} (h:act T g slot o vs = some res):∀ c,o ≠ .defer c:=by
 rintro c rfl
 simp [act] at h
theorem applyRes_eq {a:Rec} (h:∀ r ∈ a.wr,r < rows.length):applyRes a.slot { v:=a.v,ups:=a.ups,fresh:=a.fresh } rows = setRows a.all rows:=by
 unfold applyRes Rec.all
 have hu:∀ u ∈ a.ups,u.1 < rows.length:=fun u hu=>h u.1 (by unfold Rec.wr; exact List.mem_append.2 (.inl (List.mem_map_of_mem hu)))
 cases hf:a.fresh with
 | none=>simp only [List.append_nil]; exact applyUps_eq hu
 | some row =>
  simp only
  have hs:a.slot < rows.length:=h a.slot (by unfold Rec.wr; rw [hf]; simp)
  rw [applyUps_eq hu,setSlot_eq (by rw [setRows_len]; exact hs)]
  simp [setRows]
theorem stepR_sound {c:Cfg} (hc:COK c) {fn:FuncId} {ops:Array Oper} {slot0 i:Nat} {s:St} {a:Rec} (h:stepR c ops slot0 i s = some a) {tmps:Array Value} {rest:List Nat} {k:List Item} {ds:List Deferred} {ro:Option Nat} {cs:List Frame}
  (inv:Inv w0 own m S w s.rows) (henv:REs m S w s.env tmps) (hle:slot0 + i ≤ s.rows.length) (hnew:m (slot0 + i) = none) :
  ∃ m' S' w' tmps',Steps c.P (lone (rfr fn tmps (.inRegion ops (i :: rest) :: k) ds ro) cs w) (lone (rfr fn tmps' (.inRegion ops rest :: k) ds ro) cs w') ∧
   Inv w0 own m' S' w' (a.exec s).rows∧REs m' S' w' (a.exec s).env tmps'∧Ext m S w m' S' w':=by
 unfold stepR at h
 split at h
 ·cases h
 ·rename_i o ho
  split at h
  ·cases h
  ·rename_i hw
   cases h
   refine ⟨m,S,w,_,.one (m_opskip ho (wanted_rel henv hw)),inv,?_,Ext.refl ..⟩
   exact putT_rel henv undef_rel o.dst
  ·rename_i hw
   have hw':=wanted_rel henv hw
   split at h
   ·cases h
   ·rename_i res hres
    simp only at h
    split at h
    ·rename_i hlt
     cases h
     have hlt':∀ r ∈ Rec.wr { dst:=o.dst,v:=res.v,ups:=res.ups,fresh:=res.fresh,slot:=slot0 + i,rdT:=readsT ops o,rdR:=readsR s.env s.rows o.op },r < s.rows.length :=
      fun r hr=>by simpa using (List.all_eq_true.1 hlt) r hr
     have hrows:=applyRes_eq (rows:=s.rows) hlt'
     unfold opRes at hres
     split at hres
     ·rename_i f args hcv
      obtain ⟨as,ats,hop,rfl⟩:=callView_spec hcv
      split at hres
      ·rename_i fv vs hf hvs
       split at hres
       case h_2=>cases hres
       rename_i g as' hfa
       split at hres
       ·rename_i hrc
        obtain ⟨gf,h1,h2,h3⟩:=hc.rc g hrc
        have hρ:=opRel_of (fn:=fn) (todo:=.inRegion ops (i :: rest) :: k) (ds:=ds) (ro:=ro) inv.glb henv
        obtain ⟨fs,cs',hfe,hargs⟩:=fnArgs_rel hfa (hρ f _ hf) (args_rel hρ hvs)
        have hrun:=run_call (w:=w) hop hfe h1 h2 h3
        have hcalls:=callX_sound (P:=c.P) hc.RC hc.WC inv (SlotOK.mk' inv hle hnew) hres hargs
        obtain ⟨e,w',fr,⟨u,rfl,m',S',i1,e1,r1⟩,hcomes,hfn,hlv⟩:=hcalls (rfr fn tmps (.inRegion ops (i :: rest) :: k) ds ro :: cs)
        have hleave:=step_leave_returned (P:=c.P) (c:=rfr fn tmps (.inRegion ops (i :: rest) :: k) ds ro) (cs:=cs) hlv
        rw [finish_rfr ho] at hleave
        refine ⟨m',S',w',putT tmps o.dst u,Steps.head (m_enter ho hw' (isNotDefer hcv) hrun) (Steps.trans hcomes (.one hleave)),?_,putT_rel (henv.ext e1) r1 o.dst,e1⟩
        show Inv w0 own m' S' w' (setRows _ s.rows)
        rw [← hrows]; exact i1
       ·cases hres
      ·cases hres
     ·rename_i hcv
      split at hres
      ·rename_i vs hvs
       have hρ:=opRel_of (fn:=fn) (todo:=.inRegion ops (i :: rest) :: k) (ds:=ds) (ro:=ro) inv.glb henv
       obtain ⟨nx,u,w',m',S',hrun,hnx,i1,e1,r1⟩:=act_sound hc.T (lookOf_ok s.rows vs) inv (SlotOK.mk' inv hle hnew) hρ hvs hres
       refine ⟨m',S',w',_,.one (m_op ho hw' (act_notDefer hres) hrun hnx),?_,putT_rel (henv.ext e1) r1 o.dst,e1⟩
       show Inv w0 own m' S' w' (setRows _ s.rows)
       rw [← hrows]; exact i1
      ·cases hres
    ·cases h
end Go.Aev
end
section
namespace Go.Aev
variable [Glob]
variable {P:Program} {w0:World} {own:Own} {m:Mp} {S:Nat→Prop} {w:World} {rows:Rows}
theorem runAll_len {c:Cfg} {ops:Array Oper} {slot0:Nat}:∀ {l:List Nat} {s s':St} {rs:List Rec},runAll c ops slot0 l s = some (rs,s')→rs.length = l.length
 | [],s,s',rs,h=>by simp [runAll] at h; rw [h.1]; rfl
 | i :: l,s,s',rs,h=>by
  simp only [runAll] at h
  split at h
  ·split at h
   ·rename_i h2
    cases h
    simp [runAll_len h2]
   ·cases h
  ·cases h
theorem runAll_runs {c:Cfg} {ops:Array Oper} {slot0:Nat} {R:Nat→Rec}:∀ {l:List Nat} {s s':St} {rs:List Rec},runAll c ops slot0 l s = some (rs,s')→(∀ j i:Nat,l[j]? = some i→rs[j]? = some (R i))→Runs c ops slot0 R l s s'
 | [],s,s',rs,h,_=>by simp [runAll] at h; exact h.2.symm
 | i :: l,s,s',rs,h,hR=>by
  simp only [runAll] at h
  split at h
  ·rename_i a ha
   split at h
   ·rename_i rs' s2 h2
    cases h
    have h0:=hR 0 i rfl
    simp at h0
    subst h0
    exact ⟨ha,runAll_runs h2 (fun j x hj=>hR (j + 1) x (by simpa using hj))⟩
   ·cases h
  ·cases h
theorem inv_frees (inv:Inv w0 own m S w rows) (n:Nat):Inv w0 own m S w (rows ++ List.replicate n Slot.free):=by
 have get:∀ {r:Nat} {x:Slot},(rows ++ List.replicate n Slot.free)[r]? = some x→rows[r]? = some x ∨ (x = Slot.free∧rows.length ≤ r):=by
  intro r x h
  rcases Nat.lt_or_ge r rows.length with hl | hl
  ·rw [List.getElem?_append_left hl] at h; exact .inl h
  ·rw [List.getElem?_append_right hl] at h
   right
   have:=List.mem_of_getElem? h
   exact ⟨(List.mem_replicate.1 this).2,hl⟩
 have live:∀ {r:Nat} {row:Row},(rows ++ List.replicate n Slot.free)[r]? = some (Slot.live row)→rows[r]? = some (Slot.live row):=by
  intro r row h
  rcases get h with h | ⟨h,_⟩
  ·exact h
  ·cases h
 refine ⟨fun r hr=>inv.none r (by simp at hr; omega),fun r hr=>?_,fun r row hr=>inv.row r row (live hr),inv.bnd,fun r row b o h1=>inv.new r row b o (live h1),fun r r' row row' b o b' o' hne h1 h2=>inv.apart r r' row row' b o b' o' hne (live h1) (live h2),
  fun r row b o h1=>inv.stab r row b o (live h1),fun r row b o h1=>inv.rost r row b o (live h1),inv.sbnd,inv.base,inv.stb,inv.os,inv.tape,inv.output,inv.grow,inv.kept,inv.glb⟩
 rcases get hr with h | ⟨_,h⟩
 ·exact inv.fre r h
 ·exact inv.none r h
theorem trim_spec (rows:Rows):∃ l,rows = trimFree rows ++ l∧∀ x ∈ l,x = Slot.free:=by
 refine ⟨(rows.reverse.takeWhile isFree).reverse,?_,fun x hx=>?_⟩
 ·have h:=List.takeWhile_append_dropWhile (p:=isFree) (l:=rows.reverse)
  have h2:=congrArg List.reverse h
  rw [List.reverse_append,List.reverse_reverse] at h2
  exact h2.symm
 ·rw [List.mem_reverse] at hx
  have:=List.all_takeWhile (p:=isFree) (l:=rows.reverse)
  have h3:=(List.all_eq_true.1 this) x hx
  cases x <;> first | rfl | cases h3
theorem inv_trim (inv:Inv w0 own m S w rows):Inv w0 own m S w (trimFree rows):=by
 obtain ⟨l,hl,hf⟩:=trim_spec rows
 have live:∀ {r:Nat} {x:Slot},(trimFree rows)[r]? = some x→rows[r]? = some x:=by
  intro r x h
  have:=lt_of_get h
  rw [hl,List.getElem?_append_left this]; exact h
 refine ⟨fun r hr=>?_,fun r hr=>inv.fre r (live hr),fun r row hr=>inv.row r row (live hr),inv.bnd,fun r row b o h1=>inv.new r row b o (live h1),fun r r' row row' b o b' o' hne h1 h2=>inv.apart r r' row row' b o b' o' hne (live h1) (live h2),
  fun r row b o h1=>inv.stab r row b o (live h1),fun r row b o h1=>inv.rost r row b o (live h1),inv.sbnd,inv.base,inv.stb,inv.os,inv.tape,inv.output,inv.grow,inv.kept,inv.glb⟩
 rcases Nat.lt_or_ge r rows.length with h1 | h1
 ·have hg:rows[r]? = some (rows[r]):=by simp [h1]
  have:rows[r]? = l[r - (trimFree rows).length]?:=by rw [hl,List.getElem?_append_right hr,← hl]
  rw [hg] at this
  have hm:=hf _ (List.mem_of_getElem? this.symm)
  exact inv.fre r (by rw [hg,hm])
 ·exact inv.none r h1
theorem pairsOK_spec {ops:Array Oper} {slot0:Nat} {rs:List Rec} {n:Nat} (h:pairsOK (ancs ops n) slot0 rs = true) (hn:rs.length = n) {R:Nat→Rec} (hR:∀ i,i < n→rs[i]? = some (R i)) :
  ∀ i k,i < n→k < n→i ≠ k→(Anc ops k i ∨ slot0 + k ∉ (R i).wr)∧(i < k→Anc ops i k ∨ indep (R i) (R k) = true):=by
 intro i k hi hk hne
 unfold pairsOK at h
 have hb:(R k,k) ∈ rs.zipIdx:=by
  rw [List.mem_zipIdx_iff_getElem?]; simpa using hR k hk
 have ha:(R i,i) ∈ rs.zipIdx:=by
  rw [List.mem_zipIdx_iff_getElem?]; simpa using hR i hi
 have h1:=(List.all_eq_true.1 ((List.all_eq_true.1 h) _ hb)) _ ha
 simp only [Bool.or_eq_true,Bool.and_eq_true,beq_iff_eq,decide_eq_true_eq,Bool.not_eq_true',List.contains_iff_mem] at h1
 rcases h1 with h1 | ⟨h1,h2⟩
 ·exact absurd h1 hne
 ·refine ⟨?_,fun hlt=>?_⟩
  ·rcases h1 with h1 | h1
   ·exact .inl (ancs_spec n i k hi h1)
   ·right
    intro hm
    have:(R i).wr.contains (slot0 + k) = true:=by simpa using hm
    rw [this] at h1; cases h1
  ·rcases h2 with (h2 | h2) | h2
   ·omega
   ·exact .inl (ancs_spec n k i hk h2)
   ·exact .inr h2
theorem Sched.steps {c:Cfg} (hc:COK c) {fn:FuncId} {ops:Array Oper} {slot0:Nat} {R:Nat→Rec} {k0:List Item} {ds:List Deferred} {ro:Option Nat} {cs:List Frame} {L σ:List Nat} {n:Nat} {tl:List Nat} (hno:n ≤ ops.size) (h:Sched ops L σ) :
    ∀ {m:Mp} {S:Nat→Prop} {w:World} {tmps:Array Value} {s s':St},Runs c ops slot0 R L s s'→(∀ x ∈ L,x < n)→L.Pairwise (· < ·) →
      (∀ x,x < n→x ∉ L→∀ j ∈ directs ops x,j ∉ L)→(∀ k,k < n→∀ j ∈ directs ops k,j < n) →
      (∀ i k,i < n→k < n→i ≠ k→(Anc ops k i ∨ slot0 + k ∉ (R i).wr)∧(i < k→Anc ops i k ∨ indep (R i) (R k) = true)) →
      Inv w0 own m S w s.rows→REs m S w s.env tmps→slot0 + ops.size ≤ s.rows.length→(∀ x ∈ L,s.rows[slot0 + x]? = some Slot.free) →
      ∃ m' S' w' tmps',Steps c.P (lone (rfr fn tmps (.inRegion ops (σ ++ tl) :: k0) ds ro) cs w) (lone (rfr fn tmps' (.inRegion ops tl :: k0) ds ro) cs w') ∧
        Inv w0 own m' S' w' s'.rows∧REs m' S' w' s'.env tmps'∧Ext m S w m' S' w':=by
  induction h with
  | nil =>
    intro m S w tmps s s' hrun _ _ _ _ _ inv henv _ _
    cases hrun
    exact ⟨m,S,w,tmps,Steps.refl _ _,inv,henv,Ext.refl ..⟩
  | cons k A B σ hr _ ih =>
    intro m S w tmps s s' hrun hlt hsort hdc hdn hpair inv henv hlen hfree
    have hnot:∀ (i:Nat),i ∈ A ++ k :: B→∀ k',k' < n→(k' ∉ A ++ k :: B ∨ k' = k)→¬ Anc ops i k':=by
      intro i hi k' hk' hor hanc
      induction hanc with
      | one h =>
        rename_i k0
        rcases hor with h1 | h1
        · exact hdc k0 hk' h1 i h hi
        · subst h1; exact hr i h hi
      | more h _ ih2 =>
        rename_i j0 k0 _
        have hj:j0 ∉ A ++ k :: B:=by
          rcases hor with h1 | h1
          · exact hdc k0 hk' h1 j0 h
          · subst h1; exact hr j0 h
        exact ih2 (hdn k0 hk' j0 h) (.inl hj)
    have hkn:k < n:=hlt k (by simp)
    have hnd:(A ++ k :: B).Nodup:=hsort.imp (fun h=>Nat.ne_of_lt h)
    have hind:∀ a ∈ A,indep (R a) (R k) = true:=by
      intro a ha
      have hak:a < k:=(List.pairwise_append.1 hsort).2.2 a ha k (by simp)
      rcases (hpair a k (hlt a (by simp [ha])) hkn (by omega)).2 hak with h1 | h1
      · exact absurd h1 (hnot a (by simp [ha]) k hkn (.inr rfl))
      · exact h1
    obtain ⟨h1,h2⟩:=hrun.move hind
    have hfk:=hfree k (by simp)
    obtain ⟨m1,S1,w1,tmps1,st1,i1,v1,e1⟩:=stepR_sound (fn:=fn) (rest:=σ ++ tl) (k:=k0) (ds:=ds) (ro:=ro) (cs:=cs) hc h1 inv henv (by omega) (inv.fre _ hfk)
    have hsub:∀ x,x ∈ A ++ B→x ∈ A ++ k :: B:=fun x hx=>by rcases List.mem_append.1 hx with h | h <;> simp [h]
    have hne:∀ x,x ∈ A ++ B→x ≠ k:=by
      intro x hx e
      subst e
      rw [List.nodup_append] at hnd
      rcases List.mem_append.1 hx with h | h
      · exact (hnd.2.2 x h x (by simp)) rfl
      · exact (List.nodup_cons.1 hnd.2.1).1 h
    obtain ⟨m2,S2,w2,tmps2,st2,i2,v2,e2⟩:=ih h2 (fun x hx=>hlt x (hsub x hx)) (by
        rw [List.pairwise_append] at hsort ⊢
        exact ⟨hsort.1,(List.pairwise_cons.1 hsort.2.1).2,fun a ha b hb=>hsort.2.2 a ha b (by simp [hb])⟩)
      (by
        intro x hx hnx j hj hmem
        by_cases hxk:x = k
        · subst hxk; exact hr j hj (hsub j hmem)
        · refine hdc x hx (fun h=>?_) j hj (hsub j hmem)
          rcases List.mem_append.1 h with h | h
          · exact hnx (by simp [h])
          · rcases List.mem_cons.1 h with h | h
            · exact hxk h
            · exact hnx (by simp [h])) hdn hpair i1 v1 (by rw [exec_len]; exact hlen)
      (by
        intro x hx
        have hxn:=hlt x (hsub x hx)
        have hnw:slot0 + x ∉ (R k).wr:=by
          rcases (hpair k x hkn hxn (fun e=>hne x hx e.symm)).1 with h3 | h3
          · exact absurd h3 (hnot x (hsub x hx) k hkn (.inr rfl))
          · exact h3
        rw [exec_row_get hnw]
        exact hfree x (hsub x hx))
    exact ⟨m2,S2,w2,tmps2,st1.trans st2,i2,v2,e1.trans e2⟩
theorem regionA_sound {c:Cfg} (hc:COK c) {fn:FuncId} {id:Nat} {ops:Array Oper} {s st:St} (h:regionA c ops s = some st) {tmps:Array Value} {k:List Item} {ds:List Deferred} {ro:Option Nat} {cs:List Frame}
  (inv:Inv w0 own m S w s.rows) (henv:REs m S w s.env tmps) :
  ∃ m' S' w' tmps',Steps c.P (lone (rfr fn tmps (.code (.region id ops true) :: k) ds ro) cs w) (lone (rfr fn tmps' k ds ro) cs w')∧Inv w0 own m' S' w' st.rows∧REs m' S' w' st.env tmps'∧Ext m S w m' S' w':=by
 unfold regionA at h
 split at h
 ·rename_i hed
  split at h
  ·rename_i rs s' hrun
   split at h
   ·rename_i hp
    cases h
    have hlen:=runAll_len hrun
    simp only [List.length_range] at hlen
    let R:Nat→Rec:=fun i=>(rs[i]?).getD { dst:=none,v:=V.undef,slot:=0,rdT:=[],rdR:=none }
    have hR:∀ i,i < ops.size→rs[i]? = some (R i):=fun i hi=>by
     have:i < rs.length:=by omega
     simp [R,this]
    have hruns:=runAll_runs (R:=R) hrun (fun j i hj=>by
     have hjl:=lt_of_get hj
     rw [List.length_range] at hjl
     rw [List.getElem?_range hjl] at hj
     cases hj
     exact hR j hjl)
    obtain ⟨t,hstep⟩:=m_draw (P:=c.P) (fn:=fn) (tmps:=tmps) (ds:=ds) (ro:=ro) (k:=k) (cs:=cs) (w:=w) (id:=id) (ops:=ops) hc.mixed
    obtain ⟨i0,e0⟩:=inv.same (w':={ w with drawn:=w.drawn + 1 }) rfl rfl rfl rfl
    have hdn:∀ k,k < ops.size→∀ j ∈ directs ops k,j < ops.size:=fun k hk j hj=>Nat.lt_trans (edgesOK_spec hed k j hj) hk
    obtain ⟨m',S',w',tmps',h1,h2,h3,h4⟩:=(schedule_sched hed t).steps (tl:=[]) (w0:=w0) (own:=own) hc (Nat.le_refl _) (fn:=fn) (k0:=k) (ds:=ds) (ro:=ro) (cs:=cs) hruns (fun x hx=>by simpa using hx) List.pairwise_lt_range
     (fun x hx hnx=>absurd (by simpa using hx) hnx) hdn (pairsOK_spec hp hlen hR) (inv_frees i0 ops.size) (henv.ext e0) (by simp)
     (fun x hx=>by
      have hx':x < ops.size:=by simpa using hx
      rw [List.getElem?_append_right (by omega),List.getElem?_replicate,if_pos (by omega)])
    exact ⟨m',S',w',tmps',Steps.head hstep ((by simpa using h1:Steps _ _ _).trans (.one m_regionEnd)),inv_trim h2,h3,e0.trans h4⟩
   ·cases h
  ·cases h
 ·cases h
end Go.Aev
end
section
namespace Go.Aev
variable [Glob]
variable {P:Program} {w0:World} {own:Own} {m:Mp} {S:Nat→Prop} {w:World} {rows:Rows}
theorem cutA_sound {c:Cfg} (hc:COK c) {fn:FuncId} {id:Nat} {ops:Array Oper} {q:Nat} {s st:St} (h:cutA c ops q s = some st) {tmps:Array Value} {k:List Item} {ds:List Deferred} {ro:Option Nat} {cs:List Frame}
  (inv:Inv w0 own m S w s.rows) (henv:REs m S w s.env tmps) :
  ∃ m' S' w' tmps',Steps c.P (lone (rfr fn tmps (.code (.region id ops true) :: k) ds ro) cs w) (lone (rfr fn tmps' (.inRegion ops (q :: List.range' (q + 1) (ops.size - (q + 1))) :: k) ds ro) cs w')∧Inv w0 own m' S' w' st.rows∧REs m' S' w' st.env tmps'∧Ext m S w m' S' w':=by
 unfold cutA at h
 split at h
 ·rename_i hcond
  simp only [Bool.and_eq_true,decide_eq_true_eq] at hcond
  obtain ⟨⟨⟨⟨hed,hq⟩,hsz⟩,hall⟩,hall2⟩:=hcond
  split at h
  ·rename_i rs s' hrun
   split at h
   ·rename_i hp
    cases h
    have hlen:=runAll_len hrun
    simp only [List.length_range] at hlen
    let R:Nat→Rec:=fun i=>(rs[i]?).getD { dst:=none,v:=V.undef,slot:=0,rdT:=[],rdR:=none }
    have hR:∀ i,i < q→rs[i]? = some (R i):=fun i hi=>by
     have:i < rs.length:=by omega
     simp [R,this]
    have hruns:=runAll_runs (R:=R) hrun (fun j i hj=>by
     have hjl:=lt_of_get hj
     rw [List.length_range] at hjl
     rw [List.getElem?_range hjl] at hj
     cases hj
     exact hR j hjl)
    obtain ⟨t,hstep⟩:=m_draw (P:=c.P) (fn:=fn) (tmps:=tmps) (ds:=ds) (ro:=ro) (k:=k) (cs:=cs) (w:=w) (id:=id) (ops:=ops) hc.mixed
    obtain ⟨i0,e0⟩:=inv.same (w':={ w with drawn:=w.drawn + 1 }) rfl rfl rfl rfl
    have hdn:∀ k,k < ops.size→∀ j ∈ directs ops k,j < ops.size:=fun k hk j hj=>Nat.lt_trans (edgesOK_spec hed k j hj) hk
    have hsched:=schedule_sched hed t
    rw [range_cut hq] at hsched
    obtain ⟨σ1,e1,s1⟩:=hsched.split (n:=ops.size) rfl
     (fun i hi=>ancs_spec ops.size q i hq (by simpa using (List.all_eq_true.1 hall) i hi))
     (fun i hi=>by
      have hi':=hi
      rw [List.mem_range'_1] at hi'
      exact ancs_spec ops.size i q (by omega) (by simpa using (List.all_eq_true.1 hall2) i hi))
     (by rw [List.length_range']; omega)
     (fun x hx=>by rw [← range_cut hq] at hx; simpa using hx) (by rw [← range_cut hq]; exact List.nodup_range)
     (fun x hx hnx=>absurd (by rw [← range_cut hq]; simpa using hx) hnx) hdn
    rw [e1] at hstep
    obtain ⟨m',S',w',tmps',h1,h2,h3,h4⟩:=s1.steps (n:=q) (tl:=q :: List.range' (q + 1) (ops.size - (q + 1))) (w0:=w0) (own:=own) hc (by omega) (fn:=fn) (k0:=k) (ds:=ds) (ro:=ro) (cs:=cs) hruns (fun x hx=>by simpa using hx) List.pairwise_lt_range
     (fun x hx hnx=>absurd (by simpa using hx) hnx) (fun k hk j hj=>Nat.lt_trans (edgesOK_spec hed k j hj) hk) (pairsOK_spec hp hlen hR) (inv_frees i0 ops.size) (henv.ext e0) (by simp)
     (fun x hx=>by
      have hx':x < q:=by simpa using hx
      rw [List.getElem?_append_right (by omega),List.getElem?_replicate,if_pos (by omega)])
    exact ⟨m',S',w',tmps',Steps.head hstep h1,h2,h3,e0.trans h4⟩
   ·cases h
  ·cases h
 ·cases h
end Go.Aev
end
section
namespace Go.Aev
variable [Glob]
variable {P:Program} {w0:World} {own:Own} {m:Mp} {S:Nat→Prop} {w:World} {rows:Rows}
theorem loop_write (inv:Inv w0 own m S w rows) {r:Nat} {st st':LoopState} {pend pend':Option Code} {fn:FuncId} {env:List V} {ps:List Tmp} {as bd:Code} {d:Nat}
  (hr:rows[r]? = some (Slot.live (.loop st pend fn env ps as bd d))):∃ l o L,m r = some (l,o)∧w.heap[l]? = some (.loop L)∧L.state = st∧L.pending = pend∧L.fn = fn∧REs m S w env L.tmps∧L.params.toList = ps∧L.assign = as∧L.body = bd∧(∃ o',m d = some (L.defers,o')) ∧
   Inv w0 own m S { w with heap:=w.heap.setIfInBounds l (.loop { L with state:=st',pending:=pend' }) } (setSlot rows r (Slot.live (.loop st' pend' fn env ps as bd d))) ∧
   Ext m S w m S { w with heap:=w.heap.setIfInBounds l (.loop { L with state:=st',pending:=pend' }) }:=by
 obtain ⟨l,o,hm,L,h1,h2,h3,h4,h5,h6,h7,h8,o',h9⟩:=inv.row r _ hr
 have hlt:=inv.bnd r l o hm
 obtain ⟨k1,k2⟩:=inv.writeG (w':={ w with heap:=w.heap.setIfInBounds l (.loop { L with state:=st',pending:=pend' }) }) (row':=.loop st' pend' fn env ps as bd d) hr hm rfl rfl (by simp) (fun c hc=>setObj_other w l c _ hc)
  (by simp [bsize,h1]) rfl rfl rfl (fun ext=>⟨{ L with state:=st',pending:=pend' },setObj_same w l _ hlt,rfl,rfl,h4,h5.ext ext,h6,h7,h8,o',ext.map _ _ h9⟩)
 exact ⟨l,o,L,hm,h1,h2,h3,h4,h5,h6,h7,h8,⟨o',h9⟩,k1,k2⟩
theorem finishA_sound {fn:FuncId} {a a':AF} {v:V} {rows':Rows} (h:finishA a v rows = some (a',rows')) {tmps:Array Value} {todo:List Item} {ds:List Deferred} {ro:Option Nat} {cs:List Frame} {u:Value}
  {hid:List Deferred} (inv:Inv w0 own m S w rows) (hfr:FR m S w hid a tmps todo ds ro) (hv:RV m S w v u) (hfn:a.fn = fn) :
  ∃ m' S' w' tmps' todo',Steps P (lone ((rfr fn tmps todo ds ro).finish u) cs w) (lone (rfr fn tmps' todo' ds ro) cs w')∧Inv w0 own m' S' w' rows'∧FR m' S' w' hid a' tmps' todo' ds ro∧Ext m S w m' S' w'∧a'.fn = fn:=by
 unfold finishA at h
 split at h
 ·rename_i ops i rest k htodo
  split at h
  ·rename_i o ho
   cases h
   have ht:=hfr.todo
   rw [htodo] at ht
   cases ht with
   | cons hi t =>
   cases hi
   rw [finish_rfr ho]
   exact ⟨m,S,w,_,_,Steps.refl _ _,inv,⟨putT_rel hfr.env hv o.dst,.cons rfl t,hfr.ds,hfr.ro⟩,Ext.refl ..,hfn⟩
  ·cases h
 ·rename_i r k htodo
  split at h
  ·rename_i st pend lfn env ps as bd d hl
   have hr:=liveAt_ok rows r _ hl
   obtain ⟨l,o,L,hm,e1,e2,e3,e4,e5,e6,e7,e8,e9,k1,k2⟩:=loop_write (st':=.exhausted) (pend':=pend) inv hr
   have ht:=hfr.todo
   rw [htodo] at ht
   cases ht with
   | cons hi t =>
   rename_i krest
   obtain ⟨l',o',hm',rfl⟩:=hi
   rw [hm] at hm'; cases hm'
   have hb:L.state ≠ .busy:=by
    rw [e2]; intro e; subst e; simp at h
   have hres:a' = { a with todo:=(pend.map fun c=>AItem.it (.code c)).toList ++ k }∧rows' = setSlot rows r (.live (.loop .exhausted pend lfn env ps as bd d)):=by
    split at h
    ·cases h
    ·cases h; exact ⟨rfl,rfl⟩
   obtain ⟨rfl,rfl⟩:=hres
   have hstep:=m_endRange (P:=P) (fn:=fn) (tmps:=tmps) (ds:=ds) (ro:=ro) (cs:=cs) (k:=krest) e1 hb
   have hL:({ L with state:=LoopState.exhausted }:Loop) = { L with state:=.exhausted,pending:=pend }:=by rw [← e3]
   rw [hL] at hstep
   rw [finish_range]
   refine ⟨m,S,_,tmps,_,.one hstep,k1,⟨hfr.env.ext k2,?_,hfr.ds.ext k2,hfr.ro⟩,k2,hfn⟩
   rw [e3]
   cases pend with
   | none=>exact t
   | some c=>exact .cons rfl t
  ·cases h
 ·cases h
theorem marks_sound {F:Frame} {hid:List Deferred} (hF:F.mode = .returning):∀ {marks:List Nat} {ds:List Deferred} {rows rows':Rows} {w:World} {S:Nat→Prop},killMarks marks rows = some rows'→DsRel m hid marks ds→Inv w0 own m S w rows→∀ {cs:List Frame},
  ∃ w',Steps P (lone { F with defers:=ds } cs w) (lone { F with defers:=hid } cs w')∧Inv w0 own m S w' rows'∧Ext m S w m S w'
 | [],ds,rows,rows',w,S,h,hd,inv,cs=>by
  cases hd
  simp [killMarks] at h; subst h
  exact ⟨w,Steps.refl _ _,inv,Ext.refl ..⟩
 | r :: rs,ds,rows,rows',w,S,h,hd,inv,cs=>by
  cases hd with
  | cons hm t =>
  rename_i b o ds
  simp only [killMarks] at h
  split at h
  ·rename_i hl
   have hr:=liveAt_ok rows r _ hl
   have hlt:=slot_lt hr
   obtain ⟨b',o',hm',hrel⟩:=inv.row r _ hr
   rw [hm] at hm'; cases hm'
   have hb:w.heap[b]? = some (.deferred (some [])):=hrel
   have hother:∀ (r':Nat) (row2:Row) (c2 o2:Nat),(setSlot rows r Slot.dead)[r']? = some (Slot.live row2)→m r' = some (c2,o2)→c2 ≠ b:=by
    intro r' row2 c2 o2 h1 h2
    rw [setSlot_get (Nat.le_of_lt hlt)] at h1
    by_cases e:r' = r
    ·simp [e] at h1
    ·simp only [e,if_false] at h1
     exact fun e2=>inv.apart r r' _ row2 b o c2 o2 (fun e3=>e e3.symm) hr h1 rfl hm h2 e2.symm
   obtain ⟨k2,e2⟩:=(inv.kill r hlt).scratch (w':={ w with heap:=w.heap.setIfInBounds b (.deferred none) }) b (by simp) (fun c2 _ hne=>setObj_other w b c2 _ hne) hother (inv.stab r _ b o hr rfl hm) (inv.new r _ b o hr rfl hm)
    (by simp [bsize,hb]) rfl rfl rfl
   obtain ⟨w',s1,i1,e1⟩:=marks_sound hF h t k2 (cs:=cs)
   have hstep:=m_mark (P:=P) (fr:={ F with defers:={ target:=.collected b,args:=#[] } :: ds }) (cs:=cs) (rest:=ds) hF rfl hb
   exact ⟨w',Steps.head hstep s1,i1,e2.trans e1⟩
  ·cases h
theorem resultsA_sound {T:TypeId→Option Ty} (hT:TOK P T) (inv:Inv w0 own m S w rows) {env:List V} {tmps:Array Value} (henv:REs m S w env tmps):∀ {rs:List ResultVar} {vs:List V},resultsA T rows env rs = some vs →
  ∃ us:List Value,(rs.mapM (fun x=>match x with
   | .tmp t=>pure (tmps.getD t Go.undef)
   | .cell a t=>do loadVar t (← asAddr (tmps.getD a Go.undef)):ResultVar→Sem Value)).run P w = .ok us w∧RVs m S w vs us.toArray
 | [],vs,h=>by simp [resultsA] at h; subst h; exact ⟨[],rfl,RVs.nil⟩
 | .tmp t :: r,vs,h=>by
  simp only [resultsA] at h
  split at h
  ·rename_i v0 l hv0 hl
   cases h
   obtain ⟨us,h1,h2⟩:=resultsA_sound hT inv henv hl
   have hk:=env_known henv hv0
   refine ⟨tmps.getD t Go.undef :: us,?_,?_⟩
   ·rw [List.mapM_cons]
    simp only [Sem.run_bind,Sem.run_pure,Result.andThen_ok,h1]
   ·refine ⟨by have:=h2.1; simpa using this,fun j x v hx hv=>?_⟩
    cases j with
    | zero=>simp at hx hv; subst hx; subst hv; simpa using hk
    | succ j=>simp at hx hv; exact h2.2 j x v hx (by simpa using hv)
  ·cases h
 | .cell a t :: r,vs,h=>by
  simp only [resultsA] at h
  split at h
  ·rename_i v l hv hl
   cases h
   obtain ⟨us,h1,h2⟩:=resultsA_sound hT inv henv hl
   rw [Option.bind_eq_some_iff] at hv
   obtain ⟨x0,hx0,hv⟩:=hv
   obtain ⟨u,h3,h4⟩:=loadA_sound (P:=P) hT (liveAt_ok rows) inv hv (env_known henv hx0)
   have h3':(do loadVar t (← asAddr (tmps.getD a Go.undef)):Sem Value).run P w = .ok u w:=by
    simp only [Instr.loadAt,Instr.sureAddr,asAddr,Sem.run_bind] at h3 ⊢
    generalize tmps.getD a Go.undef = q at h3 ⊢
    cases q with
    | pointer p =>
     cases p with
     | some p=>exact h3
     | none=>simp at h3
    | _=>simp at h3
   refine ⟨u :: us,?_,?_⟩
   ·rw [List.mapM_cons]
    rw [Sem.run_bind,h3',Result.andThen_ok,Sem.run_bind,h1]
    rfl
   ·refine ⟨by have:=h2.1; simpa using this,fun j x v hx hv=>?_⟩
    cases j with
    | zero=>simp at hx hv; subst hx; subst hv; exact h4
    | succ j=>simp at hx hv; exact h2.2 j x v hx (by simpa using hv)
  ·cases h
theorem results_sound {T:TypeId→Option Ty} (hT:TOK P T) (inv:Inv w0 own m S w rows) {env:List V} {tmps:Array Value} (henv:REs m S w env tmps) {gf:Func} {vs:List V} (h:resultsA T rows env gf.results.toList = some vs) :
  ∃ u,(results gf tmps).run P w = .ok u w∧RV m S w (oneOr vs) u:=by
 obtain ⟨us,h1,h2⟩:=resultsA_sound hT inv henv h
 have hm:(gf.results.mapM (fun x=>match x with
   | .tmp t=>pure (tmps.getD t Go.undef)
   | .cell a t=>do loadVar t (← asAddr (tmps.getD a Go.undef)):ResultVar→Sem Value)).run P w = .ok us.toArray w:=by
  rw [Array.mapM_eq_mapM_toList]
  simp only [Sem.run_map,h1,Result.andThen_ok]
 have hrun:(results gf tmps).run P w = .ok (if h:us.toArray.size = 1 then us.toArray[0] else .tuple us.toArray) w:=by
  unfold results
  rw [Sem.run_bind]
  erw [hm]
  rfl
 refine ⟨_,hrun,?_⟩
 unfold oneOr
 split
 ·rename_i v
  obtain ⟨a,ea,hr⟩:=get1 h2
  have:us = [a]:=by simpa using ea
  subst this
  simpa using hr
 ·rename_i l hne
  have hne1:¬ us.toArray.size = 1:=by
   intro e
   have:vs.length = 1:=by rw [← h2.1]; exact e
   match vs,this with
   | [v],_=>exact hne v rfl
  rw [dif_neg hne1]
  exact .tup vs us.toArray h2.1 h2.2
end Go.Aev
end
