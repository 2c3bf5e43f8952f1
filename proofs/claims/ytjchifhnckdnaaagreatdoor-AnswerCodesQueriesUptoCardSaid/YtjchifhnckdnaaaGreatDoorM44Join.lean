/- Lemmas for the statements of this seat: an abstract machine that the model follows, and contracts of functions. Conditions: none. -/
import Derived.Test.YtjchifhnckdnaaaGreatDoorA23
import Derived.ChangeArms
import Derived.ChangeOld
import Derived.RowKit
set_option linter.unusedVariables false
set_option linter.unusedSimpArgs false
set_option linter.unusedSectionVars false
namespace Go.Aev.M44
open Go Go.Aev
open Go.RowKit (Below)
set_option maxRecDepth 100000
abbrev SW (W:World):Nat→Prop:=fun b=>b < W.heap.size
def RDs (W:World) (ds:List D) (cs:List Value):Prop:=cs.length = ds.length∧∀ (j:Nat) (d:D) (v:Value),ds[j]? = some d→cs[j]? = some v→RD (SW W) W d v
theorem RDs.nil {W:World}:RDs W [] []:=⟨rfl,fun j d v h=>by simp at h⟩
theorem RDs.cons {W:World} {d:D} {v:Value} {ds:List D} {cs:List Value} (h:RD (SW W) W d v) (t:RDs W ds cs):RDs W (d :: ds) (v :: cs) :=
 ⟨by simp [t.1],fun j x y hx hy=>by
  cases j with
  | zero=>simp at hx hy; subst hx; subst hy; exact h
  | succ j=>simp at hx hy; exact t.2 j x y hx hy⟩
theorem exists_list {α:Type} {Q:Nat→α→Prop}:∀ (n:Nat),(∀ i,i < n→∃ a,Q i a)→∃ l:List α,l.length = n∧∀ (i:Nat) (a:α),l[i]? = some a→Q i a
 | 0,_=>⟨[],rfl,fun i a h=>by simp at h⟩
 | n + 1,h=>by
  obtain ⟨l,h1,h2⟩:=exists_list n (fun i hi=>h i (by omega))
  obtain ⟨a,ha⟩:=h n (by omega)
  refine ⟨l ++ [a],by simp [h1],fun i x hx=>?_⟩
  rcases Nat.lt_or_ge i l.length with hl | hl
  ·rw [List.getElem?_append_left hl] at hx; exact h2 i x hx
  ·rw [List.getElem?_append_right hl] at hx
   have hi:i = n:=by
    rcases Nat.lt_or_ge (i - l.length) 1 with h3 | h3
    ·omega
    ·rw [List.getElem?_eq_none (by simpa using h3)] at hx; cases hx
   subst hi
   have:i - l.length = 0:=by omega
   rw [this] at hx
   simp at hx; subst hx; exact ha
structure Bulk (H:Type) where
 f:DataW H→Nat
 fs:List (DataW H)→Nat
 str:∀ b,f (.lit (.string b)) = b.length + 1
 agg:∀ l,f (.agg l) = fs l + 1
 slice:∀ e s,f (.slice e s) = fs e + fs s + 1
 nil:fs [] = 0
 cons:∀ d r,fs (d :: r) = f d + fs r
section
variable {H:Type} {en:TypeId × Value→H} {W:World}
theorem slice_rd {α:Type} (toD:α→D) (Q:α→DataW H→Prop) {t e:TypeId} {k fuel:Nat} {cs:List Value} {x:DataW H × List MemPlace} (ht:PP.underlying t = some (.slice e)) (hk:PP.cellsOf e = k) (hk0:0 < k)
  (hc:∀ a,(toD a).cells.length = k) (hn:∀ a,∀ c ∈ (toD a).cells,c.isAgg = false) (h:DataW.trod en PP W 0 (fun _=>true) true fuel t cs = some x)
  (el:∀ n cs' y,n < fuel→DataW.trod en PP W 0 (fun _=>true) true n e cs' = some y→∃ a,RDs W (toD a).cells cs'∧Q a y.1) :
  ∃ (l:List α) (v:Value),cs = [v]∧RD (SW W) W (.list (l.map toD)) v∧l.length ≤ maxLen∧((x.1 = .nil∧l = []) ∨ ∃ els spare,x.1 = .slice els spare∧els.length = l.length∧∀ (i:Nat) (a:α) (d:DataW H),l[i]? = some a→els[i]? = some d→Q a d):=by
 rcases DataW.trod_slice ht h with ⟨rfl,rfl⟩ | ⟨a,len,cap,elems,rest,n,rfl,rfl,rfl,hb,hl,hm,hlen,hel,_,_⟩
 ·exact ⟨[],_,rfl,.emp none 0,by simp,.inl ⟨rfl,rfl⟩⟩
 ·rw [hk] at hel
  have each:∀ i,i < len→∃ a',(∃ cs',W.cells? 0 (a.add (i * k)) k = some cs'∧RDs W (toD a').cells cs')∧∃ y,elems[i]? = some y∧Q a' y.1:=by
   intro i hi
   have hi':i < elems.length:=by omega
   have h1:=(hel i hi).trans (List.getElem?_eq_getElem hi')
   obtain ⟨cs',h2,h3⟩:=Option.bind_eq_some_iff.1 h1
   obtain ⟨a',r,q⟩:=el n cs' _ (by omega) h3
   exact ⟨a',⟨cs',h2,r⟩,_,List.getElem?_eq_getElem hi',q⟩
  obtain ⟨l,l1,l2⟩:=exists_list len each
  refine ⟨l,_,rfl,?_,by omega,.inr ⟨_,_,rfl,by simp; omega,fun i a' d ha hd=>?_⟩⟩
  ·by_cases h0:len = 0
   ·subst h0
    have:l = []:=List.eq_nil_of_length_eq_zero l1
    subst this
    exact .emp _ _
   ·obtain ⟨a0,⟨cs0,c1,c2⟩,_⟩:=each 0 (by omega)
    obtain ⟨b,o,spot⟩:=a
    have hblk:b < W.heap.size:=by
     have:=World.cells?_block c1 hk0
     simpa [Addr.add] using this
    have hspot:spot = none:=by
     obtain ⟨_,g1,g2⟩:=World.cells?_some c1
     have g3:=g2 0 hk0
     have:∃ v,cs0[0]? = some v:=⟨cs0[0]'(by omega),List.getElem?_eq_getElem _⟩
     obtain ⟨v,hv⟩:=this
     have e0:(((⟨b,o,spot⟩:Addr).add (0 * k)).add 0) = ⟨b,o,spot⟩:=by simp [Addr.add]
     rw [hv,e0] at g3
     unfold World.cell? at g3
     split at g3
     ·cases spot with
      | none=>rfl
      | some s=>simp at g3
     ·cases g3
    subst hspot
    have hcells:∀ e ∈ l.map toD,e.cells.length = k:=fun e he=>by
     obtain ⟨a',_,rfl⟩:=List.mem_map.1 he
     exact hc a'
    have hfl:(flat (l.map toD)).length = len * k:=by rw [flat_length hcells,List.length_map,l1]
    have key:∀ (j:Nat) (d:D),(flat (l.map toD))[j]? = some d→∃ v,cl W b (o + j) = some v∧RD (SW W) W d v:=by
     intro j d hd
     have hj:j < len * k:=by
      have:=lt_of_get hd
      omega
     have hi:j / k < len:=Nat.div_lt_of_lt_mul (by rw [Nat.mul_comm]; exact hj)
     have hf:j % k < k:=Nat.mod_lt _ hk0
     have hdm:j / k * k + j % k = j:=Nat.div_add_mod' j k
     obtain ⟨ai,hai⟩:∃ ai,l[j / k]? = some ai:=⟨l[j / k]'(by omega),List.getElem?_eq_getElem _⟩
     have hmi:(l.map toD)[j / k]? = some (toD ai):=by rw [List.getElem?_map,hai]; rfl
     have hg:=flat_get hcells hmi hf
     rw [hdm,hd] at hg
     obtain ⟨⟨cs',g1,g2⟩,_⟩:=l2 (j / k) ai hai
     obtain ⟨_,g3,g4⟩:=World.cells?_some g1
     have g5:=g4 (j % k) hf
     obtain ⟨v,hv⟩:∃ v,cs'[j % k]? = some v:=⟨cs'[j % k]'(by omega),List.getElem?_eq_getElem _⟩
     rw [hv,addr_add,addr_add] at g5
     have e1:o + j / k * k + j % k = o + j:=by omega
     rw [e1] at g5
     exact ⟨v,g5,g2.2 _ d v hg.symm hv⟩
    refine .row (l.map toD) b o cap k len (fun j=>(W.cell? ⟨b,o + j,none⟩).getD Go.undef) (by simp [l1]) hl hblk hcells (fun d hd=>?_) (fun j d hd=>?_) (fun j d hd=>?_)
    ·obtain ⟨e,he,hce⟩:=List.mem_flatMap.1 hd
     obtain ⟨a',_,rfl⟩:=List.mem_map.1 he
     exact hn a' d hce
    ·obtain ⟨v,hv,_⟩:=key j d hd
     have hv':W.cell? ⟨b,o + j,none⟩ = some v:=hv
     rw [hv,hv']; rfl
    ·obtain ⟨v,hv,hr⟩:=key j d hd
     have hv':W.cell? ⟨b,o + j,none⟩ = some v:=hv
     rw [hv']; exact hr
  ·obtain ⟨_,y,hy,hq⟩:=l2 i a' ha
   rw [List.getElem?_map,hy] at hd
   cases hd; exact hq
noncomputable def eOf (t:TypeId):TypeId:=match PP.underlying t with
 | some (.slice e)=>e
 | _=>0
noncomputable def fsOf (t:TypeId):Array Field:=match PP.underlying t with
 | some (.struct fs)=>fs
 | _=>#[]
theorem u3:PP.underlying 3 = some (.int .i64):=by kernel_rfl
theorem u9:PP.underlying 9 = some .string:=by kernel_rfl
theorem u22:PP.underlying 22 = some (.slice 3):=by kernel_rfl
theorem u23:PP.underlying 23 = some (.slice 25):=by kernel_rfl
theorem u25:PP.underlying 25 = some (.struct (fsOf 25)):=by kernel_rfl
theorem u27:PP.underlying 27 = some (.struct (fsOf 27)):=by kernel_rfl
theorem u29:PP.underlying 29 = some (.struct (fsOf 29)):=by kernel_rfl
theorem u30:PP.underlying 30 = some (.slice (eOf 30)):=by kernel_rfl
theorem ue30:PP.underlying (eOf 30) = some (.int .u8):=by kernel_rfl
theorem ck3:PP.cellsOf 3 = 1:=by kernel_rfl
theorem ck9:PP.cellsOf 9 = 1:=by kernel_rfl
theorem ck22:PP.cellsOf 22 = 1:=by kernel_rfl
theorem ck23:PP.cellsOf 23 = 1:=by kernel_rfl
theorem ck25:PP.cellsOf 25 = 6:=by kernel_rfl
theorem ck27:PP.cellsOf 27 = 2:=by kernel_rfl
theorem ck29:PP.cellsOf 29 = 12:=by kernel_rfl
theorem cke30:PP.cellsOf (eOf 30) = 1:=by kernel_rfl
theorem struct_at {t:TypeId} {fs:Array Field} (ht:PP.underlying t = some (.struct fs)) {fuel:Nat} {cs:List Value} {x:DataW H × List MemPlace} (h:DataW.trod en PP W 0 (fun _=>true) true fuel t cs = some x) :
  ∃ (xs:List (DataW H × List MemPlace)) (n:Nat),fuel = n + 1∧x.1 = .agg (xs.map (·.1))∧cs.length = PP.cellsOf t∧xs.length = fs.size ∧
   ∀ (i ft o:Nat),(fs[i]?).map (fun f=>(f.type,f.offset)) = some (ft,o)→∃ y,xs[i]? = some y∧DataW.trod en PP W 0 (fun _=>true) true n ft ((cs.drop o).take (PP.cellsOf ft)) = some y:=by
 obtain ⟨xs,n,h1,h2,h3,h4,h5⟩:=DataW.trod_struct ht h
 refine ⟨xs,n,h1,by rw [h2],h3,h4,fun i ft o hf=>?_⟩
 obtain ⟨f,hf1,hf2⟩:=Option.map_eq_some_iff.1 hf
 cases hf2
 have hi:i < xs.length:=by rw [h4]; exact (Array.getElem?_eq_some_iff.1 hf1).1
 exact ⟨xs[i],List.getElem?_eq_getElem hi,(h5 i f hf1).trans (List.getElem?_eq_getElem hi)⟩
theorem f25:(fsOf 25).toList.map (fun f=>(f.type,f.offset)) = [(3,0),(9,1),(3,2),(3,3),(9,4),(23,5)]:=by kernel_rfl
theorem f27:(fsOf 27).toList.map (fun f=>(f.type,f.offset)) = [(3,0),(3,1)]:=by kernel_rfl
theorem f29:(fsOf 29).toList.map (fun f=>(f.type,f.offset)) = [(22,0),(3,1),(3,2),(25,3),(27,9),(3,11)]:=by kernel_rfl
theorem fget {fs:Array Field} {l:List (Nat × Nat)} (h:fs.toList.map (fun f=>(f.type,f.offset)) = l) {i:Nat} {p:Nat × Nat} (hp:l[i]? = some p):(fs[i]?).map (fun f=>(f.type,f.offset)) = some p:=by
 rw [← h,List.getElem?_map] at hp
 simpa using hp
theorem int_of {n:Nat} {v:Value} {y:DataW H × List MemPlace} (h:DataW.trod en PP W 0 (fun _=>true) true n 3 [v] = some y):∃ z,v = .int .i64 z∧in64 z:=by
 obtain ⟨z,h1,_,h3⟩:=DataW.trod_int u3 h
 cases h1
 refine ⟨z,rfl,?_⟩
 simp only [Lit.wf,Bool.and_eq_true,decide_eq_true_eq] at h3
 have e1:IntKind.i64.min = -9223372036854775808:=by decide
 have e2:IntKind.i64.max = 9223372036854775807:=by decide
 rw [e1,e2] at h3
 exact h3
theorem str_of (K:Bulk H) {n:Nat} {v:Value} {y:DataW H × List MemPlace} (h:DataW.trod en PP W 0 (fun _=>true) true n 9 [v] = some y):∃ s:Bs,v = .string ⟨s.toArray⟩∧K.f y.1 = s.length + 1:=by
 obtain ⟨s,h1,h2,_⟩:=DataW.trod_string u9 h
 cases h1
 refine ⟨s.data.toList,by rw [Array.toArray_toList],?_⟩
 rw [h2]; exact K.str _
theorem ints_of {n:Nat} {cs:List Value} {y:DataW H × List MemPlace} (h:DataW.trod en PP W 0 (fun _=>true) true n 22 cs = some y):∃ (l:List Int) (v:Value),cs = [v]∧RD (SW W) W (.list (ints l)) v∧l.length ≤ maxLen∧∀ x ∈ l,in64 x:=by
 obtain ⟨l,v,h1,h2,h3,h4⟩:=slice_rd (D.int .i64) (fun a _=>in64 a) u22 ck3 (by omega) (fun _=>rfl) (fun a c hc=>by simp [D.cells] at hc; subst hc; rfl) h (fun m cs' y' _ hy=>by
  obtain ⟨z,e1,_,e3⟩:=DataW.trod_int u3 hy
  subst e1
  obtain ⟨z',e4,e5⟩:=int_of hy
  cases e4
  exact ⟨z,.cons (.int _ _) .nil,e5⟩)
 refine ⟨l,v,h1,h2,h3,fun x hx=>?_⟩
 obtain ⟨i,hi⟩:=List.getElem?_of_mem hx
 rcases h4 with ⟨_,rfl⟩ | ⟨els,sp,_,hl,hq⟩
 ·cases hx
 ·have:i < els.length:=by have:=lt_of_get hi; omega
  exact hq i x _ hi (List.getElem?_eq_getElem this)
theorem bytes_of {n:Nat} {cs:List Value} {y:DataW H × List MemPlace} (h:DataW.trod en PP W 0 (fun _=>true) true n 30 cs = some y):∃ (l:Bs) (v:Value),cs = [v]∧RD (SW W) W (.list (bytesL l)) v:=by
 obtain ⟨l,v,h1,h2,_,_⟩:=slice_rd byteD (fun _ _=>True) u30 cke30 (by omega) (fun _=>rfl) (fun a c hc=>by simp [byteD,D.cells] at hc; subst hc; rfl) h (fun m cs' y' _ hy=>by
  obtain ⟨z,e1,_,e3⟩:=DataW.trod_int ue30 hy
  subst e1
  simp only [Lit.wf,Bool.and_eq_true,decide_eq_true_eq] at e3
  have g1:IntKind.u8.min = 0:=by decide
  have g2:IntKind.u8.max = 255:=by decide
  rw [g1,g2] at e3
  refine ⟨UInt8.ofNat z.toNat,?_,trivial⟩
  rw [byteD_of (n:=z.toNat) (by omega),Int.toNat_of_nonneg e3.1]
  exact .cons (.int _ _) .nil)
 exact ⟨l,v,h1,h2⟩
def tsum (l:List Bs):Nat:=(l.map fun s=>s.length + 1).sum
theorem tsum_append (a b:List Bs):tsum (a ++ b) = tsum a + tsum b:=by simp [tsum]
theorem prDs_map:∀ (l:List Pr),prDs l = l.map prD
 | []=>by simp [prDs]
 | p :: l=>by simp [prDs,prDs_map l]
def okPr (K:Bulk H) (p:Pr) (d:DataW H):Prop:=(∀ x ∈ nums (parts p),in64 x)∧tsum (txts (parts p)) ≤ K.f d
theorem okPrL (K:Bulk H):∀ (l:List Pr) (els:List (DataW H)),els.length = l.length→(∀ (i:Nat) (a:Pr) (d:DataW H),l[i]? = some a→els[i]? = some d→okPr K a d)→(∀ x ∈ nums (partsL l),in64 x)∧tsum (txts (partsL l)) ≤ K.fs els
 | [],els,_,_=>by simp [partsL,nums,txts,tsum]
 | p :: l,[],h,_=>by simp at h
 | p :: l,d :: els,h,hq=>by
  obtain ⟨h1,h2⟩:=hq 0 p d rfl rfl
  obtain ⟨h3,h4⟩:=okPrL K l els (by simpa using h) (fun i a d' ha hd=>hq (i + 1) a d' (by simpa using ha) (by simpa using hd))
  simp only [partsL,nums_append,txts_append,tsum_append,K.cons]
  refine ⟨fun x hx=>?_,by omega⟩
  rcases List.mem_append.1 hx with hx | hx
  ·exact h1 x hx
  ·exact h3 x hx
theorem len6 {α:Type} {l:List α} (h:l.length = 6):∃ a b c d e f,l = [a,b,c,d,e,f]:=by
 match l,h with
 | [a,b,c,d,e,f],_=>exact ⟨a,b,c,d,e,f,rfl⟩
theorem len12 {α:Type} {l:List α} (h:l.length = 12):∃ a b c d e f g i j k m n,l = [a,b,c,d,e,f,g,i,j,k,m,n]:=by
 match l,h with
 | [a,b,c,d,e,f,g,i,j,k,m,n],_=>exact ⟨a,b,c,d,e,f,g,i,j,k,m,n,rfl⟩
theorem fs6 (K:Bulk H) {xs:List (DataW H × List MemPlace)} (hl:xs.length = 6) {y1 y4 y5:DataW H × List MemPlace} (h1:xs[1]? = some y1) (h4:xs[4]? = some y4) (h5:xs[5]? = some y5):K.f y1.1 + K.f y4.1 + K.f y5.1 + 1 ≤ K.f (.agg (xs.map (·.1))):=by
 obtain ⟨a,b,c,d,e,f,rfl⟩:=len6 hl
 simp at h1 h4 h5
 subst h1 h4 h5
 rw [K.agg]
 simp only [List.map_cons,List.map_nil,K.cons,K.nil]
 omega
theorem in64_max {n:Nat} (h:n ≤ maxLen):in64 (n:Int):=by
 unfold in64
 have e:maxLen = 9223372036854775807:=by decide
 omega
theorem pred_of (K:Bulk H):∀ (fuel:Nat) {cs:List Value} {x:DataW H × List MemPlace},DataW.trod en PP W 0 (fun _=>true) true fuel 25 cs = some x→∃ p:Pr,RDs W [.int .i64 p.op,strD p.name,.int .i64 p.n,.int .i64 p.m,strD p.s,.list (prDs p.subs)] cs∧okPr K p x.1:=by
 intro fuel
 induction fuel using Nat.strongRecOn with
 | _ fuel ih =>
  intro cs x h
  obtain ⟨xs,n,hfu,hx,hlen,hxs,hfld⟩:=struct_at u25 h
  rw [ck25] at hlen
  obtain ⟨c0,c1,c2,c3,c4,c5,rfl⟩:=len6 hlen
  obtain ⟨y0,_,t0⟩:=hfld 0 3 0 (fget f25 rfl)
  obtain ⟨y1,g1,t1⟩:=hfld 1 9 1 (fget f25 rfl)
  obtain ⟨y2,_,t2⟩:=hfld 2 3 2 (fget f25 rfl)
  obtain ⟨y3,_,t3⟩:=hfld 3 3 3 (fget f25 rfl)
  obtain ⟨y4,g4,t4⟩:=hfld 4 9 4 (fget f25 rfl)
  obtain ⟨y5,g5,t5⟩:=hfld 5 23 5 (fget f25 rfl)
  rw [ck3] at t0 t2 t3
  rw [ck9] at t1 t4
  rw [ck23] at t5
  obtain ⟨z0,rfl,i0⟩:=int_of (v:=c0) t0
  obtain ⟨s1,rfl,k1⟩:=str_of K (v:=c1) t1
  obtain ⟨z2,rfl,i2⟩:=int_of (v:=c2) t2
  obtain ⟨z3,rfl,i3⟩:=int_of (v:=c3) t3
  obtain ⟨s4,rfl,k4⟩:=str_of K (v:=c4) t4
  obtain ⟨l,v,e1,e2,e3,e4⟩:=slice_rd prD (okPr K) u23 ck25 (by omega) (fun a=>by rw [← prC_eq]; rfl) (fun a c hc=>by rw [← prC_eq] at hc; simp [prC,D.cells,strD] at hc; rcases hc with rfl | rfl | rfl | rfl | rfl | rfl <;> rfl) t5 (fun m cs' y' hm hy=>by
   obtain ⟨p,r,q⟩:=ih m (by omega) hy
   refine ⟨p,?_,q⟩
   rw [← prC_eq]
   exact r)
  have e1':[c5] = [v]:=e1
  cases e1'
  have hfs:xs.length = 6:=by
   rw [hxs]
   have:=congrArg List.length f25
   simpa using this
  have hb:=fs6 K hfs g1 g4 g5
  have hsub:(∀ x ∈ nums (partsL l),in64 x)∧tsum (txts (partsL l)) ≤ K.f y5.1:=by
   rcases e4 with ⟨h1,rfl⟩ | ⟨els,sp,h1,h2,h3⟩
   ·exact ⟨fun x hx=>by simp [partsL,nums] at hx,by simp [partsL,txts,tsum]⟩
   ·obtain ⟨q1,q2⟩:=okPrL K l els h2 h3
    refine ⟨q1,?_⟩
    rw [h1,K.slice]; omega
  refine ⟨.mk z0 s1 z2 z3 s4 l,?_,?_,?_⟩
  ·refine .cons (.int _ _) (.cons (.str _) (.cons (.int _ _) (.cons (.int _ _) (.cons (.str _) (.cons ?_ .nil)))))
   show RD (SW W) W (.list (prDs l)) _
   rw [prDs_map]; exact e2
  ·intro x hx
   simp only [parts,nums,List.flatMap_cons] at hx
   rcases List.mem_append.1 hx with hx | hx
   ·simp only [num1,Pr.op,Pr.n,Pr.m,Pr.subs,List.mem_cons,List.not_mem_nil,or_false] at hx
    rcases hx with rfl | rfl | rfl | rfl
    ·exact i0
    ·exact i2
    ·exact i3
    ·exact in64_max e3
   ·exact hsub.1 x hx
  ·simp only [parts,txts,List.flatMap_cons]
   have ht:tsum (txt1 (.mk z0 s1 z2 z3 s4 l)) = (s1.length + 1) + (s4.length + 1):=by simp [tsum,txt1,Pr.name,Pr.s]
   have hs2:tsum ((partsL l).flatMap txt1) ≤ K.f y5.1:=hsub.2
   rw [tsum_append,ht,hx]
   omega
theorem query_of (K:Bulk H) {fuel:Nat} {cs:List Value} {x:DataW H × List MemPlace} (h:DataW.trod en PP W 0 (fun _=>true) true fuel 29 cs = some x) :
  ∃ q:Qy,RDs W (qC q) cs∧(∀ x ∈ hdN q ++ nums (parts q.p),in64 x)∧tsum (txts (parts q.p)) ≤ K.f x.1:=by
 obtain ⟨xs,n,hfu,hx,hlen,hxs,hfld⟩:=struct_at u29 h
 rw [ck29] at hlen
 obtain ⟨c0,c1,c2,c3,c4,c5,c6,c7,c8,c9,c10,c11,rfl⟩:=len12 hlen
 obtain ⟨y0,_,t0⟩:=hfld 0 22 0 (fget f29 rfl)
 obtain ⟨y1,_,t1⟩:=hfld 1 3 1 (fget f29 rfl)
 obtain ⟨y2,_,t2⟩:=hfld 2 3 2 (fget f29 rfl)
 obtain ⟨y3,g3,t3⟩:=hfld 3 25 3 (fget f29 rfl)
 obtain ⟨y4,_,t4⟩:=hfld 4 27 9 (fget f29 rfl)
 obtain ⟨y5,_,t5⟩:=hfld 5 3 11 (fget f29 rfl)
 rw [ck22] at t0
 rw [ck3] at t1 t2 t5
 rw [ck25] at t3
 rw [ck27] at t4
 obtain ⟨vec,v,e1,e2,e3,e4⟩:=ints_of t0
 have e1':[c0] = [v]:=e1
 cases e1'
 obtain ⟨k,rfl,ik⟩:=int_of (v:=c1) t1
 obtain ⟨w,rfl,iw⟩:=int_of (v:=c2) t2
 obtain ⟨g,rfl,ig⟩:=int_of (v:=c11) t5
 obtain ⟨p,rp,op⟩:=pred_of K n (cs:=[c3,c4,c5,c6,c7,c8]) t3
 obtain ⟨xs4,n4,_,_,_,_,hfld4⟩:=struct_at u27 (cs:=[c9,c10]) t4
 obtain ⟨y40,_,t40⟩:=hfld4 0 3 0 (fget f27 rfl)
 obtain ⟨y41,_,t41⟩:=hfld4 1 3 1 (fget f27 rfl)
 rw [ck3] at t40 t41
 obtain ⟨d,rfl,id⟩:=int_of (v:=c9) t40
 obtain ⟨c,rfl,ic⟩:=int_of (v:=c10) t41
 refine ⟨⟨vec,k,w,d,c,g,p⟩,?_,?_,?_⟩
 ·refine .cons e2 (.cons (.int _ _) (.cons (.int _ _) (.cons (rp.2 0 _ _ rfl rfl) (.cons (rp.2 1 _ _ rfl rfl) (.cons (rp.2 2 _ _ rfl rfl) (.cons (rp.2 3 _ _ rfl rfl) (.cons (rp.2 4 _ _ rfl rfl) (.cons (rp.2 5 _ _ rfl rfl) (.cons (.int _ _) (.cons (.int _ _) (.cons (.int _ _) .nil)))))))))))
 ·intro x hx
  rcases List.mem_append.1 hx with hx | hx
  ·unfold hdN at hx
   rcases List.mem_append.1 hx with hx | hx
   ·simp only [List.mem_cons,List.not_mem_nil,or_false] at hx
    rcases hx with rfl | rfl | rfl | rfl | rfl | rfl
    ·exact ik
    ·exact iw
    ·exact id
    ·exact ic
    ·exact ig
    ·exact in64_max e3
   ·exact e4 x hx
  ·exact op.1 x hx
 ·refine Nat.le_trans op.2 ?_
  rw [hx,K.agg]
  have hmem:∀ (l:List (DataW H × List MemPlace)) (i:Nat) (y:DataW H × List MemPlace),l[i]? = some y→K.f y.1 ≤ K.fs (l.map (·.1)):=by
   intro l
   induction l with
   | nil=>intro i y h; simp at h
   | cons a l ih =>
    intro i y h
    simp only [List.map_cons,K.cons]
    cases i with
    | zero=>simp at h; subst h; omega
    | succ i=>have:=ih i y (by simpa using h); omega
  have:=hmem xs 3 y3 g3
  omega
end
theorem eStrs_le {l:List Bs} (hl:∀ s ∈ l,s.length ≤ 1048576) (hn:l.length ≤ 1048576):(eStrs l).length ≤ 10 + 10 * tsum l:=by
 have he:∀ (n:Nat),n ≤ 1048576→(enc (n:Int)).length ≤ 10:=fun n hn=>enc_len10 (by unfold in64; omega)
 unfold eStrs
 rw [List.length_append]
 have h1:=he l.length hn
 have h2:∀ (l:List Bs),(∀ s ∈ l,s.length ≤ 1048576)→(l.flatMap eBytes).length ≤ 10 * tsum l:=by
  intro l
  induction l with
  | nil=>intro _; simp [tsum]
  | cons s l ih =>
   intro h
   have a1:=ih (fun t ht=>h t (by simp [ht]))
   have a2:=he s.length (h s (by simp))
   have hb:(eBytes s).length = (enc (s.length:Int)).length + s.length:=by unfold eBytes; rw [List.length_append]
   have ht:tsum (s :: l) = (s.length + 1) + tsum l:=by simp [tsum]
   rw [List.flatMap_cons,List.length_append,hb,ht]
   omega
 have:=h2 l hl
 omega
theorem tsum_len:∀ (l:List Bs),l.length ≤ tsum l
 | []=>by simp [tsum]
 | s :: l=>by
  have h1:=tsum_len l
  have ht:tsum (s :: l) = (s.length + 1) + tsum l:=by simp [tsum]
  rw [ht,List.length_cons]
  omega
theorem tsum_mem:∀ {l:List Bs} {s:Bs},s ∈ l→s.length ≤ tsum l
 | x :: l,s,h=>by
  have ht:tsum (x :: l) = (x.length + 1) + tsum l:=by simp [tsum]
  rw [ht]
  rcases List.mem_cons.1 h with rfl | h
  ·omega
  ·have:=tsum_mem h
   omega
theorem glb_of {W:World} (h:∀ (j:Nat) (n:Nat),consts[j]? = some n→W.cell? ⟨0,j,none⟩ = some (.int .u32 n)):Glb (SW W) W:=by
 intro g x hx
 have h0:=h 0 1116352408 rfl
 have hsz:0 < W.heap.size:=by
  unfold World.cell? at h0
  split at h0
  ·rename_i hb; exact (Array.getElem?_eq_some_iff.1 hb).1
  ·cases h0
 have hg:g = 0∧x = .agg (consts.map fun (n:Nat)=>.int .u32 n):=by
  cases g with
  | zero =>
   have hx':some (D.agg (consts.map fun (n:Nat)=>D.int .u32 n)) = some x:=hx
   cases hx'; exact ⟨rfl,rfl⟩
  | succ g =>
   have hx':(none:Option D) = some x:=hx
   cases hx'
 obtain ⟨rfl,rfl⟩:=hg
 refine .dp _ 0 0 (fun j=>.int .u32 ((consts.getD j 0:Nat):Int)) hsz (fun j d hd=>?_) (fun j d hd=>?_)
 ·simp only [D.cells,List.getElem?_map,Option.map_eq_some_iff] at hd
  obtain ⟨n,hn,rfl⟩:=hd
  rw [Nat.zero_add,List.getD_eq_getElem?_getD,hn]
  exact h j n hn
 ·simp only [D.cells,List.getElem?_map,Option.map_eq_some_iff] at hd
  obtain ⟨n,hn,rfl⟩:=hd
  rw [List.getD_eq_getElem?_getD,hn]
  exact .int _ _
theorem calls_law {x y:V} (h:RCs PP 3 [x,y] [] (B true)) {W:World} (hg:Glb (SW W) W) {u v:Value} (hu:RV (fun _=>none) (SW W) W x u) (hv:RV (fun _=>none) (SW W) W y v) :
  Calls PP 3 #[u,v] W fun e W'=>e = .returned (.bool true)∧Below W.heap.size W W':=by
 refine (h W _ _ (SW W) W #[u,v] (Inv.start W (fun b hb=>hb) hg) (fun r row h=>by simp at h) ⟨rfl,fun j a b ha hb=>?_⟩).mono fun e w' ⟨r,he,S',_,_,hr,hb,hs,ho,ht,hout⟩=>?_
 ·match j with
  | 0=>simp at ha hb; subst ha; subst hb; exact hu
  | 1=>simp at ha hb; subst ha; subst hb; exact hv
  | _ + 2=>simp at ha
 ·have:=bool_inv (hr (fun _=>none))
  subst this
  exact ⟨he,ho,ht,hout,hs,hb⟩
theorem law_calls {H:Type} {en:TypeId × Value→H} (hS:SanOK) (K:Bulk H) {W:World} (hg:Glb (SW W) W) {v0 v1:Value} {a1:Option Addr} {n1 c1:Nat} (hv1:v1 = .slice a1 n1 c1) {d0 d1:DataW H} {p0 p1:List MemPlace}
  (h0:DataW.Trod en PP W 0 (fun _=>true) true 29 v0 d0 p0) (h1:DataW.Trod en PP W 0 (fun _=>true) true 30 v1 d1 p1) (hb:K.f d0 ≤ 1048576) :
  Calls PP 3 #[v0,v1] W fun e W'=>e = .returned (.bool true)∧Below W.heap.size W W':=by
 obtain ⟨f0,t0⟩:=h0
 obtain ⟨f1,t1⟩:=h1
 obtain ⟨q,r0,hn,ht⟩:=query_of K t0
 obtain ⟨b,v,e1,r1⟩:=bytes_of t1
 subst hv1
 have ev:v = .slice a1 n1 c1:=by
  have:[Value.slice a1 n1 c1] = [v]:=e1
  cases this; rfl
 subst ev
 have hsz:v0.cells.size = 12:=by
  have:=r0.1
  simpa [qC] using this
 have hv0:∃ arr,v0 = .agg arr:=by
  cases v0 <;> first
   | exact ⟨_,rfl⟩
   | (simp [Value.cells] at hsz)
 obtain ⟨arr,rfl⟩:=hv0
 have hs:(eStrs (txts (parts q.p))).length ≤ 1073000000:=by
  have a1:=tsum_len (txts (parts q.p))
  have ht':tsum (txts (parts q.p)) ≤ K.f d0:=ht
  have a2:=eStrs_le (l:=txts (parts q.p)) (fun s hs=>by have:=tsum_mem hs; omega) (by omega)
  omega
 refine calls_law (law_all hS (b:=b) hn hs) hg (.d _ _ ?_) (.d _ _ r1)
 exact .agg (qC q) arr (by have:=r0.1; simpa [Value.cells] using this) (fun j d v hd hv=>r0.2 j d v hd (by simpa [Value.cells] using hv))
end Go.Aev.M44
