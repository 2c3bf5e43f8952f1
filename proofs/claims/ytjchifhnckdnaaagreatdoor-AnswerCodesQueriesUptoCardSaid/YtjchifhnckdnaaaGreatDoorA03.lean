/- Lemmas for the statements of this seat: an abstract machine that the model follows, and contracts of functions. Conditions: none. -/
import Derived.Test.YtjchifhnckdnaaaGreatDoorA02
import Derived.Deep.AppendSrc
import Derived.Laws.MakeOwn
set_option linter.unusedVariables false
set_option linter.unusedSimpArgs false
set_option linter.unusedSectionVars false
section
namespace Go.Aev
variable [Glob]
variable {P:Program} {T:TypeId→Option Ty} {w0:World} {own:Own} {m:Mp} {S:Nat→Prop} {w:World} {rows:Rows} {g:Look}
structure SlotOK (m:Mp) (rows:Rows) (slot:Nat):Prop where
 le:slot ≤ rows.length
 dead:∀ row,rows[slot]? ≠ some (Slot.live row)
 new:m slot = none
theorem Inv.fresh (inv:Inv w0 own m S w rows) {slot:Nat} (hs:SlotOK m rows slot) (obj:Obj) (row:Row) (hrw:row.rw = true)
  (hrel:Ext m S w (updM m slot (w.heap.size,0)) S (w.alloc obj)→RowRel (updM m slot (w.heap.size,0)) S (w.alloc obj) w.heap.size 0 row) :
  Inv w0 own (updM m slot (w.heap.size,0)) S (w.alloc obj) (setSlot rows slot (Slot.live row))∧Ext m S w (updM m slot (w.heap.size,0)) S (w.alloc obj):=by
 have hge:∀ (r:Nat) (row:Row) (c o:Nat),rows[r]? = some (Slot.live row)→m r = some (c,o)→c ≠ w.heap.size:=fun r row c o _ hm=>by have:=inv.bnd r c o hm; omega
 have hnS:¬ S w.heap.size:=fun h=>by have:=inv.sbnd _ h; omega
 have hold:∀ c,c < w.heap.size→c ≠ w.heap.size→(w.alloc obj).heap[c]? = w.heap[c]?:=by
  intro c hc _
  rw [show (w.alloc obj).heap = w.heap.push obj from rfl,Array.getElem?_push,if_neg (by omega)]
 have hb0:bsize w w.heap.size = 0:=by unfold bsize; rw [Array.getElem?_eq_none (Nat.le_refl _)]
 obtain ⟨k1,e1⟩:=inv.scratch (w':=w.alloc obj) w.heap.size (by simp) hold hge hnS (.inl inv.grow) (by rw [hb0]; exact Nat.zero_le _) rfl rfl rfl
 have hext:Ext m S w (updM m slot (w.heap.size,0)) S (w.alloc obj):=by
  refine e1.trans ⟨fun r p h=>?_,fun _ h=>h,fun _ _=>rfl,fun _=>Nat.le_refl _⟩
  unfold updM; split
  ·rename_i h2; subst h2; rw [hs.new] at h; cases h
  ·exact h
 obtain ⟨k2,e2⟩:=k1.adopt slot row w.heap.size 0 hs.le hs.dead (.inl hs.new) hge hnS (by simp) (.inl inv.grow) hrw (hrel hext)
 exact ⟨k2,hext⟩
theorem alloc_heap (w:World) (o:Obj):(w.alloc o).heap[w.heap.size]? = some o:=by
 rw [show (w.alloc o).heap = w.heap.push o from rfl,Array.getElem?_push,if_pos rfl]
theorem box_fresh (inv:Inv w0 own m S w rows) {slot:Nat} (hs:SlotOK m rows slot) {cs:List V} {arr:Array Value} (e:TypeId) (h:RVs m S w cs arr) :
  Inv w0 own (updM m slot (w.heap.size,0)) S (w.alloc (.cells arr e)) (setSlot rows slot (Slot.live (.box cs false)))∧Ext m S w (updM m slot (w.heap.size,0)) S (w.alloc (.cells arr e)):=by
 refine inv.fresh hs _ (.box cs false) rfl fun ext=>⟨arr,e,alloc_heap w _,fun j x hj=>?_⟩
 obtain ⟨v,hv,hr⟩:=h.get hj
 exact ⟨v,by rw [Nat.zero_add]; exact hv,hr.ext ext⟩
theorem pt_fresh (slot b:Nat) (w':World):RV (updM m slot (b,0)) S w' (.pt slot 0 0 0) (.pointer (some ⟨b,0,none⟩)):=by
 have:=RV.pt (S:=S) (w:=w') (m:=updM m slot (b,0)) slot 0 0 0 b 0 (by simp [updM])
 simpa using this
theorem boxA_sound (inv:Inv w0 own m S w rows) {slot:Nat} (hs:SlotOK m rows slot) {e:TypeId} {x:V} {xr:Value} (hx:RV m S w x xr) :
  ∃ u w' m',(Instr.box e xr).run P w = .ok u w'∧Inv w0 own m' S w' (setSlot rows slot (Slot.live (.box x.cells false)))∧Ext m S w m' S w'∧RV m' S w' (.pt slot 0 0 0) u:=by
 obtain ⟨h1,h2⟩:=box_fresh inv hs e (cells_sound hx)
 exact ⟨_,_,_,by simp [Instr.box,newVar,newRow],h1,h2,pt_fresh ..⟩
theorem allocA_sound (hT:TOK P T) (inv:Inv w0 own m S w rows) {slot:Nat} (hs:SlotOK m rows slot) {e:TypeId} {y:Ty} {zs:List V} (hy:T e = some y) (hz:ofVals y.zero.cells.toList = some zs) :
  ∃ u w' m',(Instr.alloc e true (.tuple #[])).run P w = .ok u w'∧Inv w0 own m' S w' (setSlot rows slot (Slot.live (.box zs false)))∧Ext m S w m' S w'∧RV m' S w' (.pt slot 0 0 0) u:=by
 have h0:=ofVals_sound (m:=m) (S:=S) (w:=w) hz
 obtain ⟨h1,h2⟩:=box_fresh inv hs e (by simpa using h0)
 refine ⟨_,_,_,?_,h1,h2,pt_fresh ..⟩
 simp [Instr.alloc,run_zero (hT e y hy),newVar,newRow]
theorem fold_splice:∀ (l:List Value) (off k:Nat) (c:Array Value),off + k + l.length ≤ c.size →
  (l.zipIdx k).foldl (fun (cs:Array Value) (x:Value × Nat)=>cs.setIfInBounds (off + x.2) x.1) c = (c.toList.take (off + k) ++ l ++ c.toList.drop (off + k + l.length)).toArray
 | [],off,k,c,_=>by simp
 | v :: l,off,k,c,h=>by
  simp only [List.length_cons] at h
  rw [List.zipIdx_cons,List.foldl_cons,fold_splice l off (k + 1) _ (by simp; omega)]
  apply Array.ext'
  simp only [Array.toList_setIfInBounds,List.length_cons]
  have hk:off + k < c.toList.length:=by simp; omega
  rw [show off + (k + 1) = off + k + 1 by omega,show off + k + 1 + l.length = off + k + (l.length + 1) by omega]
  have e1:(c.toList.set (off + k) v).take (off + k + 1) = c.toList.take (off + k) ++ [v]:=by
   apply List.ext_getElem?
   intro i
   rw [List.getElem?_take,List.getElem?_set]
   rcases Nat.lt_trichotomy i (off + k) with h1 | h1 | h1
   ·rw [if_pos (by omega),if_neg (by omega),List.getElem?_append_left (by simp; omega),List.getElem?_take,if_pos h1]
   ·subst h1; rw [if_pos (by omega),if_pos rfl,if_pos hk,List.getElem?_append_right (by rw [List.length_take]; omega)]
    have:off + k - (c.toList.take (off + k)).length = 0:=by rw [List.length_take]; omega
    rw [this]; rfl
   ·rw [if_neg (by omega),List.getElem?_eq_none (by simp; omega)]
  have e2:(c.toList.set (off + k) v).drop (off + k + (l.length + 1)) = c.toList.drop (off + k + (l.length + 1)):=by
   apply List.ext_getElem?
   intro i
   rw [List.getElem?_drop,List.getElem?_drop,List.getElem?_set_ne (by omega)]
  rw [e1,e2]
  simp
theorem RVs_patch {cs xs:List V} {c:Array Value} {vs:List Value} {off:Nat} (h:RVs m S w cs c) (hx:RVs m S w xs vs.toArray) (hl:off + xs.length ≤ cs.length) :
  RVs m S w (patch cs off xs) ((c.toList.take off ++ vs ++ c.toList.drop (off + vs.length)).toArray):=by
 have hvl:vs.length = xs.length:=by have:=hx.1; simpa using this
 have hc1:=h.1
 refine ⟨by simp [patch]; omega,fun j x v hj hv=>?_⟩
 have key:=patch_rel (R:=RV m S w) (R':=RV m S w) (L:=cs) (c:=c) (o:=0) (pos:=off) (ds:=xs) (vs:=vs) (fun j d hd=>by
  obtain ⟨v,hv,hr⟩:=h.get hd; exact ⟨v,by rw [Nat.zero_add]; exact hv,hr⟩) (fun _ _ h=>h) hvl (fun j d v hd hv=>hx.2 j d v hd (by simpa using hv)) (by omega) (by omega) j x hj
 obtain ⟨v',hv',hr⟩:=key
 rw [Nat.zero_add,Nat.zero_add] at hv'
 rw [hv] at hv'; cases hv'; exact hr
theorem fill_sound (place:Nat→Option (Nat × Nat)):∀ {ps:List (Nat × V)} {prs:List (Nat × Value)} {cs cs':List V} {c:Array Value},fillA place cs ps = some cs'→RVs m S w cs c →
  prs.map (·.1) = ps.map (·.1)→RVs m S w (ps.map (·.2)) (prs.map (·.2)).toArray→∃ c',Instr.fill place c prs = some c'∧RVs m S w cs' c'∧cs'.length = cs.length
 | [],prs,cs,cs',c,h,hc,hi,hv=>by
  simp [fillA] at h; subst h
  cases prs with
  | nil=>exact ⟨c,rfl,hc,rfl⟩
  | cons p prs=>simp at hi
 | (i,x) :: ps,prs,cs,cs',c,h,hc,hi,hv=>by
  cases prs with
  | nil=>simp at hi
  | cons p prs =>
   obtain ⟨i',v⟩:=p
   simp at hi
   obtain ⟨rfl,hi⟩:=hi
   have hv0:RV m S w x v:=hv.2 0 x v (by simp) (by simp)
   have hvs:RVs m S w (ps.map (·.2)) (prs.map (·.2)).toArray:=⟨by have:=hv.1; simpa using this,fun j y u hy hu=>hv.2 (j + 1) y u (by simpa using hy) (by simpa using hu)⟩
   simp only [fillA] at h
   split at h
   ·rename_i off size hpl
    split at h
    ·rename_i hcond
     have hcell:=cells_sound hv0
     have hsz:v.cells.size = size:=by rw [hcell.1]; exact hcond.1
     have hrel:=RVs_patch hc (xs:=x.cells) (vs:=v.cells.toList) (off:=off) (by simpa using hcell) (by omega)
     obtain ⟨c',h1,h2,h3⟩:=fill_sound place h hrel hi hvs
     refine ⟨c',?_,h2,by rw [h3]; simp [patch]; omega⟩
     simp only [Instr.fill,hpl]
     have hcs:=hc.1
     rw [if_neg (by simp; omega)]
     have hf:=fold_splice v.cells.toList off 0 c (by simp; omega)
     rw [Nat.add_zero] at hf
     rw [← h1,← hf,← Array.foldl_toList,Array.toList_zipIdx]
    ·cases h
   ·cases h
theorem places_sound (w:World) (hT:TOK P T):∀ {fs:List Field} {pl:List (Nat × Nat)},placesA T fs = some pl→(fs.mapM (fun f=>do pure (f.offset,← sizeOf f.type):Field→Sem (Nat × Nat))).run P w = .ok pl w
 | [],pl,h=>by simp [placesA] at h; subst h; rfl
 | f :: fs,pl,h=>by
  simp only [placesA] at h
  split at h
  ·rename_i z l hz hl
   cases h
   have ih:=places_sound w hT hl
   rw [List.mapM_cons]
   simp only [Sem.run_bind,run_size (hT _ z hz),Result.andThen_ok,Sem.run_pure,ih]
  ·cases h
theorem zip_fst {α β:Type}:∀ (a:List α) (b:List β),a.length = b.length→(a.zip b).map (·.1) = a
 | [],[],_=>rfl
 | x :: a,y :: b,h=>by simp [zip_fst a b (by simpa using h)]
theorem zip_snd {α β:Type}:∀ (a:List α) (b:List β),a.length = b.length→(a.zip b).map (·.2) = b
 | [],[],_=>rfl
 | x :: a,y :: b,h=>by simp [zip_snd a b (by simpa using h)]
theorem buildA_sound (hT:TOK P T) {t:TypeId} {v:V} {parts:List (Nat × Value)} {vs:List V} (h:buildA T t (parts.map (·.1)) vs = some v) (hv:RVs m S w vs (parts.map (·.2)).toArray) :
  ∃ u,(Instr.build t parts.toArray).run P w = .ok u w∧RV m S w v u:=by
 have hl:vs.length = parts.length:=by have:=hv.1; simpa using this.symm
 have hz1:=zip_fst (parts.map (·.1)) vs (by simp [hl])
 have hz2:=zip_snd (parts.map (·.1)) vs (by simp [hl])
 unfold buildA at h
 split at h
 ·rename_i y hy
  have hu:=run_und (w:=w) (hT t y hy)
  have hz:=run_zero (w:=w) (hT t y hy)
  split at h
  ·rename_i zs hzs
   have hzr:RVs m S w zs y.zero.cells:=by simpa using ofVals_sound (m:=m) (S:=S) (w:=w) hzs
   split at h
   ·rename_i fs hfs
    rw [hfs] at hu
    split at h
    ·rename_i pl hpl
     have hp:=places_sound w hT hpl
     cases hf:fillA (pl[·]?) zs ((parts.map (·.1)).zip vs) with
     | none=>rw [hf] at h; cases h
     | some cs' =>
      rw [hf] at h; cases h
      obtain ⟨c',h1,h2,_⟩:=fill_sound (pl[·]?) (prs:=parts) hf hzr (by rw [hz1]) (by rw [hz2]; exact hv)
      have hm:(fs.mapM (fun f=>do pure (f.offset,← sizeOf f.type):Field→Sem (Nat × Nat))).run P w = .ok pl.toArray w:=by
       rw [Array.mapM_eq_mapM_toList]
       simp only [Sem.run_map,hp,Result.andThen_ok]
      refine ⟨.agg c',?_,mkAgg_sound h2⟩
      have hpl':(fun x:Nat=>pl.toArray[x]?) = (pl[·]?):=by funext x; simp
      simp only [Instr.build,Sem.run_bind,hz,hu,Result.andThen_ok,hm,hpl',h1,Sem.run_pure]
    ·cases h
   ·rename_i n e hde
    rw [hde] at hu
    split at h
    ·rename_i z hz'
     cases hf:fillA (fun i=>some (i * z.size,z.size)) zs ((parts.map (·.1)).zip vs) with
     | none=>rw [hf] at h; cases h
     | some cs' =>
      rw [hf] at h; cases h
      obtain ⟨c',h1,h2,_⟩:=fill_sound (fun i=>some (i * z.size,z.size)) (prs:=parts) hf hzr (by rw [hz1]) (by rw [hz2]; exact hv)
      refine ⟨.agg c',?_,mkAgg_sound h2⟩
      simp only [Instr.build,Sem.run_bind,hz,hu,Result.andThen_ok,run_size (hT _ z hz'),h1,Sem.run_pure]
    ·cases h
   ·cases h
  ·cases h
 ·cases h
end Go.Aev
end
section
namespace Go.Aev
variable [Glob]
variable {P:Program} {T:TypeId→Option Ty} {w0:World} {own:Own} {m:Mp} {S:Nat→Prop} {w:World} {rows:Rows} {g:Look}
theorem SlotOK.mk' (inv:Inv w0 own m S w rows) {slot:Nat} (le:slot ≤ rows.length) (new:m slot = none):SlotOK m rows slot :=
 ⟨le,fun row h=>(by obtain ⟨b,o,hm,_⟩:=inv.row slot row h; rw [new] at hm; cases hm),new⟩
theorem repZero_len {zs:List V} {k:Nat} (h:zs.length = k):∀ n,(repZero zs n).length = n * k
 | 0=>by simp [repZero]
 | n + 1=>by simp [repZero,h,repZero_len h n,Nat.succ_mul]; omega
theorem repZero_get {zs:List V} {k:Nat} (h:zs.length = k) (hk:0 < k):∀ (n j:Nat),j < n * k→(repZero zs n)[j]? = zs[j % k]?
 | 0,j,hj=>by omega
 | n + 1,j,hj=>by
  simp only [repZero]
  rcases Nat.lt_or_ge j k with h1 | h1
  ·rw [List.getElem?_append_left (by omega),Nat.mod_eq_of_lt h1]
  ·rw [List.getElem?_append_right (by omega),h,repZero_get h hk n (j - k) (by rw [Nat.succ_mul] at hj; omega),Nat.mod_eq_sub_mod h1]
theorem repZero_sound {zs:List V} {arr:Array Value} {k n:Nat} (h:RVs m S w zs arr) (hz:zs.length = k) (hk:0 < k):RVs m S w (repZero zs n) ((Array.range (n * k)).map (arr[· % arr.size]!)):=by
  have ha:arr.size = k:=by rw [h.1]; exact hz
  refine ⟨by simp [repZero_len hz],fun j x v hx hv=>?_⟩
  have hj:j < n * k:=by have:=lt_of_get hx; rwa [repZero_len hz] at this
  rw [repZero_get hz hk n j hj] at hx
  have hm:j % k < k:=Nat.mod_lt _ hk
  rw [Array.getElem?_map,Array.getElem?_range,if_pos hj] at hv
  simp at hv
  subst hv
  rw [ha]
  refine h.2 (j % k) x _ hx ?_
  rw [getElem!_pos arr (j % k) (by omega)]
  simp [ha,hm]
theorem dat_fresh (inv:Inv w0 own m S w rows) {slot:Nat} (hs:SlotOK m rows slot) {k:Nat} {es:List D} {arr:Array Value} (e:TypeId) (hk:∀ x ∈ es,x.cells.length = k) (h1:∀ d ∈ flat es,d.isAgg = false)
  (h:∀ (j:Nat) (d:D),(flat es)[j]? = some d→∃ v,arr[j]? = some v∧RD S w d v) :
  Inv w0 own (updM m slot (w.heap.size,0)) S (w.alloc (.cells arr e)) (setSlot rows slot (Slot.live (.dat k es false)))∧Ext m S w (updM m slot (w.heap.size,0)) S (w.alloc (.cells arr e)):=by
 refine inv.fresh hs _ (.dat k es false) rfl fun ext=>⟨arr,e,alloc_heap w _,hk,h1,fun j x hj=>?_⟩
 obtain ⟨v,hv,hr⟩:=h j x hj
 exact ⟨v,by rw [Nat.zero_add]; exact hv,hr.ext ext⟩
theorem bsize_alloc (w:World) (arr:Array Value) (e:TypeId):bsize (w.alloc (.cells arr e)) w.heap.size = arr.size:=by
 unfold bsize; rw [alloc_heap]
theorem sl_fresh {slot k len c':Nat} {c:Nat} {ex:Bool} {arr:Array Value} {e:TypeId} (hl:len ≤ c') (hc:c ≤ c') (he:ex = true→c' = c) (hb:c' * k ≤ arr.size) :
  RV (updM m slot (w.heap.size,0)) S (w.alloc (.cells arr e)) (.sl slot k 0 len c ex) (.slice (some ⟨w.heap.size,0,none⟩) len c') :=
 .sl slot k 0 len c ex w.heap.size 0 c' _ (by simp [updM]) hl hc he (.inr (by simp)) (by rw [bsize_alloc]; simpa using hb)
theorem chunk_spec {agg:Bool} {k:Nat} (hk:0 < k):∀ (n:Nat) (ds:List D),ds.length = n * k→(∀ d ∈ ds,d.isAgg = false)→flat (chunk agg k n ds) = ds∧∀ e ∈ chunk agg k n ds,e.cells.length = k
 | 0,ds,h,_=>by
  have:ds = []:=by apply List.eq_nil_of_length_eq_zero; omega
  subst this; exact ⟨rfl,fun e he=>by cases he⟩
 | n + 1,ds,h,hn=>by
  rw [Nat.succ_mul] at h
  have h1:=mkElem_cells (agg:=agg) (ds:=ds.take k) (fun d hd=>hn d (List.mem_of_mem_take hd))
  obtain ⟨h2,h3⟩:=chunk_spec hk n (ds.drop k) (by simp; omega) (fun d hd=>hn d (List.mem_of_mem_drop hd))
  refine ⟨by rw [chunk,flat_cons,h1,h2,List.take_append_drop],fun e he=>?_⟩
  rw [chunk] at he
  rcases List.mem_cons.1 he with rfl | he
  ·rw [h1]; simp; omega
  ·exact h3 e he
def applyRes (slot:Nat) (res:Res) (rows:Rows):Rows :=
 match res.fresh with
 | none=>applyUps res.ups rows
 | some row=>setSlot (applyUps res.ups rows) slot (.live row)
def Left (P:Program) (w0:World) (own:Own) (m:Mp) (S:Nat→Prop) (w:World) (rows:Rows) (slot:Nat) (s:Sem Value) (res:Res):Prop :=
 ∃ u w' m' S',s.run P w = .ok u w'∧Inv w0 own m' S' w' (applyRes slot res rows)∧Ext m S w m' S' w'∧RV m' S' w' res.v u
theorem buildSliceA_sound (hT:TOK P T) (hg:GOK g rows) (inv:Inv w0 own m S w rows) {slot:Nat} (hs:SlotOK m rows slot) {t:TypeId} {len:Nat} {parts:List (Nat × Value)} {vs:List V} {res:Res}
    (h:buildSliceA T g slot t len (parts.map (·.1)) vs = some res) (hv:RVs m S w vs (parts.map (·.2)).toArray) :
    Left P w0 own m S w rows slot (Instr.buildSlice t len parts.toArray) res:=by
  have hl:vs.length = parts.length:=by have:=hv.1; simpa using this.symm
  have hz1:=zip_fst (parts.map (·.1)) vs (by simp [hl])
  have hz2:=zip_snd (parts.map (·.1)) vs (by simp [hl])
  unfold buildSliceA at h
  split at h
  · rename_i y hy
    have hu:=run_und (w:=w) (hT t y hy)
    split at h
    · rename_i e hde
      rw [hde] at hu
      split at h
      · rename_i z hz
        split at h
        · rename_i zs hzs
          split at h
          · rename_i hcond
            obtain ⟨h24,hzl,hzp⟩:=hcond
            split at h
            · rename_i cs hcs
              split at h
              · rename_i hone
                have hzr:RVs m S w zs z.zero.cells:=by simpa using ofVals_sound (m:=m) (S:=S) (w:=w) hzs
                have hrep:=repZero_sound (n:=len) hzr hzl hzp
                obtain ⟨c',h1,h2,h3⟩:=fill_sound (fun i=>some (i * z.size,z.size)) (prs:=parts) hcs hrep (by rw [hz1]) (by rw [hz2]; exact hv)
                have hlen:cs.length = len * z.size:=by rw [h3,repZero_len hzl]
                have hrun:(Instr.buildSlice t len parts.toArray).run P w = .ok (.slice (some ⟨w.heap.size,0,none⟩) len len) (w.alloc (.cells c' e)):=by
                  simp only [Instr.buildSlice,Sem.run_bind,hu,Result.andThen_ok,run_size (hT _ z hz)]
                  rw [if_neg (by omega)]
                  by_cases h0:len * z.size = 0
                  · rw [if_pos h0]
                    have harr:(Array.range (len * z.size)).map (fun x=>(#[]:Array Value)[x % (#[]:Array Value).size]!) = (Array.range (len * z.size)).map (z.zero.cells[· % z.zero.cells.size]!):=by rw [h0]; simp
                    simp only [Sem.run_bind,Sem.run_pure,Result.andThen_ok]
                    rw [harr,h1]
                    simp only [newRow,Sem.run_bind,run_newObj,Result.andThen_ok,Sem.run_pure]
                    rfl
                  · rw [if_neg h0]
                    simp only [Sem.run_bind,Sem.run_pure,Result.andThen_ok,run_zero (hT _ z hz),h1]
                    simp only [newRow,Sem.run_bind,run_newObj,Result.andThen_ok,Sem.run_pure]
                    rfl
                have hcsz:c'.size = len * z.size:=by rw [h2.1]; exact hlen
                split at h
                · rename_i ds us hds
                  cases h
                  obtain ⟨S1,i1,e1,⟨len1,r1⟩,g1,keep1,l1⟩:=toDs_sound (arr:=c'.toList) inv hg.gd hds (by simpa using h2)
                  have hdl:ds.length = len * z.size:=by rw [← len1]; simpa using hcsz
                  obtain ⟨f1,f2⟩:=chunk_spec (agg:=z.agg) hzp len ds hdl (toDs_one hds hone)
                  obtain ⟨k1,k2⟩:=dat_fresh i1 (SlotOK.mk' i1 (by rw [l1]; exact hs.le) hs.new) (k:=z.size) (arr:=c') e f2 (by rw [f1]; exact toDs_one hds hone) (fun j d hj=>by
                    rw [f1] at hj
                    have hjl:=lt_of_get hj
                    refine ⟨c'[j]'(by omega),by simp,r1 j d _ hj (by simp)⟩)
                  exact ⟨_,_,_,S1,hrun,k1,e1.trans k2,sl_fresh (Nat.le_refl _) (Nat.le_refl _) (fun _=>rfl) (by omega)⟩
                · cases h
                  obtain ⟨k1,k2⟩:=box_fresh inv hs e h2
                  exact ⟨_,_,_,S,hrun,k1,k2,sl_fresh (Nat.le_refl _) (Nat.le_refl _) (fun _=>rfl) (by omega)⟩
              · cases h
            · cases h
          · cases h
        · cases h
      · cases h
    · cases h
  · cases h
theorem toDs_none:∀ {zs:List V} {ds:List D} {us:List (Nat × Slot)},toDs (fun _=>none) zs = some (ds,us)→∀ {arr:List Value},RVs m S w zs arr.toArray →
  arr.length = ds.length∧(∀ (j:Nat) (d:D) (v:Value),ds[j]? = some d→arr[j]? = some v→RD S w d v)
 | [],ds,us,h,arr,hr=>by
  simp [toDs] at h
  obtain ⟨rfl,rfl⟩:=h
  exact ⟨by have:=hr.1; simpa using this,fun j d v hd=>by simp at hd⟩
 | z :: zs,ds,us,h,arr,hr=>by
  cases arr with
  | nil=>have:=hr.1; simp at this
  | cons a arr =>
   simp only [toDs] at h
   split at h
   ·rename_i x u l us' h1 h2
    cases h
    have hz:=hr.2 0 z a (by simp) (by simp)
    obtain ⟨l1,r1⟩:=toDs_none h2 (arr:=arr) ⟨by have:=hr.1; simpa using this,fun j x v hx hv=>hr.2 (j + 1) x v (by simpa using hx) (by simpa using hv)⟩
    refine ⟨by simp [l1],fun j d v hd hv=>?_⟩
    cases j with
    | zero =>
     simp at hd hv; subst hd; subst hv
     unfold toD1 at h1
     split at h1
     ·cases h1; exact RV_d_inv hz
     ·cases h1; cases hz; exact .emp _ _
     ·cases h1
     ·cases h1
    | succ j=>simp at hd hv; exact r1 j d v hd hv
   ·cases h
theorem zs_one {zs:List V} {ds:List D} {us:List (Nat × Slot)} (h:toDs (fun _=>none) zs = some (ds,us)) {vs:List Value} (hz:ofVals vs = some zs):∀ d ∈ ds,d.isAgg = false:=by
 refine toDs_one h ?_
 clear h
 induction vs generalizing zs with
 | nil=>simp [ofVals] at hz; subst hz; rfl
 | cons v vs ih =>
  simp only [ofVals] at hz
  split at hz
  ·rename_i x l hx hl
   cases hz
   simp only [List.all_cons,Bool.and_eq_true]
   refine ⟨?_,ih hl⟩
   unfold ofVal1 at hx
   split at hx <;> cases hx <;> rfl
  ·cases hz
theorem flat_rep {e:D} {ds:List D} {k:Nat} (he:e.cells = ds) (hk:ds.length = k) (hp:0 < k):∀ (n j:Nat),j < n * k→(flat (List.replicate n e))[j]? = ds[j % k]?
 | 0,j,hj=>by omega
 | n + 1,j,hj=>by
  rw [List.replicate_succ,flat_cons,he]
  rcases Nat.lt_or_ge j k with h1 | h1
  ·rw [List.getElem?_append_left (by omega),Nat.mod_eq_of_lt h1]
  ·rw [List.getElem?_append_right (by omega),hk,flat_rep he hk hp n (j - k) (by rw [Nat.succ_mul] at hj; omega),Nat.mod_eq_sub_mod h1]
theorem made_get {z:Array Value} {n j:Nat} (hj:j < n) (hz:0 < z.size):(madeCells z n)[j]? = z[j % z.size]?:=by
 have hm:=Nat.mod_lt j hz
 rw [madeCells,Array.getElem?_map,Array.getElem?_range,if_pos hj]
 simp only [Option.map_some]
 rw [getElem!_pos z (j % z.size) hm]
 simp [hm]
theorem makeSliceA_sound (hT:TOK P T) (inv:Inv w0 own m S w rows) {slot:Nat} (hs:SlotOK m rows slot) {t:TypeId} {l c:V} {lr cr:Value} {res:Res}
  (h:makeSliceA T slot t l c = some res) (hl:RV m S w l lr) (hc:RV m S w c cr) :
  Left P w0 own m S w rows slot (Instr.makeSlice t lr cr) res:=by
 unfold makeSliceA at h
 split at h
 ·rename_i y kl l kc c hy
  have e1:=int_inv hl; subst e1
  have e2:=int_inv hc; subst e2
  split at h
  ·rename_i e hde
   split at h
   ·rename_i z hz
    split at h
    ·rename_i zs hzs
     split at h
     ·rename_i ds us hds
      split at h
      ·rename_i hcond
       obtain ⟨h0,hlc,h62,hby,hzl,hzp⟩:=hcond
       cases h
       obtain ⟨hu,_⟩:=ty_spec (hT t y hy)
       rw [hde] at hu
       obtain ⟨_,i,hi,hi1,hi2,hi3⟩:=ty_spec (hT _ z hz)
       have hrun:=run_make (P:=P) w t e i z.zero hu hi hi3 kl kc l c h0 hlc (by rw [hi2]; omega) (by omega)
       rw [hi1] at hrun
       have hzr:RVs m S w zs z.zero.cells:=by simpa using ofVals_sound (m:=m) (S:=S) (w:=w) hzs
       have hzsz:z.zero.cells.size = z.size:=by rw [hzr.1]; exact hzl
       obtain ⟨n1,n2⟩:=toDs_none hds (arr:=z.zero.cells.toList) (by simpa using hzr)
       have hdl:ds.length = z.size:=by rw [← n1]; simpa using hzsz
       have hone:=zs_one hds hzs
       have hec:=mkElem_cells (agg:=z.agg) hone
       obtain ⟨k1,k2⟩:=dat_fresh inv hs (k:=z.size) (es:=List.replicate l.toNat (mkElem z.agg ds)) (arr:=madeCells z.zero.cells (c.toNat * z.size)) e
        (fun x hx=>by rw [(List.mem_replicate.1 hx).2,hec,hdl])
        (fun d hd=>by
         obtain ⟨e',he',hd'⟩:=List.mem_flatMap.1 hd
         rw [(List.mem_replicate.1 he').2,hec] at hd'
         exact hone d hd')
        (fun j d hj=>by
         have hjl:j < l.toNat * z.size:=by
          have:=lt_of_get hj
          rwa [flat_length (k:=z.size) (fun x hx=>by rw [(List.mem_replicate.1 hx).2,hec,hdl]),List.length_replicate] at this
         rw [flat_rep hec hdl hzp _ j hjl] at hj
         have hm:=Nat.mod_lt j hzp
         have hle:l.toNat * z.size ≤ c.toNat * z.size:=Nat.mul_le_mul_right _ (by omega)
         rw [made_get (by omega) (by omega),hzsz]
         exact ⟨z.zero.cells[j % z.size]'(by omega),by simp,n2 _ d _ hj (by simp)⟩)
       exact ⟨_,_,_,S,hrun,k1,k2,sl_fresh (by omega) (Nat.le_refl _) (fun _=>rfl) (by rw [size_madeCells]; exact Nat.le_refl _)⟩
      ·cases h
     ·cases h
    ·cases h
   ·cases h
  ·cases h
 ·cases h
end Go.Aev
end
