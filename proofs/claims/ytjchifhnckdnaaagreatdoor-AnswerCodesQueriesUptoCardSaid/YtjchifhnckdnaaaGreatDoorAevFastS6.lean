/- Lemmas for the statements of this seat: an abstract machine that the model follows, and contracts of functions. Conditions: none. -/
import Derived.Test.YtjchifhnckdnaaaGreatDoorAevFastS5
set_option linter.unusedVariables false
set_option linter.unusedSimpArgs false
set_option linter.unusedSectionVars false
namespace Go.Aev
variable [Glob]
open Go.RowKit (Below)
theorem opsRel_list {ops:Array Oper}:∀ (l:List Oper) (i:Nat),(∀ j,j < l.length→l[j]? = ops[i + j]?)→OpsRel ops (l.map (cop ops)) (List.range' i l.length)
 | [],i,_=>.nil
 | o :: l,i,h=>by
  rw [List.length_cons,List.range'_succ,List.map_cons]
  refine .cons ?_ (opsRel_list l (i + 1) fun j hj=>?_)
  ·have:=h 0 (by simp)
   simpa using this.symm
  ·have:=h (j + 1) (by simpa using hj)
   rw [List.getElem?_cons_succ] at this
   rw [this]
   congr 1
   omega
theorem cops_len (ops:Array Oper):(cops ops).length = ops.size:=by simp [cops]
theorem cops_all (ops:Array Oper):OpsRel ops (cops ops) (List.range ops.size):=by
 have:=opsRel_list (ops:=ops) ops.toList 0 (fun j _=>by simp)
 rw [List.range_eq_range']
 simpa [cops] using this
theorem cops_drop (ops:Array Oper) (q:Nat):OpsRel ops ((cops ops).drop q) (List.range' q (ops.size - q)):=by
 have:=opsRel_list (ops:=ops) (ops.toList.drop q) q (fun j hj=>by simp)
 simpa [cops,List.map_drop] using this
theorem cops_take {ops:Array Oper} {q:Nat} (h:q ≤ ops.size):OpsRel ops ((cops ops).take q) (List.range q):=by
 have:=opsRel_list (ops:=ops) (ops.toList.take q) 0 (fun j hj=>by
  have hj':j < q:=by simp at hj; omega
  simp [hj'])
 rw [List.range_eq_range']
 simpa [cops,List.map_take,Nat.min_eq_left h] using this
theorem trim_live (rows:Rows) (r:Nat):liveAt (trimFree rows) r = liveAt rows r:=by
 obtain ⟨l,hl,hf⟩:=trim_spec rows
 rw [liveAt_eq,liveAt_eq]
 rcases Nat.lt_or_ge r (trimFree rows).length with h | h
 ·conv=>rhs; rw [hl]
  rw [List.getElem?_append_left h]
 ·rw [List.getElem?_eq_none h]
  conv=>rhs; rw [hl]
  rw [List.getElem?_append_right h]
  cases hg:l[r - (trimFree rows).length]? with
  | none=>rfl
  | some x=>rw [hf x (List.mem_of_getElem? hg)]; rfl
theorem trim_len (rows:Rows):(trimFree rows).length ≤ rows.length:=by
 obtain ⟨l,hl,_⟩:=trim_spec rows
 have:=congrArg List.length hl
 rw [List.length_append] at this
 omega
def aCut (c:Cfg) (s:AS):Out :=
 match s.fr.todo with
 | .it (.code (.region _ ops true)) :: k=>match cutA c ops (cutAt ops) { env:=s.fr.env,rows:=s.rows } with
  | some st=>.next { s with fr:={ s.fr with env:=st.env,todo:=.it (.inRegion ops (cutAt ops :: List.range' (cutAt ops + 1) (ops.size - (cutAt ops + 1)))) :: k },rows:=st.rows }
  | none=>.fail
 | _=>.fail
theorem aCut_sound {w0:World} {own:Own} {c:Cfg} (hc:COK c) {cs0:Bot} {f:FuncId} {s:AS} {M:Machine} (hs:SimF c.P w0 own cs0 f s M):Follows c.P w0 own cs0 f (aCut c s) M:=by
 obtain ⟨hb,m,S,w,tmps,todo,ds,ro,cs,rfl,inv,hfr,hst⟩:=hs
 have hself:∀ fr':AF,fr'.fn = s.fr.fn→botFn fr' s.stack = f:=by
  intro fr' e
  rw [botFn_eq] at hb ⊢
  rw [e]; exact hb
 have ht:=hfr.todo
 unfold aCut
 split
 ·rename_i id ops k htodo
  rw [htodo] at ht
  cases ht with
  | cons hi tl =>
  rename_i kr
  cases hi
  split
  ·rename_i st hcut
   obtain ⟨m',S',w',tmps',h1,h2,h3,h4⟩:=cutA_sound (fn:=s.fr.fn) (id:=id) (k:=kr) (ds:=ds) (ro:=ro) (cs:=cs) hc hcut inv hfr.env
   exact ⟨_,h1,hself _ rfl,m',S',w',tmps',_,ds,ro,cs,rfl,h2,⟨h3,.cons rfl (tl.mono h4.map),hfr.ds.ext h4,hfr.ro.mono h4.map⟩,hst.ext h4⟩
  ·trivial
 ·trivial
def aFrz (c:Cfg) (s:AS):Out :=
 match s.fr.todo with
 | .it (.code (.region _ ops true)) :: k=>match frzA c ops { env:=s.fr.env,rows:=s.rows } with
  | some st=>.next { s with fr:={ s.fr with env:=st.env,todo:=k },rows:=st.rows }
  | none=>.fail
 | _=>.fail
theorem aFrz_sound {w0:World} {own:Own} {c:Cfg} (hc:COK c) {cs0:Bot} {f:FuncId} {s:AS} {M:Machine} (hs:SimF c.P w0 own cs0 f s M):Follows c.P w0 own cs0 f (aFrz c s) M:=by
 obtain ⟨hb,m,S,w,tmps,todo,ds,ro,cs,rfl,inv,hfr,hst⟩:=hs
 have hself:∀ fr':AF,fr'.fn = s.fr.fn→botFn fr' s.stack = f:=by
  intro fr' e
  rw [botFn_eq] at hb ⊢
  rw [e]; exact hb
 have ht:=hfr.todo
 unfold aFrz
 split
 ·rename_i id ops k htodo
  rw [htodo] at ht
  cases ht with
  | cons hi tl =>
  rename_i kr
  cases hi
  split
  ·rename_i st hfrz
   obtain ⟨m',S',w',tmps',h1,h2,h3,h4⟩:=frzA_sound (fn:=s.fr.fn) (id:=id) (k:=kr) (ds:=ds) (ro:=ro) (cs:=cs) hc hfrz inv hfr.env
   exact ⟨_,h1,hself _ rfl,m',S',w',tmps',kr,ds,ro,cs,rfl,h2,⟨h3,tl.mono h4.map,hfr.ds.ext h4,hfr.ro.mono h4.map⟩,hst.ext h4⟩
  ·trivial
 ·trivial
theorem freg2_rel {c:Cfg} {s:AS} {fn:FuncId} {e:Tr V} {k:List FItem} {ro:Option Nat} {mk:Mks} {st:List FF} {t:Tr (Option Row)} {n:Nat} {kk:List AItem} {ops:Array Oper} {rows1:Rows} {cut:FOut} {Q:FOut→Prop}
  (hfn:fn = s.fr.fn) (he:ERel e s.fr.env) (hro:ro = s.fr.round) (hmk:mk = (s.fr.marks,s.fr.dcl)) (htl:TRel k kk) (hk:KRel st s.stack) (hr:RRel t rows1) (hn:rows1.length = n) (hcs:regStatic ops = true) (hcut:Q cut)
  (hreg:∀ (st':St) e' t',regionA c ops { env:=s.fr.env,rows:=rows1 } = some st'→SRel ⟨fn,e',k,ro,mk,st,t',n + ops.size⟩ { s with fr:={ s.fr with env:=st'.env,todo:=kk },rows:=st'.rows }→Q (.next ⟨fn,e',k,ro,mk,st,t',n + ops.size⟩)) :
  Q (frunAll c (n + ops.size) cut (cops ops) n e t [] (freg2 fn k ro mk st n ops (n + ops.size) cut)):=by
 have hcs':=hcs
 unfold regStatic at hcs'
 simp only [Bool.and_eq_true] at hcs'
 obtain ⟨hed,htm⟩:=hcs'
 have hfr:RRel t (rows1 ++ List.replicate ops.size Slot.free):=fun r=>by rw [liveAt_frees,hr r]
 rcases frunAll_rel (c:=c) (n:=n + ops.size) (slot0:=n) (ops:=ops) (fl:=cut) (Nat.le_refl _) (l:=cops ops) (i:=0) (idx:=List.range ops.size) (e:=e) (t:=t)
  (s:={ env:=s.fr.env,rows:=rows1 ++ List.replicate ops.size Slot.free }) (acc:=[]) (k:=freg2 fn k ro mk st n ops (n + ops.size) cut) (cops_all ops)
  (by rw [cops_len,List.range_eq_range']) he hfr (by simp [hn]) with h | ⟨rs,e',t',s',h1,h2,h3,h4,h5,h6⟩
 ·have h':frunAll c (n + ops.size) cut (cops ops) n e t [] (freg2 fn k ro mk st n ops (n + ops.size) cut) = cut:=h
  rw [h']; exact hcut
 ·have h1':frunAll c (n + ops.size) cut (cops ops) n e t [] (freg2 fn k ro mk st n ops (n + ops.size) cut) = freg2 fn k ro mk st n ops (n + ops.size) cut rs e' t':=by simpa using h1
  rw [h1']
  unfold freg2
  cases hro':rowsOK (ancs ops ops.size) n ops.size rs with
  | false=>exact hcut
  | true =>
   simp only
   have hp:=pairs_of (slot0:=n) h6 (cops_len ops) htm hro'
   have hregA:regionA c ops { env:=s.fr.env,rows:=rows1 } = some { s' with rows:=trimFree s'.rows }:=by
    unfold regionA
    rw [if_pos hed]
    simp only
    rw [hn,h2]
    simp only
    rw [if_pos hp]
   refine hreg _ e' t' hregA (SRel.of hfn h3 htl hro hmk hk (fun r=>?_) ?_)
   ·show rget t' r = liveAt (trimFree s'.rows) r
    rw [trim_live]; exact h4 r
   ·show (trimFree s'.rows).length ≤ _
    have:=trim_len s'.rows
    omega
theorem ffrz_rel {c:Cfg} {s:AS} {fn:FuncId} {e:Tr V} {k:List FItem} {ro:Option Nat} {mk:Mks} {st:List FF} {t:Tr (Option Row)} {n id:Nat} {kk:List AItem} {ops:Array Oper} (htodo:s.fr.todo = .it (.code (.region id ops true)) :: kk)
  (hfn:fn = s.fr.fn) (he:ERel e s.fr.env) (hro:ro = s.fr.round) (hmk:mk = (s.fr.marks,s.fr.dcl)) (htl:TRel k kk) (hk:KRel st s.stack) (hr:RRel t s.rows) (hn:s.rows.length = n) :
  ORel (ffrz c fn e k ro mk st t n ops) (aFrz c s):=by
 unfold ffrz
 cases hcs:regStatic ops with
 | false=>trivial
 | true =>
  simp only
  rw [litN_eq]
  have hnn:n.add ops.size = n + ops.size:=rfl
  rw [hnn]
  have hfr:RRel t (s.rows ++ List.replicate ops.size Slot.free):=fun r=>by rw [liveAt_frees,hr r]
  rcases frunAll_rel (c:=c) (n:=n + ops.size) (slot0:=n) (ops:=ops) (fl:=FOut.fail) (Nat.le_refl _) (l:=cops ops) (i:=0) (idx:=List.range ops.size) (e:=e) (t:=t)
   (s:={ env:=s.fr.env,rows:=s.rows ++ List.replicate ops.size Slot.free }) (acc:=[]) (k:=ffrz2 c fn e k ro mk st t n ops (n + ops.size) (freg2 fn k ro mk st n ops (n + ops.size) .fail)) (cops_all ops)
   (by rw [cops_len,List.range_eq_range']) he hfr (by simp [hn]) with h | ⟨rs,e',t',s',h1,h2,h3,h4,h5,h6⟩
  ·have h':frunAll c (n + ops.size) FOut.fail (cops ops) n e t [] (ffrz2 c fn e k ro mk st t n ops (n + ops.size) (freg2 fn k ro mk st n ops (n + ops.size) .fail)) = .fail:=h
   rw [h']; trivial
  ·have h1':frunAll c (n + ops.size) FOut.fail (cops ops) n e t [] (ffrz2 c fn e k ro mk st t n ops (n + ops.size) (freg2 fn k ro mk st n ops (n + ops.size) .fail)) =
     ffrz2 c fn e k ro mk st t n ops (n + ops.size) (freg2 fn k ro mk st n ops (n + ops.size) .fail) rs e' t':=by simpa using h1
   rw [h1']
   unfold ffrz2
   have hg:rget t = liveAt s.rows:=funext hr
   rw [hg,ffrozen_eq hr]
   obtain ⟨t1,f1,f2⟩:=fups_rel (us:=frozenUps s.rows (frzList (liveAt s.rows) rs)) hr (fun u hu=>by
    obtain ⟨_,row,h2,_⟩:=frozenUps_mem hu
    exact lt_of_get h2)
   rw [f1]
   refine freg2_rel (Q:=fun o=>ORel o (aFrz c s)) (rows1:=setRows (frozenUps s.rows (frzList (liveAt s.rows) rs)) s.rows) hfn he hro hmk htl hk f2 (by rw [setRows_len]; exact hn) hcs trivial fun st' e2 t2 hreg hrel=>?_
   refine ⟨_,?_,hrel⟩
   unfold aFrz
   rw [htodo]
   simp only
   have:frzA c ops { env:=s.fr.env,rows:=s.rows } = some st':=by
    unfold frzA
    simp only
    rw [hn,h2]
    exact hreg
   rw [this]
theorem fcut_rel {c:Cfg} {s:AS} {fn:FuncId} {e:Tr V} {k:List FItem} {ro:Option Nat} {mk:Mks} {st:List FF} {t:Tr (Option Row)} {n id:Nat} {kk:List AItem} {ops:Array Oper} (htodo:s.fr.todo = .it (.code (.region id ops true)) :: kk)
  (hfn:fn = s.fr.fn) (he:ERel e s.fr.env) (hro:ro = s.fr.round) (hmk:mk = (s.fr.marks,s.fr.dcl)) (htl:TRel k kk) (hk:KRel st s.stack) (hr:RRel t s.rows) (hn:s.rows.length = n) :
  ORel (fcut c fn e k ro mk st t n ops) (aCut c s) ∨ ORel (fcut c fn e k ro mk st t n ops) (aFrz c s):=by
 have hfrz:=ffrz_rel (c:=c) htodo hfn he hro hmk htl hk hr hn
 unfold fcut
 cases hcs:cutStatic ops (cutAt ops) with
 | false=>exact .inr hfrz
 | true =>
  simp only
  rw [litN_eq]
  have hcs':=hcs
  unfold cutStatic at hcs'
  simp only [Bool.and_eq_true] at hcs'
  obtain ⟨hcs2,htm⟩:=hcs'
  have hq:cutAt ops < ops.size:=by simpa using hcs2.1.1.1.2
  have hnn:n.add ops.size = n + ops.size:=rfl
  have hfr:RRel t (s.rows ++ List.replicate ops.size Slot.free):=fun r=>by rw [liveAt_frees,hr r]
  rcases frunAll_rel (c:=c) (n:=n + ops.size) (slot0:=n) (ops:=ops) (fl:=ffrz c fn e k ro mk st t n ops) (Nat.le_refl _) (l:=(cops ops).take (cutAt ops)) (i:=0) (idx:=List.range (cutAt ops)) (e:=e) (t:=t)
   (s:={ env:=s.fr.env,rows:=s.rows ++ List.replicate ops.size Slot.free }) (acc:=[]) (k:=fcut2 fn k ro mk st n ops (cutAt ops) (n + ops.size) (ffrz c fn e k ro mk st t n ops)) (cops_take (Nat.le_of_lt hq))
   (by rw [List.length_take,cops_len,Nat.min_eq_left (Nat.le_of_lt hq),List.range_eq_range']) he hfr (by simp [hn]) with h | ⟨rs,e',t',s',h1,h2,h3,h4,h5,h6⟩
  ·rw [hnn]
   have h':frunAll c (n + ops.size) (ffrz c fn e k ro mk st t n ops) (List.take (cutAt ops) (cops ops)) n e t [] (fcut2 fn k ro mk st n ops (cutAt ops) (n + ops.size) (ffrz c fn e k ro mk st t n ops)) = (ffrz c fn e k ro mk st t n ops):=h
   right; rw [h']; exact hfrz
  ·rw [hnn]
   have h1':frunAll c (n + ops.size) (ffrz c fn e k ro mk st t n ops) (List.take (cutAt ops) (cops ops)) n e t [] (fcut2 fn k ro mk st n ops (cutAt ops) (n + ops.size) (ffrz c fn e k ro mk st t n ops)) = fcut2 fn k ro mk st n ops (cutAt ops) (n + ops.size) (ffrz c fn e k ro mk st t n ops) rs e' t':=by simpa using h1
   rw [h1']
   unfold fcut2
   cases hro':rowsOK (ancs ops (cutAt ops)) n (cutAt ops) rs with
   | false=>exact .inr hfrz
   | true =>
    left
    simp only
    have hp:=pairs_of (slot0:=n) h6 (by rw [List.length_take,cops_len,Nat.min_eq_left (Nat.le_of_lt hq)]) htm hro'
    have hcut:cutA c ops (cutAt ops) { env:=s.fr.env,rows:=s.rows } = some s':=by
     unfold cutA
     simp only
     rw [if_pos (by simpa only [Bool.and_eq_true] using hcs2),hn,h2]
     simp only
     rw [if_pos hp]
    refine ⟨{ s with fr:={ s.fr with env:=s'.env,todo:=.it (.inRegion ops (cutAt ops :: List.range' (cutAt ops + 1) (ops.size - (cutAt ops + 1)))) :: kk },rows:=s'.rows },by unfold aCut; rw [htodo]; simp only; rw [hcut],SRel.of hfn h3 (.cons (.ops ?_) htl) hro hmk hk h4 (by show s'.rows.length ≤ _; rw [h5]; exact Nat.le_refl _)⟩
    have hd:=cops_drop ops (cutAt ops)
    have:ops.size - cutAt ops = (ops.size - (cutAt ops + 1)) + 1:=by omega
    rw [this,List.range'_succ] at hd
    exact hd
theorem fregion_rel {c:Cfg} {s:AS} {fn:FuncId} {e:Tr V} {k:List FItem} {ro:Option Nat} {mk:Mks} {st:List FF} {t:Tr (Option Row)} {n id:Nat} {kk:List AItem} {ops:Array Oper} (htodo:s.fr.todo = .it (.code (.region id ops true)) :: kk)
  (hfn:fn = s.fr.fn) (he:ERel e s.fr.env) (hro:ro = s.fr.round) (hmk:mk = (s.fr.marks,s.fr.dcl)) (htl:TRel k kk) (hk:KRel st s.stack) (hr:RRel t s.rows) (hn:s.rows.length = n) :
  ORel (fregion c fn e k ro mk st t n ops) (aStep c s) ∨ ORel (fregion c fn e k ro mk st t n ops) (aCut c s) ∨ ORel (fregion c fn e k ro mk st t n ops) (aFrz c s):=by
 have hcut:=fcut_rel (c:=c) htodo hfn he hro hmk htl hk hr hn
 unfold fregion
 cases hcs:regStatic ops with
 | false=>exact .inr hcut
 | true =>
  simp only
  rw [litN_eq]
  have hcs':=hcs
  unfold regStatic at hcs'
  simp only [Bool.and_eq_true] at hcs'
  obtain ⟨hed,htm⟩:=hcs'
  have hnn:n.add ops.size = n + ops.size:=rfl
  have hfr:RRel t (s.rows ++ List.replicate ops.size Slot.free):=fun r=>by rw [liveAt_frees,hr r]
  rw [hnn]
  rcases frunAll_rel (c:=c) (n:=n + ops.size) (slot0:=n) (ops:=ops) (fl:=fcut c fn e k ro mk st t n ops) (Nat.le_refl _) (l:=cops ops) (i:=0) (idx:=List.range ops.size) (e:=e) (t:=t)
   (s:={ env:=s.fr.env,rows:=s.rows ++ List.replicate ops.size Slot.free }) (acc:=[]) (k:=freg2 fn k ro mk st n ops (n + ops.size) (fcut c fn e k ro mk st t n ops)) (cops_all ops)
   (by rw [cops_len,List.range_eq_range']) he hfr (by simp [hn]) with h | ⟨rs,e',t',s',h1,h2,h3,h4,h5,h6⟩
  ·right
   have h':frunAll c (n + ops.size) (fcut c fn e k ro mk st t n ops) (cops ops) n e t [] (freg2 fn k ro mk st n ops (n + ops.size) (fcut c fn e k ro mk st t n ops)) = fcut c fn e k ro mk st t n ops:=h
   rw [h']; exact hcut
  ·have h1':frunAll c (n + ops.size) (fcut c fn e k ro mk st t n ops) (cops ops) n e t [] (freg2 fn k ro mk st n ops (n + ops.size) (fcut c fn e k ro mk st t n ops)) =
     freg2 fn k ro mk st n ops (n + ops.size) (fcut c fn e k ro mk st t n ops) rs e' t':=by simpa using h1
   rw [h1']
   unfold freg2
   cases hro':rowsOK (ancs ops ops.size) n ops.size rs with
   | false=>exact .inr hcut
   | true =>
    left
    simp only
    have hp:=pairs_of (slot0:=n) h6 (cops_len ops) htm hro'
    have hreg:regionA c ops { env:=s.fr.env,rows:=s.rows } = some { s' with rows:=trimFree s'.rows }:=by
     unfold regionA
     rw [if_pos hed]
     simp only
     rw [hn,h2]
     simp only
     rw [if_pos hp]
    refine ⟨{ s with fr:={ s.fr with env:=s'.env,todo:=kk },rows:=trimFree s'.rows },by unfold aStep; rw [htodo]; simp only; rw [hreg],SRel.of hfn h3 htl hro hmk hk (fun r=>?_) ?_⟩
    ·show rget t' r = liveAt (trimFree s'.rows) r
     rw [trim_live]; exact h4 r
    ·show (trimFree s'.rows).length ≤ _
     have:=trim_len s'.rows
     omega
theorem fitem_rel {c:Cfg} {s:AS} {fn:FuncId} {e:Tr V} {k:List FItem} {ro:Option Nat} {mk:Mks} {st:List FF} {t:Tr (Option Row)} {n:Nat} {kk:List AItem} {i:FItem} {j:AItem} (htodo:s.fr.todo = j :: kk) (hij:IRel i j)
  (hfn:fn = s.fr.fn) (he:ERel e s.fr.env) (hro:ro = s.fr.round) (hmk:mk = (s.fr.marks,s.fr.dcl)) (htl:TRel k kk) (hk:KRel st s.stack) (hr:RRel t s.rows) (hn:s.rows.length = n) :
  ORel (fitem i c fn e k ro mk st t n) (aStep c s) ∨ ORel (fitem i c fn e k ro mk st t n) (aCut c s) ∨ ORel (fitem i c fn e k ro mk st t n) (aFrz c s):=by
 have hle:s.rows.length ≤ n:=by rw [hn]; exact Nat.le_refl _
 cases hij with
 | blk id=>exact .inl (by unfold aStep; rw [htodo]; exact ⟨_,rfl,SRel.of hfn he htl hro hmk hk hr hle⟩)
 | sc b=>exact .inl (by unfold aStep; rw [htodo]; exact ⟨_,rfl,SRel.of hfn he htl hro hmk hk hr hle⟩)
 | lp b=>exact .inl (by unfold aStep; rw [htodo]; exact ⟨_,rfl,SRel.of hfn he (.cons (.cd _) (.cons (.lp _) htl)) hro hmk hk hr hle⟩)
 | rf r=>exact .inl trivial
 | ops ho =>
  left
  unfold aStep
  rw [htodo]
  cases ho with
  | nil=>exact ⟨_,rfl,SRel.of hfn he htl hro hmk hk hr hle⟩
  | cons hop hot=>exact fop_rel hop ⟨hfn,he,by rw [htodo]; exact .cons (.ops (.cons hop hot)) htl,hro,hmk⟩ hot htl hk hr hn
 | bg =>
  left
  unfold aStep
  rw [htodo]
  show ORel (iBg c fn e k ro mk st t n) _
  unfold iBg
  rw [hro]
  simp only
  cases s.fr.round with
  | none=>trivial
  | some r =>
   simp only
   rw [hr r]
   cases hl:liveAt s.rows r with
   | none=>trivial
   | some row =>
    have hlt:=liveAt_lt hl
    cases row with
    | loop ls pend fn' env ps as bd d =>
     cases ls with
     | ready =>
      simp only
      obtain ⟨t',e1,e2⟩:=rput_spec (t:=t) (r:=r) (x:=some (.loop .busy pend fn' env ps as bd d))
      rw [e1]
      refine ⟨_,rfl,SRel.of hfn he htl rfl hmk hk (fun j=>?_) ?_⟩
      ·show rget t' j = liveAt (setSlot s.rows r _) j
       rw [e2,setSlot_lt _ hlt,liveAt_set _ hlt,hr j]; rfl
      ·show (setSlot s.rows r _).length ≤ n
       rw [setSlot_lt _ hlt,List.length_set]; exact hle
     | _=>trivial
    | _=>trivial
 | cd cd =>
  show ORel (fcode cd c fn e k ro mk st t n) _ ∨ ORel (fcode cd c fn e k ro mk st t n) _ ∨ ORel (fcode cd c fn e k ro mk st t n) _
  cases cd with
  | skip=>exact .inl (by unfold aStep; rw [htodo]; exact ⟨_,rfl,SRel.of hfn he htl hro hmk hk hr hle⟩)
  | label l=>exact .inl (by unfold aStep; rw [htodo]; exact ⟨_,rfl,SRel.of hfn he htl hro hmk hk hr hle⟩)
  | seq a b=>exact .inl (by unfold aStep; rw [htodo]; exact ⟨_,rfl,SRel.of hfn he (.cons (.cd _) (.cons (.cd _) htl)) hro hmk hk hr hle⟩)
  | block id b=>exact .inl (by unfold aStep; rw [htodo]; exact ⟨_,rfl,SRel.of hfn he (.cons (.cd _) (.cons (.blk _) htl)) hro hmk hk hr hle⟩)
  | loop b=>exact .inl (by unfold aStep; rw [htodo]; exact ⟨_,rfl,SRel.of hfn he (.cons (.cd _) (.cons (.lp _) htl)) hro hmk hk hr hle⟩)
  | scope b=>exact .inl (by unfold aStep; rw [htodo]; exact ⟨_,rfl,SRel.of hfn he (.cons (.cd _) (.cons (.sc _) htl)) hro hmk hk hr hle⟩)
  | refuse w=>exact .inl trivial
  | ret =>
   left
   unfold aStep
   rw [htodo]
   show ORel (fleave c fn e ro mk st t n (some .ret)) (leaveA c s (some .ret))
   exact fleave_rel hfn he hro hmk hk hr hle
  | cond o x y =>
   left
   unfold aStep
   rw [htodo]
   show ORel (fev e o .fail (condV x y fn e k ro mk st t n)) _
   rw [fev_spec he]
   simp only
   cases evalO s.fr.env o with
   | none=>trivial
   | some v =>
    simp only
    cases v with
    | d d =>
     cases d with
     | bool b=>cases b <;> exact ⟨_,rfl,SRel.of hfn he (.cons (.cd _) htl) hro hmk hk hr hle⟩
     | _=>trivial
    | _=>trivial
  | exit id =>
   left
   unfold aStep
   rw [htodo]
   show ORel (cExit id c fn e k ro mk st t n) _
   unfold cExit
   simp only
   rcases fexitTo_rel (id:=id) htl with ⟨h1,h2⟩ | ⟨k',l',h1,h2,h3⟩
   ·rw [h1,h2]
    simp only
    rw [hro]
    cases hrd:s.fr.round with
    | none=>trivial
    | some r=>exact fleave_rel hfn he hrd.symm hmk hk hr hle
   ·rw [h1,h2]
    exact ⟨_,rfl,SRel.of hfn he h3 hro hmk hk hr hle⟩
  | goto l =>
   left
   unfold aStep
   rw [htodo]
   show ORel (cGoto l c fn e k ro mk st t n) _
   unfold cGoto
   simp only
   rcases fgotoIn_rel (id:=l) htl with ⟨h1,h2⟩ | ⟨k',l',h1,h2,h3⟩
   ·rw [h1]; trivial
   ·rw [h1,h2]
    exact ⟨_,rfl,SRel.of hfn he h3 hro hmk hk hr hle⟩
  | rangeFunc f ps as body =>
   left
   unfold aStep
   rw [htodo]
   show ORel (frange c fn e k ro mk st t n f ps as body) (rangeA c s f ps as body kk)
   exact frange_rel hfn he hro hmk htl hk hr hn
  | region id ops draw =>
   cases draw with
   | false=>exact .inl (by unfold aStep; rw [htodo]; exact ⟨_,rfl,SRel.of hfn he (.cons (.ops (cops_all ops)) htl) hro hmk hk hr hle⟩)
   | true=>exact fregion_rel htodo hfn he hro hmk htl hk hr hn
def FFollows (P:Program) (w0:World) (own:Own) (cs0:Bot) (f:FuncId) (o:FOut) (M:Machine):Prop :=
 match o with
 | .next s=>∃ a M',SRel s a∧Steps P M M'∧SimF P w0 own cs0 f a M'
 | .done v t _=>∃ rows fr w' m S u,RRel t rows∧Steps P M (lone fr cs0.cs w')∧(fr.fn = f∧fr.defers = cs0.hid)∧Frame.leaving P { fr with defers:=[] } w' (.returned u)∧Inv w0 own m S w' rows∧RV m S w' v u∧cs0.B m w'
 | .fail=>True
theorem ORel.follows {P:Program} {w0:World} {own:Own} {cs0:Bot} {f:FuncId} {o:FOut} {o':Out} {M:Machine} (h:ORel o o') (k:Follows P w0 own cs0 f o' M):FFollows P w0 own cs0 f o M:=by
 cases o with
 | next s =>
  obtain ⟨a,rfl,hr⟩:=h
  obtain ⟨M',h1,h2⟩:=k
  exact ⟨a,M',hr,h1,h2⟩
 | done v t n =>
  obtain ⟨rows,rfl,hr⟩:=h
  obtain ⟨fr,w',m,S,u,h⟩:=k
  exact ⟨rows,fr,w',m,S,u,hr,h⟩
 | fail=>trivial
theorem SimF.pad {P:Program} {w0:World} {own:Own} {cs0:Bot} {f:FuncId} {a:AS} {M:Machine} (h:SimF P w0 own cs0 f a M) (n:Nat):SimF P w0 own cs0 f { a with rows:=a.rows ++ List.replicate n Slot.free } M:=by
 obtain ⟨hb,m,S,w,tmps,todo,ds,ro,cs,rfl,inv,hfr,hst⟩:=h
 exact ⟨hb,m,S,w,tmps,todo,ds,ro,cs,rfl,inv_frees inv n,hfr,hst⟩
theorem fstep_sound {w0:World} {own:Own} {c:Cfg} (hc:COK c) {cs0:Bot} {f:FuncId} {s:FSt} {a:AS} {M:Machine} (hr:SRel s a) (hs:SimF c.P w0 own cs0 f a M):FFollows c.P w0 own cs0 f (fstep c s) M:=by
 have hs':=hs.pad (s.len - a.rows.length)
 have hlen:=hr.len
 obtain ⟨fn,e,todo,ro,mk,st,t,n⟩:=s
 obtain ⟨⟨h1,h2,h3,h4,h5⟩,h6,h7,_⟩:=hr
 simp only [FSt.top] at h1 h2 h3 h4 h5 h6 h7 hlen hs'
 have hrr:RRel t (a.rows ++ List.replicate (n - a.rows.length) Slot.free):=fun r=>by rw [liveAt_frees,h7 r]
 have hnn:(a.rows ++ List.replicate (n - a.rows.length) Slot.free).length = n:=by simp; omega
 cases todo with
 | nil =>
  cases ht:a.fr.todo with
  | cons j kk=>rw [ht] at h3; cases h3
  | nil =>
   refine ORel.follows (o':=aStep c { a with rows:=a.rows ++ List.replicate (n - a.rows.length) Slot.free }) ?_ (aStep_sound hc hs')
   unfold aStep
   simp only
   rw [ht]
   show ORel (fleave c fn e ro mk st t n none) (leaveA c { a with rows:=a.rows ++ List.replicate (n - a.rows.length) Slot.free } none)
   exact fleave_rel (s:={ a with rows:=a.rows ++ List.replicate (n - a.rows.length) Slot.free }) h1 h2 h4 h5 h6 hrr (Nat.le_of_eq hnn)
 | cons i k =>
  cases ht:a.fr.todo with
  | nil=>rw [ht] at h3; cases h3
  | cons j kk =>
   rw [ht] at h3
   cases h3 with
   | cons hij htl =>
    rcases fitem_rel (c:=c) (s:={ a with rows:=a.rows ++ List.replicate (n - a.rows.length) Slot.free }) ht hij h1 h2 h4 h5 htl h6 hrr hnn with h | h | h
    ·exact ORel.follows h (aStep_sound hc hs')
    ·exact ORel.follows h (aCut_sound hc hs')
    ·exact ORel.follows h (aFrz_sound hc hs')
theorem FFollows.of_steps {P:Program} {w0:World} {own:Own} {cs0:Bot} {f:FuncId} {o:FOut} {M M1:Machine} (h:Steps P M M1) (k:FFollows P w0 own cs0 f o M1):FFollows P w0 own cs0 f o M:=by
 cases o with
 | next s=>obtain ⟨a,M',h1,h2,h3⟩:=k; exact ⟨a,M',h1,h.trans h2,h3⟩
 | done v t n=>obtain ⟨rows,fr,w',m,S,u,h1,h2,h3⟩:=k; exact ⟨rows,fr,w',m,S,u,h1,h.trans h2,h3⟩
 | fail=>trivial
theorem frun_sound {w0:World} {own:Own} {c:Cfg} (hc:COK c) {cs0:Bot} {f:FuncId}:∀ {n:Nat} {s:FSt} {a:AS} {M:Machine},SRel s a→SimF c.P w0 own cs0 f a M→FFollows c.P w0 own cs0 f (frun c n s) M
 | 0,s,a,M,hr,hs=>⟨a,M,hr,Steps.refl _ _,hs⟩
 | n + 1,s,a,M,hr,hs=>by
  have h:=fstep_sound hc hr hs
  have e:frun c (n + 1) s = FOut.rec (motive:=fun _=>FOut) (frun c n) (fun v t n=>.done v t n) .fail (fstep c s):=rfl
  rw [e]
  cases hf:fstep c s with
  | next s' =>
   rw [hf] at h
   obtain ⟨a',M',h1,h2,h3⟩:=h
   exact (frun_sound hc h1 h3).of_steps h2
  | done v t m=>rw [hf] at h; exact h
  | fail=>trivial
theorem calls_of_frun {w0:World} {own:Own} {m:Mp} {S:Nat→Prop} {w:World} {c:Cfg} (hc:COK c) {g:FuncId} {args:List V} {e:Tr V} {b:Code} {l:List V} {n len:Nat} {v:V} {t t':Tr (Option Row)} {rows:Rows}
  (hen:enterA c g args = some ⟨g,l,[.it (.code b)],none,[],[]⟩) (he:ERel e l) (ht:RRel t rows) (hlen:rows.length ≤ len) {len':Nat} (hr:frun c n ⟨g,e,[.cd b],none,([],[]),[],t,len⟩ = .done v t' len')
  (inv:Inv w0 own m S w rows) {as:Array Value} (ha:RVs m S w args as) :
  Calls c.P g as w fun e w'=>∃ u,e = .returned u∧∃ rows' m' S',RRel t' rows'∧Inv w0 own m' S' w' rows'∧RV m' S' w' v u:=by
 intro cs
 obtain ⟨gf,h1,h2,h3,tmps,todo,h4,hfr⟩:=enterA_rel hc hen ha
 have hsim:SimF c.P w0 own (botOf cs m w 0) g { fr:=⟨g,l,[.it (.code b)],none,[],[]⟩,stack:=[],rows } (lone (Frame.enter c.P g as .normal) cs w):=by
  refine ⟨rfl,m,S,w,tmps,todo,[],none,cs,by rw [h4],inv,hfr,.nil (cs0:=botOf cs m w 0) (botOf_start cs m w 0)⟩
 have h:=frun_sound (n:=n) hc (s:=⟨g,e,[.cd b],none,([],[]),[],t,len⟩) (SRel.of rfl he (.cons (.cd _) .nil) rfl rfl .nil ht hlen) hsim
 rw [hr] at h
 obtain ⟨rows',frR,w',m',S',u,hrr,s1,s2,s3,s4,s5,_⟩:=h
 exact ⟨.returned u,w',frR,⟨u,rfl,rows',m',S',hrr,s4,s5⟩,s1,s2.1,leaving_nil s2.2 s3⟩
theorem does_of_frun {c:Cfg} (hc:COK c) {g:FuncId} {args:List V} {rows:Rows} {e:Tr V} {b:Code} {l:List V} {n len:Nat} {v:V} {t t':Tr (Option Row)}
  (hen:enterA c g args = some ⟨g,l,[.it (.code b)],none,[],[]⟩) (he:ERel e l) (ht:RRel t rows) (hlen:rows.length ≤ len) {len':Nat} (hr:frun c n ⟨g,e,[.cd b],none,([],[]),[],t,len⟩ = .done v t' len') (k:Nat) :
  Does c.P g k args rows (fun x y=>x = v∧RRel t' y):=by
 intro w0 own m S w as inv ha cs
 obtain ⟨gf,h1,h2,h3,tmps,todo,h4,hfr⟩:=enterA_rel hc hen ha
 have hsim:SimF c.P w0 own (botOf cs m w k) g { fr:=⟨g,l,[.it (.code b)],none,[],[]⟩,stack:=[],rows } (lone (Frame.enter c.P g as .normal) cs w):=by
  refine ⟨rfl,m,S,w,tmps,todo,[],none,cs,by rw [h4],inv,hfr,.nil (cs0:=botOf cs m w k) (botOf_start cs m w k)⟩
 have h:=frun_sound (n:=n) hc (s:=⟨g,e,[.cd b],none,([],[]),[],t,len⟩) (SRel.of rfl he (.cons (.cd _) .nil) rfl rfl .nil ht hlen) hsim
 rw [hr] at h
 obtain ⟨rows',frR,w',m',S',u,hrr,s1,s2,s3,s4,s5,s6⟩:=h
 exact ⟨.returned u,w',frR,⟨u,v,rows',rfl,⟨rfl,hrr⟩,m',S',s4,s5,s6.1,s6.2⟩,s1,s2.1,leaving_nil s2.2 s3⟩
theorem ofRows_get:∀ (rows:Rows) (i:Nat) (t:Tr (Option Row)) (r:Nat),rget (ofRows rows i t) r = if i ≤ r∧r < i + rows.length then (match liveAt rows (r - i) with | some row=>some row | none=>rget t r) else rget t r
 | [],i,t,r=>by
  simp only [ofRows,List.length_nil]
  rw [if_neg (by omega)]
 | x :: l,i,t,r=>by
  have step:∀ (t2:Tr (Option Row)),(∀ m,m ≠ i→rget t2 m = rget t m)→rget t2 i = (match slotRow x with | some row=>some row | none=>rget t i) →
    rget (ofRows l (i + 1) t2) r = if i ≤ r∧r < i + (l.length + 1) then (match liveAt (x :: l) (r - i) with | some row=>some row | none=>rget t r) else rget t r:=by
   intro t2 ho hi
   rw [ofRows_get l (i + 1) t2 r]
   by_cases hri:r = i
   ·subst hri
    rw [if_neg (by omega),if_pos (by omega),hi,Nat.sub_self]
    rw [liveAt_eq]; simp
   ·rw [ho r hri]
    by_cases h:i ≤ r∧r < i + (l.length + 1)
    ·rw [if_pos (by omega),if_pos h]
     have:r - i = (r - (i + 1)) + 1:=by omega
     rw [this,liveAt_eq,liveAt_eq,List.getElem?_cons_succ]
    ·rw [if_neg (by omega),if_neg h]
  rw [List.length_cons]
  cases x with
  | live row =>
   obtain ⟨t2,e1,e2⟩:=rput_spec (t:=t) (r:=i) (x:=some row)
   simp only [ofRows]
   rw [e1]
   exact step t2 (fun m hm=>by rw [e2,if_neg hm]) (by rw [e2,if_pos rfl]; rfl)
  | free=>exact step t (fun _ _=>rfl) rfl
  | dead=>exact step t (fun _ _=>rfl) rfl
theorem ofRows_rel (rows:Rows):RRel (ofRows rows 0 .lf) rows:=by
 intro r
 rw [ofRows_get]
 have hn:rget (Tr.lf:Tr (Option Row)) r = none:=rfl
 by_cases h:0 ≤ r∧r < 0 + rows.length
 ·rw [if_pos h,Nat.sub_zero,hn]
  cases liveAt rows r <;> rfl
 ·rw [if_neg h,hn]
  cases hl:liveAt rows r with
  | none=>rfl
  | some row=>exact absurd (liveAt_lt hl) (by omega)
theorem fcfg_P (b:Base) (n:Nat):(b.fcfg n).P = b.P:=by cases n <;> rfl
theorem fcfg_ok {b:Base} (hb:BOK b):∀ n,COK (b.fcfg n)
 | 0=>⟨hb.T,hb.F,hb.tab,fun g args rows v rows2 h=>(by cases h),hb.rc,hb.mixed⟩
 | n + 1=>by
  have ih:=fcfg_ok hb n
  refine ⟨hb.T,hb.F,fun g args rows v h w0 own m S w vs inv hro hargs=>?_,fun g args rows v rows2 h=>?_,hb.rc,hb.mixed⟩
  ·simp only [Base.fcfg] at h
   split at h
   ·rename_i v1 ht
    cases h
    exact hb.tab g args rows v ht w0 own m S w vs inv hro hargs
   split at h
   ·cases h
   rcases fenter_rel (b.fcfg n) g args with he | ⟨e,cd,l,h1,h2,h3⟩
   ·rw [he] at h; cases h
   ·rw [h1] at h
    split at h
    ·rename_i v' t' n' hrun
     have hcalls:=calls_of_frun ih h2 h3 (ofRows_rel rows) (Nat.le_refl _) hrun (inv.rebase hro) hargs
     rw [fcfg_P] at hcalls
     refine hcalls.mono fun e w' ⟨u,he,rows',m',S',hrr,i1,r1⟩=>⟨u,he,?_⟩
     have hg:rget t' = liveAt rows':=funext hrr
     rw [hg] at h
     obtain ⟨S2,rows2,i2,r2⟩:=convV_sound i1 h r1
     refine ⟨S2,fun c hc=>i2.stb c hc,fun c hc=>?_,r2,fun c hc=>i2.kept c hc (fun h=>h),i2.grow,i2.os,i2.tape,i2.output⟩
     rcases i2.base c hc with h1 | h1 | h1
     ·exact .inl h1
     ·exact .inr ⟨h1,i2.sbnd c hc⟩
     ·exact h1.elim
    ·cases h
  ·simp only [Base.fcfg] at h
   split at h
   ·rcases fenter_rel (b.fcfg n) g args with he | ⟨e,cd,l,h1,h2,h3⟩
    ·rw [he] at h; cases h
    ·rw [h1] at h
     split at h
     ·rename_i v' t' n' hrun
      have hd:=does_of_frun ih h2 h3 (ofRows_rel rows) (Nat.le_refl _) hrun rows.length
      rw [fcfg_P] at hd
      exact wcNorm_does (lk:=rget t') (v:=v') (fun w0 own m S w vs inv ha=>(hd w0 own m S w vs inv ha).mono fun e w' ⟨u,x,y,h1,⟨h2,h3⟩,h4⟩=>⟨u,x,y,h1,⟨h2,(funext h3).symm⟩,h4⟩) h
     ·cases h
   ·cases h
end Go.Aev
