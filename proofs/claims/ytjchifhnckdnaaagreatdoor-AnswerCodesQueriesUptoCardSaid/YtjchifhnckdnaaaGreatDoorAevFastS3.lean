/- Lemmas for the statements of this seat: an abstract machine that the model follows, and contracts of functions. Conditions: none. -/
import Derived.Test.YtjchifhnckdnaaaGreatDoorAevFastS2
set_option linter.unusedVariables false
set_option linter.unusedSimpArgs false
set_option linter.unusedSectionVars false
namespace Go.Aev
variable [Glob]
def slotRow:Slot→Option Row
 | .live row=>some row
 | _=>none
theorem liveAt_eq (rows:Rows) (r:Nat):liveAt rows r = (rows[r]?).bind slotRow:=by
 unfold liveAt
 cases h:rows[r]? with
 | none=>rfl
 | some s=>cases s <;> rfl
theorem liveAt_lt {rows:Rows} {r:Nat} {row:Row} (h:liveAt rows r = some row):r < rows.length:=by
 rw [liveAt_eq] at h
 cases hr:rows[r]? with
 | none=>rw [hr] at h; cases h
 | some s=>exact lt_of_get hr
theorem liveAt_set {rows:Rows} {r:Nat} (x:Slot) (h:r < rows.length) (j:Nat):liveAt (rows.set r x) j = if j = r then slotRow x else liveAt rows j:=by
 rw [liveAt_eq,liveAt_eq,List.getElem?_set]
 by_cases hj:j = r
 ·subst hj; simp [h]
 ·have:¬ r = j:=fun e=>hj e.symm
  simp [hj,this]
theorem liveAt_snoc (rows:Rows) (x:Slot) (j:Nat):liveAt (rows ++ [x]) j = if j = rows.length then slotRow x else liveAt rows j:=by
 rw [liveAt_eq,liveAt_eq]
 rcases Nat.lt_trichotomy j rows.length with h | h | h
 ·rw [List.getElem?_append_left h,if_neg (by omega)]
 ·subst h; simp
 ·rw [List.getElem?_eq_none (by simp; omega),if_neg (by omega),List.getElem?_eq_none (by omega)]
theorem liveAt_frees (rows:Rows) (n j:Nat):liveAt (rows ++ List.replicate n Slot.free) j = liveAt rows j:=by
 rw [liveAt_eq,liveAt_eq]
 rcases Nat.lt_or_ge j rows.length with h | h
 ·rw [List.getElem?_append_left h]
 ·rw [List.getElem?_append_right h,List.getElem?_eq_none h,List.getElem?_replicate]
  split <;> rfl
theorem setSlot_lt {rows:Rows} {r:Nat} (x:Slot) (h:r < rows.length):setSlot rows r x = rows.set r x:=by unfold setSlot; rw [if_pos h]
theorem applyUps_set {us:List (Nat × Slot)}:∀ {rows:Rows},(∀ u ∈ us,u.1 < rows.length)→applyUps us rows = setRows us rows:=by
 induction us with
 | nil=>intro rows _; rfl
 | cons u us ih =>
  intro rows h
  show applyUps us (setSlot rows u.1 u.2) = setRows us (rows.set u.1 u.2)
  rw [setSlot_lt _ (h u (by simp)),ih (fun v hv=>by rw [List.length_set]; exact h v (by simp [hv]))]
theorem fups_rel {us:List (Nat × Slot)}:∀ {t:Tr (Option Row)} {rows:Rows},RRel t rows→(∀ u ∈ us,u.1 < rows.length) →
  ∃ t',(∀ (β:Type) (k:Tr (Option Row)→β),fups us t k = k t')∧RRel t' (setRows us rows):=by
 induction us with
 | nil=>intro t rows h _; exact ⟨t,fun _ _=>rfl,h⟩
 | cons u us ih =>
  intro t rows h hu
  obtain ⟨t1,h1,h2⟩:=rput_spec (t:=t) (r:=u.1) (x:=slotRow u.2)
  have hr:RRel t1 (rows.set u.1 u.2):=fun r=>by rw [h2,liveAt_set _ (hu u (by simp)),h r]
  obtain ⟨t2,h3,h4⟩:=ih hr (fun v hv=>by rw [List.length_set]; exact hu v (by simp [hv]))
  refine ⟨t2,fun β k=>?_,h4⟩
  show rput t u.1 (match u.2 with | .live row=>some row | _=>none) (fun t=>fups us t k) = k t2
  have e:(match u.2 with | .live row=>some row | _=>none) = slotRow u.2:=by cases u.2 <;> rfl
  rw [e,h1,h3]
theorem freachStep_eq {t:Tr (Option Row)} {rows:Rows} (h:RRel t rows) (rs:List Nat):freachStep t rs = reachStep rows rs:=by
 unfold freachStep reachStep
 have:rget t = liveAt rows:=funext h
 rw [this]
theorem freach_eq {t:Tr (Option Row)} {rows:Rows} (h:RRel t rows) (vs:List V):freach t vs = reach rows vs:=by
 unfold freach reach
 rw [freachStep_eq h,freachStep_eq h,freachStep_eq h]
theorem ffrozen_eq {t:Tr (Option Row)} {rows:Rows} (h:RRel t rows):∀ (rs:List Nat),ffrozen t rs = frozenUps rows rs
 | []=>rfl
 | r :: rs=>by
  simp only [ffrozen,frozenUps,h r,ffrozen_eq h rs]
  cases liveAt rows r <;> rfl
theorem fcallRC_eq {t:Tr (Option Row)} {rows:Rows} (h:RRel t rows) (c:Cfg) (g:FuncId) (args:List V):fcallRC c g args t = callRC c g args rows:=by
 unfold fcallRC callRC
 have:rget t = liveAt rows:=funext h
 simp only [freach_eq h,this,ffrozen_eq h]
 rfl
theorem fcallX_eq {t:Tr (Option Row)} {rows:Rows} (h:RRel t rows) (c:Cfg) (slot:Nat) (g:FuncId) (args:List V):fcallX c slot g args t = callX c slot g args rows:=by
 unfold fcallX callX
 have:rget t = liveAt rows:=funext h
 rw [fcallRC_eq h,freach_eq h,this]
 cases callRC c g args rows <;> rfl
inductive OpsRel (ops:Array Oper):List FOp→List Nat→Prop
 | nil:OpsRel ops [] []
 | cons {i:Nat} {o:Oper} {l:List FOp} {r:List Nat} (h:ops[i]? = some o) (t:OpsRel ops l r):OpsRel ops (cop ops o :: l) (i :: r)
inductive IRel:FItem→AItem→Prop
 | cd (c):IRel (.cd c) (.it (.code c))
 | blk (id):IRel (.blk id) (.it (.inBlock id))
 | lp (c):IRel (.lp c) (.it (.inLoop c))
 | sc (c):IRel (.sc c) (.it (.inScope c))
 | ops {os:Array Oper} {l r} (h:OpsRel os l r):IRel (.ops l) (.it (.inRegion os r))
 | rf (r):IRel (.rf r) (.rf r)
 | bg:IRel .bg (.it .beginRound)
inductive TRel:List FItem→List AItem→Prop
 | nil:TRel [] []
 | cons {i j k l} (h:IRel i j) (t:TRel k l):TRel (i :: k) (j :: l)
structure GRel (f:FF) (a:AF):Prop where
 fn:f.fn = a.fn
 env:ERel f.env a.env
 todo:TRel f.todo a.todo
 round:f.round = a.round
 marks:f.marks = (a.marks,a.dcl)
inductive KRel:List FF→List AF→Prop
 | nil:KRel [] []
 | cons {f a k l} (h:GRel f a) (t:KRel k l):KRel (f :: k) (a :: l)
def FSt.top (s:FSt):FF:=⟨s.fn,s.env,s.todo,s.round,s.marks⟩
structure SRel (s:FSt) (a:AS):Prop where
 top:GRel s.top a.fr
 stack:KRel s.stack a.stack
 rows:RRel s.rows a.rows
 len:a.rows.length ≤ s.len
def ORel (o:FOut) (o':Out):Prop :=
 match o with
 | .next s=>∃ a,o' = .next a∧SRel s a
 | .done v t _=>∃ rows,o' = .done v rows∧RRel t rows
 | .fail=>True
theorem fexitTo_rel {id:Nat}:∀ {k:List FItem} {l:List AItem},TRel k l→(fexitTo id k = none∧aExitTo id l = none) ∨ ∃ k' l',fexitTo id k = some k'∧aExitTo id l = some l'∧TRel k' l'
 | _,_,.nil=>.inl ⟨rfl,rfl⟩
 | _,_,.cons h t=>by
  cases h with
  | blk id' =>
   simp only [fexitTo,aExitTo]
   split
   ·exact .inr ⟨_,_,rfl,rfl,t⟩
   ·exact fexitTo_rel t
  | cd=>simp only [fexitTo,aExitTo]; exact fexitTo_rel t
  | lp=>simp only [fexitTo,aExitTo]; exact fexitTo_rel t
  | sc=>simp only [fexitTo,aExitTo]; exact fexitTo_rel t
  | ops=>simp only [fexitTo,aExitTo]; exact fexitTo_rel t
  | rf=>simp only [fexitTo,aExitTo]; exact fexitTo_rel t
  | bg=>simp only [fexitTo,aExitTo]; exact fexitTo_rel t
theorem fgotoIn_rel {id:Nat}:∀ {k:List FItem} {l:List AItem},TRel k l→(fgotoIn id k = none∧aGotoIn id l = none) ∨ ∃ k' l',fgotoIn id k = some k'∧aGotoIn id l = some l'∧TRel k' l'
 | _,_,.nil=>.inl ⟨rfl,rfl⟩
 | _,_,.cons h t=>by
  cases h with
  | sc b =>
   simp only [fgotoIn,aGotoIn]
   cases findLabel b id with
   | some rest=>exact .inr ⟨_,_,rfl,rfl,.cons (.cd _) (.cons (.sc _) t)⟩
   | none=>exact fgotoIn_rel t
  | cd=>simp only [fgotoIn,aGotoIn]; exact fgotoIn_rel t
  | lp=>simp only [fgotoIn,aGotoIn]; exact fgotoIn_rel t
  | blk=>simp only [fgotoIn,aGotoIn]; exact fgotoIn_rel t
  | ops=>simp only [fgotoIn,aGotoIn]; exact fgotoIn_rel t
  | rf=>simp only [fgotoIn,aGotoIn]; exact fgotoIn_rel t
  | bg=>simp only [fgotoIn,aGotoIn]; exact fgotoIn_rel t
theorem TRel.append {a b:List FItem} {c d:List AItem} (h:TRel a c) (k:TRel b d):TRel (a ++ b) (c ++ d):=by
 induction h with
 | nil=>exact k
 | cons h _ ih=>exact .cons h ih
theorem ffinish_rel {fr:FF} {a:AF} {v:V} {t:Tr (Option Row)} {rows:Rows} {st:List FF} {stk:List AF} {n:Nat} (hf:GRel fr a) (hk:KRel st stk) (hr:RRel t rows) (hn:rows.length ≤ n) :
  ORel (ffinish fr v t st n) (match finishA a v rows with | some (fr,rows)=>.next { fr,stack:=stk,rows } | none=>.fail):=by
 obtain ⟨h1,h2,h3,h4,h5⟩:=hf
 unfold ffinish
 cases ht:fr.todo with
 | nil=>trivial
 | cons i k =>
  rw [ht] at h3
  cases hi:a.todo with
  | nil=>rw [hi] at h3; cases h3
  | cons j l =>
   rw [hi] at h3
   cases h3 with
   | cons hij htl =>
    cases hij with
    | ops ho =>
     cases ho with
     | nil=>trivial
     | cons hop hot =>
      rename_i os ix o fl r
      obtain ⟨e',he,hr'⟩:=putE_rel h2 (cop os o).dst v
      simp only [he]
      refine ⟨⟨{ a with env:=setTmp a.env o.dst v,todo:=.it (.inRegion os r) :: l },stk,rows⟩,?_,⟨⟨h1,hr',.cons (.ops hot) htl,h4,h5⟩,hk,hr,hn⟩⟩
      simp only [finishA,hi,hop]
    | rf r =>
     simp only
     cases hl:rget t r with
     | none=>trivial
     | some row =>
      have hl':liveAt rows r = some row:=by rw [← hr r]; exact hl
      cases row with
      | loop ls pend fn env ps as bd d =>
       simp only
       cases ls with
       | busy=>trivial
       | ready | done | exhausted =>
        obtain ⟨t',e1,e2⟩:=rput_spec (t:=t) (r:=r) (x:=some (.loop .exhausted pend fn env ps as bd d))
        simp only [e1]
        have hlt:=liveAt_lt hl'
        refine ⟨⟨{ a with todo:=(pend.map fun c=>AItem.it (.code c)).toList ++ l },stk,setSlot rows r (.live (.loop .exhausted pend fn env ps as bd d))⟩,?_,⟨⟨h1,h2,?_,h4,h5⟩,hk,fun j=>?_,?_⟩⟩
        ·simp only [finishA,hi,hl']
        ·cases pend with
         | none=>exact htl
         | some c=>exact .cons (.cd c) htl
        ·rw [e2,setSlot_lt _ hlt,liveAt_set _ hlt,hr j]; rfl
        ·show (setSlot rows r _).length ≤ n
         rw [setSlot_lt _ hlt,List.length_set]; exact hn
      | _=>trivial
    | _=>trivial
theorem fpop_rel {st:List FF} {stk:List AF} {v:V} {t:Tr (Option Row)} {rows:Rows} {n:Nat} (hk:KRel st stk) (hr:RRel t rows) (hn:rows.length ≤ n):ORel (fpop st v t n) (popA stk v rows):=by
 cases hk with
 | nil=>exact ⟨rows,rfl,hr⟩
 | cons h tl=>exact ffinish_rel h tl hr hn
theorem fkill_rel {k:Tr (Option Row)→FOut}:∀ {mk:List Nat} {t:Tr (Option Row)} {rows:Rows},RRel t rows→fkill mk t k = .fail ∨ ∃ t' rows',fkill mk t k = k t'∧killMarks mk rows = some rows'∧RRel t' rows'∧rows'.length = rows.length
 | [],t,rows,h=>.inr ⟨t,rows,rfl,rfl,h,rfl⟩
 | r :: mk,t,rows,h=>by
  simp only [fkill,killMarks]
  cases hl:rget t r with
  | none=>exact .inl rfl
  | some row =>
   have hl':liveAt rows r = some row:=by rw [← h r]; exact hl
   have hlt:=liveAt_lt hl'
   rw [hl']
   cases row with
   | dfr =>
    simp only
    obtain ⟨t1,e1,e2⟩:=rput_spec (t:=t) (r:=r) (x:=none)
    rw [e1,setSlot_lt _ hlt]
    have hr1:RRel t1 (rows.set r .dead):=fun j=>by rw [e2,liveAt_set _ hlt,h j]; rfl
    rcases fkill_rel (mk:=mk) hr1 with h1 | ⟨t',rows',h1,h2,h3,h4⟩
    ·exact .inl h1
    ·exact .inr ⟨t',rows',h1,h2,h3,by rw [h4,List.length_set]⟩
   | _=>exact .inl rfl
theorem dRun_lt {c:Cfg} {g:Nat→Option Row} {f:FuncId} {args:List V} {us:List (Nat × Slot)} (h:dRun c g f args = some us):∀ u ∈ us,(g u.1).isSome = true:=by
 have hops:∀ {T:TypeId→Option Ty} {ops:Array Oper} {l:List Nat} {s s':DSt},dOps T g ops l s = some s'→(∀ u ∈ s.ups,(g u.1).isSome = true)→∀ u ∈ s'.ups,(g u.1).isSome = true:=by
  intro T ops l
  induction l with
  | nil=>intro s s' h hu; simp only [dOps,Option.some.injEq] at h; subst h; exact hu
  | cons i l ih =>
   intro s s' h hu
   simp only [dOps] at h
   split at h
   ·rename_i o ho
    split at h
    ·rename_i s1 h1
     refine ih h ?_
     unfold dOp at h1
     split at h1
     ·cases h1
     ·cases h1; exact hu
     ·split at h1
      ·cases h1; exact hu
      ·split at h1
       ·cases h1
       ·split at h1
        ·split at h1
         ·split at h1
          ·rename_i hall
           cases h1
           intro u hm
           rcases List.mem_append.1 hm with hm | hm
           ·exact hu u hm
           ·exact (List.all_eq_true.1 hall) u hm
          ·cases h1
         ·cases h1
        ·cases h1
    ·cases h
   ·cases h
 have hcode:∀ {T:TypeId→Option Ty} (cd:Code) {s s':DSt} {ex:DEx},dCode T g cd s = some (ex,s')→(∀ u ∈ s.ups,(g u.1).isSome = true)→∀ u ∈ s'.ups,(g u.1).isSome = true:=by
  intro T cd
  induction cd with
  | skip=>intro s s' ex h hu; simp only [dCode,Option.some.injEq,Prod.mk.injEq] at h; obtain ⟨_,rfl⟩:=h; exact hu
  | ret=>intro s s' ex h hu; simp only [dCode,Option.some.injEq,Prod.mk.injEq] at h; obtain ⟨_,rfl⟩:=h; exact hu
  | exit id=>intro s s' ex h hu; simp only [dCode,Option.some.injEq,Prod.mk.injEq] at h; obtain ⟨_,rfl⟩:=h; exact hu
  | seq x y ihx ihy =>
   intro s s' ex h hu
   simp only [dCode] at h
   cases hx:dCode T g x s with
   | none=>rw [hx] at h; cases h
   | some p =>
    obtain ⟨e1,s1⟩:=p
    rw [hx] at h
    have h1:=ihx hx hu
    cases e1 with
    | normal=>exact ihy h h1
    | ret=>simp only [Option.some.injEq,Prod.mk.injEq] at h; obtain ⟨_,rfl⟩:=h; exact h1
    | exit id=>simp only [Option.some.injEq,Prod.mk.injEq] at h; obtain ⟨_,rfl⟩:=h; exact h1
  | cond o x y ihx ihy =>
   intro s s' ex h hu
   simp only [dCode] at h
   split at h
   ·exact ihx h hu
   ·exact ihy h hu
   ·cases h
  | block id b ih =>
   intro s s' ex h hu
   simp only [dCode] at h
   cases hx:dCode T g b s with
   | none=>rw [hx] at h; cases h
   | some p =>
    obtain ⟨e1,s1⟩:=p
    rw [hx] at h
    have h1:=ih hx hu
    cases e1 with
    | normal=>simp only [Option.some.injEq,Prod.mk.injEq] at h; obtain ⟨_,rfl⟩:=h; exact h1
    | ret=>simp only [Option.some.injEq,Prod.mk.injEq] at h; obtain ⟨_,rfl⟩:=h; exact h1
    | exit id' =>
     simp only at h
     split at h
     ·simp only [Option.some.injEq,Prod.mk.injEq] at h; obtain ⟨_,rfl⟩:=h; exact h1
     ·cases h
  | region id ops draw =>
   intro s s' ex h hu
   cases draw with
   | true=>simp only [dCode] at h; cases h
   | false =>
    simp only [dCode] at h
    split at h
    ·rename_i s1 h1
     simp only [Option.some.injEq,Prod.mk.injEq] at h; obtain ⟨_,rfl⟩:=h
     exact hops h1 hu
    ·cases h
  | _=>intro s s' ex h; simp only [dCode] at h; cases h
 unfold dRun at h
 split at h
 ·split at h
  ·split at h
   ·split at h
    ·rename_i s hs; cases h; exact hcode _ hs (fun u hu=>by cases hu)
    ·rename_i s hs; cases h; exact hcode _ hs (fun u hu=>by cases hu)
    ·cases h
   ·cases h
  ·cases h
 ·cases h
theorem fdruns_rel {c:Cfg} {k:Tr (Option Row)→FOut}:∀ {l:List (FuncId × List V)} {t:Tr (Option Row)} {rows:Rows},RRel t rows→fdruns c l t k = .fail ∨ ∃ t' rows',fdruns c l t k = k t'∧dRuns c l rows = some rows'∧RRel t' rows'∧rows'.length = rows.length
 | [],t,rows,h=>.inr ⟨t,rows,rfl,rfl,h,rfl⟩
 | d :: l,t,rows,h=>by
  have hg:rget t = liveAt rows:=funext h
  simp only [fdruns,dRuns,hg]
  cases hd:dRun c (liveAt rows) d.1 d.2 with
  | none=>exact .inl rfl
  | some us =>
   simp only
   obtain ⟨t1,e1,e2⟩:=fups_rel (us:=us) h (fun u hu=>by
    have:=dRun_lt hd u hu
    obtain ⟨row,hr⟩:=Option.isSome_iff_exists.1 this
    exact liveAt_lt hr)
   rw [e1]
   rcases fdruns_rel (l:=l) (k:=k) e2 with h1 | ⟨t',rows',h1,h2,h3,h4⟩
   ·exact .inl h1
   ·exact .inr ⟨t',rows',h1,h2,h3,by rw [h4,setRows_len]⟩
theorem fresults_rel {T:TypeId→Option Ty} {t:Tr (Option Row)} {rows:Rows} {e:Tr V} {l:List V} (hr:RRel t rows) (he:ERel e l):∀ (xs:List ResultVar),fresults T t e xs = resultsA T rows l xs
 | []=>rfl
 | .tmp x :: r=>by
  simp only [fresults,resultsA,fresults_rel hr he r,he x,List.getD_eq_getElem?_getD]
  cases known (l[x]?.getD V.undef) <;> cases resultsA T rows l r <;> rfl
 | .cell a y :: r=>by
  have:rget t = liveAt rows:=funext hr
  simp only [fresults,resultsA,fresults_rel hr he r,he a,List.getD_eq_getElem?_getD,this]
  cases (known (l[a]?.getD V.undef)).bind (loadA T (liveAt rows) y) <;> cases resultsA T rows l r <;> rfl
theorem fleave_rel {c:Cfg} {s:AS} {fn:FuncId} {e:Tr V} {ro:Option Nat} {mk:Mks} {st:List FF} {t:Tr (Option Row)} {n:Nat} {jump:Option Code} (hfn:fn = s.fr.fn) (he:ERel e s.fr.env) (hro:ro = s.fr.round)
  (hmk:mk = (s.fr.marks,s.fr.dcl)) (hk:KRel st s.stack) (hr:RRel t s.rows) (hn:s.rows.length ≤ n):ORel (fleave c fn e ro mk st t n jump) (leaveA c s jump):=by
 subst hfn; subst hro; subst hmk
 unfold fleave leaveA
 have main:ORel (match c.F s.fr.fn with
   | some gf=>fkill s.fr.marks t fun t=>fdruns c s.fr.dcl t fun t=>match fresults c.T t e gf.results.toList with
    | some vs=>fpop st (oneOr vs) t n
    | none=>.fail
   | none=>.fail) (match c.F s.fr.fn,(killMarks s.fr.marks s.rows).bind (dRuns c s.fr.dcl) with
   | some gf,some rows=>match resultsA c.T rows s.fr.env gf.results.toList with
    | some vs=>popA s.stack (oneOr vs) rows
    | none=>.fail
   | _,_=>.fail):=by
  cases hF:c.F s.fr.fn with
  | none=>trivial
  | some gf =>
   simp only
   rcases fkill_rel (mk:=s.fr.marks) (k:=fun t=>fdruns c s.fr.dcl t fun t=>match fresults c.T t e gf.results.toList with
    | some vs=>fpop st (oneOr vs) t n
    | none=>.fail) hr with h | ⟨t',rows',h1,h2,h3,h4⟩
   ·rw [h]; trivial
   ·rw [h1,h2]
    simp only [Option.bind_some]
    rcases fdruns_rel (c:=c) (l:=s.fr.dcl) (k:=fun t=>match fresults c.T t e gf.results.toList with
     | some vs=>fpop st (oneOr vs) t n
     | none=>.fail) h3 with h | ⟨t2,rows2,g1,g2,g3,g4⟩
    ·rw [h]; trivial
    ·rw [g1,g2]
     simp only
     rw [fresults_rel g3 he]
     cases resultsA c.T rows2 s.fr.env gf.results.toList with
     | none=>trivial
     | some vs=>exact fpop_rel hk g3 (by rw [g4,h4]; exact hn)
 cases hrd:s.fr.round with
 | none =>
  simp only
  cases jump with
  | none=>exact main
  | some cd=>cases cd <;> first
   | exact main
   | trivial
 | some r =>
  simp only
  cases hl:rget t r with
  | none=>trivial
  | some row =>
   have hl':liveAt s.rows r = some row:=by rw [← hr r]; exact hl
   have hlt:=liveAt_lt hl'
   rw [hl']
   cases row with
   | loop ls pend fn env ps as bd d =>
    simp only
    generalize s.stack = stk at hk ⊢
    cases hk with
    | nil=>trivial
    | cons h tl =>
     simp only
     obtain ⟨t1,e1,e2⟩:=rput_spec (t:=t) (r:=r) (x:=some (.loop (if jump.isNone then .ready else .done) jump fn env ps as bd d))
     rw [e1]
     refine fpop_rel (.cons h tl) (fun j=>?_) ?_
     ·rw [e2,setSlot_lt _ hlt,liveAt_set _ hlt,hr j]; rfl
     ·rw [setSlot_lt _ hlt,List.length_set]; exact hn
   | _=>trivial
theorem fargs_get:∀ (l:List V) (i:Nat) (e:Tr V) (j:Nat),(fargs e i l).get j = if i ≤ j∧j < i + l.length then (e.get j).bind (fun _=>l[j - i]?) else e.get j
 | [],i,e,j=>by
  show e.get j = _
  rw [if_neg (by simp)]
 | v :: l,i,e,j=>by
  show (e.setK v i fun e=>fargs e (i + 1) l).get j = _
  rw [Tr.setK_eq,fargs_get l (i + 1),Tr.get_setK]
  simp only [List.length_cons]
  by_cases hj:j = i
  ·subst hj
   rw [if_neg (by omega),if_pos rfl,if_pos (by omega),Nat.sub_self]
   cases e.get j <;> rfl
  ·rw [if_neg hj]
   by_cases h:i ≤ j∧j < i + (l.length + 1)
   ·rw [if_pos h,if_pos (by omega)]
    have:j - i = (j - (i + 1)) + 1:=by omega
    rw [this,List.getElem?_cons_succ]
   ·rw [if_neg h,if_neg (by omega)]
theorem fargs_full {n:Nat} {l:List V} (h:l.length ≤ n):ERel (fargs (Tr.full V.undef n n 0 1) 0 l) (l ++ List.replicate (n - l.length) V.undef):=by
 intro j
 rw [fargs_get,Tr.full_get _ _ _ _ _ _ (by have:=@Nat.lt_two_pow_self n; omega) (by omega)]
 simp only [Nat.zero_add,Nat.one_mul,Nat.zero_le,true_and,Nat.sub_zero]
 rcases Nat.lt_or_ge j l.length with h1 | h1
 ·rw [if_pos h1,if_pos (by omega),List.getElem?_append_left h1]; rfl
 ·rw [if_neg (by omega),List.getElem?_append_right h1,List.getElem?_replicate]
  by_cases h2:j < n
  ·rw [if_pos h2,if_pos (by omega)]
  ·rw [if_neg h2,if_neg (by omega)]
theorem fenter_rel (c:Cfg) (g:FuncId) (args:List V):(∀ (β:Type) (fl:β) (k:Tr V→Code→β),fenter c g args fl k = fl) ∨
  ∃ e b l,(∀ (β:Type) (fl:β) (k:Tr V→Code→β),fenter c g args fl k = k e b)∧enterA c g args = some ⟨g,l,[.it (.code b)],none,[],[]⟩∧ERel e l:=by
 unfold fenter enterA
 cases c.F g with
 | none=>exact .inl fun _ _ _=>rfl
 | some gf =>
  simp only
  cases gf.body with
  | none=>exact .inl fun _ _ _=>rfl
  | some b =>
   simp only
   by_cases h:args.length ≤ gf.ntmps
   ·exact .inr ⟨_,b,_,fun _ _ _=>by rw [if_pos h],rfl,fargs_full h⟩
   ·exact .inl fun _ _ _=>by rw [if_neg h]
theorem ofL_rel (l:List V):ERel (ofL l) l:=by
 have:=fargs_full (n:=l.length) (l:=l) (Nat.le_refl _)
 simpa [ofL] using this
theorem fsets_rel:∀ {ps:List Tmp} {vs:List V} {e:Tr V} {l:List V},ERel e l→ERel (fsets e ps vs) (setEnvs l ps vs)
 | [],vs,e,l,h=>by cases vs <;> exact h
 | p :: ps,[],e,l,h=>h
 | p :: ps,v :: vs,e,l,h=>by
  simp only [fsets,setEnvs]
  obtain ⟨e',h1,h2⟩:=setK_rel h p v
  rw [h1]
  exact fsets_rel h2
theorem envL_spec {e:Tr V} {l:List V} (h:ERel e l):∀ {f i:Nat} {r:List V},envL e f i = some r→r = l.drop i
 | 0,i,r,hr=>by cases hr
 | f + 1,i,r,hr=>by
  simp only [envL,h i] at hr
  cases hl:l[i]? with
  | none =>
   rw [hl] at hr; cases hr
   rw [List.drop_eq_nil_of_le (by simpa using hl)]
  | some v =>
   rw [hl] at hr
   simp only at hr
   split at hr
   ·rename_i r' hr'
    cases hr
    rw [envL_spec h hr']
    have hi:=lt_of_get hl
    rw [List.drop_eq_getElem_cons hi]
    congr 1
    rw [List.getElem?_eq_getElem hi] at hl
    cases hl; rfl
   ·cases hr
theorem ups_lt {us:List (Nat × Slot)} {n:Nat} (h:us.all (fun u=>Nat.blt u.1 n) = true):∀ u ∈ us,u.1 < n:=fun u hu=>by
 have:=(List.all_eq_true.1 h) u hu
 simp [Nat.blt] at this
 omega
end Go.Aev
