/- Lemmas for the statements of this seat: an abstract machine that the model follows, and contracts of functions. Conditions: none. -/
import Derived.Test.YtjchifhnckdnaaaGreatDoorAevFastS3
set_option linter.unusedVariables false
set_option linter.unusedSimpArgs false
set_option linter.unusedSectionVars false
namespace Go.Aev
variable [Glob]
theorem SRel.of {fn:FuncId} {e:Tr V} {k:List FItem} {ro:Option Nat} {mk:Mks} {st:List FF} {t:Tr (Option Row)} {n:Nat} {a:AS} (h1:fn = a.fr.fn) (h2:ERel e a.fr.env) (h3:TRel k a.fr.todo) (h4:ro = a.fr.round) (h5:mk = (a.fr.marks,a.fr.dcl))
  (h6:KRel st a.stack) (h7:RRel t a.rows) (h8:a.rows.length ≤ n):SRel ⟨fn,e,k,ro,mk,st,t,n⟩ a:=⟨⟨h1,h2,h3,h4,h5⟩,h6,h7,h8⟩
theorem fcallY_rel {c:Cfg} {s:AS} {fn:FuncId} {e:Tr V} {l:List FOp} {k:List FItem} {ro:Option Nat} {mk:Mks} {st:List FF} {t:Tr (Option Row)} {n:Nat} {ops:Array Oper} {i:Nat} {rest:List Nat} {kk:List AItem} {o:Oper} {vs:List V} {r:Nat}
  (hg:GRel ⟨fn,e,.ops (cop ops o :: l) :: k,ro,mk⟩ s.fr) (hk:KRel st s.stack) (hr:RRel t s.rows) (hn:s.rows.length ≤ n) :
  ORel (fcallY fn e l k ro mk st t n (cop ops o) vs r) (match liveAt s.rows r with
     | some (.loop _ _ fn env ps as bd _) =>
      if ps.length = vs.length then
       .next { fr:={ fn,env:=setEnvs env ps vs,todo:=[.it (.code as),.it .beginRound,.it (.code bd)],round:=some r,marks:=[] },stack:=s.fr :: s.stack,rows:=s.rows }
      else .fail
     | _=>.fail):=by
 unfold fcallY
 rw [hr r]
 cases liveAt s.rows r with
 | none=>trivial
 | some row =>
  cases row with
  | loop ls pend fn' env ps as bd d =>
   simp only
   by_cases h:ps.length = vs.length
   ·rw [if_pos h,if_pos h]
    refine ⟨_,rfl,SRel.of rfl (fsets_rel (ofL_rel env)) (.cons (.cd _) (.cons .bg (.cons (.cd _) .nil))) rfl rfl (.cons hg hk) hr hn⟩
   ·rw [if_neg h]; trivial
  | _=>trivial
theorem fopR_rel {s:AS} {fn:FuncId} {e:Tr V} {l:List FOp} {k:List FItem} {ro:Option Nat} {mk:Mks} {st:List FF} {t:Tr (Option Row)} {n:Nat} {ops:Array Oper} {rest:List Nat} {kk:List AItem} {o:Oper} (res:Res)
  (hg:GRel ⟨fn,e,.ops (cop ops o :: l) :: k,ro,mk⟩ s.fr) (hl:OpsRel ops l rest) (htl:TRel k kk) (hk:KRel st s.stack) (hr:RRel t s.rows) (hn:s.rows.length = n) :
  ORel (fopR fn e l k ro mk st t n (cop ops o).dst res) (.next { s with fr:={ s.fr with env:=setTmp s.fr.env o.dst res.v,todo:=.it (.inRegion ops rest) :: kk },rows:=applyRes n res s.rows }):=by
 have he:=hg.env
 obtain ⟨v,ups,fr⟩:=res
 simp only
 show ORel (Bool.rec (motive:=fun _=>FOut) .fail (fups ups t fun t=>Option.rec (motive:=fun _=>FOut)
  (putE e (cop ops o).dst v fun e=>.next ⟨fn,e,.ops l :: k,ro,mk,st,t,n⟩)
  (fun row=>rput t n (some row) fun t=>putE e (cop ops o).dst v fun e=>.next ⟨fn,e,.ops l :: k,ro,mk,st,t,Nat.succ n⟩) fr) (ups.all (fun u=>Nat.blt u.1 n))) _
 cases hu:ups.all (fun u=>Nat.blt u.1 n) with
 | false=>trivial
 | true =>
  simp only
  have hul:∀ u ∈ ups,u.1 < s.rows.length:=fun u h=>by rw [hn]; exact ups_lt hu u h
  obtain ⟨t',e1,e2⟩:=fups_rel hr hul
  obtain ⟨e',e3,e4⟩:=putE_rel he (cop ops o).dst v
  rw [e1]
  cases fr with
  | none =>
   simp only
   rw [e3]
   refine ⟨_,rfl,SRel.of hg.fn e4 (.cons (.ops hl) htl) hg.round hg.marks hk ?_ ?_⟩
   ·show RRel t' (applyUps ups s.rows)
    rw [applyUps_set hul]; exact e2
   ·show (applyUps ups s.rows).length ≤ n
    rw [applyUps_set hul,setRows_len,hn]; exact Nat.le_refl _
  | some row =>
   simp only
   obtain ⟨t2,e5,e6⟩:=rput_spec (t:=t') (r:=n) (x:=some row)
   rw [e5,e3]
   have hend:setSlot (applyUps ups s.rows) n (.live row) = setRows ups s.rows ++ [.live row]:=by
    rw [applyUps_set hul,← hn,← setRows_len ups s.rows,setSlot_end]
   refine ⟨_,rfl,SRel.of hg.fn e4 (.cons (.ops hl) htl) hg.round hg.marks hk ?_ ?_⟩
   ·show RRel t2 (setSlot (applyUps ups s.rows) n (.live row))
    rw [hend]
    intro j
    rw [e6,liveAt_snoc,setRows_len,hn,e2 j]; rfl
   ·show (setSlot (applyUps ups s.rows) n (.live row)).length ≤ n + 1
    rw [hend]; simp [setRows_len,hn]
theorem fcallF_rel {c : Cfg} {s : AS} {fn : FuncId} {e : Tr V} {l : List FOp} {k : List FItem} {ro : Option Nat} {mk : Mks} {st : List FF} {t : Tr (Option Row)} {n : Nat} {ops : Array Oper} {i : Nat} {rest : List Nat} {kk : List AItem} {o : Oper} {g : FuncId} {as : List V}
    (hg : GRel ⟨fn, e, .ops (cop ops o :: l) :: k, ro, mk⟩ s.fr) (hl : OpsRel ops l rest) (htl : TRel k kk) (hk : KRel st s.stack) (hr : RRel t s.rows) (hn : s.rows.length = n) :
    ORel (fcallF c fn e l k ro mk st t n (cop ops o) g as) (if c.po g && c.rc g then
              match callX c s.rows.length g as s.rows with
              | some res => .next { s with fr := { s.fr with env := setTmp s.fr.env o.dst res.v, todo := .it (.inRegion ops rest) :: kk }, rows := applyRes s.rows.length res s.rows }
              | none => .fail
            else match enterA c g as with
              | some fr => .next { fr, stack := s.fr :: s.stack, rows := s.rows }
              | none => .fail) := by
  unfold fcallF
  by_cases hc : (c.po g && c.rc g) = true
  · rw [if_pos hc, if_pos hc, fcallX_eq hr, hn]
    cases callX c n g as s.rows with
    | none => trivial
    | some res =>
      simp only
      exact fopR_rel res hg hl htl hk hr hn
  · rw [if_neg hc, if_neg hc]
    rcases fenter_rel c g as with h | ⟨e', b, l', h1, h2, h3⟩
    · rw [h]; trivial
    · rw [h1, h2]
      exact ⟨_, rfl, SRel.of rfl h3 (.cons (.cd _) .nil) rfl rfl (.cons hg hk) hr (by rw [hn]; exact Nat.le_refl _)⟩
theorem fopN_rel {c : Cfg} {s : AS} {fn : FuncId} {e : Tr V} {l : List FOp} {k : List FItem} {ro : Option Nat} {mk : Mks} {st : List FF} {t : Tr (Option Row)} {n : Nat} {ops : Array Oper} {i : Nat} {rest : List Nat} {kk : List AItem} {o : Oper} {vs : List V}
    (ho : ops[i]? = some o) (hg : GRel ⟨fn, e, .ops (cop ops o :: l) :: k, ro, mk⟩ s.fr) (hl : OpsRel ops l rest) (htl : TRel k kk) (hk : KRel st s.stack) (hr : RRel t s.rows) (hn : s.rows.length = n) :
    ORel (fopN c fn e l k ro mk st t n (cop ops o) o.op vs) (match lenMapA c.T (liveAt s.rows) o.op vs with
            | some v => .next { s with fr := { s.fr with env := setTmp s.fr.env o.dst v, todo := .it (.inRegion ops rest) :: kk } }
            | none => match o.op with
              | .defer _ => deferA s o (.it (.inRegion ops rest) :: kk)
              | _ => invokeA c s o.op vs) := by
  have he := hg.env
  have hgr : rget t = liveAt s.rows := funext hr
  have hle : s.rows.length ≤ n := by rw [hn]; exact Nat.le_refl _
  unfold fopN
  rw [hgr]
  cases lenMapA c.T (liveAt s.rows) o.op vs with
  | some v =>
    simp only
    obtain ⟨e', e3, e4⟩ := putE_rel he (cop ops o).dst v
    rw [e3]
    exact ⟨_, rfl, SRel.of hg.fn e4 (.cons (.ops hl) htl) hg.round hg.marks hk hr hle⟩
  | none =>
    simp only
    cases hop : o.op with
    | defer dc =>
      simp only
      unfold deferA
      rw [hop]
      obtain ⟨cl, as, ats⟩ := dc
      cases cl with
      | value f =>
        simp only
        rw [fev_spec he]
        cases evalO s.fr.env f with
        | none => trivial
        | some fv =>
          simp only
          rw [fevs_spec he]
          cases evalOs s.fr.env as.toList with
          | none => trivial
          | some vs' =>
            simp only
            cases fnArgs fv vs' with
            | none => trivial
            | some ga =>
              simp only
              have hro := hg.round
              have hmk := hg.marks
              simp only at hro hmk
              rw [hro, hmk]
              simp only
              split
              · obtain ⟨e', e3, e4⟩ := putE_rel he (cop ops o).dst V.undef
                rw [e3]
                exact ⟨_, rfl, SRel.of hg.fn e4 (.cons (.ops hl) htl) rfl rfl hk hr hle⟩
              · trivial
      | _ => trivial
    | call cc =>
      simp only
      unfold invokeA
      obtain ⟨cl, as, ats⟩ := cc
      cases cl with
      | invoke recv name =>
        simp only
        rw [fev_spec he]
        cases evalO s.fr.env recv with
        | none => trivial
        | some rv =>
          simp only
          cases rv with
          | ifc ty v =>
            simp only
            cases methA c (liveAt s.rows) ty v name with
            | none => trivial
            | some p =>
              obtain ⟨g, x⟩ := p
              simp only
              rcases fenter_rel c g (x :: vs) with h | ⟨e', b, l', h1, h2, h3⟩
              · rw [h]; trivial
              · rw [h1, h2]
                exact ⟨_, rfl, SRel.of rfl h3 (.cons (.cd _) .nil) rfl rfl (.cons hg hk) hr hle⟩
          | _ => trivial
      | _ => trivial
    | _ => trivial
theorem fop_rel {c:Cfg} {s:AS} {fn:FuncId} {e:Tr V} {l:List FOp} {k:List FItem} {ro:Option Nat} {mk:Mks} {st:List FF} {t:Tr (Option Row)} {n:Nat} {ops:Array Oper} {i:Nat} {rest:List Nat} {kk:List AItem} {o:Oper}
  (ho:ops[i]? = some o) (hg:GRel ⟨fn,e,.ops (cop ops o :: l) :: k,ro,mk⟩ s.fr) (hl:OpsRel ops l rest) (htl:TRel k kk) (hk:KRel st s.stack) (hr:RRel t s.rows) (hn:s.rows.length = n) :
  ORel (fop c fn e l k ro mk st t n (cop ops o)) (opStepA c s ops i rest kk):=by
 have he:=hg.env
 unfold opStepA
 rw [ho]
 simp only
 show ORel (fwant e (cop ops o).gd .fail (putE e (cop ops o).dst V.undef fun e=>.next ⟨fn,e,.ops l :: k,ro,mk,st,t,n⟩)
  (Option.rec (motive:=fun _=>FOut) (fopA c fn e l k ro mk st t n (cop ops o) (cop ops o).dst (cop ops o).op (cop ops o).xs) (fopC c fn e l k ro mk st t n (cop ops o)) (cop ops o).cv)) _
 rw [fwant_spec he]
 cases wantedA ops s.fr.env o with
 | none=>trivial
 | some b =>
  cases b with
  | false =>
   simp only
   obtain ⟨e',e3,e4⟩:=putE_rel he (cop ops o).dst V.undef
   rw [e3]
   exact ⟨_,rfl,SRel.of hg.fn e4 (.cons (.ops hl) htl) hg.round hg.marks hk hr (by rw [hn]; exact Nat.le_refl _)⟩
  | true =>
   simp only
   have hcv:(cop ops o).cv = callView o.op:=rfl
   rw [hcv]
   cases callView o.op with
   | some p =>
    obtain ⟨f,args⟩:=p
    simp only
    show ORel (fev e f .fail fun fv=>fevs e args .fail fun vs=>fcall c fn e l k ro mk st t n (cop ops o) fv vs) _
    rw [fev_spec he]
    cases evalO s.fr.env f with
    | none=>trivial
    | some fv =>
     simp only
     rw [fevs_spec he]
     cases evalOs s.fr.env args with
     | none=>trivial
     | some vs =>
      simp only
      unfold fcall
      cases fv with
      | yl r=>exact fcallY_rel (c:=c) (i:=i) (rest:=rest) (kk:=kk) hg hk hr (by rw [hn]; exact Nat.le_refl _)
      | fn g caps=>exact fcallF_rel (i:=i) hg hl htl hk hr hn
      | bf g fs=>exact fcallF_rel (i:=i) hg hl htl hk hr hn
      | _=>trivial
   | none =>
    simp only
    show ORel (fevs e (opnds o.op) .fail fun vs=>Option.rec (motive:=fun _=>FOut) (fopN c fn e l k ro mk st t n (cop ops o) o.op vs) (fopR fn e l k ro mk st t n (cop ops o).dst) (actF o.op c.T (flook t vs) n vs)) _
    rw [fevs_spec he]
    cases evalOs s.fr.env (opnds o.op) with
    | none=>trivial
    | some vs =>
     simp only
     rw [actF_eq,flook_eq hr,hn]
     cases act c.T (lookOf s.rows vs) n o.op vs with
     | none=>exact fopN_rel ho hg hl htl hk hr hn
     | some res =>
      exact fopR_rel res hg hl htl hk hr hn
theorem frange_rel {c:Cfg} {s:AS} {fn:FuncId} {e:Tr V} {k:List FItem} {ro:Option Nat} {mk:Mks} {st:List FF} {t:Tr (Option Row)} {n:Nat} {kk:List AItem} {f:Operand} {params:Array Tmp} {as body:Code}
  (hfn:fn = s.fr.fn) (he:ERel e s.fr.env) (hro:ro = s.fr.round) (hmk:mk = (s.fr.marks,s.fr.dcl)) (htl:TRel k kk) (hk:KRel st s.stack) (hr:RRel t s.rows) (hn:s.rows.length = n) :
  ORel (frange c fn e k ro mk st t n f params as body) (rangeA c s f params as body kk):=by
 subst hfn; subst hro; subst hmk; subst hn
 unfold frange rangeA
 rw [fev_spec he]
 cases evalO s.fr.env f with
 | none=>trivial
 | some fv =>
  cases fv with
  | fn g caps =>
   simp only
   cases henv:envL e 4096 0 with
   | none=>trivial
   | some env =>
    have hE:env = s.fr.env:=by simpa using envL_spec he henv
    subst hE
    simp only
    cases hrd:s.fr.round with
    | none =>
     simp only
     rcases fenter_rel c g (.yl (s.rows.length + 1) :: caps) with h | ⟨e',b,l',h1,h2,h3⟩
     ·show ORel (fenter c g (.yl (s.rows.length + 1) :: caps) .fail _) _
      rw [h]; trivial
     ·show ORel (fenter c g (.yl (s.rows.length + 1) :: caps) .fail _) _
      rw [h1,h2]
      obtain ⟨t1,a1,a2⟩:=rput_spec (t:=t) (r:=s.rows.length) (x:=some .dfr)
      obtain ⟨t2,b1,b2⟩:=rput_spec (t:=t1) (r:=s.rows.length + 1) (x:=some (.loop .ready none s.fr.fn s.fr.env params.toList as body s.rows.length))
      rw [a1]
      show ORel (rput t1 (s.rows.length + 1) _ _) _
      rw [b1]
      refine ⟨_,rfl,SRel.of rfl h3 (.cons (.cd _) .nil) rfl rfl (.cons ⟨rfl,he,.cons (.rf _) htl,rfl,rfl⟩ hk) (fun j=>?_) (by simp)⟩
      rw [b2,a2,liveAt_snoc,liveAt_snoc,hr j]
      simp only [List.length_append,List.length_cons,List.length_nil,Nat.zero_add]
      rfl
    | some r =>
     simp only
     rw [hr r]
     cases liveAt s.rows r with
     | none=>trivial
     | some row =>
      cases row with
      | loop ls pend fn' env' ps as' bd d =>
       simp only
       rcases fenter_rel c g (.yl s.rows.length :: caps) with h | ⟨e',b,l',h1,h2,h3⟩
       ·rw [h]; trivial
       ·rw [h1,h2]
        obtain ⟨t1,a1,a2⟩:=rput_spec (t:=t) (r:=s.rows.length) (x:=some (.loop .ready none s.fr.fn s.fr.env params.toList as body d))
        rw [a1]
        refine ⟨_,rfl,SRel.of rfl h3 (.cons (.cd _) .nil) rfl rfl (.cons ⟨rfl,he,.cons (.rf _) htl,rfl,rfl⟩ hk) (fun j=>?_) (by simp)⟩
        rw [a2,liveAt_snoc,hr j]; rfl
      | _=>trivial
  | _=>trivial
end Go.Aev
