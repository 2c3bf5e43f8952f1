/- Lemmas for the statements of this seat: an abstract machine that the model follows, and contracts of functions. Conditions: none. -/
import Derived.Test.YtjchifhnckdnaaaGreatDoorA10
import Derived.Test.YtjchifhnckdnaaaGreatDoorAevFastS6
import Derived.KernelRfl
set_option linter.unusedVariables false
set_option linter.unusedSimpArgs false
set_option linter.unusedSectionVars false
section
namespace Go.Aev
variable [Glob]
open Go.RowKit (Below)
structure SCfg where
 P:Program
 T:TypeId→Option Ty
 F:FuncId→Option Func
 rc:FuncId→Bool
 po:FuncId→Bool
 sRC:FuncId→List V→Rows→Option (List Prop × V)
 sWC:FuncId→List V→Rows→Option (List Prop × V × Rows):=fun _ _ _=>none
noncomputable def SCfg.cfg (c:SCfg):Cfg :=
 {P:=c.P,T:=c.T,F:=c.F,rc:=c.rc,po:=c.po,RC:=fun g args rows=>match c.sRC g args rows with
  | some (ps,v)=>@ite _ (AllP ps) (Classical.propDecidable _) (some v) none
  | none=>none,
  WC:=fun g args rows=>match c.sWC g args rows with
  | some (ps,v,rows2)=>@ite _ (AllP ps) (Classical.propDecidable _) (some (v,rows2)) none
  | none=>none }
theorem SCfg.rc_eq {c:SCfg} {g:FuncId} {args:List V} {rows:Rows} {ps:List Prop} {v:V} (h:c.sRC g args rows = some (ps,v)) (hp:AllP ps):c.cfg.RC g args rows = some v:=by
 simp only [SCfg.cfg,h]
 rw [if_pos hp]
def sCallRC (c:SCfg) (g:FuncId) (args:List V) (rows:Rows):Option (List Prop × Res) :=
 match compact (liveAt rows) (reach rows args) args with
 | some (args',rows')=>match c.sRC g args' rows' with
  | some (ps,v)=>some (ps,if v.plain then { v } else { v,ups:=frozenUps rows (reach rows args) })
  | none=>none
 | none=>none
theorem sCallRC_sound {c:SCfg} {g:FuncId} {args:List V} {rows:Rows} {ps:List Prop} {res:Res} (e:sCallRC c g args rows = some (ps,res)) (hp:AllP ps):callRC c.cfg g args rows = some res:=by
 unfold sCallRC at e
 unfold callRC
 simp only
 split at e
 ·rename_i a r hc
  rw [hc]
  simp only
  split at e
  ·rename_i ps' v hv
   cases e
   rw [SCfg.rc_eq hv hp]
   simp only
   split <;> rfl
  ·cases e
 ·cases e
theorem sCallRC_none {c:SCfg} {g:FuncId} {args:List V} {rows:Rows} (e:sCallRC c g args rows = none):callRC c.cfg g args rows = none:=by
 unfold sCallRC at e
 unfold callRC
 simp only
 split at e
 ·rename_i a r hc
  rw [hc]
  simp only
  split at e
  ·cases e
  ·rename_i hv
   simp only [SCfg.cfg,hv]
 ·rename_i hc
  rw [hc]
def sCallWC (c:SCfg) (look:Nat→Option Row) (rs:List Nat) (slot:Nat) (g:FuncId) (args:List V):Option (List Prop × Res) :=
 match wcPre look rs args with
 | some (args',rows')=>match c.sWC g args' rows' with
  | some (ps,v,rows2)=>(wcPost rs slot v rows2).map fun r=>(ps,r)
  | none=>none
 | none=>none
def sCallX (c:SCfg) (slot:Nat) (g:FuncId) (args:List V) (rows:Rows):Option (List Prop × Res) :=
 match sCallRC c g args rows with
 | some r=>some r
 | none=>sCallWC c (liveAt rows) (reach rows args) slot g args
theorem sCallX_sound {c:SCfg} {slot:Nat} {g:FuncId} {args:List V} {rows:Rows} {ps:List Prop} {res:Res} (e:sCallX c slot g args rows = some (ps,res)) (hp:AllP ps):callX c.cfg slot g args rows = some res:=by
 unfold sCallX at e
 unfold callX
 split at e
 ·rename_i r hr
  cases e
  rw [sCallRC_sound hr hp]
 ·rename_i hr
  rw [sCallRC_none hr]
  simp only
  unfold sCallWC at e
  unfold callWC
  split at e
  ·rename_i a r hpre
   rw [hpre]
   simp only
   split at e
   ·rename_i ps' v rows2 hs
    rw [Option.map_eq_some_iff] at e
    obtain ⟨r',h1,h2⟩:=e
    cases h2
    have:c.cfg.WC g a r = some (v,rows2):=by
     simp only [SCfg.cfg,hs]
     rw [if_pos hp]
    rw [this]
    exact h1
   ·cases e
  ·cases e
def sOpRes (c:SCfg) (h:Hint) (env:List V) (rows:Rows) (slot:Nat) (o:Op):Option (List Prop × Res) :=
 match callView o with
 | some (f,args)=>match evalO env f,evalOs env args with
  | some fv,some vs=>match fnArgs fv vs with
   | some (g,as)=>if c.rc g then sCallX c slot g as rows else none
   | none=>none
  | _,_=>none
 | none=>match evalOs env (opnds o) with
  | some vs=>sAct c.T h (lookOf rows vs) slot o vs
  | none=>none
theorem sOpRes_sound {c:SCfg} {h:Hint} {env:List V} {rows:Rows} {slot:Nat} {o:Op} {ps:List Prop} {res:Res} (e:sOpRes c h env rows slot o = some (ps,res)) (hp:AllP ps):opRes c.cfg env rows slot o = some res:=by
 unfold sOpRes at e
 unfold opRes
 split at e
 ·rename_i f args hcv
  rw [hcv]
  simp only
  split at e
  ·rename_i fv vs hf hvs
   rw [hf,hvs]
   simp only
   split at e
   ·rename_i g as hfa
    rw [hfa]
    simp only
    split at e
    ·rename_i hrc
     rw [if_pos (show c.cfg.rc g = true from hrc)]
     exact sCallX_sound e hp
    ·cases e
   ·cases e
  ·cases e
 ·rename_i hcv
  rw [hcv]
  simp only
  split at e
  ·rename_i vs hvs
   rw [hvs]
   exact sAct_sound e hp
  ·cases e
def sWanted (h:Hint) (ops:Array Oper) (env:List V) (o:Oper):Option (List Prop × Bool) :=
 match o.guard with
 | none=>some ([],true)
 | some (j,want)=>match ((ops[j]?).bind (·.dst)) with
  | some d=>match env[d]? with
   | some (.d (.bool b))=>match h.gd d with
    | some v=>some ([b = v],v == want)
    | none=>some ([],b == want)
   | some (.tup _)=>some ([],false)
   | _=>none
  | none=>none
theorem sWanted_sound {h:Hint} {ops:Array Oper} {env:List V} {o:Oper} {ps:List Prop} {b:Bool} (e:sWanted h ops env o = some (ps,b)) (hp:AllP ps):wantedA ops env o = some b:=by
 unfold sWanted at e
 unfold wantedA
 split at e
 ·rename_i hg; cases e; rw [hg]
 ·rename_i j want hg
  rw [hg]
  simp only
  split at e
  ·rename_i d hd
   rw [hd]
   simp only
   split at e
   ·rename_i b' hb
    rw [hb]
    simp only
    split at e
    ·rename_i v hv
     cases e
     have:=hp.1
     subst this
     rfl
    ·cases e; rfl
   ·rename_i vs hb
    rw [hb]; cases e; rfl
   ·cases e
  ·cases e
def sStepR (c:SCfg) (h:Hint) (ops:Array Oper) (slot0:Nat) (i:Nat) (s:St):Option (List Prop × Rec) :=
 match ops[i]? with
 | none=>none
 | some o=>match sWanted h ops s.env o with
  | none=>none
  | some (qs,false)=>some (qs,{ dst:=o.dst,v:=V.undef,slot:=slot0 + i,rdT:=readsT ops o,rdR:=some [] })
  | some (qs,true)=>match sOpRes c h s.env s.rows (slot0 + i) o.op with
   | none=>none
   | some (ps,res) =>
    let a:Rec:={ dst:=o.dst,v:=res.v,ups:=res.ups,fresh:=res.fresh,slot:=slot0 + i,rdT:=readsT ops o,rdR:=readsR s.env s.rows o.op }
    if a.wr.all (fun r=>decide (r < s.rows.length)) then some (qs ++ ps,a) else none
theorem sStepR_sound {c:SCfg} {h:Hint} {ops:Array Oper} {slot0 i:Nat} {s:St} {ps:List Prop} {a:Rec} (e:sStepR c h ops slot0 i s = some (ps,a)) (hp:AllP ps):stepR c.cfg ops slot0 i s = some a:=by
 unfold sStepR at e
 unfold stepR
 split at e
 ·cases e
 ·rename_i o ho
  rw [ho]
  simp only
  split at e
  ·cases e
  ·rename_i hw; cases e; rw [sWanted_sound hw hp]
  ·rename_i qs hw
   split at e
   ·cases e
   ·rename_i ps' res hres
    simp only at e
    split at e
    ·rename_i hall
     cases e
     obtain ⟨h1,h2⟩:=AllP_append hp
     rw [sWanted_sound hw h1]
     simp only
     rw [sOpRes_sound hres h2]
     simp only
     rw [if_pos hall]
    ·cases e
def sRunAll (c:SCfg) (h:Hint) (ops:Array Oper) (slot0:Nat):List Nat→St→Option (List Prop × List Rec × St)
 | [],s=>some ([],[],s)
 | i :: l,s=>match sStepR c h ops slot0 i s with
  | some (ps,a)=>match sRunAll c h ops slot0 l (a.exec s) with
   | some (qs,rs,s')=>some (ps ++ qs,a :: rs,s')
   | none=>none
  | none=>none
theorem sRunAll_sound {c:SCfg} {h:Hint} {ops:Array Oper} {slot0:Nat}:∀ {l:List Nat} {s:St} {ps:List Prop} {rs:List Rec} {s':St},sRunAll c h ops slot0 l s = some (ps,rs,s')→AllP ps→runAll c.cfg ops slot0 l s = some (rs,s')
 | [],s,ps,rs,s',e,_=>by cases e; rfl
 | i :: l,s,ps,rs,s',e,hp=>by
  simp only [sRunAll] at e
  split at e
  ·rename_i ps1 a ha
   split at e
   ·rename_i qs rs' s2 hr
    cases e
    obtain ⟨h1,h2⟩:=AllP_append hp
    simp only [runAll,sStepR_sound ha h1,sRunAll_sound hr h2]
   ·cases e
  ·cases e
def sRegion (c:SCfg) (h:Hint) (ops:Array Oper) (s:St):Option (List Prop × St) :=
 if edgesOK ops then
  match sRunAll c h ops s.rows.length (List.range ops.size) { s with rows:=s.rows ++ List.replicate ops.size .free } with
  | some (ps,rs,s')=>if pairsOK (ancs ops ops.size) s.rows.length rs then some (ps,{ s' with rows:=trimFree s'.rows }) else none
  | none=>none
 else none
theorem sRegion_sound {c:SCfg} {h:Hint} {ops:Array Oper} {s st:St} {ps:List Prop} (e:sRegion c h ops s = some (ps,st)) (hp:AllP ps):regionA c.cfg ops s = some st:=by
 unfold sRegion at e
 unfold regionA
 split at e
 ·rename_i hed
  rw [if_pos hed]
  split at e
  ·rename_i ps' rs s' hr
   split at e
   ·rename_i hpr
    cases e
    rw [sRunAll_sound hr hp]
    simp only
    rw [if_pos hpr]
   ·cases e
  ·cases e
 ·cases e
def sCut (c:SCfg) (h:Hint) (ops:Array Oper) (k:Nat) (s:St):Option (List Prop × St) :=
 if edgesOK ops && decide (k < ops.size) && decide (ops.size ≤ k + 2) && (List.range k).all (fun i=>((ancs ops ops.size).getD k []).contains i) &&
   (List.range' (k + 1) (ops.size - (k + 1))).all (fun i=>((ancs ops ops.size).getD i []).contains k) then
  match sRunAll c h ops s.rows.length (List.range k) { s with rows:=s.rows ++ List.replicate ops.size .free } with
  | some (ps,rs,s')=>if pairsOK (ancs ops k) s.rows.length rs then some (ps,s') else none
  | none=>none
 else none
theorem sCut_sound {c:SCfg} {h:Hint} {ops:Array Oper} {k:Nat} {s st:St} {ps:List Prop} (e:sCut c h ops k s = some (ps,st)) (hp:AllP ps):cutA c.cfg ops k s = some st:=by
 unfold sCut at e
 unfold cutA
 split at e
 ·rename_i hed
  rw [if_pos hed]
  split at e
  ·rename_i ps' rs s' hr
   split at e
   ·rename_i hpr
    cases e
    rw [sRunAll_sound hr hp]
    simp only
    rw [if_pos hpr]
   ·cases e
  ·cases e
 ·cases e
def withP (qs:List Prop) (o:List Prop × Out):List Prop × Out:=(qs ++ o.1,o.2)
noncomputable def sOpDo (c:SCfg) (h:Hint) (s:AS) (ops:Array Oper) (i:Nat) (rest:List Nat) (k:List AItem) (o:Oper):List Prop × Out :=
 match callView o.op with
 | some (f,args)=>match evalO s.fr.env f,evalOs s.fr.env args with
  | some (.yl r),some vs=>([],opStepA c.cfg s ops i rest k)
  | some fv,some vs=>match fnArgs fv vs with
   | some (g,as) =>
    if c.po g && c.rc g then
     match sCallX c s.rows.length g as s.rows with
     | some (ps,res)=>(ps,.next { s with fr:={ s.fr with env:=setTmp s.fr.env o.dst res.v,todo:=.it (.inRegion ops rest) :: k },rows:=applyRes s.rows.length res s.rows })
     | none=>([],.fail)
    else match enterA c.cfg g as with
     | some fr=>([],.next { fr,stack:=s.fr :: s.stack,rows:=s.rows })
     | none=>([],.fail)
   | none=>([],.fail)
  | _,_=>([],.fail)
 | none=>match evalOs s.fr.env (opnds o.op) with
  | some vs=>match sAct c.T h (lookOf s.rows vs) s.rows.length o.op vs with
   | some (ps,res)=>(ps,.next { s with fr:={ s.fr with env:=setTmp s.fr.env o.dst res.v,todo:=.it (.inRegion ops rest) :: k },rows:=applyRes s.rows.length res s.rows })
   | none=>([],.fail)
  | none=>([],.fail)
theorem sOpDo_sound {c:SCfg} {h:Hint} {s:AS} {ops:Array Oper} {i:Nat} {rest:List Nat} {k:List AItem} {op:Oper} {ps:List Prop} {o:Out} (hop:ops[i]? = some op) (hwa:wantedA ops s.fr.env op = some true)
  (e:sOpDo c h s ops i rest k op = (ps,o)) (hp:AllP ps) (hn:o ≠ .fail):opStepA c.cfg s ops i rest k = o:=by
 unfold sOpDo at e
 split at e
 ·rename_i f args hcv
  split at e
  ·cases e; rfl
  ·rename_i fv vs hy hf hvs
   split at e
   ·rename_i g as hfa
    have hopst:opStepA c.cfg s ops i rest k = (if c.po g && c.rc g then
      match callX c.cfg s.rows.length g as s.rows with
      | some res=>.next { s with fr:={ s.fr with env:=setTmp s.fr.env op.dst res.v,todo:=.it (.inRegion ops rest) :: k },rows:=applyRes s.rows.length res s.rows }
      | none=>.fail
     else match enterA c.cfg g as with
      | some fr=>.next { fr,stack:=s.fr :: s.stack,rows:=s.rows }
      | none=>.fail):=by
     unfold opStepA
     rw [hop]
     simp only
     rw [hwa]
     simp only
     rw [hcv]
     simp only
     rw [hf,hvs]
     cases fv <;> first
      | (cases hfa; done)
      | (simp only; rw [hfa]; rfl)
    rw [hopst]
    split at e
    ·rename_i hpo
     rw [if_pos hpo]
     split at e
     ·rename_i ps' res hres
      cases e
      rw [sCallX_sound hres hp]
     ·cases e; exact absurd rfl hn
    ·rename_i hpo
     rw [if_neg hpo]
     split at e
     ·rename_i fr hen
      cases e
      rfl
     ·cases e; exact absurd rfl hn
   ·cases e; exact absurd rfl hn
  ·cases e; exact absurd rfl hn
 ·rename_i hcv
  split at e
  ·rename_i vs hvs
   split at e
   ·rename_i ps' res hres
    cases e
    unfold opStepA
    rw [hop]
    simp only
    rw [hwa]
    simp only
    rw [hcv]
    simp only
    rw [hvs]
    simp only
    have:=sAct_sound hres hp
    have e2:act c.cfg.T (lookOf s.rows vs) s.rows.length op.op vs = some res:=this
    rw [e2]
   ·cases e; exact absurd rfl hn
  ·cases e; exact absurd rfl hn
noncomputable def sOpStep (c:SCfg) (h:Hint) (s:AS) (ops:Array Oper) (i:Nat) (rest:List Nat) (k:List AItem):List Prop × Out :=
 match ops[i]? with
 | none=>([],.fail)
 | some o=>match sWanted h ops s.fr.env o with
  | some (qs,false)=>(qs,.next { s with fr:={ s.fr with env:=setTmp s.fr.env o.dst V.undef,todo:=.it (.inRegion ops rest) :: k } })
  | some (qs,true)=>withP qs (sOpDo c h s ops i rest k o)
  | none=>([],.fail)
theorem sOpStep_sound {c:SCfg} {h:Hint} {s:AS} {ops:Array Oper} {i:Nat} {rest:List Nat} {k:List AItem} {ps:List Prop} {o:Out} (e:sOpStep c h s ops i rest k = (ps,o)) (hp:AllP ps) (hn:o ≠ .fail):opStepA c.cfg s ops i rest k = o:=by
 unfold sOpStep at e
 split at e
 ·cases e; exact absurd rfl hn
 ·rename_i op hop
  split at e
  ·rename_i qs hw
   cases e
   have hwa:=sWanted_sound hw hp
   unfold opStepA
   rw [hop]
   simp only
   rw [hwa]
  ·rename_i qs hw
   cases hd:sOpDo c h s ops i rest k op with
   | mk ps' o' =>
   rw [hd] at e
   unfold withP at e
   injection e with e1 e2
   subst e1; subst e2
   obtain ⟨hq,hp⟩:=AllP_append hp
   exact sOpDo_sound hop (sWanted_sound hw hq) hd hp hn
  ·cases e; exact absurd rfl hn
noncomputable def sStep (c:SCfg) (h:Hint) (s:AS):List Prop × Out :=
 match s.fr.todo with
 | .it (.inRegion ops (i :: rest)) :: k=>sOpStep c h s ops i rest k
 | .it (.code (.region _ ops true)) :: k=>match sRegion c h ops { env:=s.fr.env,rows:=s.rows } with
  | some (ps,st)=>(ps,.next { s with fr:={ s.fr with env:=st.env,todo:=k },rows:=st.rows })
  | none=>match sCut c h ops (cutAt ops) { env:=s.fr.env,rows:=s.rows } with
   | some (ps,st)=>(ps,.next { s with fr:={ s.fr with env:=st.env,todo:=.it (.inRegion ops (cutAt ops :: List.range' (cutAt ops + 1) (ops.size - (cutAt ops + 1)))) :: k },rows:=st.rows })
   | none=>([],.fail)
 | .it (.code (.cond (.tmp t) x y)) :: k=>match s.fr.env[t]?,h.gd t with
  | some (.d (.bool b)),some v=>([b = v],toA s (.it (.code (match v with | true=>x | false=>y)) :: k))
  | _,_=>([],aStep c.cfg s)
 | _=>([],aStep c.cfg s)
theorem sStep_sound {w0:World} {own:Own} {c:SCfg} (hc:COK c.cfg) {bt:Bot} {f:FuncId} {h:Hint} {s:AS} {M:Machine} {ps:List Prop} {o:Out} (hs:SimF c.P w0 own bt f s M) (e:sStep c h s = (ps,o)) (hp:AllP ps) :
  Follows c.P w0 own bt f o M:=by
 by_cases hn:o = .fail
 ·subst hn; trivial
 ·unfold sStep at e
  split at e
  ·rename_i ops i rest k ht
   have h1:=sOpStep_sound e hp hn
   have h2:aStep c.cfg s = opStepA c.cfg s ops i rest k:=by unfold aStep; rw [ht]
   rw [← h1,← h2]
   exact aStep_sound (c:=c.cfg) hc hs
  ·rename_i id ops k ht
   split at e
   ·rename_i ps' st hr
    injection e with e1 e2
    subst e1; subst e2
    have h1:=sRegion_sound hr hp
    have:=aStep_sound (c:=c.cfg) hc hs
    unfold aStep at this
    rw [ht] at this
    simp only at this
    rw [h1] at this
    exact this
   ·split at e
    ·rename_i ps' st hr
     injection e with e1 e2
     subst e1; subst e2
     have h1:=sCut_sound hr hp
     have:=aCut_sound (c:=c.cfg) hc hs
     unfold aCut at this
     rw [ht] at this
     simp only at this
     rw [h1] at this
     exact this
    ·injection e with e1 e2
     exact absurd e2.symm hn
  ·rename_i t x y k ht
   split at e
   ·rename_i b v hb hv
    injection e with e1 e2
    subst e1; subst e2
    have hbv:=hp.1
    subst hbv
    have:=aStep_sound (c:=c.cfg) hc hs
    unfold aStep at this
    rw [ht] at this
    simp only [evalO,List.getD_eq_getElem?_getD,hb,Option.getD_some,known] at this
    cases b <;> exact this
   ·injection e with e1 e2
    subst e2
    exact aStep_sound (c:=c.cfg) hc hs
  ·injection e with e1 e2
   subst e2
   exact aStep_sound (c:=c.cfg) hc hs
noncomputable def sRun (c:SCfg) (h:Hint):Nat→AS→List Prop × Out
 | 0,s=>([],.next s)
 | n + 1,s=>match sStep c h s with
  | (ps,.next s')=>match sRun c h n s' with
   | (qs,o)=>(ps ++ qs,o)
  | (ps,o)=>(ps,o)
theorem sRun_sound {w0:World} {own:Own} {c:SCfg} (hc:COK c.cfg) {bt:Bot} {f:FuncId} {h:Hint}:∀ {n:Nat} {s:AS} {M:Machine} {ps:List Prop} {o:Out},SimF c.P w0 own bt f s M→sRun c h n s = (ps,o)→AllP ps→Follows c.P w0 own bt f o M
 | 0,s,M,ps,o,hs,e,_=>by cases e; exact ⟨M,Steps.refl _ _,hs⟩
 | n + 1,s,M,ps,o,hs,e,hp=>by
  simp only [sRun] at e
  split at e
  ·rename_i ps1 s1 h1
   cases hr:sRun c h n s1 with
   | mk qs o1 =>
   rw [hr] at e
   cases e
   obtain ⟨k1,k2⟩:=AllP_append hp
   obtain ⟨M',st,hs'⟩:=sStep_sound hc hs h1 k1
   exact (sRun_sound hc hs' hr k2).of_steps st
  ·rename_i ps1 o1 hno h1
   cases e
   exact sStep_sound hc hs h1 hp
def Ends (c:SCfg) (k:Nat) (s:AS) (Q:V→Rows→Prop):Prop :=
 ∀ (w0:World) (own:Own) (bt:Bot) (f:FuncId) (M:Machine),bt.k ≤ k→SimF c.P w0 own bt f s M→∃ v rows,Q v rows∧Follows c.P w0 own bt f (.done v rows) M
variable {c:SCfg} {k:Nat} {s s':AS} {Q:V→Rows→Prop}
theorem Ends.fin (hc:COK c.cfg) (h:Hint) (n:Nat) {ps:List Prop} {v:V} {rows:Rows} (e:sRun c h n s = (ps,.done v rows)) (hp:AllP ps) (hq:Q v rows):Ends c k s Q:=by
 intro w0 own bt f M hb hs
 exact ⟨v,rows,hq,sRun_sound hc hs e hp⟩
theorem Ends.mono {Q':V→Rows→Prop} (h:Ends c k s Q) (hq:∀ v rows,Q v rows→Q' v rows):Ends c k s Q':=by
 intro w0 own bt f M hb hs
 obtain ⟨v,rows,h1,h2⟩:=h w0 own bt f M hb hs
 exact ⟨v,rows,hq v rows h1,h2⟩
noncomputable def sTo (c:SCfg) (h:Hint) (stop:AS→Bool):Nat→AS→List Prop × Out
 | 0,_=>([],.fail)
 | n + 1,s=>match sStep c h s with
  | (ps,.next s')=>if stop s then (ps,.next s') else match sTo c h stop n s' with
   | (qs,o)=>(ps ++ qs,o)
  | (ps,o)=>(ps,o)
theorem sTo_sound {w0:World} {own:Own} {c:SCfg} (hc:COK c.cfg) {bt:Bot} {f:FuncId} {h:Hint} {stop:AS→Bool}:∀ {n:Nat} {s:AS} {M:Machine} {ps:List Prop} {o:Out},SimF c.P w0 own bt f s M→sTo c h stop n s = (ps,o)→AllP ps→Follows c.P w0 own bt f o M
 | 0,s,M,ps,o,hs,e,_=>by cases e; trivial
 | n + 1,s,M,ps,o,hs,e,hp=>by
  simp only [sTo] at e
  split at e
  ·rename_i ps1 s1 h1
   split at e
   ·cases e
    exact sStep_sound hc hs h1 hp
   ·cases hr:sTo c h stop n s1 with
    | mk qs o1 =>
    rw [hr] at e
    cases e
    obtain ⟨k1,k2⟩:=AllP_append hp
    obtain ⟨M',st,hs'⟩:=sStep_sound hc hs h1 k1
    exact (sTo_sound hc hs' hr k2).of_steps st
  ·rename_i ps1 o1 hno h1
   cases e
   exact sStep_sound hc hs h1 hp
theorem Ends.to (hc:COK c.cfg) (h:Hint) (stop:AS→Bool) (n:Nat) {ps:List Prop} (e:sTo c h stop n s = (ps,.next s')) (hp:AllP ps) (hk:Ends c k s' Q):Ends c k s Q:=by
 intro w0 own bt f M hb hs
 obtain ⟨M',st,hs'⟩:=sTo_sound hc hs e hp
 obtain ⟨v,rows,hq,hf⟩:=hk w0 own bt f M' hb hs'
 exact ⟨v,rows,hq,hf.of_steps st⟩
theorem Ends.toFin (hc:COK c.cfg) (h:Hint) (stop:AS→Bool) (n:Nat) {ps:List Prop} {v:V} {rows:Rows} (e:sTo c h stop n s = (ps,.done v rows)) (hp:AllP ps) (hq:Q v rows):Ends c k s Q:=by
 intro w0 own bt f M hb hs
 exact ⟨v,rows,hq,sTo_sound hc hs e hp⟩
def AS.put (s:AS) (t:Nat) (v:V):AS:={ s with fr:={ s.fr with env:=s.fr.env.set t v } }
def AS.putRow (s:AS) (r:Nat) (x:Row):AS:={ s with rows:=s.rows.set r (.live x) }
theorem list_set_same {α:Type} {l:List α} {i:Nat} {x:α} (h:l[i]? = some x):l.set i x = l:=by
 apply List.ext_getElem?
 intro j
 rw [List.getElem?_set]
 by_cases e:i = j
 ·subst e
  rw [if_pos rfl,if_pos (lt_of_get h),h]
 ·rw [if_neg e]
theorem Ends.put (t:Nat) {v v':V} (e:s.fr.env[t]? = some v) (hv:v = v') (hk:Ends c k (s.put t v') Q):Ends c k s Q:=by
 subst hv
 have:s.put t v = s:=by
  unfold AS.put
  rw [list_set_same e]
 rw [this] at hk
 exact hk
theorem Ends.putRow (r:Nat) {x x':Row} (e:s.rows[r]? = some (.live x)) (hx:x = x') (hk:Ends c k (s.putRow r x') Q):Ends c k s Q:=by
 subst hx
 have:s.putRow r x = s:=by
  unfold AS.putRow
  rw [list_set_same e]
 rw [this] at hk
 exact hk
end Go.Aev
end
section
namespace Go.Aev
variable [Glob]
open Go.RowKit (Below)
def isIt:AItem→Bool
 | .it _=>true
 | .rf _=>false
def moveEnv (f:Nat→Option Nat) (keep:List Nat):Nat→List V→Option (List V)
 | _,[]=>some []
 | i,v :: r=>match (if keep.contains i then renV f 8 v else some .any),moveEnv f keep (i + 1) r with
  | some x,some l=>some (x :: l)
  | _,_=>none
def moveAS (k:Nat) (rs:List Nat) (keep:List Nat) (s:AS):Option AS :=
 if s.fr.todo.all isIt && s.fr.round.isNone && s.fr.marks.isEmpty && s.fr.dcl.isEmpty && s.stack.isEmpty && (rs.take k == List.range k) && rs.all (fun r=>decide (r < s.rows.length)) && decide (rs.eraseDups.length = rs.length) then
  match moveEnv (fun r=>idxIn r rs 0) keep 0 s.fr.env,mapO (fun r=>moveRow (fun r=>idxIn r rs 0) (liveAt s.rows r)) rs with
  | some env,some rows=>some { fr:={ s.fr with env },stack:=[],rows }
  | _,_=>none
 else none
variable {m:Mp} {S:Nat→Prop} {w:World}
theorem moveEnv_rel {rs keep:List Nat}:∀ {xs:List V} {i:Nat} {ys:List V} {arr:Array Value},moveEnv (fun r=>idxIn r rs 0) keep i xs = some ys→REs m S w xs arr→REs (renM m rs) S w ys arr:=by
 intro xs i ys arr h hr
 have key:∀ {xs:List V} {i:Nat} {ys:List V},moveEnv (fun r=>idxIn r rs 0) keep i xs = some ys→ys.length = xs.length∧∀ (j:Nat) (y:V),ys[j]? = some y→∃ x,xs[j]? = some x∧(y = .any ∨ renV (fun r=>idxIn r rs 0) 8 x = some y):=by
  intro xs
  induction xs with
  | nil=>intro i ys h; cases h; exact ⟨rfl,fun j y hy=>by simp at hy⟩
  | cons x xs ih =>
   intro i ys h
   simp only [moveEnv] at h
   split at h
   ·rename_i y l h1 h2
    cases h
    obtain ⟨k1,k2⟩:=ih h2
    refine ⟨by simp [k1],fun j z hz=>?_⟩
    cases j with
    | zero =>
     simp at hz; subst hz
     refine ⟨x,rfl,?_⟩
     split at h1
     ·exact .inr h1
     ·cases h1; exact .inl rfl
    | succ j=>simp only [List.getElem?_cons_succ] at hz ⊢; exact k2 j z hz
   ·cases h
 obtain ⟨k1,k2⟩:=key h
 refine ⟨by rw [hr.1,k1],fun j y v hy hv=>?_⟩
 obtain ⟨x,hx,ho⟩:=k2 j y hy
 rcases ho with ho | ho
 ·exact .inl ho
 ·rcases hr.2 j x v hx hv with h1 | h1
  ·subst h1; simp only [renV] at ho; cases ho
  ·exact .inr (renV_rel ho h1)
theorem TodoRel.its {m':Mp} {a:List AItem} {l:List Item} (h:TodoRel m a l) (hi:a.all isIt = true):TodoRel m' a l:=by
 induction h with
 | nil=>exact .nil
 | @cons a i k l h1 _ ih =>
  simp only [List.all_cons,Bool.and_eq_true] at hi
  cases a with
  | it j=>exact .cons h1 (ih hi.2)
  | rf r=>simp [isIt] at hi
theorem Ends.move {c:SCfg} {k:Nat} {s s':AS} {Q:V→Rows→Prop} (rs keep:List Nat) (e:moveAS k rs keep s = some s') (hk:Ends c k s' Q):Ends c k s Q:=by
 intro w0 own bt f M hb hs
 refine hk w0 own bt f M hb ?_
 unfold moveAS at e
 split at e
 ·rename_i hc
  simp only [Bool.and_eq_true,decide_eq_true_eq,Option.isNone_iff_eq_none,List.isEmpty_iff,beq_iff_eq] at hc
  obtain ⟨⟨⟨⟨⟨⟨⟨c1,c2⟩,c3⟩,c3d⟩,c4⟩,c5⟩,c6⟩,c7⟩:=hc
  split at e
  ·rename_i env rows h1 h2
   cases e
   obtain ⟨hbf,m,S,w,tmps,todo,ds,ro,cs,rfl,inv,hfr,hst⟩:=hs
   rw [c4] at hst
   cases hst with
   | nil hB =>
    have hro:=hfr.ro
    rw [c2] at hro
    have hds:=hfr.ds
    rw [c3,c3d,c4] at hds
    refine ⟨?_,renM m rs,S,w,tmps,todo,ds,ro,bt.cs,rfl,move_inv inv c7 h2,⟨moveEnv_rel h1 hfr.env,hfr.todo.its c1,?_,?_⟩,.nil ?_⟩
    ·rw [c4] at hbf; exact hbf
    ·show FDs (renM m rs) S w (hidOf bt []) s.fr.dcl s.fr.marks ds
     rw [c3,c3d]; obtain ⟨dd,q1,q2⟩:=hds; cases q1; cases q2; exact FDs.none
    ·show RoRel (renM m rs) s.fr.round ro
     rw [c2]; exact hro
    ·refine bt.mono m w _ w (fun r hr p hp=>?_) (fun b=>Nat.le_refl _) hB
     have hrk:r < k:=Nat.lt_of_lt_of_le hr hb
     have:rs[r]? = some r:=by
      have h3:(rs.take k)[r]? = some r:=by rw [c5]; simp [hrk]
      rwa [List.getElem?_take_of_lt hrk] at h3
     simp [renM,this,hp]
  ·cases e
 ·cases e
theorem does_of_ends {c:SCfg} (hc:COK c.cfg) {g:FuncId} {k:Nat} {args:List V} {rows:Rows} {R:V→Rows→Prop} {fr:AF} (he:enterA c.cfg g args = some fr) (h:Ends c k ⟨fr,[],rows⟩ R):Does c.P g k args rows R:=by
 intro w0 own m S w vs inv ha cs
 obtain ⟨gf,h1,h2,h3,tmps,todo,h4,hfr⟩:=enterA_rel hc he ha
 have hg:fr.fn = g:=by
  unfold enterA at he
  split at he
  ·split at he
   ·cases he; rfl
   ·cases he
  ·cases he
 have hsim:SimF c.P w0 own (botOf cs m w k) g { fr,stack:=[],rows } (lone (Frame.enter c.P g vs .normal) cs w):=by
  refine ⟨hg,m,S,w,tmps,todo,[],none,cs,?_,inv,hfr,.nil (cs0:=botOf cs m w k) (botOf_start cs m w k)⟩
  show lone (Frame.enter c.cfg.P g vs .normal) cs w = _
  rw [h4]
 obtain ⟨v,rows',hq,frR,w',m',S',u,s1,s2,s3,s4,s5,s6⟩:=h w0 own (botOf cs m w k) g _ (Nat.le_refl _) hsim
 exact ⟨.returned u,w',frR,⟨u,v,rows',rfl,hq,m',S',s4,s5,s6.1,s6.2⟩,s1,s2.1,leaving_nil s2.2 s3⟩
def RCs (P:Program) (g:FuncId) (args:List V) (rows:Rows) (v:V):Prop :=
 ∀ (w0:World) (own:Own) (m:Mp) (S:Nat→Prop) (w:World) (vs:Array Value),Inv w0 own m S w rows→(∀ (r:Nat) (row:Row),rows[r]? = some (Slot.live row)→row.rw = false)→RVs m S w args vs →
  Calls P g vs w fun e w'=>∃ u,e = .returned u∧∃ S':Nat→Prop,(∀ c,S c→S' c)∧(∀ c,S' c→S c ∨ (w.heap.size ≤ c∧c < w'.heap.size))∧(∀ m2:Mp,RV m2 S' w' v u) ∧
   (∀ c,c < w.heap.size→w'.heap[c]? = w.heap[c]?)∧w.heap.size ≤ w'.heap.size∧w'.os = w.os∧w'.tape = w.tape∧w'.output = w.output
theorem rcs_of_does {P:Program} {g:FuncId} {k:Nat} {args:List V} {rows:Rows} {x:V} (h:Does P g k args rows fun v rows'=>convV (liveAt rows') v = some x):RCs P g args rows x:=by
 intro w0 own m S w vs inv hro ha
 refine (h w ⟨fun _=>False,S⟩ m S w vs (inv.rebase hro) ha).mono fun e w' ⟨u,v,rows',he,hq,m',S',i1,r1,_,_⟩=>⟨u,he,?_⟩
 obtain ⟨S2,rows2,i2,r2⟩:=convV_sound i1 hq r1
 refine ⟨S2,fun c hc=>i2.stb c hc,fun c hc=>?_,r2,fun c hc=>i2.kept c hc (fun h=>h),i2.grow,i2.os,i2.tape,i2.output⟩
 rcases i2.base c hc with h1 | h1 | h1
 ·exact .inl h1
 ·exact .inr ⟨h1,i2.sbnd c hc⟩
 ·exact h1.elim
def TableOK (c:SCfg):Prop:=∀ g args rows ps v,c.sRC g args rows = some (ps,v)→AllP ps→RCs c.P g args rows v
def TableW (c:SCfg):Prop:=∀ g args rows ps v rows2,c.sWC g args rows = some (ps,v,rows2)→AllP ps→Does c.P g rows.length args rows (fun x y=>x = v∧y = rows2)
theorem scfg_okW {c:SCfg} (hT:TOK c.P c.T) (hF:∀ g gf,c.F g = some gf→c.P.funcs[g]? = some gf∧(gf.name == "runtime.NumGoroutine") = false)
  (hrc:∀ g,c.rc g = true→∃ gf,c.P.funcs[g]? = some gf∧gf.body.isSome = true∧(gf.name == "runtime.NumGoroutine") = false) (hm:c.P.follows .mixedOrders = true) (ht:TableOK c) (hw:TableW c):COK c.cfg:=by
 refine ⟨hT,hF,fun g args rows v h=>?_,fun g args rows v rows2 h=>?_,hrc,hm⟩
 ·simp only [SCfg.cfg] at h
  split at h
  ·rename_i ps v' hs
   by_cases hp:AllP ps
   ·rw [if_pos hp] at h
    cases h
    exact ht g args rows ps v hs hp
   ·rw [if_neg hp] at h; cases h
  ·cases h
 ·simp only [SCfg.cfg] at h
  split at h
  ·rename_i ps v' rows2' hs
   by_cases hp:AllP ps
   ·rw [if_pos hp] at h
    cases h
    exact hw g args rows ps v rows2 hs hp
   ·rw [if_neg hp] at h; cases h
  ·cases h
theorem scfg_ok {c:SCfg} (hT:TOK c.P c.T) (hF:∀ g gf,c.F g = some gf→c.P.funcs[g]? = some gf∧(gf.name == "runtime.NumGoroutine") = false)
  (hrc:∀ g,c.rc g = true→∃ gf,c.P.funcs[g]? = some gf∧gf.body.isSome = true∧(gf.name == "runtime.NumGoroutine") = false) (hm:c.P.follows .mixedOrders = true) (ht:TableOK c)
  (hw:c.sWC = fun _ _ _=>none:=by rfl):COK c.cfg :=
 scfg_okW hT hF hrc hm ht (fun g args rows ps v rows2 h=>by simp only [hw] at h; cases h)
end Go.Aev
end
section
namespace Go.Aev
variable [Glob]
def callAt (c:Cfg) (s:AS):Option (FuncId × List V × Rows × List Nat) :=
 match s.fr.todo with
 | .it (.inRegion ops (i :: _)) :: _=>match ops[i]? with
  | some o=>match wantedA ops s.fr.env o,callView o.op with
   | some true,some (f,args)=>match evalO s.fr.env f,evalOs s.fr.env args with
    | some fv,some vs=>match fnArgs fv vs with
     | some (g,as) =>
      let rs:=reach s.rows as
      if c.rc g && decide (rs.eraseDups.length = rs.length) then
       match mapO (renV (fun r=>idxIn r rs 0) 8) as,mapO (fun r=>moveRow (fun r=>idxIn r rs 0) (liveAt s.rows r)) rs with
       | some as',some rows'=>if rows'.all slotLive then some (g,as',rows',rs) else none
       | _,_=>none
      else none
     | none=>none
    | _,_=>none
   | _,_=>none
  | none=>none
 | _=>none
variable {w0:World} {own:Own} {m:Mp} {S:Nat→Prop} {w:World} {rows:Rows}
end Go.Aev
end
section
namespace Go.Aev
variable [Glob]
variable {w0:World} {own:Own} {m:Mp} {S:Nat→Prop} {w:World} {rows:Rows}
theorem sl_list (inv:Inv w0 own m S w rows) {r k off len c:Nat} {ex:Bool} {es:List D} {u:Value} (hr:rows[r]? = some (Slot.live (.dat k es true))) (hle:off + len ≤ es.length) (hv:RV m S w (.sl r k off len c ex) u) :
  RD S w (.list ((es.drop off).take len)) u:=by
 cases hv with
 | sl r k off len c ex b o c' p hm hl hc he hp hb =>
 have hrel:=live_rel inv hr hm
 have h3:S b:=inv.rost r _ b o hr rfl hm
 by_cases hz:len = 0
 ·subst hz; simp; exact .emp _ _
 ·have hp':p = some ⟨b,o + off * k,none⟩:=by
   rcases hp with hp | hp
   ·omega
   ·exact hp
  subst hp'
  obtain ⟨cs,t,e1,e2,en,e3⟩:=hrel
  have key:∀ (j:Nat) (d:D),(flat ((es.drop off).take len))[j]? = some d→∃ v,cl w b (o + off * k + j) = some v∧RD S w d v:=by
   intro j d hj
   obtain ⟨v,hv,hrd⟩:=e3 _ d (flat_take_drop e2 off len j d hj)
   exact ⟨v,by rw [cl_cells e1,← hv]; congr 1; omega,hrd⟩
  refine .row _ b (o + off * k) c' k len (fun j=>(cl w b (o + off * k + j)).getD undef) (by simp; omega) hl h3 (fun e he=>e2 e (mem_take_drop he)) (fun d hd=>en d (flat_mem_sub (fun e he=>mem_take_drop he) hd)) (fun j d hj=>?_) (fun j d hj=>?_)
  ·obtain ⟨v,hv,_⟩:=key j d hj
   simp only [hv,Option.getD_some]
  ·obtain ⟨v,hv,hrd⟩:=key j d hj
   simp only [hv,Option.getD_some]
   exact hrd
def listOf (rows:Rows):V→Option (List Prop × List D)
 | .nil=>some ([],[])
 | .d (.list es)=>some ([],es)
 | .sl r k off len _ _=>match liveAt rows r with
  | some (.dat k' es true)=>some ([k = k'∧off + len ≤ es.length],(es.drop off).take len)
  | _=>none
 | _=>none
theorem listOf_rel (inv:Inv w0 own m S w rows) {v:V} {ps:List Prop} {es:List D} {u:Value} (h:listOf rows v = some (ps,es)) (hp:AllP ps) (hv:RV m S w v u):RD S w (.list es) u:=by
 unfold listOf at h
 split at h
 ·cases h; cases hv; exact .emp _ _
 ·cases h; exact RV_d_inv hv
 ·split at h
  ·rename_i k' es' hl
   cases h
   obtain ⟨⟨rfl,hle⟩,_⟩:=hp
   exact sl_list inv (liveAt_ok rows _ _ hl) hle hv
  ·cases h
 ·cases h
theorem Inv.nothing (inv:Inv w0 own m S w rows):Inv w0 own (fun _=>Option.none) S w [] :=
 ⟨fun _ _=>rfl,fun r h=>(by simp at h),fun r row h=>(by simp at h),fun r b o h=>(by cases h),fun r row b o h=>(by simp at h),fun r r' row row' b o b' o' _ h=>(by simp at h),fun r row b o h=>(by simp at h),
  fun r row b o h=>(by simp at h),inv.sbnd,inv.base,inv.stb,inv.os,inv.tape,inv.output,inv.grow,inv.kept,inv.glb⟩
inductive ArgRel (rows:Rows):V→V→Prop
 | data (x:D):ArgRel rows (.d x) (.d x)
 | fn (f:FuncId):ArgRel rows (.fn f []) (.fn f [])
 | list {v:V} {ps:List Prop} {es:List D} (h:listOf rows v = some (ps,es)) (hp:AllP ps):ArgRel rows v (.d (.list es))
inductive ArgsRel (rows:Rows):List V→List V→Prop
 | nil:ArgsRel rows [] []
 | cons {a b l r} (h:ArgRel rows a b) (t:ArgsRel rows l r):ArgsRel rows (a :: l) (b :: r)
theorem ArgsRel.rel (inv:Inv w0 own m S w rows) {m':Mp} {a b:List V} (h:ArgsRel rows a b):∀ {vs:Array Value},RVs m S w a vs→RVs m' S w b vs:=by
  intro vs hv
  have hl:a.length = b.length:=by
    induction h with
    | nil=>rfl
    | cons _ _ ih=>rename_i x y l r hx ht; simp only [List.length_cons]; exact congrArg (· + 1) (by
        clear hv
        have:∀ {l r:List V},ArgsRel rows l r→l.length = r.length:=by
          intro l r h
          induction h with
          | nil=>rfl
          | cons _ _ ih=>simp [ih]
        exact this ht)
  have key:∀ {a b:List V},ArgsRel rows a b→∀ (j:Nat) (y:V),b[j]? = some y→∃ x,a[j]? = some x∧ArgRel rows x y:=by
    intro a b h
    induction h with
    | nil=>intro j y hy; simp at hy
    | cons h1 _ ih =>
      intro j y hy
      cases j with
      | zero=>simp at hy; subst hy; exact ⟨_,rfl,h1⟩
      | succ j=>simp only [List.getElem?_cons_succ] at hy ⊢; exact ih j y hy
  refine ⟨by rw [← hl]; exact hv.1,fun j y u hy hu=>?_⟩
  obtain ⟨x,hx,hr⟩:=key h j y hy
  have:=hv.2 j x u hx hu
  cases hr with
  | data x=>exact .d _ _ (RV_d_inv this)
  | fn f =>
    cases this with
    | fn _ _ arr hlen hd=>exact .fn _ _ arr hlen (fun j x v hx=>by simp at hx)
  | list h hp=>exact .d _ _ (listOf_rel inv h hp this)
theorem RCs.of_lists {P:Program} {g:FuncId} {args args':List V} {v:V} (h:RCs P g args' [] v) (ha:ArgsRel rows args args'):RCs P g args rows v:=by
 intro w0 own m S w vs inv hro hv
 exact h w0 own (fun _=>none) S w vs inv.nothing (fun r row h=>(by simp at h)) (ha.rel inv hv)
noncomputable def sTurn (c:SCfg) (h:Hint) (stop:AS→Bool) (n k:Nat) (rs keep:List Nat) (s:AS):List Prop × Option AS :=
 match sTo c h stop n s with
 | (ps,.next s1)=>(ps,moveAS k rs keep s1)
 | (ps,_)=>(ps,none)
theorem Ends.turn {c:SCfg} {k:Nat} {s s':AS} {Q:V→Rows→Prop} (hc:COK c.cfg) (h:Hint) (stop:AS→Bool) (n:Nat) (rs keep:List Nat) {ps:List Prop} (e:sTurn c h stop n k rs keep s = (ps,some s')) (hp:AllP ps) (hk:Ends c k s' Q):Ends c k s Q:=by
 unfold sTurn at e
 split at e
 ·rename_i ps1 s1 h1
  injection e with e1 e2
  subst e1
  exact Ends.to hc h stop n h1 hp (Ends.move rs keep e2 hk)
 ·injection e with _ e2
  cases e2
def ints (l:List Int):List D:=l.map (D.int .i64)
def unI:D→Int
 | .int _ n=>n
 | _=>0
theorem ints_len (l:List Int):(ints l).length = l.length:=by simp [ints]
theorem ints_get {l:List Int} {i:Nat} (h:i < l.length):(ints l)[i]? = some (.int .i64 (l.getD i 0)):=by
 simp [ints,h]
theorem unI_ints (l:List Int):(ints l).map unI = l:=by
 induction l with
 | nil=>rfl
 | cons a l ih=>simp only [ints,List.map_cons,unI] at ih ⊢; rw [ih]
end Go.Aev
end
section
namespace Go.Aev
variable [Glob]
open Go.RowKit (Below)
variable {w0:World} {own:Own} {m:Mp} {S:Nat→Prop} {w:World} {rows:Rows}
end Go.Aev
end
section
namespace Go.Aev
variable [Glob]
open Go.RowKit (Below)
variable {P:Program} {w0:World} {own:Own} {m:Mp} {S:Nat→Prop} {w:World} {rows:Rows}
theorem Inv.trans {own':Own} {m':Mp} {S':Nat→Prop} {w':World} {rows2:Rows} (inv:Inv w0 own m S w rows) (hwr:∀ b,own' b→w0.heap.size ≤ b ∨ own b) (hst:∀ b,own'.st b ↔ S b) (i2:Inv w own' m' S' w' rows2):Inv w0 own m' S' w' rows2:=by
 refine ⟨i2.none,i2.fre,i2.row,i2.bnd,fun r row b o h1 h2 h3=>?_,i2.apart,i2.stab,i2.rost,i2.sbnd,fun b hb=>?_,fun b hb=>i2.stb b ((hst b).2 (inv.stb b hb)),i2.os.trans inv.os,i2.tape.trans inv.tape,i2.output.trans inv.output,Nat.le_trans inv.grow i2.grow,fun b hb hn=>?_,i2.glb⟩
 ·rcases i2.new r row b o h1 h2 h3 with h | h
  ·exact .inl (Nat.le_trans inv.grow h)
  ·exact hwr b h
 ·rcases i2.base b hb with h | h | h
  ·exact inv.base b ((hst b).1 h)
  ·exact .inr (.inl (Nat.le_trans inv.grow h))
  ·exact .inr (hwr b h)
 ·rw [i2.kept b (Nat.lt_of_lt_of_le hb inv.grow) (fun h=>by
   rcases hwr b h with h | h
   ·omega
   ·exact hn h)]
  exact inv.kept b hb hn
end Go.Aev
end
section
namespace Go.Aev
variable [Glob]
variable {w0:World} {own:Own} {m:Mp} {S:Nat→Prop} {w:World} {rows:Rows}
def anyNil (c:Cfg) (s:AS) (b:Bool):Option AS :=
 match s.fr.todo with
 | .it (.inRegion ops (i :: rest)) :: kk=>match ops[i]? with
  | some o=>match o.op with
   | .binOp .eql t x y _=>match wantedA ops s.fr.env o,c.T t,evalO s.fr.env x,evalO s.fr.env y with
    | some true,some ty,some (.d (.list [])),some .nil=>match ty.desc with
     | .slice _=>some { s with fr:={ s.fr with env:=setTmp s.fr.env o.dst (.d (.bool b)),todo:=.it (.inRegion ops rest) :: kk } }
     | _=>none
    | _,_,_,_=>none
   | _=>none
  | none=>none
 | _=>none
theorem Ends.anyNil {c:SCfg} (hc:COK c.cfg) {k:Nat} {s:AS} {Q:V→Rows→Prop} (h:∀ b:Bool,∃ s',Aev.anyNil c.cfg s b = some s'∧Ends c k s' Q):Ends c k s Q:=by
 intro w0 own bt f M hb hs
 obtain ⟨hbf,m,S,w,tmps,todo,ds,ro,cs,rfl,inv,hfr,hst⟩:=hs
 have ht:=hfr.todo
 have key:∃ b:Bool,∀ s',Aev.anyNil c.cfg s b = some s'→∃ M',Steps c.P (lone (rfr s.fr.fn tmps todo ds ro) cs w) M'∧SimF c.P w0 own bt f s' M':=by
  obtain ⟨s1,e1,_⟩:=h true
  unfold Aev.anyNil at e1
  split at e1
  ·rename_i ops i rest kk htodo
   rw [htodo] at ht
   cases ht with
   | cons hi tl =>
   rename_i kr
   cases hi
   split at e1
   ·rename_i o ho
    split at e1
    ·rename_i t x y z hop
     split at e1
     ·rename_i ty hw hT hx hy
      split at e1
      ·rename_i el hd
       have hρ:=opRel_of (fn:=s.fr.fn) (todo:=.inRegion ops (i :: rest) :: kr) (ds:=ds) (ro:=ro) inv.glb hfr.env
       have hxr:=RV_d_inv (hρ x _ hx)
       have hyr:=hρ y _ hy
       have hw':=wanted_rel hfr.env hw
       have hyr':(rfr s.fr.fn tmps (.inRegion ops (i :: rest) :: kr) ds ro).eval y = .slice none 0 0:=by
        generalize (rfr s.fr.fn tmps (.inRegion ops (i :: rest) :: kr) ds ro).eval y = yv at hyr
        cases hyr; rfl
       have hxr':∃ p n cap,(rfr s.fr.fn tmps (.inRegion ops (i :: rest) :: kr) ds ro).eval x = .slice p n cap:=by
        generalize (rfr s.fr.fn tmps (.inRegion ops (i :: rest) :: kr) ds ro).eval x = xv at hxr
        cases hxr with
        | emp p cap=>exact ⟨_,_,_,rfl⟩
        | row es b o cap k n vs=>exact ⟨_,_,_,rfl⟩
       obtain ⟨p,n,cap,hxe⟩:=hxr'
       have hpair:NilPair ty.desc (.slice p n cap) (.slice none 0 0) p.isNone:=by
        rw [hd]
        cases p with
        | none=>exact .s0 ..
        | some q=>exact .s1 ..
       obtain ⟨h1,h2,h3,h4⟩:=nilPair_run (P:=c.P) (w:=w) (show tyOf c.P t = some ty from hc.T t ty hT) hpair
       refine ⟨p.isNone,fun s' he=>?_⟩
       unfold Aev.anyNil at he
       simp only [htodo,ho,hop,hw,hT,hx,hy,hd] at he
       cases he
       have hnd:∀ cc,o.op ≠ .defer cc:=by rw [hop]; intro cc hcc; cases hcc
       have hrun:(execOp (rfr s.fr.fn tmps (.inRegion ops (i :: rest) :: kr) ds ro).eval o).run c.P w = .ok (.value (.bool p.isNone)) w:=by
        obtain ⟨dst,op,type,pos,after,guard⟩:=o
        simp only at hop
        subst hop
        have h0:(do eqGuard .eql t x y ((rfr s.fr.fn tmps (.inRegion ops (i :: rest) :: kr) ds ro).eval x) ((rfr s.fr.fn tmps (.inRegion ops (i :: rest) :: kr) ds ro).eval y); binOp .eql t ((rfr s.fr.fn tmps (.inRegion ops (i :: rest) :: kr) ds ro).eval x) ((rfr s.fr.fn tmps (.inRegion ops (i :: rest) :: kr) ds ro).eval y):Sem Value).run c.P w = .ok (.bool p.isNone) w:=by
         rw [hxe,hyr']
         simp only [Sem.run_bind,h2,Result.andThen_ok,h3,h1,Sem.run_pure]
        have h5:∀ (sv:Sem Value) (u:Value),sv.run c.P w = .ok u w→(do pure (Next.value (← sv)):Sem Next).run c.P w = .ok (.value u) w:=fun sv u hh=>by simp [hh]
        exact h5 _ _ h0
       refine ⟨_,.one (m_op ho hw' hnd hrun (.inl rfl)),?_,m,S,w,_,_,ds,ro,cs,rfl,inv,⟨putT_rel hfr.env (.d _ _ (.bool _)) o.dst,.cons rfl tl,hfr.ds,hfr.ro⟩,hst⟩
       show botFn _ s.stack = f
       rw [botFn_eq] at hbf ⊢
       exact hbf
      ·cases e1
     ·cases e1
    ·cases e1
   ·cases e1
  ·cases e1
 obtain ⟨b,hk⟩:=key
 obtain ⟨s',e1,e2⟩:=h b
 obtain ⟨M',st,hs'⟩:=hk s' e1
 obtain ⟨v,rows',hq,hf⟩:=e2 w0 own bt f M' hb hs'
 exact ⟨v,rows',hq,hf.of_steps st⟩
end Go.Aev
end
section
namespace Go.Aev
variable [Glob]
def sameI:Int→Int→Bool
 | .ofNat a,.ofNat b=>Nat.beq a b
 | .negSucc a,.negSucc b=>Nat.beq a b
 | _,_=>false
theorem sameI_eq {a b:Int} (h:sameI a b = true):a = b:=by
 unfold sameI at h
 split at h
 ·rw [Nat.beq_eq] at h; rw [h]
 ·rw [Nat.beq_eq] at h; rw [h]
 ·cases h
def sameU:List UInt8→List UInt8→Bool
 | [],[]=>true
 | a :: l,b :: r=>match Nat.beq a.toNat b.toNat with
  | true=>sameU l r
  | false=>false
 | _,_=>false
theorem sameU_eq:∀ {l r:List UInt8},sameU l r = true→l = r
 | [],[],_=>rfl
 | a :: l,b :: r,h=>by
  simp only [sameU] at h
  split at h
  ·rename_i h1
   rw [Nat.beq_eq] at h1
   rw [UInt8.toNat_inj.1 h1,sameU_eq h]
  ·cases h
 | [],_ :: _,h=>by cases h
 | _ :: _,[],h=>by cases h
def sameS (a b:ByteArray):Bool:=sameU a.data.toList b.data.toList
theorem sameS_eq {a b:ByteArray} (h:sameS a b = true):a = b:=by
 have:=sameU_eq h
 cases a; cases b
 simp only [ByteArray.mk.injEq]
 exact Array.toList_inj.1 this
mutual
def D.same:D→D→Bool
 | .int k n,.int k' n'=>match decide (k = k') with
  | true=>sameI n n'
  | false=>false
 | .bool b,.bool b'=>b == b'
 | .str s,.str s'=>sameS s s'
 | .list l,.list r=>D.sames l r
 | .agg l,.agg r=>D.sames l r
 | .nilp,.nilp=>true
 | .nilf,.nilf=>true
 | .nilm,.nilm=>true
 | .nili,.nili=>true
 | _,_=>false
def D.sames:List D→List D→Bool
 | [],[]=>true
 | a :: l,b :: r=>match D.same a b with
  | true=>D.sames l r
  | false=>false
 | _,_=>false
end
mutual
theorem D.same_eq:∀ {a b:D},D.same a b = true→a = b
 | .int k n,b,h=>by
  cases b <;> simp only [D.same] at h <;> try cases h
  split at h
  ·rename_i hk; rw [of_decide_eq_true hk,sameI_eq h]
  ·cases h
 | .bool x,b,h=>by cases b <;> simp only [D.same] at h <;> first | (cases h; done) | (have:=beq_iff_eq.1 h; rw [this])
 | .str x,b,h=>by cases b <;> simp only [D.same] at h <;> first | (cases h; done) | rw [sameS_eq h]
 | .list l,b,h=>by cases b <;> simp only [D.same] at h <;> first | (cases h; done) | rw [D.sames_eq h]
 | .agg l,b,h=>by cases b <;> simp only [D.same] at h <;> first | (cases h; done) | rw [D.sames_eq h]
 | .nilp,b,h=>by cases b <;> simp only [D.same] at h <;> first | (cases h; done) | rfl
 | .nilf,b,h=>by cases b <;> simp only [D.same] at h <;> first | (cases h; done) | rfl
 | .nilm,b,h=>by cases b <;> simp only [D.same] at h <;> first | (cases h; done) | rfl
 | .nili,b,h=>by cases b <;> simp only [D.same] at h <;> first | (cases h; done) | rfl
theorem D.sames_eq:∀ {l r:List D},D.sames l r = true→l = r
 | [],[],_=>rfl
 | a :: l,b :: r,h=>by
  simp only [D.sames] at h
  split at h
  ·rename_i h1; rw [D.same_eq h1,D.sames_eq h]
  ·cases h
 | [],_ :: _,h=>by simp [D.sames] at h
 | _ :: _,[],h=>by simp [D.sames] at h
end
mutual
def V.same:V→V→Bool
 | .d x,.d y=>D.same x y
 | .nil,.nil=>true
 | .sl r k o l c e,.sl r' k' o' l' c' e'=>Nat.beq r r' && Nat.beq k k' && Nat.beq o o' && Nat.beq l l' && Nat.beq c c' && (e == e')
 | .pt r k i f,.pt r' k' i' f'=>Nat.beq r r' && Nat.beq k k' && Nat.beq i i' && Nat.beq f f'
 | .dp x,.dp y=>D.same x y
 | .fn f cs,.fn f' cs'=>Nat.beq f f' && V.sames cs cs'
 | .agg l,.agg r=>V.sames l r
 | .tup l,.tup r=>V.sames l r
 | .bf f cs,.bf f' cs'=>Nat.beq f f' && V.sames cs cs'
 | .mp r,.mp r'=>Nat.beq r r'
 | .fp l,.fp r=>V.sames l r
 | .ifc t x,.ifc t' y=>Nat.beq t t' && V.same x y
 | _,_=>false
def V.sames:List V→List V→Bool
 | [],[]=>true
 | a :: l,b :: r=>match V.same a b with
  | true=>V.sames l r
  | false=>false
 | _,_=>false
end
mutual
theorem V.same_eq:∀ {a b:V},V.same a b = true→a = b
 | .d x,b,h=>by cases b <;> simp only [V.same] at h <;> first | (cases h; done) | rw [D.same_eq h]
 | .nil,b,h=>by cases b <;> simp only [V.same] at h <;> first | (cases h; done) | rfl
 | .sl r k o l c e,b,h=>by
  cases b <;> simp only [V.same] at h <;> try (cases h; done)
  simp only [Bool.and_eq_true,Nat.beq_eq,beq_iff_eq] at h
  obtain ⟨⟨⟨⟨⟨h1,h2⟩,h3⟩,h4⟩,h5⟩,h6⟩:=h
  rw [h1,h2,h3,h4,h5,h6]
 | .pt r k i f,b,h=>by
  cases b <;> simp only [V.same] at h <;> try (cases h; done)
  simp only [Bool.and_eq_true,Nat.beq_eq] at h
  obtain ⟨⟨⟨h1,h2⟩,h3⟩,h4⟩:=h
  rw [h1,h2,h3,h4]
 | .dp x,b,h=>by cases b <;> simp only [V.same] at h <;> first | (cases h; done) | rw [D.same_eq h]
 | .fn f cs,b,h=>by
  cases b <;> simp only [V.same] at h <;> try (cases h; done)
  simp only [Bool.and_eq_true,Nat.beq_eq] at h
  rw [h.1,V.sames_eq h.2]
 | .agg l,b,h=>by cases b <;> simp only [V.same] at h <;> first | (cases h; done) | rw [V.sames_eq h]
 | .tup l,b,h=>by cases b <;> simp only [V.same] at h <;> first | (cases h; done) | rw [V.sames_eq h]
 | .bf f cs,b,h=>by
  cases b <;> simp only [V.same] at h <;> try (cases h; done)
  simp only [Bool.and_eq_true,Nat.beq_eq] at h
  rw [h.1,V.sames_eq h.2]
 | .yl r,b,h=>by cases b <;> simp [V.same] at h
 | .mp r,b,h=>by
  cases b <;> simp only [V.same] at h <;> try (cases h; done)
  rw [Nat.beq_eq] at h; rw [h]
 | .top,b,h=>by cases b <;> simp [V.same] at h
 | .ifc t x,b,h=>by
  cases b <;> simp only [V.same] at h <;> try (cases h; done)
  simp only [Bool.and_eq_true,Nat.beq_eq] at h
  rw [h.1,V.same_eq h.2]
 | .fp l,b,h=>by cases b <;> simp only [V.same] at h <;> first | (cases h; done) | rw [V.sames_eq h]
 | .fm _ _,b,h=>by cases b <;> simp [V.same] at h
 | .any,b,h=>by cases b <;> simp [V.same] at h
theorem V.sames_eq:∀ {l r:List V},V.sames l r = true→l = r
 | [],[],_=>rfl
 | a :: l,b :: r,h=>by
  simp only [V.sames] at h
  split at h
  ·rename_i h1; rw [V.same_eq h1,V.sames_eq h]
  ·cases h
 | [],_ :: _,h=>by simp [V.sames] at h
 | _ :: _,[],h=>by simp [V.sames] at h
end
def sameEs:List (D × V)→List (D × V)→Bool
 | [],[]=>true
 | a :: l,b :: r=>D.same a.1 b.1 && V.same a.2 b.2 && sameEs l r
 | _,_=>false
theorem sameEs_eq:∀ {l r:List (D × V)},sameEs l r = true→l = r
 | [],[],_=>rfl
 | (a,x) :: l,(b,y) :: r,h=>by
  simp only [sameEs,Bool.and_eq_true] at h
  rw [D.same_eq h.1.1,V.same_eq h.1.2,sameEs_eq h.2]
 | [],_ :: _,h=>by simp [sameEs] at h
 | _ :: _,[],h=>by simp [sameEs] at h
def Slot.same:Slot→Slot→Bool
 | .live (.dat k es ro),.live (.dat k' es' ro')=>Nat.beq k k' && D.sames es es' && (ro == ro')
 | .live (.box cs ro),.live (.box cs' ro')=>V.sames cs cs' && (ro == ro')
 | .live (.map es k ro),.live (.map es' k' ro')=>Nat.beq k k' && sameEs es es' && (ro == ro')
 | .dead,.dead=>true
 | .free,.free=>true
 | _,_=>false
theorem Slot.same_eq {a b:Slot} (h:Slot.same a b = true):a = b:=by
 unfold Slot.same at h
 split at h
 ·simp only [Bool.and_eq_true,Nat.beq_eq,beq_iff_eq] at h
  obtain ⟨⟨h1,h2⟩,h3⟩:=h
  rw [h1,D.sames_eq h2,h3]
 ·simp only [Bool.and_eq_true,beq_iff_eq] at h
  rw [V.sames_eq h.1,h.2]
 ·simp only [Bool.and_eq_true,Nat.beq_eq,beq_iff_eq] at h
  rw [h.1.1,sameEs_eq h.1.2,h.2]
 ·rfl
 ·rfl
 ·cases h
def sameRows:Rows→Rows→Bool
 | [],[]=>true
 | a :: l,b :: r=>match Slot.same a b with
  | true=>sameRows l r
  | false=>false
 | _,_=>false
theorem sameRows_eq:∀ {l r:Rows},sameRows l r = true→l = r
 | [],[],_=>rfl
 | a :: l,b :: r,h=>by
  simp only [sameRows] at h
  split at h
  ·rename_i h1; rw [Slot.same_eq h1,sameRows_eq h]
  ·cases h
 | [],_ :: _,h=>by simp [sameRows] at h
 | _ :: _,[],h=>by simp [sameRows] at h
structure Ent where
 g:FuncId
 args:List V
 rows:Rows
 v:V
def lookT:List Ent→FuncId→List V→Rows→Option V
 | [],_,_,_=>none
 | e :: t,g,args,rows=>match Nat.beq e.g g && V.sames e.args args && sameRows e.rows rows with
  | true=>some e.v
  | false=>lookT t g args rows
theorem lookT_mem:∀ {t:List Ent} {g:FuncId} {args:List V} {rows:Rows} {v:V},lookT t g args rows = some v→(⟨g,args,rows,v⟩:Ent) ∈ t
 | e :: t,g,args,rows,v,h=>by
  simp only [lookT] at h
  split at h
  ·rename_i hh
   cases h
   simp only [Bool.and_eq_true,Nat.beq_eq] at hh
   obtain ⟨⟨h1,h2⟩,h3⟩:=hh
   have e1:=V.sames_eq h2
   have e2:=sameRows_eq h3
   cases e
   simp only at h1 e1 e2
   subst h1 e1 e2
   exact List.mem_cons_self
  ·exact List.mem_cons_of_mem _ (lookT_mem h)
noncomputable def runT (c:Cfg) (fuel:Nat) (g:FuncId) (args:List V) (rows:Rows):Option V :=
 fenter c g args none fun e cd=>match frun c fuel ⟨g,e,[.cd cd],none,([],[]),[],ofRows rows 0 .lf,rows.length⟩ with
  | .done v t _=>convV (rget t) v
  | _=>none
theorem rcs_of_runT {c:Cfg} (hc:COK c) {fuel:Nat} {g:FuncId} {args:List V} {rows:Rows} {v:V} (h:runT c fuel g args rows = some v):RCs c.P g args rows v:=by
 intro w0 own m S w vs inv hro hargs
 unfold runT at h
 rcases fenter_rel c g args with he | ⟨e,cd,l,h1,h2,h3⟩
 ·rw [he] at h; cases h
 ·rw [h1] at h
  split at h
  ·rename_i v' t' n' hrun
   have hcalls:=calls_of_frun hc h2 h3 (ofRows_rel rows) (Nat.le_refl _) hrun (inv.rebase hro) hargs
   refine hcalls.mono fun e w' ⟨u,he,rows',m',S',hrr,i1,r1⟩=>⟨u,he,?_⟩
   have hg:rget t' = liveAt rows':=funext hrr
   rw [hg] at h
   obtain ⟨S2,rows2,i2,r2⟩:=convV_sound i1 h r1
   refine ⟨S2,fun c hc=>i2.stb c hc,fun c hc=>?_,r2,fun c hc=>i2.kept c hc (fun h=>h),i2.grow,i2.os,i2.tape,i2.output⟩
   rcases i2.base c hc with h1 | h1 | h1
   ·exact .inl h1
   ·exact .inr ⟨h1,i2.sbnd c hc⟩
   ·exact h1.elim
  ·cases h
end Go.Aev
end
section
namespace Go.Aev
variable [Glob]
def rcBy (P:Program) (g:FuncId):Bool:=match P.funcs[g]? with
 | some gf=>gf.body.isSome
 | none=>false
def mkBy (P:Program) (po:FuncId→Bool) (sRC:FuncId→List V→Aev.Rows→Option (List Prop × V)):SCfg:={ P:=P,T:=tyOf P,F:=fun g=>P.funcs[g]?,rc:=rcBy P,po,sRC }
theorem name_by {P:Program} (names:(P.funcs.toList.all fun f=>!(f.name == "runtime.NumGoroutine")) = true) {g:FuncId} {gf:Func} (h:P.funcs[g]? = some gf):(gf.name == "runtime.NumGoroutine") = false:=by
 have:=(List.all_eq_true.1 names) gf (by rw [Array.mem_toList_iff]; exact Array.mem_of_getElem? h)
 simpa using this
theorem rcs_by {P:Program} (names:(P.funcs.toList.all fun f=>!(f.name == "runtime.NumGoroutine")) = true) (g:FuncId) (h:rcBy P g = true):∃ gf,P.funcs[g]? = some gf∧gf.body.isSome = true∧(gf.name == "runtime.NumGoroutine") = false:=by
 unfold rcBy at h
 split at h
 ·rename_i gf hg; exact ⟨gf,hg,h,name_by names hg⟩
 ·cases h
def mkW (P:Program) (po:FuncId→Bool) (sRC:FuncId→List V→Aev.Rows→Option (List Prop × V)) (sWC:FuncId→List V→Aev.Rows→Option (List Prop × V × Aev.Rows)):SCfg:={ P:=P,T:=tyOf P,F:=fun g=>P.funcs[g]?,rc:=rcBy P,po,sRC,sWC }
theorem mkW_ok {P:Program} (names:(P.funcs.toList.all fun f=>!(f.name == "runtime.NumGoroutine")) = true) (mixed:P.follows .mixedOrders = true)
  {po:FuncId→Bool} {sRC:FuncId→List V→Aev.Rows→Option (List Prop × V)} {sWC:FuncId→List V→Aev.Rows→Option (List Prop × V × Aev.Rows)} (ht:TableOK (mkW P po sRC sWC)) (hw:TableW (mkW P po sRC sWC)):COK (mkW P po sRC sWC).cfg :=
 scfg_okW (fun _ _ h=>h) (fun _ _ h=>⟨h,name_by names h⟩) (rcs_by names) mixed ht hw
theorem mkBy_ok {P:Program} (names:(P.funcs.toList.all fun f=>!(f.name == "runtime.NumGoroutine")) = true) (mixed:P.follows .mixedOrders = true)
  {po:FuncId→Bool} {sRC:FuncId→List V→Aev.Rows→Option (List Prop × V)} (ht:TableOK (mkBy P po sRC)):COK (mkBy P po sRC).cfg :=
 scfg_ok (fun _ _ h=>h) (fun _ _ h=>⟨h,name_by names h⟩) (rcs_by names) mixed ht
def nextOf (o:List Prop × Out):AS:=match o.2 with
 | .next s=>s
 | _=>⟨⟨0,[],[],none,[],[]⟩,[],[]⟩
noncomputable def start (c:SCfg) (g:FuncId) (args:List V) (rows:Aev.Rows):AS:=match enterA c.cfg g args with
 | some fr=>⟨fr,[],rows⟩
 | none=>⟨⟨0,[],[],none,[],[]⟩,[],[]⟩
abbrev I (n:Int):V:=.d (.int .i64 n)
abbrev U8 (n:Int):V:=.d (.int .u8 n)
abbrev U64 (n:Int):V:=.d (.int .u64 n)
abbrev B (b:Bool):V:=.d (.bool b)
abbrev L (l:List Int):V:=.d (.list (ints l))
abbrev LB (l:List UInt8):V:=.d (.list (bytesL l))
def envOf (n:Nat) (l:List (Nat × V)):List V:=(List.range n).map fun i=>match l.find? (fun p=>Nat.beq p.1 i) with
 | some p=>p.2
 | none=>.any
def hd (g:FuncId) (td:List AItem) (n:Nat) (l:List (Nat × V)) (rows:Aev.Rows):AS:=⟨⟨g,envOf n l,td,none,[],[]⟩,[],rows⟩
theorem start_eq {c:SCfg} {g:FuncId} {args:List V} {rows:Aev.Rows} {fr:AF} (h:enterA c.cfg g args = some fr):start c g args rows = ⟨fr,[],rows⟩:=by unfold start; rw [h]
theorem rcs_of {c:SCfg} (hc:COK c.cfg) {g:FuncId} {args:List V} {rows:Aev.Rows} {x:V} (he:(enterA c.cfg g args).isSome = true) (h:Ends c 0 (start c g args rows) fun v rows'=>convV (liveAt rows') v = some x):RCs c.P g args rows x:=by
 obtain ⟨fr,hf⟩:=Option.isSome_iff_exists.1 he
 rw [start_eq hf] at h
 exact rcs_of_does (does_of_ends hc hf h)
theorem does_of {c:SCfg} (hc:COK c.cfg) {g:FuncId} {k:Nat} {args:List V} {rows:Aev.Rows} {R:V→Aev.Rows→Prop} (he:(enterA c.cfg g args).isSome = true) (h:Ends c k (start c g args rows) R):Does c.P g k args rows R:=by
 obtain ⟨fr,hf⟩:=Option.isSome_iff_exists.1 he
 rw [start_eq hf] at h
 exact does_of_ends hc hf h
def hints (gd:List (Nat × Bool)) (lst:List (Nat × (Nat→D)):=[]) (row:List (Nat × (Nat→D)):=[]) (md:Nat:=0) (ar:Bool:=false) (sh:Bool:=false):Hint :=
 {gd:=fun i=>match gd.find? (fun p=>Nat.beq p.1 i) with | some p=>some p.2 | none=>none,lst:=fun t=>lst.find? (fun p=>Nat.beq p.1 t) |>.map (·.2),row:=fun t=>row.find? (fun p=>Nat.beq p.1 t) |>.map (·.2),md,ar,sh }
def elI (l:List Int):Nat→D:=fun i=>.int .i64 (l.getD i 0)
def elB (l:List UInt8):Nat→D:=fun i=>byteD (l.getD i 0)
end Go.Aev
namespace Go.Aev
variable [Glob]
def anyLoop (s:AS):Bool :=
 match s.fr.todo,s.stack with
 | .it (.inLoop _) :: _,[]=>true
 | .it (.code (.loop _)) :: _,[]=>true
 | _,_=>false
end Go.Aev
end
