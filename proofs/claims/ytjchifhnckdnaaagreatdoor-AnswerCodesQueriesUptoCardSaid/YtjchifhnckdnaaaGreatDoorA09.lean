/- Lemmas for the statements of this seat: an abstract machine that the model follows, and contracts of functions. Conditions: none. -/
import Derived.Test.YtjchifhnckdnaaaGreatDoorA08
import Derived.Recover
set_option linter.unusedVariables false
set_option linter.unusedSimpArgs false
set_option linter.unusedSectionVars false
section
namespace Go.Aev
variable [Glob]
variable {P:Program} {w0:World} {own:Own} {m:Mp} {S:Nat→Prop} {w:World} {rows:Rows}
theorem actRel_of {env:List V} {a:Act} (hgl:Glb S w) (h:REs m S w env a.tmps):OpRel m S w env a.eval:=by
 intro x v hx
 cases x with
 | tmp t=>exact env_known h hx
 | const u=>exact ofVal_sound hx
 | global g =>
  simp only [evalO] at hx
  split at hx
  ·rename_i x hg; cases hx; exact hgl.any hg
  ·cases hx
 | func f=>simp only [evalO,Option.some.injEq] at hx; subst hx; exact .fn f [] #[] rfl (fun j x v h=>by simp at h)
theorem enter_env {args:List V} {as:Array Value} (ha:RVs m S w args as) (n:Nat):RVs m S w (args ++ List.replicate (n - args.length) V.undef) (as ++ Array.replicate (n - args.length) Go.undef):=by
 have:RVs m S w (List.replicate (n - args.length) V.undef) (Array.replicate (n - args.length) Go.undef):=by
  refine ⟨by simp,fun j x v hx hv=>?_⟩
  rw [(List.mem_replicate.1 (List.mem_of_getElem? hx)).2,(Array.mem_replicate.1 (Array.mem_of_getElem? hv)).2]
  exact undef_rel
 exact RVs_append ha this
theorem put_tmps (a:Act) (dst:Option Tmp) (v:Value):(a.put dst v).tmps = putT a.tmps dst v∧(a.put dst v).defers = a.defers:=by
 cases dst <;> exact ⟨rfl,rfl⟩
theorem live_isSome {r:Nat} (h:(liveAt rows r).isSome = true):r < rows.length:=by
 rcases Nat.lt_or_ge r rows.length with h1 | h1
 ·exact h1
 ·unfold liveAt at h; rw [List.getElem?_eq_none h1] at h; cases h
theorem applyUps_rows {us:List (Nat × Slot)}:∀ {rows:Rows},(∀ u ∈ us,u.1 < rows.length)→applyUps us rows = setRows us rows:=by
 induction us with
 | nil=>intro rows _; rfl
 | cons u us ih =>
  intro rows h
  show applyUps us (setSlot rows u.1 u.2) = setRows us (rows.set u.1 u.2)
  have hu:=h u (by simp)
  have:setSlot rows u.1 u.2 = rows.set u.1 u.2:=by unfold setSlot; rw [if_pos hu]
  rw [this,ih (fun v hv=>by rw [List.length_set]; exact h v (by simp [hv]))]
theorem upsLook_ok {us:List (Nat × Slot)}:∀ {g:Nat→Option Row} {rows:Rows},GOK g rows→(∀ u ∈ us,u.1 < rows.length)→GOK (upsLook g us) (setRows us rows):=by
 induction us with
 | nil=>intro g rows h _; exact h
 | cons u us ih =>
  intro g rows h hu
  refine ih (rows:=rows.set u.1 u.2) (g:=fun r=>if r = u.1 then (match u.2 with | .live row=>some row | _=>none) else g r) ?_ (fun v hv=>by rw [List.length_set]; exact hu v (by simp [hv]))
  intro r row hr
  simp only at hr
  by_cases e:r = u.1
  ·subst e
   rw [if_pos rfl] at hr
   rw [List.getElem?_set_self (hu u (by simp))]
   cases hs:u.2 with
   | live row'=>rw [hs] at hr; simp only [Option.some.injEq] at hr; rw [hr]
   | _=>rw [hs] at hr; cases hr
  ·rw [if_neg e] at hr
   rw [List.getElem?_set_ne (fun e'=>e e'.symm)]
   exact h r row hr
theorem dOK_slot {T:TypeId→Option Ty} {o:Op} (h:dOK o = true) (g:Look) (slot slot':Nat) (vs:List V):act T g slot o vs = act T g slot' o vs:=by
 unfold dOK at h
 split at h <;> first
  | (cases h; done)
  | (rcases vs with _ | ⟨a,_ | ⟨b,_ | ⟨c,_ | ⟨d,vs⟩⟩⟩⟩ <;> first
    | rfl
    | (rcases a with d | _ | _ | _ | _ | _ | _ | _ | _ | _ | _ | _ <;> first
      | rfl
      | (cases d <;> rfl)))
structure DOn (w0:World) (own:Own) (rows0:Rows) (m:Mp) (S:Nat→Prop) (w:World) (s:DSt) (a:Act) (w1:World):Prop where
 ds:a.defers = []
 ups:∀ u ∈ s.ups,(liveAt rows0 u.1).isSome = true
 inv:∃ m1 S1,Inv w0 own m1 S1 w1 (setRows s.ups rows0)∧REs m1 S1 w1 s.env a.tmps∧Ext m S w m1 S1 w1
theorem DOn.put {rows0:Rows} {s:DSt} {a:Act} {w1 w2:World} {m1:Mp} {S1:Nat→Prop} {us:List (Nat × Slot)} {v:V} {u:Value} (h:DOn w0 own rows0 m S w s a w1) (hus:us.all (fun u=>(liveAt rows0 u.1).isSome) = true)
  {m0:Mp} {S0:Nat→Prop} (h0:REs m0 S0 w1 s.env a.tmps) (h1:Ext m S w m0 S0 w1) (h2:Ext m0 S0 w1 m1 S1 w2) (inv:Inv w0 own m1 S1 w2 (setRows (s.ups ++ us) rows0)) (hv:RV m1 S1 w2 v u) (dst:Option Nat) :
  DOn w0 own rows0 m S w { env:=setTmp s.env dst v,ups:=s.ups ++ us } (a.put dst u) w2:=by
 obtain ⟨e1,e2⟩:=put_tmps a dst u
 refine ⟨e2.trans h.ds,fun x hx=>?_,m1,S1,inv,by rw [e1]; exact putT_rel (h0.ext h2) hv dst,h1.trans h2⟩
 rcases List.mem_append.1 hx with hx | hx
 ·exact h.ups x hx
 ·exact (List.all_eq_true.1 hus) x hx
theorem run_recover {ρ:Operand→Value} {o:Oper} {as:Array Operand} {ats:Array TypeId} (h:o.op = .call ⟨.builtin .recover,as,ats⟩):(execOp ρ o).run P w = .ok .recover w:=by
 obtain ⟨dst,op,type,pos,after,guard⟩:=o
 simp only at h
 subst h
 rfl
theorem dOps_sound {T:TypeId→Option Ty} (hT:TOK P T) {ops:Array Oper} {cs:List Frame} (hcs:recoverD cs = none) {rows0:Rows} {Q:Exit→Act→List Frame→World→Prop} {s':DSt}:∀ {l:List Nat} {s:DSt} {a:Act} {w1:World},
  dOps T (liveAt rows0) ops l s = some s'→DOn w0 own rows0 m S w s a w1→(∀ a' w',DOn w0 own rows0 m S w s' a' w'→Q .normal a' cs w')→wpOpsS P ops Q l a cs w1
 | [],s,a,w1,h,hd,hq=>by
  simp only [dOps,Option.some.injEq] at h; subst h
  exact hq a w1 hd
 | i :: l,s,a,w1,h,hd,hq=>by
  simp only [dOps] at h
  split at h
  ·rename_i o ho
   split at h
   ·rename_i s1 h1
    simp only [wpOpsS,ho]
    obtain ⟨m1,S1,inv,henv,e1⟩:=hd.inv
    have hlt:∀ u ∈ s.ups,u.1 < rows0.length:=fun u hu=>live_isSome (hd.ups u hu)
    unfold dOp at h1
    split at h1
    ·cases h1
    ·rename_i hw
     cases h1
     have hw':=wanted_rel henv hw
     rw [if_neg (by rw [hw']; simp)]
     have hd2:=hd.put (us:=[]) (dst:=o.dst) (by rfl) henv e1 (Ext.refl ..) (by simpa using inv) (undef_rel (m:=m1) (S:=S1) (w:=w1))
     simp only [List.append_nil] at hd2
     exact dOps_sound hT hcs h hd2 hq
    ·rename_i hw
     have hw':=wanted_rel henv hw
     rw [if_pos hw']
     have hρ:=actRel_of inv.glb henv
     split at h1
     ·rename_i as ats hop
      cases h1
      rw [run_recover hop]
      simp only [hcs]
      have hd2:=hd.put (us:=[]) (v:=.d .nili) (u:=.nilIface) (dst:=o.dst) (by rfl) henv e1 (Ext.refl ..) (by simpa using inv) (.d _ _ .nili)
      simp only [List.append_nil] at hd2
      exact dOps_sound hT hcs h hd2 hq
     ·split at h1
      ·cases h1
      ·rename_i hok
       simp only [Bool.not_eq_true',Bool.not_eq_false] at hok
       split at h1
       ·rename_i vs hvs
        split at h1
        ·rename_i v us hact
         split at h1
         ·rename_i hus
          cases h1
          rw [dOK_slot hok _ 0 (setRows s.ups rows0).length vs] at hact
          have hg:GOK (fun r=>if (vs.flatMap V.refs).contains r then upsLook (liveAt rows0) s.ups r else none) (setRows s.ups rows0):=by
           intro r row hr
           simp only at hr
           split at hr
           ·exact upsLook_ok (liveAt_ok rows0) hlt r row hr
           ·cases hr
          obtain ⟨nx,u,w2,m2,S2,hrun,hnx,i1,e2,r1⟩:=act_sound hT hg inv (SlotOK.mk' inv (Nat.le_refl _) (inv.none _ (Nat.le_refl _))) hρ hvs hact
          have hi:Inv w0 own m2 S2 w2 (setRows (s.ups ++ us) rows0):=by
           have:setRows (s.ups ++ us) rows0 = applyRes (setRows s.ups rows0).length ⟨v,us,none⟩ (setRows s.ups rows0):=by
            show _ = applyUps us (setRows s.ups rows0)
            rw [applyUps_rows (fun u hu=>by rw [setRows_len]; exact live_isSome ((List.all_eq_true.1 hus) u hu))]
            simp [setRows,List.foldl_append]
           rw [this]; exact i1
          have hd2:=hd.put (dst:=o.dst) hus henv e1 e2 hi r1
          rw [hrun]
          rcases hnx with rfl | ⟨rfl,rfl⟩
          ·exact dOps_sound hT hcs h hd2 hq
          ·exact dOps_sound hT hcs h hd2 hq
         ·cases h1
        ·cases h1
       ·cases h1
   ·cases h
  ·cases h
def DEx.out:DEx→Exit
 | .normal=>.normal
 | .ret=>.ret
 | .exit id=>.exit id
theorem wpS_block {Q:Exit→Act→List Frame→World→Prop} {a:Act} {cs:List Frame} {id:Nat} {c:Code} {ex:DEx} (h:c.wpS P (fun e a' cs' w'=>e = ex.out∧Q (match ex with | .exit id'=>if id' = id then .normal else ex.out | _=>ex.out) a' cs' w') a cs w):(Code.block id c).wpS P Q a cs w:=by
 intro b k hb hr
 obtain ⟨e,a₁,cs₁,w₁,⟨rfl,hq⟩,harr⟩:=h b (.inBlock id :: k) hb hr
 cases ex with
 | normal=>exact ⟨.normal,a₁,cs₁,w₁,hq,.head step_block (Steps.trans harr (.one step_inBlock))⟩
 | exit id' =>
  by_cases hid:id' = id
  ·simp only [hid,if_true] at hq
   exact ⟨.normal,a₁,cs₁,w₁,hq,.head step_block (harr k (by simp [exitTo,hid]))⟩
  ·simp only [hid,if_false] at hq
   refine ⟨.exit id',a₁,cs₁,w₁,hq,fun k' hk=>.head step_block (harr k' ?_)⟩
   have:(id == id') = false:=by simp; exact fun h=>hid h.symm
   simp [exitTo,this,hk]
 | ret=>exact ⟨_,a₁,cs₁,w₁,hq,.of_steps (.one step_block) harr⟩
theorem dCode_sound {T:TypeId→Option Ty} (hT:TOK P T) {cs:List Frame} (hcs:recoverD cs = none) {rows0:Rows}:∀ (cd:Code) {s s':DSt} {ex:DEx} {a:Act} {w1:World} {Q:Exit→Act→List Frame→World→Prop},
  dCode T (liveAt rows0) cd s = some (ex,s')→DOn w0 own rows0 m S w s a w1→(∀ a' w',DOn w0 own rows0 m S w s' a' w'→Q ex.out a' cs w')→cd.wpS P Q a cs w1:=by
 intro cd
 induction cd with
 | skip=>intro s s' ex a w1 Q h hd hq; simp only [dCode,Option.some.injEq,Prod.mk.injEq] at h; obtain ⟨rfl,rfl⟩:=h; exact wpS_of_wp (wp_skip (hq _ _ hd))
 | ret=>intro s s' ex a w1 Q h hd hq; simp only [dCode,Option.some.injEq,Prod.mk.injEq] at h; obtain ⟨rfl,rfl⟩:=h; exact wpS_of_wp (wp_ret (hq _ _ hd))
 | exit id=>intro s s' ex a w1 Q h hd hq; simp only [dCode,Option.some.injEq,Prod.mk.injEq] at h; obtain ⟨rfl,rfl⟩:=h; exact wpS_of_wp (wp_exit (hq _ _ hd))
 | seq x y ihx ihy =>
  intro s s' ex a w1 Q h hd hq
  simp only [dCode] at h
  cases hx:dCode T (liveAt rows0) x s with
  | none=>rw [hx] at h; cases h
  | some p =>
   obtain ⟨e1,s1⟩:=p
   rw [hx] at h
   refine wpS_seq (ihx hx hd fun a' w' hd'=>?_)
   cases e1 with
   | normal=>exact ihy h hd' hq
   | ret=>simp only [Option.some.injEq,Prod.mk.injEq] at h; obtain ⟨rfl,rfl⟩:=h; exact hq _ _ hd'
   | exit id=>simp only [Option.some.injEq,Prod.mk.injEq] at h; obtain ⟨rfl,rfl⟩:=h; exact hq _ _ hd'
 | cond o x y ihx ihy =>
  intro s s' ex a w1 Q h hd hq
  simp only [dCode] at h
  obtain ⟨m1,S1,inv,henv,e1⟩:=hd.inv
  have hρ:=actRel_of inv.glb henv
  split at h
  ·rename_i ho
   exact wpS_cond (t:=true) (bool_inv (hρ o _ ho)) (ihx h hd hq)
  ·rename_i ho
   exact wpS_cond (t:=false) (bool_inv (hρ o _ ho)) (ihy h hd hq)
  ·cases h
 | block id b ih =>
  intro s s' ex a w1 Q h hd hq
  simp only [dCode] at h
  cases hx:dCode T (liveAt rows0) b s with
  | none=>rw [hx] at h; cases h
  | some p =>
   obtain ⟨e1,s1⟩:=p
   rw [hx] at h
   refine wpS_block (ex:=e1) (ih hx hd fun a' w' hd'=>⟨rfl,?_⟩)
   cases e1 with
   | normal=>simp only [Option.some.injEq,Prod.mk.injEq] at h; obtain ⟨rfl,rfl⟩:=h; exact hq _ _ hd'
   | ret=>simp only [Option.some.injEq,Prod.mk.injEq] at h; obtain ⟨rfl,rfl⟩:=h; exact hq _ _ hd'
   | exit id' =>
    simp only at h ⊢
    by_cases hid:id' = id
    ·rw [if_pos hid] at h ⊢
     simp only [Option.some.injEq,Prod.mk.injEq] at h; obtain ⟨rfl,rfl⟩:=h; exact hq _ _ hd'
    ·rw [if_neg hid] at h; cases h
 | region id ops draw =>
  intro s s' ex a w1 Q h hd hq
  cases draw with
  | true=>simp only [dCode] at h; cases h
  | false =>
   simp only [dCode] at h
   split at h
   ·rename_i s1 h1
    simp only [Option.some.injEq,Prod.mk.injEq] at h; obtain ⟨rfl,rfl⟩:=h
    exact wpS_region (dOps_sound hT hcs h1 hd hq)
   ·cases h
 | _=>intro s s' ex a w1 Q h; simp only [dCode] at h; cases h
theorem dRun_sound {c:Cfg} (hc:COK c) (inv:Inv w0 own m S w rows) {f:FuncId} {args:List V} {us:List (Nat × Slot)} (h:dRun c (liveAt rows) f args = some us) {as:Array Value} (ha:RVs m S w args as) :
  CallsD c.P f as .returning w (fun e u w'=>(∃ v,e = .returned v)∧u = .returning∧∃ m' S',Inv w0 own m' S' w' (setRows us rows)∧Ext m S w m' S' w'):=by
 unfold dRun at h
 split at h
 ·rename_i gf hgf
  obtain ⟨hf,_⟩:=hc.F _ gf hgf
  split at h
  ·rename_i b hb
   split at h
   ·rename_i hres
    have hres':gf.results = #[]:=by simpa using hres
    refine callsD_of_wpS hf hb fun c₀ cs hu=>?_
    have hcs:recoverD (c₀ :: cs) = none:=by simp [recoverD,hu]
    have hd:DOn w0 own rows m S w { env:=args ++ List.replicate (gf.ntmps - args.length) V.undef,ups:=[] } { tmps:=as ++ Array.replicate (gf.ntmps - as.size) Go.undef,defers:=[] } w:=by
     refine ⟨rfl,(fun u hu=>by cases hu),m,S,inv,?_,Ext.refl ..⟩
     have hl:as.size = args.length:=ha.1
     rw [hl]
     exact (enter_env ha _).toE
    have fin:∀ (ex:DEx) (s:DSt),(ex.out = .normal ∨ ex.out = .ret)→s.ups = us→∀ a' w',DOn w0 own rows m S w s a' w' →
      bodyPostS c.P gf c₀ cs (fun e u w'=>(∃ v,e = .returned v)∧u = .returning∧∃ m' S',Inv w0 own m' S' w' (setRows us rows)∧Ext m S w m' S' w') ex.out a' (c₀ :: cs) w':=by
     intro ex s hex hs a' w' hd'
     obtain ⟨m1,S1,i1,_,e1⟩:=hd'.inv
     have hr:(results gf a'.tmps).run c.P w' = .ok (.tuple #[]) w':=by
      unfold results; rw [hres']; simp
     have hc0:c₀ :: cs = { c₀ with mode:=FrameMode.returning } :: cs:=by rw [← hu]
     rcases hex with h1 | h1 <;> rw [h1] <;> exact ⟨hd'.ds,.returning,hc0,.tuple #[],hr,⟨_,rfl⟩,rfl,m1,S1,hs ▸ i1,e1⟩
    split at h
    ·rename_i s hs
     cases h
     exact dCode_sound hc.T hcs b hs hd (fin .normal s (.inl rfl) rfl)
    ·rename_i s hs
     cases h
     exact dCode_sound hc.T hcs b hs hd (fin .ret s (.inr rfl) rfl)
    ·cases h
   ·cases h
  ·cases h
 ·cases h
theorem dRuns_sound {c:Cfg} (hc:COK c) {F:Frame} {hid:List Deferred} (hF:F.mode = .returning) {cs:List Frame}:∀ {l:List (FuncId × List V)} {ds:List Deferred} {rows rows':Rows} {w:World} {m:Mp} {S:Nat→Prop},dRuns c l rows = some rows'→DcRel m S w hid l ds→Inv w0 own m S w rows →
  ∃ w' m' S',Steps c.P (lone { F with defers:=ds } cs w) (lone { F with defers:=hid } cs w')∧Inv w0 own m' S' w' rows'∧Ext m S w m' S' w'
 | [],ds,rows,rows',w,m,S,h,hd,inv=>by
  cases hd
  simp only [dRuns,Option.some.injEq] at h; subst h
  exact ⟨w,m,S,Steps.refl _ _,inv,Ext.refl ..⟩
 | (g,args) :: l,ds,rows,rows',w,m,S,h,hd,inv=>by
  cases hd with
  | cons ha t =>
  rename_i cap da ds
  simp only [dRuns] at h
  split at h
  ·rename_i us hus
   have hd:=dRun_sound hc inv hus ha
   have hinv:(invoke (.fn (.func g) cap) da).run c.P w = .ok (.enter g (da ++ cap)) w:=by
    unfold dRun at hus
    split at hus
    ·rename_i gf hgf
     obtain ⟨h1,h2⟩:=hc.F _ gf hgf
     split at hus
     ·rename_i b hb
      simp only [invoke,run_callFunc h1 (by rw [hb]; rfl) h2]
     ·cases hus
    ·cases hus
   have hs:=step_defer (P:=c.P) (fr:={ F with defers:={ target:=.fn (.func g) cap,args:=da } :: ds }) (cs:=cs) (w:=w) (by simp [hF]) rfl rfl hinv
   obtain ⟨e,u',w1,fr,⟨⟨v,rfl⟩,rfl,m1,S1,i1,e1⟩,hcomes,hk,hgo⟩:=hd { F with defers:=ds } cs hF
   obtain ⟨w2,m2,S2,s2,i2,e2⟩:=dRuns_sound hc hF (cs:=cs) h (t.ext e1) i1
   have hfe:({ F with defers:=ds,mode:=FrameMode.returning }:Frame) = { F with defers:=ds }:=by cases F; simp only at hF; subst hF; rfl
   have hl:step c.P (lone fr ({ F with defers:=ds,mode:=FrameMode.returning } :: cs) w1) = .next (lone { F with defers:=ds,mode:=FrameMode.returning } cs w1) :=
    step_going_returned (P:=c.P) (c:={ F with defers:=ds,mode:=FrameMode.returning }) (cs:=cs) hk hgo
   have hcomes':Steps c.P (lone (Frame.enter c.P g (da ++ cap) .deferred) ({ F with defers:=ds } :: cs) w) (lone fr ({ F with defers:=ds,mode:=FrameMode.returning } :: cs) w1):=hcomes
   rw [hfe] at hl hcomes'
   exact ⟨w2,m2,S2,Steps.head hs (Steps.trans hcomes' (Steps.head hl s2)),i2,e1.trans e2⟩
  ·cases h
theorem m_defer {fn:FuncId} {tmps:Array Value} {ds:List Deferred} {k:List Item} {cs:List Frame} {ops:Array Oper} {i:Nat} {rest:List Nat} {o:Oper} {d:Deferred} {w':World} (ho:ops[i]? = some o) (hw:Region.wanted o (yielded ops tmps) = true)
  (hr:(execOp (rfr fn tmps (.inRegion ops (i :: rest) :: k) ds none).eval o).run P w = .ok (.defer d) w') :
  step P (lone (rfr fn tmps (.inRegion ops (i :: rest) :: k) ds none) cs w) = .next (lone (rfr fn (putT tmps o.dst Go.undef) (.inRegion ops rest :: k) (d :: ds) none) cs w'):=by
 rw [← finish_rfr ho]
 refine step_lone_go ?_
 have hg:stepG P true { frame:=rfr fn tmps (.inRegion ops (i :: rest) :: k) ds none,callers:=cs,status:=.running,dying:=none } w =
   stepG.apply P true (rfr fn tmps (.inRegion ops (i :: rest) :: k) ds none) cs none (execOp (rfr fn tmps (.inRegion ops (i :: rest) :: k) ds none).eval o) w:=by
  simp [stepG,stepG.exec,stepG.oper,Frame.oper?,rfr,ho,hw]
 rw [hg]
 simp only [stepG.apply,Sem.runT_eq,hr,GStep.bare_after]
 rfl
theorem run_defer {ρ:Operand→Value} {o:Oper} {f:Operand} {as:Array Operand} {ats:Array TypeId} {g:FuncId} {fs caps:Array Value} (ho:o.op = .defer ⟨.value f,as,ats⟩) (he:ρ f = .func (.func g) fs caps) :
  (execOp ρ o).run P w = .ok (.defer { target:=.fn (.func g) caps,args:=fs ++ as.map ρ }) w:=by
 obtain ⟨dst,op,type,pos,after,guard⟩:=o
 simp only at ho
 subst ho
 simp [execOp,resolve,he,Deferred.ofValue]
theorem frzA_sound {c:Cfg} (hc:COK c) {fn:FuncId} {id:Nat} {ops:Array Oper} {s st:St} (h:frzA c ops s = some st) {tmps:Array Value} {k:List Item} {ds:List Deferred} {ro:Option Nat} {cs:List Frame}
  (inv:Inv w0 own m S w s.rows) (henv:REs m S w s.env tmps) :
  ∃ m' S' w' tmps',Steps c.P (lone (rfr fn tmps (.code (.region id ops true) :: k) ds ro) cs w) (lone (rfr fn tmps' k ds ro) cs w')∧Inv w0 own m' S' w' st.rows∧REs m' S' w' st.env tmps'∧Ext m S w m' S' w':=by
 unfold frzA at h
 split at h
 ·rename_i rs s1 _
  have e0:=viewS_ext inv (frzList (liveAt s.rows) rs)
  obtain ⟨m',S',w',tmps',h1,h2,h3,h4⟩:=regionA_sound (fn:=fn) (id:=id) (k:=k) (ds:=ds) (ro:=ro) (cs:=cs) hc h (freeze_inv inv _) (henv.ext e0)
  exact ⟨m',S',w',tmps',h1,h2,h3,e0.trans h4⟩
 ·cases h
end Go.Aev
end
section
namespace Go.Aev
variable [Glob]
variable {w0:World} {own:Own} {m:Mp} {S:Nat→Prop} {w:World} {rows:Rows}
def botFn:AF→List AF→FuncId
 | fr,[]=>fr.fn
 | _,a :: st=>botFn a st
def popBot (fn:FuncId):List AF→FuncId
 | []=>fn
 | a :: st=>botFn a st
theorem botFn_eq (fr:AF) (st:List AF):botFn fr st = popBot fr.fn st:=by cases st <;> rfl
def SimF (P:Program) (w0:World) (own:Own) (cs0:Bot) (f:FuncId) (s:AS) (M:Machine):Prop :=
 botFn s.fr s.stack = f∧Sim P w0 own cs0 s M
def Follows (P:Program) (w0:World) (own:Own) (cs0:Bot) (f:FuncId) (o:Out) (M:Machine):Prop :=
 match o with
 | .next s=>∃ M',Steps P M M'∧SimF P w0 own cs0 f s M'
 | .done v rows=>∃ fr w' m S u,Steps P M (lone fr cs0.cs w')∧(fr.fn = f∧fr.defers = cs0.hid)∧Frame.leaving P { fr with defers:=[] } w' (.returned u)∧Inv w0 own m S w' rows∧RV m S w' v u∧cs0.B m w'
 | .fail=>True
theorem Follows.of_steps {P:Program} {cs0:Bot} {f:FuncId} {o:Out} {M M1:Machine} (h:Steps P M M1) (k:Follows P w0 own cs0 f o M1):Follows P w0 own cs0 f o M:=by
 cases o with
 | next s=>obtain ⟨M',h1,h2⟩:=k; exact ⟨M',h.trans h1,h2⟩
 | done v rows=>obtain ⟨fr,w',m,S,u,h1,h2⟩:=k; exact ⟨fr,w',m,S,u,h.trans h1,h2⟩
 | fail=>trivial
theorem popA_sound {P:Program} {cs0:Bot} {f:FuncId} {stack:List AF} {cs:List Frame} {frR:Frame} {v:V} {u:Value} (inv:Inv w0 own m S w rows) (hst:StackRel m S w cs0 stack cs) (hv:RV m S w v u)
  (hl:Frame.leaving P { frR with defers:=[] } w (.returned u)) (hd:frR.defers = hidOf cs0 stack) (hf:popBot frR.fn stack = f):Follows P w0 own cs0 f (popA stack v rows) (lone frR cs w):=by
 cases hst with
 | nil hB=>exact ⟨frR,w,m,S,u,Steps.refl _ _,⟨hf,hd⟩,hl,inv,hv,hB⟩
 | cons h t =>
  have hd':frR.defers = []:=hd
  have hfr0:{ frR with defers:=[] } = frR:=by cases frR; simp only at hd'; subst hd'; rfl
  rw [hfr0] at hl
  rename_i a st tmps todo ds ro cs'
  simp only [popA]
  cases hfin:finishA a v rows with
  | none=>trivial
  | some p =>
   obtain ⟨fr',rows'⟩:=p
   obtain ⟨m',S',w',tmps',todo',h1,h2,h3,h4,h5⟩:=finishA_sound (P:=P) (cs:=cs') hfin inv h hv rfl
   refine ⟨_,Steps.head (step_leave_returned hl) h1,?_,m',S',w',tmps',todo',ds,ro,cs',by rw [h5],h2,h3,t.ext h4⟩
   rw [popBot,botFn_eq] at hf
   show botFn fr' st = f
   rw [botFn_eq,h5]; exact hf
theorem enterA_rel {c:Cfg} (hc:COK c) {g:FuncId} {args:List V} {fr:AF} (h:enterA c g args = some fr) {as:Array Value} (ha:RVs m S w args as) :
  ∃ gf,c.P.funcs[g]? = some gf∧gf.body.isSome = true∧(gf.name == "runtime.NumGoroutine") = false∧∃ tmps todo,Frame.enter c.P g as .normal = rfr fr.fn tmps todo [] none∧FR m S w [] fr tmps todo [] none:=by
 unfold enterA at h
 split at h
 ·rename_i gf hgf
  obtain ⟨h1,h2⟩:=hc.F g gf hgf
  split at h
  ·rename_i b hb
   cases h
   refine ⟨gf,h1,by rw [hb]; rfl,h2,as ++ Array.replicate (gf.ntmps - as.size) Go.undef,[.code b],?_,⟨?_,.cons rfl .nil,FDs.none,rfl⟩⟩
   ·simp only [Frame.enter,h1,hb,rfr,Option.map_some,Option.getD_some,Option.bind_some]
   ·have:RVs m S w (List.replicate (gf.ntmps - args.length) V.undef) (Array.replicate (gf.ntmps - as.size) Go.undef):=by
     refine ⟨by simp [ha.1],fun j x v hx hv=>?_⟩
     have e1:=List.mem_of_getElem? hx
     rw [(List.mem_replicate.1 e1).2]
     have e2:=Array.mem_of_getElem? hv
     rw [(Array.mem_replicate.1 e2).2]
     exact undef_rel
    exact (RVs_append ha this).toE
  ·cases h
 ·cases h
theorem setEnvs_rel:∀ {ps:List Tmp} {vs:List V} {us:List Value} {env:List V} {arr:Array Value},REs m S w env arr→RVs m S w vs us.toArray→ps.length = vs.length →
  REs m S w (setEnvs env ps vs) ((ps.zip us).foldl (fun (tmps:Array Value) (x:Tmp × Value)=>tmps.setIfInBounds x.1 x.2) arr)
 | [],vs,us,env,arr,h,hv,hl=>by cases vs <;> simpa [setEnvs] using h
 | p :: ps,[],us,env,arr,h,hv,hl=>by simp at hl
 | p :: ps,v :: vs,[],env,arr,h,hv,hl=>by have:=hv.1; simp at this
 | p :: ps,v :: vs,u :: us,env,arr,h,hv,hl=>by
  simp only [setEnvs,List.zip_cons_cons,List.foldl_cons]
  exact setEnvs_rel (set_rel h (hv.2 0 v u rfl (by simp)) p) (RVs_tail hv) (by simpa using hl)
theorem run_yield {ρ:Operand→Value} {o:Oper} {f:Operand} {as:Array Operand} {ats:Array TypeId} {l:Nat} {L:Loop} {P:Program} (ho:o.op = .call ⟨.value f,as,ats⟩) (he:ρ f = .func (.yield l) #[] #[])
  (hl:w.heap[l]? = some (.loop L)) (hn:as.size = L.params.size) :
  (execOp ρ o).run P w = .ok (.round l L.fn ((L.params.toList.zip (as.map ρ).toList).foldl (fun (tmps:Array Value) (x:Tmp × Value)=>tmps.setIfInBounds x.1 x.2) L.tmps) L.assign L.body) w:=by
 obtain ⟨dst,op,type,pos,after,guard⟩:=o
 simp only at ho
 subst ho
 have hgl:=run_getLoop (P:=P) hl
 have hz:(L.params.zip (as.map ρ)).foldl (fun (tmps:Array Value) (x:Tmp × Value)=>tmps.setIfInBounds x.1 x.2) L.tmps = (L.params.toList.zip (as.map ρ).toList).foldl (fun (tmps:Array Value) (x:Tmp × Value)=>tmps.setIfInBounds x.1 x.2) L.tmps:=by
  rw [← Array.foldl_toList,Array.toList_zip]
 rw [← hz]
 simp [execOp,resolve,he,Deferred.ofValue,invoke,Instr.yield,hgl,hn]
theorem run_invoke {P:Program} {ρ:Operand→Value} {o:Oper} {recv:Operand} {name:String} {as:Array Operand} {ats:Array TypeId} {g:FuncId} {gf:Func} {rr:Value} (ho:o.op = .call ⟨.invoke recv name,as,ats⟩)
  (he:∃ t v,ρ recv = .iface t v∧(Go.method (P.types.size + Made.depth) t v name).run P w = .ok (g,rr) w) (hf:P.funcs[g]? = some gf) (hb:gf.body.isSome = true) (hn:(gf.name == "runtime.NumGoroutine") = false) :
  (execOp ρ o).run P w = .ok (.enter g (#[rr] ++ as.map ρ)) w:=by
 have hcall:=fun (w:World) (args:Array Value)=>run_callFunc (P:=P) (w:=w) (args:=args) hf hb hn
 obtain ⟨dst,op,type,pos,after,guard⟩:=o
 simp only at ho
 subst ho
 obtain ⟨t,v,e1,e2⟩:=he
 have h0:(#[Value.iface t v] ++ as.map ρ)[0]? = some (.iface t v):=by rw [Array.getElem?_append_left (by simp)]; rfl
 have h1:(as.map ρ).extract 0 as.size = as.map ρ:=by apply Array.ext'; simp; rw [List.take_of_length_le (by simp)]
 simp [execOp,resolve,e1,invoke,callMethod]
 rw [h0]
 simp [e2,h1,hcall,callMethod]
theorem methA_sound {c:Cfg} (hT:TOK c.P c.T) {rows:Rows} (inv:Inv w0 own m S w rows) {t:TypeId} {v rv:V} {name:String} {g:FuncId} {xr:Value} (h:methA c (liveAt rows) t v name = some (g,rv)) (hx:RV m S w (.ifc t v) xr) :
  ∃ rr,(∃ t' v',xr = .iface t' v'∧(Go.method (c.P.types.size + Made.depth) t' v' name).run c.P w = .ok (g,rr) w)∧RV m S w rv rr:=by
 cases hx with
 | ifc t x u hx =>
 unfold methA at h
 split at h
 ·rename_i i y hi hy
  have hu:=run_und (w:=w) (hT t y hy)
  have hti:(typeInfo t).run c.P w = .ok i w:=by simp [typeInfo,hi]
  split at h
  ·rename_i nm sg f pr hm
   have hfuel:c.P.types.size + Made.depth = (c.P.types.size + 99) + 1:=rfl
   have hhead:∀ (K:FuncId × Value→Prop),(Go.method (c.P.types.size + Made.depth) t u name).run c.P w = (receiverAt t (.val u) pr (some ((name.splitOn ".").getLastD name)) >>= fun r=>pure (f,r):Sem (FuncId × Value)).run c.P w:=by
    intro _
    rw [hfuel]
    generalize c.P.types.size + 99 = fuel
    simp only [Go.method,Sem.run_bind,hti,Result.andThen_ok,hm,follow,Sem.run_pure]
    rfl
   replace hhead:=hhead (fun _=>True)
   split at h
   ·rename_i e hd
    cases h
    refine ⟨u,⟨t,u,rfl,?_⟩,hx⟩
    rw [hhead]
    simp only [Sem.run_bind,receiverAt,hu,hd,Result.andThen_ok,Place.get,Sem.run_pure]
   ·rename_i e hd
    rw [Option.map_eq_some_iff] at h
    obtain ⟨x',hl,h⟩:=h
    cases h
    obtain ⟨u',h1,h2⟩:=loadA_sound (P:=c.P) hT (liveAt_ok rows) inv hl hx
    refine ⟨u',⟨t,u,rfl,?_⟩,h2⟩
    rw [hhead]
    have hp:∃ a,u = .pointer (some a):=by
     unfold loadA at hl
     split at hl
     ·cases hx; exact ⟨_,rfl⟩
     ·cases hx; exact ⟨_,rfl⟩
     ·cases hx; exact ⟨_,rfl⟩
     ·cases hl
    obtain ⟨a,rfl⟩:=hp
    simp only [Instr.loadAt,Instr.sureAddr,Sem.run_bind,Sem.run_pure,Result.andThen_ok] at h1
    have hwr:∀ nm:String,(Builtin.ssaWrapNilChk_ #[t] t #[.pointer (some a),strVal "",strVal nm]).run c.P w = .ok (.pointer (some a)) w:=fun nm=>rfl
    simp only [Sem.run_bind,receiverAt,hu,hd,Result.andThen_ok,Place.get,Sem.run_pure,hwr,asAddr,h1]
   ·cases h
  ·cases h
 ·cases h
theorem lenMapA_sound {P:Program} {T:TypeId→Option Ty} (hT:TOK P T) {rows:Rows} (inv:Inv w0 own m S w rows) {env:List V} {ρ:Operand→Value} (hρ:OpRel m S w env ρ) {o:Oper} {vs:List V} {v:V}
  (hvs:evalOs env (opnds o.op) = some vs) (h:lenMapA T (liveAt rows) o.op vs = some v):∃ u,(execOp ρ o).run P w = .ok (.value u) w∧RV m S w v u∧∀ c,o.op ≠ .defer c:=by
 have hr:=evalOs_sound hρ hvs
 obtain ⟨dst,op,type,pos,after,guard⟩:=o
 simp only at hvs h hr ⊢
 unfold lenMapA at h
 split at h
 ·rename_i as t r
  split at h
  ·rename_i es clock ro y hl hy
   have hu:=run_und (w:=w) (hT t y hy)
   split at h
   ·rename_i kt et hd
    rw [hd] at hu
    cases h
    obtain ⟨a,ea,hx⟩:=get1 hr
    cases hx with
    | mp _ b o' hm =>
    have hrow:=liveAt_ok rows r _ hl
    obtain ⟨ents,h1,h2,_,_⟩:=live_rel inv hrow hm
    have hgo:=run_getObj (P:=P) h1 (by simp)
    have ea':as.map ρ = #[.map (some b)]:=by
     rw [← ea]; apply Array.ext'; simp [opnds]
    refine ⟨goInt ents.size,?_,?_,fun c=>by simp⟩
    ·have hlen:(Builtin.len_ #[t] type (as.map ρ)).run P w = .ok (goInt ents.size) w:=by
      rw [ea']
      simp [Builtin.len_,hu,hgo]
     show (do pure (.value (← Builtin.len_ #[t] type (as.map ρ))):Sem Next).run P w = _
     simp only [Sem.run_bind,hlen,Result.andThen_ok,Sem.run_pure]
    ·rw [h2]; exact .d _ _ (.int _ _)
   ·cases h
  ·cases h
 ·cases h
theorem opStepA_sound {c:Cfg} (hc:COK c) {cs0:Bot} {cs:List Frame} {f:FuncId} {s:AS} {ops:Array Oper} {i:Nat} {rest:List Nat} {k:List AItem} {tmps:Array Value} {kr:List Item} {ds:List Deferred} {ro:Option Nat}
  (hb:botFn s.fr s.stack = f) (inv:Inv w0 own m S w s.rows) (henv:REs m S w s.fr.env tmps) (hk:TodoRel m k kr) (hds:FDs m S w (hidOf cs0 s.stack) s.fr.dcl s.fr.marks ds) (hro:RoRel m s.fr.round ro) (hst:StackRel m S w cs0 s.stack cs)
  (htodo:s.fr.todo = .it (.inRegion ops (i :: rest)) :: k) :
  Follows c.P w0 own cs0 f (opStepA c s ops i rest k) (lone (rfr s.fr.fn tmps (.inRegion ops (i :: rest) :: kr) ds ro) cs w):=by
 have hself:FR m S w (hidOf cs0 s.stack) s.fr tmps (.inRegion ops (i :: rest) :: kr) ds ro:=⟨henv,by rw [htodo]; exact .cons rfl hk,hds,hro⟩
 have hbot:∀ fr':AF,fr'.fn = s.fr.fn→botFn fr' s.stack = f:=by
  intro fr' e
  rw [botFn_eq] at hb ⊢
  rw [e]; exact hb
 unfold opStepA
 split
 ·trivial
 ·rename_i o ho
  split
  ·trivial
  ·rename_i hw
   refine ⟨_,.one (m_opskip ho (wanted_rel henv hw)),hbot _ rfl,m,S,w,_,_,ds,ro,cs,rfl,inv,⟨putT_rel henv undef_rel o.dst,.cons rfl hk,hds,hro⟩,hst⟩
  ·rename_i hw
   have hw':=wanted_rel henv hw
   have hρ:=opRel_of (fn:=s.fr.fn) (todo:=.inRegion ops (i :: rest) :: kr) (ds:=ds) (ro:=ro) inv.glb henv
   split
   ·rename_i fo args hcv
    obtain ⟨as,ats,hop,rfl⟩:=callView_spec hcv
    split
    ·rename_i r vs hf hvs
     have hfv:=hρ fo _ hf
     generalize hfe:(rfr s.fr.fn tmps (.inRegion ops (i :: rest) :: kr) ds ro).eval fo = fv at hfv
     cases hfv with
     | yl _ l o' hm =>
     split
     ·rename_i st pend fn env ps asg bd d hl
      obtain ⟨l',o2,hm',L,e1,e2,e3,e4,e5,e6,e7,e8,_⟩:=inv.row r _ (liveAt_ok s.rows r _ hl)
      rw [hm] at hm'; cases hm'
      split
      ·rename_i hlen
       have hargs:=args_rel hρ hvs
       have hn:as.size = L.params.size:=by
        have h1:=hargs.1
        simp only [Array.size_map] at h1
        rw [h1,← hlen,← e6]; simp
       have hrun:=run_yield (P:=c.P) (w:=w) hop hfe e1 hn
       have hstep:=m_round (cs:=cs) ho hw' (isNotDefer hcv) hrun
       rw [e4,e7,e8] at hstep
       refine ⟨_,.one hstep,hb,m,S,w,_,_,[],some l,_,rfl,inv,⟨?_,.cons rfl (.cons rfl (.cons rfl .nil)),FDs.none,⟨l,o',hm,rfl⟩⟩,.cons hself hst⟩
       rw [e6]
       exact setEnvs_rel e5 (by rw [Array.toArray_toList]; exact hargs) hlen
      ·trivial
     ·trivial
    ·rename_i fv vs _ hf hvs
     split
     case h_2=>trivial
     rename_i g as' hfa
     obtain ⟨fs,cs',hfe,hargs⟩:=fnArgs_rel hfa (hρ fo _ hf) (args_rel hρ hvs)
     split
     ·rename_i hpo
      obtain ⟨gf,h1,h2,h3⟩:=hc.rc g (Bool.and_eq_true _ _ ▸ hpo).2
      have hrun:=run_call (w:=w) hop hfe h1 h2 h3
      split
      ·rename_i res hres
       obtain ⟨e,w',fr,⟨u,rfl,m',S',i1,e1,r1⟩,hcomes,hfn,hlv⟩:=callX_sound (P:=c.P) hc.RC hc.WC inv (SlotOK.mk' inv (Nat.le_refl _) (inv.none _ (Nat.le_refl _))) hres hargs (rfr s.fr.fn tmps (.inRegion ops (i :: rest) :: kr) ds ro :: cs)
       have hleave:=step_leave_returned (c:=rfr s.fr.fn tmps (.inRegion ops (i :: rest) :: kr) ds ro) (cs:=cs) hlv
       rw [finish_rfr ho] at hleave
       exact ⟨_,Steps.head (m_enter ho hw' (isNotDefer hcv) hrun) (Steps.trans hcomes (.one hleave)),hbot _ rfl,m',S',w',_,_,ds,ro,cs,rfl,i1,
        ⟨putT_rel (henv.ext e1) r1 o.dst,.cons rfl (hk.mono e1.map),hds.ext e1,hro.mono e1.map⟩,hst.ext e1⟩
      ·trivial
     ·split
      ·rename_i fr hen
       obtain ⟨gf,h1,h2,h3,tmps',todo',e1,hfr⟩:=enterA_rel hc hen hargs
       have hrun:=run_call (w:=w) hop hfe h1 h2 h3
       have hstep:=m_enter (cs:=cs) ho hw' (isNotDefer hcv) hrun
       rw [e1] at hstep
       exact ⟨_,.one hstep,hb,m,S,w,tmps',todo',[],none,_,rfl,inv,hfr,.cons hself hst⟩
      ·trivial
    ·trivial
   ·rename_i hcv
    split
    ·rename_i vs hvs
     split
     ·rename_i res hres
      obtain ⟨nx,u,w',m',S',hrun,hnx,i1,e1,r1⟩:=act_sound hc.T (lookOf_ok s.rows vs) inv (SlotOK.mk' inv (Nat.le_refl _) (inv.none _ (Nat.le_refl _))) hρ hvs hres
      exact ⟨_,.one (m_op ho hw' (act_notDefer hres) hrun hnx),hbot _ rfl,m',S',w',_,_,ds,ro,cs,rfl,i1,
       ⟨putT_rel (henv.ext e1) r1 o.dst,.cons rfl (hk.mono e1.map),hds.ext e1,hro.mono e1.map⟩,hst.ext e1⟩
     ·split
      ·rename_i v hlv
       obtain ⟨u,hrun,hrel,hnd⟩:=lenMapA_sound (P:=c.P) hc.T inv hρ hvs hlv
       exact ⟨_,.one (m_op ho hw' hnd hrun (.inl rfl)),hbot _ rfl,m,S,w,_,_,ds,ro,cs,rfl,inv,
        ⟨putT_rel henv hrel o.dst,.cons rfl hk,hds,hro⟩,hst⟩
      split
      ·rename_i dc hopd
       unfold deferA
       split
       ·rename_i f as ats hop
        split
        ·rename_i fv vs' hf hvs'
         split
         ·rename_i ga hfa
          obtain ⟨g,as'⟩:=ga
          split
          ·rename_i hcnd
           simp only [Bool.and_eq_true,Option.isNone_iff_eq_none,List.isEmpty_iff] at hcnd
           obtain ⟨c1,c2⟩:=hcnd
           have hro0:ro = none:=by rw [c1] at hro; exact hro
           subst hro0
           obtain ⟨fs,cs',hfe,hargs⟩:=fnArgs_rel hfa (hρ f _ hf) (args_rel hρ hvs')
           have hrun:=run_defer (P:=c.P) (w:=w) hop hfe
           rw [c2] at hds
           refine ⟨_,.one (m_defer ho hw' hrun),hbot _ rfl,m,S,w,_,_,_,none,cs,rfl,inv,⟨putT_rel henv undef_rel o.dst,.cons rfl hk,?_,hro⟩,hst⟩
           show FDs m S w (hidOf cs0 s.stack) ((g,as') :: s.fr.dcl) s.fr.marks _
           rw [c2]
           exact hds.call hargs
          ·trivial
         ·trivial
        ·trivial
       ·trivial
      unfold invokeA
      split
      ·rename_i recv name as ats hop
       split
       ·rename_i t v hrv
        split
        ·rename_i g rv hme
         split
         ·rename_i fr hen
          have hvs':evalOs s.fr.env as.toList = some vs:=by rw [hop] at hvs; exact hvs
          have hargs0:=args_rel hρ hvs'
          have hrr:=hρ recv _ hrv
          obtain ⟨rr,hmeth,hrel⟩:=methA_sound hc.T inv hme hrr
          have hargs:RVs m S w (rv :: vs) (#[rr] ++ as.map (rfr s.fr.fn tmps (.inRegion ops (i :: rest) :: kr) ds ro).eval):=by
           refine ⟨by have:=hargs0.1; simp only [Array.size_append,List.length_cons]; simp only [this]; simp; omega,fun j x v hx hv=>?_⟩
           cases j with
           | zero =>
            rw [Array.getElem?_append_left (by simp)] at hv
            simp at hx hv; subst hx; subst hv; exact hrel
           | succ j =>
            simp only [List.getElem?_cons_succ] at hx
            rw [Array.getElem?_append_right (by simp)] at hv
            exact hargs0.2 j x v hx (by simpa using hv)
          obtain ⟨gf,h1,h2,h3,tmps',todo',e1,hfr⟩:=enterA_rel hc hen hargs
          have hrun:=run_invoke (P:=c.P) (w:=w) hop hmeth h1 h2 h3
          have hstep:=m_enter (cs:=cs) ho hw' (fun c=>by rw [hop]; simp) hrun
          rw [e1] at hstep
          exact ⟨_,.one hstep,hb,m,S,w,tmps',todo',[],none,_,rfl,inv,hfr,.cons hself hst⟩
         ·trivial
        ·trivial
       ·trivial
      ·trivial
    ·trivial
theorem leaveA_sound {c:Cfg} (hc:COK c) {cs0:Bot} {cs:List Frame} {f:FuncId} {s:AS} {jump:Option Code} {tmps:Array Value} {todo:List Item} {ds:List Deferred} {ro:Option Nat}
  (hb:botFn s.fr s.stack = f) (inv:Inv w0 own m S w s.rows) (hfr:FR m S w (hidOf cs0 s.stack) s.fr tmps todo ds ro) (hst:StackRel m S w cs0 s.stack cs)
  (h:(todo = []∧jump = none) ∨ (∃ k,todo = .code .ret :: k∧jump = some .ret) ∨ (ro ≠ none∧∃ id k,todo = .code (.exit id) :: k∧exitTo id k = none∧jump = some (.exit id))) :
  Follows c.P w0 own cs0 f (leaveA c s jump) (lone (rfr s.fr.fn tmps todo ds ro) cs w):=by
 unfold leaveA
 have hro:=hfr.ro
 cases hrd:s.fr.round with
 | none =>
  rw [hrd] at hro
  have hro':ro = none:=hro
  subst hro'
  have h':todo = [] ∨ ∃ k,todo = .code .ret :: k:=by
   rcases h with ⟨h,_⟩ | ⟨k,h,_⟩ | ⟨h,_⟩
   ·exact .inl h
   ·exact .inr ⟨k,h⟩
   ·exact absurd rfl h
  have main:Follows c.P w0 own cs0 f (match c.F s.fr.fn,(killMarks s.fr.marks s.rows).bind (dRuns c s.fr.dcl) with
    | some gf,some rows=>match resultsA c.T rows s.fr.env gf.results.toList with
     | some vs=>popA s.stack (oneOr vs) rows
     | none=>.fail
    | _,_=>.fail) (lone (rfr s.fr.fn tmps todo ds none) cs w):=by
   split
   ·rename_i gf rows' hgf hkm
    split
    ·rename_i vs hvs
     obtain ⟨hf1,_⟩:=hc.F _ gf hgf
     obtain ⟨rows1,hk1,hk2⟩:=Option.bind_eq_some_iff.1 hkm
     obtain ⟨dd,hd1,hd2⟩:=hfr.ds
     obtain ⟨w1,s0,i0,e0⟩:=marks_sound (P:=c.P) (F:={ rfr s.fr.fn tmps todo [] none with mode:=.returning }) rfl hk1 hd2 inv (cs:=cs)
     obtain ⟨w',m1,S1,s1',i1,e1'⟩:=dRuns_sound hc (F:={ rfr s.fr.fn tmps todo [] none with mode:=.returning }) rfl hk2 (hd1.ext e0) i0 (cs:=cs)
     have s1:=s0.trans s1'
     have e1:=e0.trans e1'
     obtain ⟨u,hres,hru⟩:=results_sound (P:=c.P) hc.T i1 (hfr.env.ext e1) hvs
     refine Follows.of_steps (Steps.head (m_ret_plain h') s1) ?_
     refine popA_sound (frR:={ rfr s.fr.fn tmps todo (hidOf cs0 s.stack) none with mode:=.returning }) i1 (hst.ext e1) hru ⟨rfl,rfl,rfl,gf,hf1,hres⟩ rfl ?_
     rw [botFn_eq] at hb
     exact hb
    ·trivial
   ·trivial
  rcases h with ⟨_,rfl⟩ | ⟨k,_,rfl⟩ | ⟨hn,_⟩
  ·exact main
  ·exact main
  ·exact absurd rfl hn
 | some r =>
  rw [hrd] at hro
  obtain ⟨l,o,hm,hro'⟩:=hro
  subst hro'
  simp only
  split
  ·rename_i st pend fn env ps as bd d hl
   obtain ⟨l',o2,L,hm',e1,e2,e3,e4,e5,e6,e7,e8,e9,k1,k2⟩:=loop_write (st':=if jump.isNone then .ready else .done) (pend':=jump) inv (liveAt_ok s.rows r _ hl)
   rw [hm] at hm'; cases hm'
   generalize s.stack = stk0 at hst hb ⊢
   cases hst with
   | nil=>trivial
   | cons hcal t =>
    rename_i a stk tmps2 todo2 ds2 ro2 cs2
    have hstep:=m_endRound (P:=c.P) (fn:=s.fr.fn) (tmps:=tmps) (ds:=ds) (cs:=cs2) (c:=rfr a.fn tmps2 todo2 ds2 ro2) (todo:=todo) (jump:=jump) e1 (by
     rcases h with h | h | ⟨_,h⟩
     ·exact .inl h
     ·exact .inr (.inl h)
     ·exact .inr (.inr h))
    simp only [popA]
    cases hfin:finishA a (.d (.bool jump.isNone)) (setSlot s.rows r (.live (.loop (if jump.isNone then .ready else .done) jump fn env ps as bd d))) with
    | none=>trivial
    | some p =>
     obtain ⟨fr',rows'⟩:=p
     obtain ⟨m',S',w',tmps',todo',h1,h2,h3,h4,h5⟩:=finishA_sound (P:=c.P) (cs:=cs2) hfin k1 (hcal.ext k2) (.d _ _ (.bool jump.isNone)) rfl
     refine ⟨_,Steps.head hstep h1,?_,m',S',w',tmps',todo',ds2,ro2,cs2,by rw [h5],h2,h3,(t.ext k2).ext h4⟩
     rw [botFn,botFn_eq] at hb
     show botFn fr' stk = f
     rw [botFn_eq,h5]; exact hb
  ·trivial
end Go.Aev
end
section
namespace Go.Aev
variable [Glob]
variable {w0:World} {own:Own} {m:Mp} {S:Nat→Prop} {w:World} {rows:Rows}
theorem setSlot_end (rows:Rows) (x:Slot):setSlot rows rows.length x = rows ++ [x]:=by unfold setSlot; rw [if_neg (Nat.lt_irrefl _)]
theorem end_ok (inv:Inv w0 own m S w rows):SlotOK m rows rows.length:=SlotOK.mk' inv (Nat.le_refl _) (inv.none _ (Nat.le_refl _))
theorem RVs_cons {x:V} {u:Value} {xs:List V} {arr:Array Value} (h:RV m S w x u) (t:RVs m S w xs arr):RVs m S w (x :: xs) (#[u] ++ arr) :=
 RVs_append (RVs_one h) t
theorem rangeA_sound {c:Cfg} (hc:COK c) {cs0:Bot} {cs:List Frame} {f:FuncId} {s:AS} {fo:Operand} {params:Array Tmp} {as body:Code} {k:List AItem} {tmps:Array Value} {kr:List Item} {ds:List Deferred} {ro:Option Nat}
  (hb:botFn s.fr s.stack = f) (inv:Inv w0 own m S w s.rows) (henv:REs m S w s.fr.env tmps) (hk:TodoRel m k kr) (hds:FDs m S w (hidOf cs0 s.stack) s.fr.dcl s.fr.marks ds) (hro:RoRel m s.fr.round ro) (hst:StackRel m S w cs0 s.stack cs) :
  Follows c.P w0 own cs0 f (rangeA c s fo params as body k) (lone (rfr s.fr.fn tmps (.code (.rangeFunc fo params as body) :: kr) ds ro) cs w):=by
 unfold rangeA
 split
 ·rename_i g caps hf
  have hρ:=opRel_of (fn:=s.fr.fn) (todo:=.code (.rangeFunc fo params as body) :: kr) (ds:=ds) (ro:=ro) inv.glb henv
  have hfv:=hρ fo _ hf
  generalize hfe:(rfr s.fr.fn tmps (.code (.rangeFunc fo params as body) :: kr) ds ro).eval fo = fv at hfv
  cases hfv with
  | fn _ _ carr hcl hcd =>
  have hcaps:RVs m S w caps carr:=⟨hcl,hcd⟩
  split
  ·rename_i hrd
   have hro':=hro
   rw [hrd] at hro'
   have e:ro = none:=hro'
   subst e
   simp only
   split
   ·rename_i fr hen
    obtain ⟨k1,e1⟩:=inv.fresh (end_ok inv) (.deferred (some [])) .dfr rfl (fun _=>alloc_heap w _)
    rw [setSlot_end] at k1
    have hlen:(s.rows ++ [Slot.live Row.dfr]).length = s.rows.length + 1:=by simp
    have hsz:(w.alloc (.deferred (some []))).heap.size = w.heap.size + 1:=by simp
    obtain ⟨k2,e2⟩:=k1.fresh (end_ok k1) (.loop (loopOf s.fr.fn tmps params as body w.heap.size)) (.loop .ready none s.fr.fn s.fr.env params.toList as body s.rows.length) rfl (fun ext =>
     ⟨loopOf s.fr.fn tmps params as body w.heap.size,alloc_heap _ _,rfl,rfl,rfl,(henv.ext e1).ext ext,rfl,rfl,rfl,0,ext.map _ _ (by simp [updM,loopOf])⟩)
    rw [setSlot_end,hlen] at k2
    rw [hlen] at e2
    have e12:=e1.trans e2
    have hy:RV (updM (updM m s.rows.length (w.heap.size,0)) (s.rows.length + 1) ((w.alloc (.deferred (some []))).heap.size,0)) S ((w.alloc (.deferred (some []))).alloc (.loop (loopOf s.fr.fn tmps params as body w.heap.size)))
      (.yl (s.rows.length + 1)) (.func (.yield (w.heap.size + 1)) #[] #[]):=by
     refine .yl _ _ 0 ?_
     simp [updM]
    obtain ⟨gf,h1,h2,h3,tmps',todo',h4,hfr⟩:=enterA_rel hc hen (RVs_cons hy (hcaps.ext e12))
    have hstep:=m_range (P:=c.P) (fn:=s.fr.fn) (tmps:=tmps) (ds:=ds) (k:=kr) (cs:=cs) (w:=w) (params:=params) (as:=as) (body:=body) hfe h1 h2 h3
    rw [h4] at hstep
    refine ⟨_,.one hstep,?_,_,S,_,tmps',todo',[],none,_,rfl,k2,hfr,?_⟩
    ·show botFn _ s.stack = f
     rw [botFn_eq] at hb ⊢
     exact hb
    ·refine .cons (a:={ s.fr with todo:=.rf (s.rows.length + 1) :: k,marks:=s.rows.length :: s.fr.marks }) ⟨henv.ext e12,.cons ⟨w.heap.size + 1,0,by simp [updM],rfl⟩ (hk.mono e12.map),FDs.push (o:=0) (by
      refine e2.map _ _ ?_
      simp [updM]) (hds.ext e12),hro.mono e12.map⟩ (hst.ext e12)
   ·trivial
  ·rename_i r hrd
   have hro':=hro
   rw [hrd] at hro'
   obtain ⟨l,o,hm,e⟩:=hro'
   subst e
   split
   ·rename_i st pend lfn lenv ps las lbd d hl
    obtain ⟨l',o',hm',L,g1,g2,g3,g4,g5,g6,g7,g8,od,g9⟩:=inv.row r _ (liveAt_ok s.rows r _ hl)
    rw [hm] at hm'; cases hm'
    simp only
    split
    ·rename_i fr hen
     obtain ⟨k2,e2⟩:=inv.fresh (end_ok inv) (.loop (loopOf s.fr.fn tmps params as body L.defers)) (.loop .ready none s.fr.fn s.fr.env params.toList as body d) rfl (fun ext =>
      ⟨loopOf s.fr.fn tmps params as body L.defers,alloc_heap _ _,rfl,rfl,rfl,henv.ext ext,rfl,rfl,rfl,od,ext.map _ _ g9⟩)
     rw [setSlot_end] at k2
     have hy:RV (updM m s.rows.length (w.heap.size,0)) S (w.alloc (.loop (loopOf s.fr.fn tmps params as body L.defers))) (.yl s.rows.length) (.func (.yield w.heap.size) #[] #[]):=by
      refine .yl _ _ 0 ?_
      simp [updM]
     obtain ⟨gf,h1,h2,h3,tmps',todo',h4,hfr⟩:=enterA_rel hc hen (RVs_cons hy (hcaps.ext e2))
     have hstep:=m_range_in (P:=c.P) (fn:=s.fr.fn) (tmps:=tmps) (ds:=ds) (k:=kr) (cs:=cs) (w:=w) (params:=params) (as:=as) (body:=body) g1 hfe h1 h2 h3
     rw [h4] at hstep
     refine ⟨_,.one hstep,?_,_,S,_,tmps',todo',[],none,_,rfl,k2,hfr,?_⟩
     ·show botFn _ s.stack = f
      rw [botFn_eq] at hb ⊢
      exact hb
     ·exact .cons (a:={ s.fr with todo:=.rf s.rows.length :: k }) ⟨henv.ext e2,.cons ⟨w.heap.size,0,by simp [updM],rfl⟩ (hk.mono e2.map),hds.ext e2,hro.mono e2.map⟩ (hst.ext e2)
    ·trivial
   ·trivial
 ·trivial
theorem aStep_sound {c:Cfg} (hc:COK c) {cs0:Bot} {f:FuncId} {s:AS} {M:Machine} (hs:SimF c.P w0 own cs0 f s M):Follows c.P w0 own cs0 f (aStep c s) M:=by
 obtain ⟨hb,m,S,w,tmps,todo,ds,ro,cs,rfl,inv,hfr,hst⟩:=hs
 have to:∀ {k':List AItem} {kr':List Item},step c.P (lone (rfr s.fr.fn tmps todo ds ro) cs w) = .next (lone (rfr s.fr.fn tmps kr' ds ro) cs w)→TodoRel m k' kr' →
   Follows c.P w0 own cs0 f (toA s k') (lone (rfr s.fr.fn tmps todo ds ro) cs w):=by
  intro k' kr' h1 h2
  refine ⟨_,.one h1,?_,m,S,w,tmps,kr',ds,ro,cs,rfl,inv,⟨hfr.env,h2,hfr.ds,hfr.ro⟩,hst⟩
  show botFn _ s.stack = f
  rw [botFn_eq] at hb ⊢
  exact hb
 have hself:∀ fr':AF,fr'.fn = s.fr.fn→botFn fr' s.stack = f:=by
  intro fr' e
  rw [botFn_eq] at hb ⊢
  rw [e]; exact hb
 have ht:=hfr.todo
 unfold aStep
 split
 ·rename_i h0
  rw [h0] at ht
  cases ht
  exact leaveA_sound hc hb inv hfr hst (.inl ⟨rfl,rfl⟩)
 ·trivial
 ·rename_i i k htodo
  rw [htodo] at ht
  cases ht with
  | cons hi tl =>
  rename_i kr
  cases hi
  split
  ·-- code
   rename_i cd
   split
   ·exact leaveA_sound hc hb inv hfr hst (.inr (.inl ⟨kr,rfl,rfl⟩))
   ·exact to m_skip tl
   ·exact to m_label tl
   ·exact to m_seq (.cons rfl (.cons rfl tl))
   ·split
    ·rename_i o x y _ b hv
     have hρ:=opRel_of (fn:=s.fr.fn) (todo:=.code (.cond o x y) :: kr) (ds:=ds) (ro:=ro) inv.glb hfr.env
     exact to (m_cond (bool_inv (hρ o _ hv))) (.cons rfl tl)
    ·trivial
   ·exact to m_block (.cons rfl (.cons rfl tl))
   ·exact to m_loop (.cons rfl (.cons rfl tl))
   ·exact to m_scope (.cons rfl (.cons rfl tl))
   ·split
    ·rename_i id k' he
     obtain ⟨l',h1,h2⟩:=exitTo_some tl he
     exact to (m_exit h1) h2
    ·rename_i id he
     split
     ·rename_i r hrd
      refine leaveA_sound hc hb inv hfr hst (.inr (.inr ⟨?_,_,_,rfl,exitTo_none tl he,rfl⟩))
      have:=hfr.ro
      rw [hrd] at this
      obtain ⟨l,o,_,e⟩:=this
      rw [e]; simp
     ·trivial
   ·split
    ·rename_i k' he
     obtain ⟨l',h1,h2⟩:=gotoIn_some tl he
     exact to (m_goto h1) h2
    ·trivial
   ·exact to m_region (.cons rfl tl)
   ·split
    ·rename_i id ops _ st hreg
     obtain ⟨m',S',w',tmps',h1,h2,h3,h4⟩:=regionA_sound (fn:=s.fr.fn) (id:=id) (k:=kr) (ds:=ds) (ro:=ro) (cs:=cs) hc hreg inv hfr.env
     exact ⟨_,h1,hself _ rfl,m',S',w',tmps',kr,ds,ro,cs,rfl,h2,⟨h3,tl.mono h4.map,hfr.ds.ext h4,hfr.ro.mono h4.map⟩,hst.ext h4⟩
    ·split
     ·rename_i st hcut
      obtain ⟨m',S',w',tmps',h1,h2,h3,h4⟩:=cutA_sound (fn:=s.fr.fn) (k:=kr) (ds:=ds) (ro:=ro) (cs:=cs) hc hcut inv hfr.env
      exact ⟨_,h1,hself _ rfl,m',S',w',tmps',_,ds,ro,cs,rfl,h2,⟨h3,.cons rfl (tl.mono h4.map),hfr.ds.ext h4,hfr.ro.mono h4.map⟩,hst.ext h4⟩
     ·split
      ·rename_i st hfrz
       obtain ⟨m',S',w',tmps',h1,h2,h3,h4⟩:=frzA_sound (fn:=s.fr.fn) (k:=kr) (ds:=ds) (ro:=ro) (cs:=cs) hc hfrz inv hfr.env
       exact ⟨_,h1,hself _ rfl,m',S',w',tmps',kr,ds,ro,cs,rfl,h2,⟨h3,tl.mono h4.map,hfr.ds.ext h4,hfr.ro.mono h4.map⟩,hst.ext h4⟩
      ·trivial
   ·exact rangeA_sound hc hb inv hfr.env tl hfr.ds hfr.ro hst
   ·trivial
  ·exact to m_inBlock tl
  ·exact to m_inScope tl
  ·exact to m_inLoop (.cons rfl (.cons rfl tl))
  ·exact to m_regionEnd tl
  ·exact opStepA_sound hc hb inv hfr.env tl hfr.ds hfr.ro hst htodo
  ·split
   ·rename_i r hrd
    split
    ·rename_i pend fn env ps as bd d hl
     have hro:=hfr.ro
     rw [hrd] at hro
     obtain ⟨l,o,hm,e⟩:=hro
     subst e
     obtain ⟨l',o2,L,hm',e1,e2,e3,e4,e5,e6,e7,e8,e9,k1,k2⟩:=loop_write (st':=.busy) (pend':=pend) inv (liveAt_ok s.rows r _ hl)
     rw [hm] at hm'; cases hm'
     have hstep:=m_begin (P:=c.P) (fn:=s.fr.fn) (tmps:=tmps) (ds:=ds) (k:=kr) (cs:=cs) e1 e2
     have hL:({ L with state:=LoopState.busy }:Loop) = { L with state:=.busy,pending:=pend }:=by rw [← e3]
     rw [hL] at hstep
     exact ⟨_,.one hstep,hself _ rfl,m,S,_,tmps,kr,ds,some l,cs,rfl,k1,⟨hfr.env.ext k2,tl,hfr.ds.ext k2,hfr.ro⟩,hst.ext k2⟩
    ·trivial
   ·trivial
  ·trivial
theorem aRun_sound {c:Cfg} (hc:COK c) {cs0:Bot} {f:FuncId}:∀ {n:Nat} {s:AS} {M:Machine},SimF c.P w0 own cs0 f s M→Follows c.P w0 own cs0 f (aRun c n s) M
 | 0,s,M,hs=>⟨M,Steps.refl _ _,hs⟩
 | n + 1,s,M,hs=>by
  have h:=aStep_sound hc hs
  simp only [aRun]
  split
  ·rename_i s' he
   rw [he] at h
   obtain ⟨M',h1,h2⟩:=h
   exact (aRun_sound hc h2).of_steps h1
  ·exact h
theorem leaving_nil {P:Program} {fr:Frame} {w:World} {e:Ending} (h0:fr.defers = []) (h:Frame.leaving P { fr with defers:=[] } w e):Frame.leaving P fr w e:=by
 have:{ fr with defers:=[] } = fr:=by cases fr; simp only at h0; subst h0; rfl
 rwa [this] at h
def botOf (cs:List Frame) (m:Mp) (w:World) (k:Nat):Bot :=
 {cs,k,B:=fun m' w'=>(∀ r,r < k→∀ p,m r = some p→m' r = some p)∧∀ b,bsize w b ≤ bsize w' b,
  mono:=fun _ _ _ _ h1 h2 h=>⟨fun r hr p e=>h1 r hr p (h.1 r hr p e),fun b=>Nat.le_trans (h.2 b) (h2 b)⟩ }
theorem botOf_start (cs:List Frame) (m:Mp) (w:World) (k:Nat):(botOf cs m w k).B m w:=⟨fun _ _ _ e=>e,fun _=>Nat.le_refl _⟩
end Go.Aev
end
