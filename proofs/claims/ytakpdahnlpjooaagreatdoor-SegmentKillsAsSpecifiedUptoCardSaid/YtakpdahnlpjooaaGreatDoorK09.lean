/- Lemmas: a machine that the model follows, and contracts. Conditions: none. -/
import Derived.Test.YtakpdahnlpjooaaGreatDoorK08
import Derived.Recover
set_option linter.all false
set_option maxRecDepth 1000000
set_option maxHeartbeats 0
noncomputable section
namespace Go.Aev
variable [Glob]
variable {P:Program} {w0:World} {own:Own} {m:Mp} {S:Nat->Prop} {w:World} {rows:Rows}
def quS {env:List V} {a:Act} (hgl:Glb S w) (h:REs m S w env a.tmps):qf0 m S w env a.eval:=by
 intro x v hx
 cases x with
 | tmp t=>exact qkO h hx|const u=>exact qoV hx|global g =>
  simp only[YX]at hx;split at hx
  ·rename_i x hg; cases hx; exact hgl.any hg
  ·cases hx
 | func f=>simp only[YX,qT4]at hx; subst hx; exact .fn f [] #[] rfl (fun j x v h=>by simp at h)
def qCC {args:List V} {as:Array Value} (ha:RVs m S w args as) (n:Nat):RVs m S w (args++List.replicate (n - args.length) V.undef) (as++Array.replicate (n - args.length) Go.undef):=by
 have:RVs m S w (List.replicate (n - args.length) V.undef) (Array.replicate (n - args.length) Go.undef):=by
  refine⟨by simp,fun j x v hx hv=>?_⟩;rw[(qUz.1 (qUi hx)).2,(Array.mem_replicate.1 (qVR hv)).2];exact qco
 exact qh0 ha this
def qCD (a:Act) (dst:Option Tmp) (v:Value):(a.put dst v).tmps=qcZ a.tmps dst v/\(a.put dst v).defers=a.defers:=by
 cases dst<;>exact⟨rfl,rfl⟩
def quT {r:Nat} (h:(qp rows r).isSome=true):r<rows.length:=by
 rcases qTQ r rows.length with h1|h1
 ·exact h1
 ·unfold qp at h; rw[qUc h1]at h; cases h
def qCE {us:List (Nat×qc)}:∀{rows:Rows},(∀u∈us,u.1<rows.length)->YJ us rows=qI us rows:=by
 induction us with
 | nil=>intro rows _; rfl
 | cons u us ih =>
  intro rows h;show YJ us (qv rows u.1 u.2)=qI us (rows.set u.1 u.2);have hu:=h u (by simp);have:qv rows u.1 u.2=rows.set u.1 u.2:=by unfold qv; rw[if_pos hu]
  rw[this,ih (fun v hv=>by rw[qUI]; exact h v (by simp[hv]))]
def qCF {us:List (Nat×qc)}:∀{g:Nat->Option Row} {rows:Rows},GOK g rows->(∀u∈us,u.1<rows.length)->GOK (qkZ g us) (qI us rows):=by
 induction us with
 | nil=>intro g rows h _; exact h
 | cons u us ih =>
  intro g rows h hu;refine ih (rows:=rows.set u.1 u.2) (g:=fun r=>if r=u.1 then(match u.2 with | .live row=>some row|_=>none)else g r) ?_ (fun v hv=>by rw[qUI]; exact hu v (by simp[hv]));intro r row hr;simp only at hr
  by_cases e:r=u.1
  ·subst e;rw[if_pos rfl]at hr;rw[qUV (hu u (by simp))]
   cases hs:u.2 with
   | live row'=>rw[hs]at hr; simp only[qT4]at hr; rw[hr]|_=>rw[hs]at hr; cases hr
  ·rw[if_neg e]at hr;rw[qUF (fun e'=>e e'.symm)];exact h r row hr
def qCG {T:TypeId->Option Ty} {o:Op} (h:dOK o=true) (g:qq) (slot slot':Nat) (vs:List V):act T g slot o vs=act T g slot' o vs:=by
 unfold dOK at h;split at h<;>first
  | (cases h; done)
  | (rcases vs with _|⟨a,_|⟨b,_|⟨c,_|⟨d,vs⟩⟩⟩⟩<;>first
    | rfl
    | (rcases a with d|_|_|_|_|_|_|_|_|_|_|_<;>first
      | rfl
      | (cases d<;>rfl)))
structure DOn (w0:World) (own:Own) (rows0:Rows) (m:Mp) (S:Nat->Prop) (w:World) (s:DSt) (a:Act) (w1:World):Prop where
 ds:a.defers=[]
 ups:∀u∈s.ups,(qp rows0 u.1).isSome=true
 inv:∃m1 S1,Inv w0 own m1 S1 w1 (qI s.ups rows0)/\REs m1 S1 w1 s.env a.tmps/\Ext m S w m1 S1 w1
def DOn.put {rows0:Rows} {s:DSt} {a:Act} {w1 w2:World} {m1:Mp} {S1:Nat->Prop} {us:List (Nat×qc)} {v:V} {u:Value} (h:DOn w0 own rows0 m S w s a w1) (hus:us.all (fun u=>(qp rows0 u.1).isSome)=true)
  {m0:Mp} {S0:Nat->Prop} (h0:REs m0 S0 w1 s.env a.tmps) (h1:Ext m S w m0 S0 w1) (h2:Ext m0 S0 w1 m1 S1 w2) (inv:Inv w0 own m1 S1 w2 (qI (s.ups++us) rows0)) (hv:RV m1 S1 w2 v u) (dst:Option Nat) :
  DOn w0 own rows0 m S w {env:=JN s.env dst v,ups:=s.ups++us} (a.put dst u) w2:=by
 obtain⟨e1,e2⟩:=qCD a dst u;refine⟨e2.trans h.ds,fun x hx=>?_,m1,S1,inv,by rw[e1]; exact qa9 (h0.ext h2) hv dst,h1.trans h2⟩;rcases qTH.1 hx with hx|hx
 ·exact h.ups x hx
 ·exact(qTI.1 hus) x hx
def qCH {U:Operand->Value} {o:Oper} {as:Array Operand} {ats:Array TypeId} (h:o.op=.call ⟨.builtin .recover,as,ats⟩):(execOp U o).run P w=.ok .recover w:=by
 obtain⟨dst,op,type,pos,after,guard⟩:=o;simp only at h;subst h;rfl
def qhC {T:TypeId->Option Ty} (hT:TOK P T) {ops:Array Oper} {cs:List Frame} (hcs:recoverD cs=none) {rows0:Rows} {Q:Exit->Act->List Frame->World->Prop} {s':DSt}:∀{l:List Nat} {s:DSt} {a:Act} {w1:World},
  qh7 T (qp rows0) ops l s=some s'->DOn w0 own rows0 m S w s a w1->(∀a' w',DOn w0 own rows0 m S w s' a' w'->Q .normal a' cs w')->wpOpsS P ops Q l a cs w1
 | [],s,a,w1,h,hd,hq=>by
  simp only[qh7,qT4]at h; subst h;exact hq a w1 hd
 | i::l,s,a,w1,h,hd,hq=>by
  simp only[qh7]at h;split at h
  ·rename_i o ho;split at h
   ·rename_i s1 h1;simp only[wpOpsS,ho];obtain⟨m1,S1,inv,henv,e1⟩:=hd.inv;have hlt:∀u∈s.ups,u.1<rows0.length:=fun u hu=>quT (hd.ups u hu)
    unfold dOp at h1;split at h1
    ·cases h1
    ·rename_i hw;cases h1;have hw':=qda henv hw;rw[if_neg (by rw[hw']; simp)];have hd2:=hd.put (us:=[]) (dst:=o.dst) (by rfl) henv e1 (Ext.refl ..) (by simpa using inv) (qco (m:=m1) (S:=S1) (w:=w1));simp only[qT7]at hd2;exact qhC hT hcs h hd2 hq
    ·rename_i hw;have hw':=qda henv hw;rw[if_pos hw'];have hU:=quS inv.glb henv;split at h1
     ·rename_i as ats hop;cases h1;rw[qCH hop];simp only[hcs];have hd2:=hd.put (us:=[]) (v:=.d .nili) (u:=.nilIface) (dst:=o.dst) (by rfl) henv e1 (Ext.refl ..) (by simpa using inv) (.d _ _ .nili);simp only[qT7]at hd2;exact qhC hT hcs h hd2 hq
     ·split at h1
      ·cases h1
      ·rename_i hok;simp only[qUy,Bool.not_eq_false]at hok;split at h1
       ·rename_i vs hvs;split at h1
        ·rename_i v us hact;split at h1
         ·rename_i hus;cases h1;rw[qCG hok _ 0 (qI s.ups rows0).length vs]at hact;have hg:GOK (fun r=>if (vs.flatMap V.refs).contains r then qkZ (qp rows0) s.ups r else none) (qI s.ups rows0):=by
           intro r row hr;simp only at hr;split at hr
           ·exact qCF (J4 rows0) hlt r row hr
           ·cases hr
          obtain⟨nx,u,w2,m2,S2,hrun,hnx,i1,e2,r1⟩:=qoU hT hg inv (Yn.mk' inv (qTF _) (inv.none _ (qTF _))) hU hvs hact;have hi:Inv w0 own m2 S2 w2 (qI (s.ups++us) rows0):=by
           have:qI (s.ups++us) rows0=qag (qI s.ups rows0).length ⟨v,us,none⟩ (qI s.ups rows0):=by
            show _=YJ us (qI s.ups rows0);rw[qCE (fun u hu=>by rw[qhX]; exact quT ((qTI.1 hus) u hu))];simp[qI,List.foldl_append]
           rw[this]; exact i1
          have hd2:=hd.put (dst:=o.dst) hus henv e1 e2 hi r1;rw[hrun];rcases hnx with rfl|⟨rfl,rfl⟩
          ·exact qhC hT hcs h hd2 hq
          ·exact qhC hT hcs h hd2 hq
         ·cases h1
        ·cases h1
       ·cases h1
   ·cases h
  ·cases h
def DEx.out:DEx->Exit
 | .normal=>.normal|.ret=>.ret|.exit id=>.exit id
def qCI {Q:Exit->Act->List Frame->World->Prop} {a:Act} {cs:List Frame} {id:Nat} {c:Code} {ex:DEx} (h:c.wpS P (fun e a' cs' w'=>e=ex.out/\Q (match ex with | .exit id'=>if id'=id then .normal else ex.out|_=>ex.out) a' cs' w') a cs w):(Code.block id c).wpS P Q a cs w:=by
 intro b k hb hr;obtain⟨e,a₁,cs₁,w₁,⟨rfl,hq⟩,harr⟩:=h b (.inBlock id::k) hb hr
 cases ex with
 | normal=>exact⟨.normal,a₁,cs₁,w₁,hq,.head step_block (Steps.trans harr (.one step_inBlock))⟩|exit id' =>
  by_cases hid:id'=id
  ·simp only[hid,if_true]at hq;exact⟨.normal,a₁,cs₁,w₁,hq,.head step_block (harr k (by simp[exitTo,hid]))⟩
  ·simp only[hid,if_false]at hq;refine⟨.exit id',a₁,cs₁,w₁,hq,fun k' hk=>.head step_block (harr k' ?_)⟩;have:(id==id')=false:=by simp; exact fun h=>hid h.symm
   simp[exitTo,this,hk]
 | ret=>exact⟨_,a₁,cs₁,w₁,hq,.of_steps (.one step_block) harr⟩
def quU {T:TypeId->Option Ty} (hT:TOK P T) {cs:List Frame} (hcs:recoverD cs=none) {rows0:Rows}:∀(cd:Code) {s s':DSt} {ex:DEx} {a:Act} {w1:World} {Q:Exit->Act->List Frame->World->Prop},
  JV T (qp rows0) cd s=some (ex,s')->DOn w0 own rows0 m S w s a w1->(∀a' w',DOn w0 own rows0 m S w s' a' w'->Q ex.out a' cs w')->cd.wpS P Q a cs w1:=by
 intro cd
 induction cd with
 | skip=>intro s s' ex a w1 Q h hd hq; simp only[JV,qT4,qUe]at h; obtain⟨rfl,rfl⟩:=h; exact wpS_of_wp (wp_skip (hq _ _ hd))
 | ret=>intro s s' ex a w1 Q h hd hq; simp only[JV,qT4,qUe]at h; obtain⟨rfl,rfl⟩:=h; exact wpS_of_wp (wp_ret (hq _ _ hd))
 | exit id=>intro s s' ex a w1 Q h hd hq; simp only[JV,qT4,qUe]at h; obtain⟨rfl,rfl⟩:=h; exact wpS_of_wp (wp_exit (hq _ _ hd))
 | seq x y ihx ihy =>
  intro s s' ex a w1 Q h hd hq;simp only[JV]at h
  cases hx:JV T (qp rows0) x s with
  | none=>rw[hx]at h; cases h
  | some p =>
   obtain⟨e1,s1⟩:=p;rw[hx]at h;refine wpS_seq (ihx hx hd fun a' w' hd'=>?_)
   cases e1 with
   | normal=>exact ihy h hd' hq|ret=>simp only[qT4,qUe]at h; obtain⟨rfl,rfl⟩:=h; exact hq _ _ hd'
   | exit id=>simp only[qT4,qUe]at h; obtain⟨rfl,rfl⟩:=h; exact hq _ _ hd'
 | cond o x y ihx ihy =>
  intro s s' ex a w1 Q h hd hq;simp only[JV]at h;obtain⟨m1,S1,inv,henv,e1⟩:=hd.inv;have hU:=quS inv.glb henv;split at h
  ·rename_i ho;exact wpS_cond (t:=true) (qdb (hU o _ ho)) (ihx h hd hq)
  ·rename_i ho;exact wpS_cond (t:=false) (qdb (hU o _ ho)) (ihy h hd hq)
  ·cases h
 | block id b ih =>
  intro s s' ex a w1 Q h hd hq;simp only[JV]at h
  cases hx:JV T (qp rows0) b s with
  | none=>rw[hx]at h; cases h
  | some p =>
   obtain⟨e1,s1⟩:=p;rw[hx]at h;refine qCI (ex:=e1) (ih hx hd fun a' w' hd'=>⟨rfl,?_⟩)
   cases e1 with
   | normal=>simp only[qT4,qUe]at h; obtain⟨rfl,rfl⟩:=h; exact hq _ _ hd'
   | ret=>simp only[qT4,qUe]at h; obtain⟨rfl,rfl⟩:=h; exact hq _ _ hd'
   | exit id' =>
    simp only at h ⊢
    by_cases hid:id'=id
    ·rw[if_pos hid]at h ⊢;simp only[qT4,qUe]at h; obtain⟨rfl,rfl⟩:=h; exact hq _ _ hd'
    ·rw[if_neg hid]at h; cases h
 | region id ops draw =>
  intro s s' ex a w1 Q h hd hq
  cases draw with
  | true=>simp only[JV]at h; cases h
  | false =>
   simp only[JV]at h;split at h
   ·rename_i s1 h1;simp only[qT4,qUe]at h; obtain⟨rfl,rfl⟩:=h;exact wpS_region (qhC hT hcs h1 hd hq)
   ·cases h
 | _=>intro s s' ex a w1 Q h; simp only[JV]at h; cases h
def qCJ {c:Cfg} (hc:COK c) (inv:Inv w0 own m S w rows) {f:FuncId} {args:List V} {us:List (Nat×qc)} (h:qk0 c (qp rows) f args=some us) {as:Array Value} (ha:RVs m S w args as) :
  CallsD c.P f as .returning w (fun e u w'=>(∃v,e=.returned v)/\u=.returning/\∃m' S',Inv w0 own m' S' w' (qI us rows)/\Ext m S w m' S' w'):=by
 unfold qk0 at h;split at h
 ·rename_i gf hgf;obtain⟨hf,_⟩:=hc.F _ gf hgf;split at h
  ·rename_i b hb;split at h
   ·rename_i hres;have hres':gf.results=#[]:=by simpa using hres
    refine callsD_of_wpS hf hb fun c₀ cs hu=>?_
    have hcs:recoverD (c₀::cs)=none:=by simp[recoverD,hu]
    have hd:DOn w0 own rows m S w {env:=args++List.replicate (gf.ntmps - args.length) V.undef,ups:=[]} {tmps:=as++Array.replicate (gf.ntmps - as.size) Go.undef,defers:=[]} w:=by
     refine⟨rfl,(fun u hu=>by cases hu),m,S,inv,?_,Ext.refl ..⟩;have hl:as.size=args.length:=ha.1;rw[hl];exact(qCC ha _).toE
    have fin:∀(ex:DEx) (s:DSt),(ex.out=.normal\/ex.out=.ret)->s.ups=us->∀a' w',DOn w0 own rows m S w s a' w' ->
      bodyPostS c.P gf c₀ cs (fun e u w'=>(∃v,e=.returned v)/\u=.returning/\∃m' S',Inv w0 own m' S' w' (qI us rows)/\Ext m S w m' S' w') ex.out a' (c₀::cs) w':=by
     intro ex s hex hs a' w' hd';obtain⟨m1,S1,i1,_,e1⟩:=hd'.inv;have hr:(results gf a'.tmps).run c.P w'=.ok (.tuple #[]) w':=by
      unfold results; rw[hres']; simp
     have hc0:c₀::cs={c₀ with mode:=FrameMode.returning}::cs:=by rw[<-hu]
     rcases hex with h1|h1<;>rw[h1]<;>exact⟨hd'.ds,.returning,hc0,.tuple #[],hr,⟨_,rfl⟩,rfl,m1,S1,hs ▸ i1,e1⟩
    split at h
    ·rename_i s hs;cases h;exact quU hc.T hcs b hs hd (fin .normal s (.inl rfl) rfl)
    ·rename_i s hs;cases h;exact quU hc.T hcs b hs hd (fin .ret s (.inr rfl) rfl)
    ·cases h
   ·cases h
  ·cases h
 ·cases h
def quV {c:Cfg} (hc:COK c) {F:Frame} {hid:List Deferred} (hF:F.mode=.returning) {cs:List Frame}:∀{l:List (FuncId×List V)} {ds:List Deferred} {rows rows':Rows} {w:World} {m:Mp} {S:Nat->Prop},qgj c l rows=some rows'->qdW m S w hid l ds->Inv w0 own m S w rows ->
  ∃w' m' S',Steps c.P (lone {F with defers:=ds} cs w) (lone {F with defers:=hid} cs w')/\Inv w0 own m' S' w' rows'/\Ext m S w m' S' w'
 | [],ds,rows,rows',w,m,S,h,hd,inv=>by
  cases hd;simp only[qgj,qT4]at h; subst h;exact⟨w,m,S,Steps.refl _ _,inv,Ext.refl ..⟩
 | (g,args)::l,ds,rows,rows',w,m,S,h,hd,inv=>by
  cases hd with
  | cons ha t =>
  rename_i cap da ds;simp only[qgj]at h;split at h
  ·rename_i us hus;have hd:=qCJ hc inv hus ha;have hinv:(invoke (.fn (.func g) cap) da).run c.P w=.ok (.enter g (da++cap)) w:=by
    unfold qk0 at hus;split at hus
    ·rename_i gf hgf;obtain⟨h1,h2⟩:=hc.F _ gf hgf;split at hus
     ·rename_i b hb;simp only[invoke,qka h1 (by rw[hb]; rfl) h2]
     ·cases hus
    ·cases hus
   have hs:=step_defer (P:=c.P) (fr:={F with defers:={target:=.fn (.func g) cap,args:=da}::ds}) (cs:=cs) (w:=w) (by simp[hF]) rfl rfl hinv;obtain⟨e,u',w1,fr,⟨⟨v,rfl⟩,rfl,m1,S1,i1,e1⟩,hcomes,hk,hgo⟩:=hd {F with defers:=ds} cs hF;obtain⟨w2,m2,S2,s2,i2,e2⟩:=quV hc hF (cs:=cs) h (t.ext e1) i1;have hfe:({F with defers:=ds,mode:=FrameMode.returning}:Frame)={F with defers:=ds}:=by cases F; simp only at hF; subst hF; rfl
   have hl:step c.P (lone fr ({F with defers:=ds,mode:=FrameMode.returning}::cs) w1)=.next (lone {F with defers:=ds,mode:=FrameMode.returning} cs w1) :=
    step_going_returned (P:=c.P) (c:={F with defers:=ds,mode:=FrameMode.returning}) (cs:=cs) hk hgo
   have hcomes':Steps c.P (lone (Frame.enter c.P g (da++cap) .deferred) ({F with defers:=ds}::cs) w) (lone fr ({F with defers:=ds,mode:=FrameMode.returning}::cs) w1):=hcomes;rw[hfe]at hl hcomes';exact⟨w2,m2,S2,Steps.head hs (Steps.trans hcomes' (Steps.head hl s2)),i2,e1.trans e2⟩
  ·cases h
def qCK {fn:FuncId} {tmps:Array Value} {ds:List Deferred} {k:List Item} {cs:List Frame} {ops:Array Oper} {i:Nat} {rest:List Nat} {o:Oper} {d:Deferred} {w':World} (ho:ops[i]?=some o) (hw:Region.wanted o (yielded ops tmps)=true)
  (hr:(execOp (rfr fn tmps (.inRegion ops (i::rest)::k) ds none).eval o).run P w=.ok (.defer d) w') :
  step P (lone (rfr fn tmps (.inRegion ops (i::rest)::k) ds none) cs w)=.next (lone (rfr fn (qcZ tmps o.dst Go.undef) (.inRegion ops rest::k) (d::ds) none) cs w'):=by
 rw[<-qeR ho];refine step_lone_go ?_;have hg:stepG P true {frame:=rfr fn tmps (.inRegion ops (i::rest)::k) ds none,callers:=cs,status:=.running,dying:=none} w =
   stepG.apply P true (rfr fn tmps (.inRegion ops (i::rest)::k) ds none) cs none (execOp (rfr fn tmps (.inRegion ops (i::rest)::k) ds none).eval o) w:=by
  simp[stepG,stepG.exec,stepG.oper,Frame.oper?,rfr,ho,hw]
 rw[hg];simp only[stepG.apply,Sem.runT_eq,hr,GStep.bare_after];rfl
def qCL {U:Operand->Value} {o:Oper} {f:Operand} {as:Array Operand} {ats:Array TypeId} {g:FuncId} {fs caps:Array Value} (ho:o.op=.defer ⟨.value f,as,ats⟩) (he:U f=.func (.func g) fs caps) :
  (execOp U o).run P w=.ok (.defer {target:=.fn (.func g) caps,args:=fs++as.map U}) w:=by
 obtain⟨dst,op,type,pos,after,guard⟩:=o;simp only at ho;subst ho;simp[execOp,resolve,he,Deferred.ofValue]
def qCM {c:Cfg} (hc:COK c) {fn:FuncId} {id:Nat} {ops:Array Oper} {s st:St} (h:qp3 c ops s=some st) {tmps:Array Value} {k:List Item} {ds:List Deferred} {ro:Option Nat} {cs:List Frame}
  (inv:Inv w0 own m S w s.rows) (henv:REs m S w s.env tmps) :
  ∃m' S' w' tmps',Steps c.P (lone (rfr fn tmps (.code (.region id ops true)::k) ds ro) cs w) (lone (rfr fn tmps' k ds ro) cs w')/\Inv w0 own m' S' w' st.rows/\REs m' S' w' st.env tmps'/\Ext m S w m' S' w':=by
 unfold qp3 at h;split at h
 ·rename_i rs s1 _;have e0:=qjY inv (qwB (qp s.rows) rs);obtain⟨m',S',w',tmps',h1,h2,h3,h4⟩:=qwj (fn:=fn) (id:=id) (k:=k) (ds:=ds) (ro:=ro) (cs:=cs) hc h (quM inv _) (henv.ext e0);exact⟨m',S',w',tmps',h1,h2,h3,e0.trans h4⟩
 ·cases h
end Go.Aev
namespace Go.Aev
variable [Glob]
variable {w0:World} {own:Own} {m:Mp} {S:Nat->Prop} {w:World} {rows:Rows}
def Jj:AF->List AF->FuncId
 | fr,[]=>fr.fn|_,a::st=>Jj a st
def qh2 (fn:FuncId):List AF->FuncId
 | []=>fn|a::st=>Jj a st
def J5 (fr:AF) (st:List AF):Jj fr st=qh2 fr.fn st:=by cases st<;>rfl
def qba (P:Program) (w0:World) (own:Own) (cs0:Bot) (f:FuncId) (s:AS) (M:Machine):Prop :=
 Jj s.fr s.stack=f/\Sim P w0 own cs0 s M
def qai (P:Program) (w0:World) (own:Own) (cs0:Bot) (f:FuncId) (o:Out) (M:Machine):Prop :=
 match o with
 | .next s=>∃M',Steps P M M'/\qba P w0 own cs0 f s M'|.done v rows=>∃fr w' m S u,Steps P M (lone fr cs0.cs w')/\(fr.fn=f/\fr.defers=cs0.hid)/\Frame.leaving P {fr with defers:=[]} w' (.returned u)/\Inv w0 own m S w' rows/\RV m S w' v u/\cs0.B m w'
 | .fail=>True
def qai.of_steps {P:Program} {cs0:Bot} {f:FuncId} {o:Out} {M M1:Machine} (h:Steps P M M1) (k:qai P w0 own cs0 f o M1):qai P w0 own cs0 f o M:=by
 cases o with
 | next s=>obtain⟨M',h1,h2⟩:=k; exact⟨M',h.trans h1,h2⟩
 | done v rows=>obtain⟨fr,w',m,S,u,h1,h2⟩:=k; exact⟨fr,w',m,S,u,h.trans h1,h2⟩
 | fail=>trivial
def qEf {P:Program} {cs0:Bot} {f:FuncId} {stack:List AF} {cs:List Frame} {frR:Frame} {v:V} {u:Value} (inv:Inv w0 own m S w rows) (hst:qa8 m S w cs0 stack cs) (hv:RV m S w v u)
  (hl:Frame.leaving P {frR with defers:=[]} w (.returned u)) (hd:frR.defers=qau cs0 stack) (hf:qh2 frR.fn stack=f):qai P w0 own cs0 f (qgk stack v rows) (lone frR cs w):=by
 cases hst with
 | nil hB=>exact⟨frR,w,m,S,u,Steps.refl _ _,⟨hf,hd⟩,hl,inv,hv,hB⟩|cons h t =>
  have hd':frR.defers=[]:=hd;have hfr0:{frR with defers:=[]}=frR:=by cases frR; simp only at hd'; subst hd'; rfl
  rw[hfr0]at hl;rename_i a st tmps todo ds ro cs';simp only[qgk]
  cases hfin:qh6 a v rows with
  | none=>trivial|some p =>
   obtain⟨fr',rows'⟩:=p;obtain⟨m',S',w',tmps',todo',h1,h2,h3,h4,h5⟩:=qwk (P:=P) (cs:=cs') hfin inv h hv rfl;refine⟨_,Steps.head (step_leave_returned hl) h1,?_,m',S',w',tmps',todo',ds,ro,cs',by rw[h5],h2,h3,t.ext h4⟩;rw[qh2,J5]at hf;show Jj fr' st=f;rw[J5,h5]; exact hf
def qe3 {c:Cfg} (hc:COK c) {g:FuncId} {args:List V} {fr:AF} (h:Y9 c g args=some fr) {as:Array Value} (ha:RVs m S w args as) :
  ∃gf,c.P.funcs[g]?=some gf/\gf.body.isSome=true/\(gf.name == "runtime.NumGoroutine")=false/\∃tmps todo,Frame.enter c.P g as .normal=rfr fr.fn tmps todo [] none/\FR m S w [] fr tmps todo [] none:=by
 unfold Y9 at h;split at h
 ·rename_i gf hgf;obtain⟨h1,h2⟩:=hc.F g gf hgf;split at h
  ·rename_i b hb;cases h;refine⟨gf,h1,by rw[hb]; rfl,h2,as++Array.replicate (gf.ntmps - as.size) Go.undef,[.code b],?_,⟨?_,.cons rfl .nil,FDs.none,rfl⟩⟩
   ·simp only[Frame.enter,h1,hb,rfr,qUj,qTT,qVt]
   ·have:RVs m S w (List.replicate (gf.ntmps - args.length) V.undef) (Array.replicate (gf.ntmps - as.size) Go.undef):=by
     refine⟨by simp[ha.1],fun j x v hx hv=>?_⟩;have e1:=qUi hx;rw[(qUz.1 e1).2];have e2:=qVR hv;rw[(Array.mem_replicate.1 e2).2];exact qco
    exact(qh0 ha this).toE
  ·cases h
 ·cases h
def qwm:∀{ps:List Tmp} {vs:List V} {us:List Value} {env:List V} {arr:Array Value},REs m S w env arr->RVs m S w vs us.toArray->ps.length=vs.length ->
  REs m S w (qh9 env ps vs) ((ps.zip us).foldl (fun(tmps:Array Value) (x:Tmp×Value)=>tmps.setIfInBounds x.1 x.2) arr)
 | [],vs,us,env,arr,h,hv,hl=>by cases vs<;>simpa[qh9]using h
 | p::ps,[],us,env,arr,h,hv,hl=>by simp at hl
 | p::ps,v::vs,[],env,arr,h,hv,hl=>by have:=hv.1; simp at this
 | p::ps,v::vs,u::us,env,arr,h,hv,hl=>by
  simp only[qh9,List.zip_cons_cons,qUK];exact qwm (qwe h (hv.2 0 v u rfl (by simp)) p) (qjU hv) (by simpa using hl)
def qEg {U:Operand->Value} {o:Oper} {f:Operand} {as:Array Operand} {ats:Array TypeId} {l:Nat} {L:Loop} {P:Program} (ho:o.op=.call ⟨.value f,as,ats⟩) (he:U f=.func (.yield l) #[] #[])
  (hl:w.heap[l]?=some (.loop L)) (hn:as.size=L.params.size) :
  (execOp U o).run P w=.ok (.round l L.fn ((L.params.toList.zip (as.map U).toList).foldl (fun(tmps:Array Value) (x:Tmp×Value)=>tmps.setIfInBounds x.1 x.2) L.tmps) L.assign L.body) w:=by
 obtain⟨dst,op,type,pos,after,guard⟩:=o;simp only at ho;subst ho;have hgl:=qhJ (P:=P) hl;have hz:(L.params.zip (as.map U)).foldl (fun(tmps:Array Value) (x:Tmp×Value)=>tmps.setIfInBounds x.1 x.2) L.tmps=(L.params.toList.zip (as.map U).toList).foldl (fun(tmps:Array Value) (x:Tmp×Value)=>tmps.setIfInBounds x.1 x.2) L.tmps:=by
  rw[<-Array.foldl_toList,Array.toList_zip]
 rw[<-hz];simp[execOp,resolve,he,Deferred.ofValue,invoke,Instr.yield,hgl,hn]
def qEh {P:Program} {U:Operand->Value} {o:Oper} {recv:Operand} {name:String} {as:Array Operand} {ats:Array TypeId} {g:FuncId} {gf:Func} {rr:Value} (ho:o.op=.call ⟨.invoke recv name,as,ats⟩)
  (he:∃t v,U recv=.iface t v/\(Go.method (P.types.size+Made.depth) t v name).run P w=.ok (g,rr) w) (hf:P.funcs[g]?=some gf) (hb:gf.body.isSome=true) (hn:(gf.name == "runtime.NumGoroutine")=false) :
  (execOp U o).run P w=.ok (.enter g (#[rr]++as.map U)) w:=by
 have hcall:=fun(w:World) (args:Array Value)=>qka (P:=P) (w:=w) (args:=args) hf hb hn
 obtain⟨dst,op,type,pos,after,guard⟩:=o;simp only at ho;subst ho;obtain⟨t,v,e1,e2⟩:=he;have h0:(#[Value.iface t v]++as.map U)[0]?=some (.iface t v):=by rw[qU9 (by simp)]; rfl
 have h1:(as.map U).extract 0 as.size=as.map U:=by apply qUD; simp; rw[qTX (by simp)]
 simp[execOp,resolve,e1,invoke,callMethod];rw[h0];simp[e2,h1,hcall,callMethod]
def qEi {c:Cfg} (hT:TOK c.P c.T) {rows:Rows} (inv:Inv w0 own m S w rows) {t:TypeId} {v rv:V} {name:String} {g:FuncId} {xr:Value} (h:qp0 c (qp rows) t v name=some (g,rv)) (hx:RV m S w (.ifc t v) xr) :
  ∃rr,(∃t' v',xr=.iface t' v'/\(Go.method (c.P.types.size+Made.depth) t' v' name).run c.P w=.ok (g,rr) w)/\RV m S w rv rr:=by
 cases hx with
 | ifc t x u hx =>
 unfold qp0 at h;split at h
 ·rename_i i y hi hy;have hu:=YD (w:=w) (hT t y hy);have hti:(typeInfo t).run c.P w=.ok i w:=by simp[typeInfo,hi]
  split at h
  ·rename_i nm sg f pr hm;have hfuel:c.P.types.size+Made.depth=(c.P.types.size+99)+1:=rfl;have hhead:∀(K:FuncId×Value->Prop),(Go.method (c.P.types.size+Made.depth) t u name).run c.P w=(receiverAt t (.val u) pr (some ((name.splitOn ".").getLastD name)) >>= fun r=>pure (f,r):Sem (FuncId×Value)).run c.P w:=by
    intro _;rw[hfuel];generalize c.P.types.size+99=fuel;simp only[Go.method,Sem.run_bind,hti,Result.andThen_ok,hm,follow,Sem.run_pure];rfl
   replace hhead:=hhead (fun _=>True)
   split at h
   ·rename_i e hd;cases h;refine⟨u,⟨t,u,rfl,?_⟩,hx⟩;rw[hhead];simp only[Sem.run_bind,receiverAt,hu,hd,Result.andThen_ok,Place.get,Sem.run_pure]
   ·rename_i e hd;rw[qTP]at h;obtain⟨x',hl,h⟩:=h;cases h;obtain⟨u',h1,h2⟩:=qpW (P:=c.P) hT (J4 rows) inv hl hx;refine⟨u',⟨t,u,rfl,?_⟩,h2⟩;rw[hhead];have hp:∃a,u=.pointer (some a):=by
     unfold qa4 at hl;split at hl
     ·cases hx; exact⟨_,rfl⟩
     ·cases hx; exact⟨_,rfl⟩
     ·cases hx; exact⟨_,rfl⟩
     ·cases hl
    obtain⟨a,rfl⟩:=hp;simp only[Instr.loadAt,Instr.sureAddr,Sem.run_bind,Sem.run_pure,Result.andThen_ok]at h1;have hwr:∀nm:String,(Builtin.ssaWrapNilChk_ #[t] t #[.pointer (some a),strVal "",strVal nm]).run c.P w=.ok (.pointer (some a)) w:=fun nm=>rfl
    simp only[Sem.run_bind,receiverAt,hu,hd,Result.andThen_ok,Place.get,Sem.run_pure,hwr,asAddr,h1]
   ·cases h
  ·cases h
 ·cases h
def qEj {P:Program} {T:TypeId->Option Ty} (hT:TOK P T) {rows:Rows} (inv:Inv w0 own m S w rows) {env:List V} {U:Operand->Value} (hU:qf0 m S w env U) {o:Oper} {vs:List V} {v:V}
  (hvs:YR env (qO o.op)=some vs) (h:qp1 T (qp rows) o.op vs=some v):∃u,(execOp U o).run P w=.ok (.value u) w/\RV m S w v u/\∀c,o.op≠.defer c:=by
 have hr:=qjT hU hvs;obtain⟨dst,op,type,pos,after,guard⟩:=o;simp only at hvs h hr ⊢;unfold qp1 at h;split at h
 ·rename_i as t r;split at h
  ·rename_i es clock ro y hl hy;have hu:=YD (w:=w) (hT t y hy);split at h
   ·rename_i kt et hd;rw[hd]at hu;cases h;obtain⟨a,ea,hx⟩:=Jh hr
    cases hx with
    | mp _ b o' hm =>
    have hrow:=J4 rows r _ hl;obtain⟨ents,h1,h2,_,_⟩:=Y8 inv hrow hm;have hgo:=qct (P:=P) h1 (by simp);have ea':as.map U=#[.map (some b)]:=by
     rw[<-ea]; apply qUD; simp[qO]
    refine⟨goInt ents.size,?_,?_,fun c=>by simp⟩
    ·have hlen:(Builtin.len_ #[t] type (as.map U)).run P w=.ok (goInt ents.size) w:=by
      rw[ea'];simp[Builtin.len_,hu,hgo]
     show(do pure (.value (<-Builtin.len_ #[t] type (as.map U))):Sem Next).run P w=_;simp only[Sem.run_bind,hlen,Result.andThen_ok,Sem.run_pure]
    ·rw[h2]; exact .d _ _ (.int _ _)
   ·cases h
  ·cases h
 ·cases h
def qEk {c:Cfg} (hc:COK c) {cs0:Bot} {cs:List Frame} {f:FuncId} {s:AS} {ops:Array Oper} {i:Nat} {rest:List Nat} {k:List qL} {tmps:Array Value} {kr:List Item} {ds:List Deferred} {ro:Option Nat}
  (hb:Jj s.fr s.stack=f) (inv:Inv w0 own m S w s.rows) (henv:REs m S w s.fr.env tmps) (hk:JB m k kr) (hds:FDs m S w (qau cs0 s.stack) s.fr.dcl s.fr.marks ds) (hro:qc9 m s.fr.round ro) (hst:qa8 m S w cs0 s.stack cs)
  (htodo:s.fr.todo=.it (.inRegion ops (i::rest))::k) :
  qai c.P w0 own cs0 f (qb0 c s ops i rest k) (lone (rfr s.fr.fn tmps (.inRegion ops (i::rest)::kr) ds ro) cs w):=by
 have hself:FR m S w (qau cs0 s.stack) s.fr tmps (.inRegion ops (i::rest)::kr) ds ro:=⟨henv,by rw[htodo]; exact .cons rfl hk,hds,hro⟩
 have hbot:∀fr':AF,fr'.fn=s.fr.fn->Jj fr' s.stack=f:=by
  intro fr' e;rw[J5]at hb ⊢;rw[e]; exact hb
 unfold qb0;split
 ·trivial
 ·rename_i o ho;split
  ·trivial
  ·rename_i hw;refine⟨_,.one (qvd ho (qda henv hw)),hbot _ rfl,m,S,w,_,_,ds,ro,cs,rfl,inv,⟨qa9 henv qco o.dst,.cons rfl hk,hds,hro⟩,hst⟩
  ·rename_i hw;have hw':=qda henv hw;have hU:=qdX (fn:=s.fr.fn) (todo:=.inRegion ops (i::rest)::kr) (ds:=ds) (ro:=ro) inv.glb henv;split
   ·rename_i fo args hcv;obtain⟨as,ats,hop,rfl⟩:=qkP hcv;split
    ·rename_i r vs hf hvs;have hfv:=hU fo _ hf;generalize hfe:(rfr s.fr.fn tmps (.inRegion ops (i::rest)::kr) ds ro).eval fo=fv at hfv
     cases hfv with
     | yl _ l o' hm =>
     split
     ·rename_i st pend fn env ps asg bd d hl;obtain⟨l',o2,hm',L,e1,e2,e3,e4,e5,e6,e7,e8,_⟩:=inv.row r _ (J4 s.rows r _ hl);rw[hm]at hm'; cases hm';split
      ·rename_i hlen;have hargs:=qgf hU hvs;have hn:as.size=L.params.size:=by
        have h1:=hargs.1;simp only[Array.size_map]at h1;rw[h1,<-hlen,<-e6]; simp
       have hrun:=qEg (P:=c.P) (w:=w) hop hfe e1 hn;have hstep:=qDd (cs:=cs) ho hw' (qh1 hcv) hrun;rw[e4,e7,e8]at hstep;refine⟨_,.one hstep,hb,m,S,w,_,_,[],some l,_,rfl,inv,⟨?_,.cons rfl (.cons rfl (.cons rfl .nil)),FDs.none,⟨l,o',hm,rfl⟩⟩,.cons hself hst⟩;rw[e6];exact qwm e5 (by rw[qVd]; exact hargs) hlen
      ·trivial
     ·trivial
    ·rename_i fv vs _ hf hvs;split
     case h_2=>trivial
     rename_i g as' hfa;obtain⟨fs,cs',hfe,hargs⟩:=qkR hfa (hU fo _ hf) (qgf hU hvs);split
     ·rename_i hpo;obtain⟨gf,h1,h2,h3⟩:=hc.rc g (qTC _ _ ▸ hpo).2;have hrun:=qkQ (w:=w) hop hfe h1 h2 h3;split
      ·rename_i res hres;obtain⟨e,w',fr,⟨u,rfl,m',S',i1,e1,r1⟩,hcomes,hfn,hlv⟩:=qvM (P:=c.P) hc.RC hc.WC inv (Yn.mk' inv (qTF _) (inv.none _ (qTF _))) hres hargs (rfr s.fr.fn tmps (.inRegion ops (i::rest)::kr) ds ro::cs);have hleave:=step_leave_returned (c:=rfr s.fr.fn tmps (.inRegion ops (i::rest)::kr) ds ro) (cs:=cs) hlv;rw[qeR ho]at hleave;exact⟨_,Steps.head (qhI ho hw' (qh1 hcv) hrun) (Steps.trans hcomes (.one hleave)),hbot _ rfl,m',S',w',_,_,ds,ro,cs,rfl,i1,
        ⟨qa9 (henv.ext e1) r1 o.dst,.cons rfl (hk.mono e1.map),hds.ext e1,hro.mono e1.map⟩,hst.ext e1⟩
      ·trivial
     ·split
      ·rename_i fr hen;obtain⟨gf,h1,h2,h3,tmps',todo',e1,hfr⟩:=qe3 hc hen hargs;have hrun:=qkQ (w:=w) hop hfe h1 h2 h3;have hstep:=qhI (cs:=cs) ho hw' (qh1 hcv) hrun;rw[e1]at hstep;exact⟨_,.one hstep,hb,m,S,w,tmps',todo',[],none,_,rfl,inv,hfr,.cons hself hst⟩
      ·trivial
    ·trivial
   ·rename_i hcv;split
    ·rename_i vs hvs;split
     ·rename_i res hres;obtain⟨nx,u,w',m',S',hrun,hnx,i1,e1,r1⟩:=qoU hc.T (qwf s.rows vs) inv (Yn.mk' inv (qTF _) (inv.none _ (qTF _))) hU hvs hres;exact⟨_,.one (qhH ho hw' (qwg hres) hrun hnx),hbot _ rfl,m',S',w',_,_,ds,ro,cs,rfl,i1,
       ⟨qa9 (henv.ext e1) r1 o.dst,.cons rfl (hk.mono e1.map),hds.ext e1,hro.mono e1.map⟩,hst.ext e1⟩
     ·split
      ·rename_i v hlv;obtain⟨u,hrun,hrel,hnd⟩:=qEj (P:=c.P) hc.T inv hU hvs hlv;exact⟨_,.one (qhH ho hw' hnd hrun (.inl rfl)),hbot _ rfl,m,S,w,_,_,ds,ro,cs,rfl,inv,
        ⟨qa9 henv hrel o.dst,.cons rfl hk,hds,hro⟩,hst⟩
      split
      ·rename_i dc hopd;unfold qwA;split
       ·rename_i f as ats hop;split
        ·rename_i fv vs' hf hvs';split
         ·rename_i ga hfa;obtain⟨g,as'⟩:=ga;split
          ·rename_i hcnd;simp only[qTC,qWF,qVe]at hcnd;obtain⟨c1,c2⟩:=hcnd;have hro0:ro=none:=by rw[c1]at hro; exact hro
           subst hro0;obtain⟨fs,cs',hfe,hargs⟩:=qkR hfa (hU f _ hf) (qgf hU hvs');have hrun:=qCL (P:=c.P) (w:=w) hop hfe;rw[c2]at hds;refine⟨_,.one (qCK ho hw' hrun),hbot _ rfl,m,S,w,_,_,_,none,cs,rfl,inv,⟨qa9 henv qco o.dst,.cons rfl hk,?_,hro⟩,hst⟩;show FDs m S w (qau cs0 s.stack) ((g,as')::s.fr.dcl) s.fr.marks _;rw[c2];exact hds.call hargs
          ·trivial
         ·trivial
        ·trivial
       ·trivial
      unfold qwz;split
      ·rename_i recv name as ats hop;split
       ·rename_i t v hrv;split
        ·rename_i g rv hme;split
         ·rename_i fr hen;have hvs':YR s.fr.env as.toList=some vs:=by rw[hop]at hvs; exact hvs
          have hargs0:=qgf hU hvs';have hrr:=hU recv _ hrv;obtain⟨rr,hmeth,hrel⟩:=qEi hc.T inv hme hrr;have hargs:RVs m S w (rv::vs) (#[rr]++as.map (rfr s.fr.fn tmps (.inRegion ops (i::rest)::kr) ds ro).eval):=by
           refine⟨by have:=hargs0.1; simp only[qV0,qT9]; simp only[this]; simp; omega,fun j x v hx hv=>?_⟩
           cases j with
           | zero =>
            rw[qU9 (by simp)]at hv;simp at hx hv; subst hx; subst hv; exact hrel
           | succ j =>
            simp only[qUx]at hx;rw[qWD (by simp)]at hv;exact hargs0.2 j x v hx (by simpa using hv)
          obtain⟨gf,h1,h2,h3,tmps',todo',e1,hfr⟩:=qe3 hc hen hargs;have hrun:=qEh (P:=c.P) (w:=w) hop hmeth h1 h2 h3;have hstep:=qhI (cs:=cs) ho hw' (fun c=>by rw[hop]; simp) hrun;rw[e1]at hstep;exact⟨_,.one hstep,hb,m,S,w,tmps',todo',[],none,_,rfl,inv,hfr,.cons hself hst⟩
         ·trivial
        ·trivial
       ·trivial
      ·trivial
    ·trivial
def qpP {c:Cfg} (hc:COK c) {cs0:Bot} {cs:List Frame} {f:FuncId} {s:AS} {jump:Option Code} {tmps:Array Value} {todo:List Item} {ds:List Deferred} {ro:Option Nat}
  (hb:Jj s.fr s.stack=f) (inv:Inv w0 own m S w s.rows) (hfr:FR m S w (qau cs0 s.stack) s.fr tmps todo ds ro) (hst:qa8 m S w cs0 s.stack cs)
  (h:(todo=[]/\jump=none)\/(∃k,todo=.code .ret::k/\jump=some .ret)\/(ro≠none/\∃id k,todo=.code (.exit id)::k/\exitTo id k=none/\jump=some (.exit id))) :
  qai c.P w0 own cs0 f (qh8 c s jump) (lone (rfr s.fr.fn tmps todo ds ro) cs w):=by
 unfold qh8;have hro:=hfr.ro
 cases hrd:s.fr.round with
 | none =>
  rw[hrd]at hro;have hro':ro=none:=hro;subst hro';have h':todo=[]\/∃k,todo=.code .ret::k:=by
   rcases h with⟨h,_⟩|⟨k,h,_⟩|⟨h,_⟩
   ·exact .inl h
   ·exact .inr ⟨k,h⟩
   ·exact absurd rfl h
  have main:qai c.P w0 own cs0 f (match c.F s.fr.fn,(qgi s.fr.marks s.rows).bind (qgj c s.fr.dcl)with
    | some gf,some rows=>match qdc c.T rows s.fr.env gf.results.toList with
     | some vs=>qgk s.stack (qk1 vs) rows|none=>.fail
    | _,_=>.fail) (lone (rfr s.fr.fn tmps todo ds none) cs w):=by
   split
   ·rename_i gf rows' hgf hkm;split
    ·rename_i vs hvs;obtain⟨hf1,_⟩:=hc.F _ gf hgf;obtain⟨rows1,hk1,hk2⟩:=qVT.1 hkm;obtain⟨dd,hd1,hd2⟩:=hfr.ds;obtain⟨w1,s0,i0,e0⟩:=qwl (P:=c.P) (F:={rfr s.fr.fn tmps todo [] none with mode:=.returning}) rfl hk1 hd2 inv (cs:=cs);obtain⟨w',m1,S1,s1',i1,e1'⟩:=quV hc (F:={rfr s.fr.fn tmps todo [] none with mode:=.returning}) rfl hk2 (hd1.ext e0) i0 (cs:=cs);have s1:=s0.trans s1';have e1:=e0.trans e1';obtain⟨u,hres,hru⟩:=qEe (P:=c.P) hc.T i1 (hfr.env.ext e1) hvs;refine qai.of_steps (Steps.head (qDm h') s1) ?_;refine qEf (frR:={rfr s.fr.fn tmps todo (qau cs0 s.stack) none with mode:=.returning}) i1 (hst.ext e1) hru ⟨rfl,rfl,rfl,gf,hf1,hres⟩ rfl ?_;rw[J5]at hb;exact hb
    ·trivial
   ·trivial
  rcases h with⟨_,rfl⟩|⟨k,_,rfl⟩|⟨hn,_⟩
  ·exact main
  ·exact main
  ·exact absurd rfl hn
 | some r =>
  rw[hrd]at hro;obtain⟨l,o,hm,hro'⟩:=hro;subst hro';simp only;split
  ·rename_i st pend fn env ps as bd d hl;obtain⟨l',o2,L,hm',e1,e2,e3,e4,e5,e6,e7,e8,e9,k1,k2⟩:=qpN (st':=if jump.isNone then .ready else .done) (pend':=jump) inv (J4 s.rows r _ hl);rw[hm]at hm'; cases hm';generalize s.stack=stk0 at hst hb ⊢
   cases hst with
   | nil=>trivial|cons hcal t =>
    rename_i a stk tmps2 todo2 ds2 ro2 cs2;have hstep:=qDi (P:=c.P) (fn:=s.fr.fn) (tmps:=tmps) (ds:=ds) (cs:=cs2) (c:=rfr a.fn tmps2 todo2 ds2 ro2) (todo:=todo) (jump:=jump) e1 (by
     rcases h with h|h|⟨_,h⟩
     ·exact .inl h
     ·exact .inr (.inl h)
     ·exact .inr (.inr h))
    simp only[qgk]
    cases hfin:qh6 a (.d (.bool jump.isNone)) (qv s.rows r (.live (.loop (if jump.isNone then .ready else .done) jump fn env ps as bd d)))with
    | none=>trivial|some p =>
     obtain⟨fr',rows'⟩:=p;obtain⟨m',S',w',tmps',todo',h1,h2,h3,h4,h5⟩:=qwk (P:=c.P) (cs:=cs2) hfin k1 (hcal.ext k2) (.d _ _ (.bool jump.isNone)) rfl;refine⟨_,Steps.head hstep h1,?_,m',S',w',tmps',todo',ds2,ro2,cs2,by rw[h5],h2,h3,(t.ext k2).ext h4⟩;rw[Jj,J5]at hb;show Jj fr' stk=f;rw[J5,h5]; exact hb
  ·trivial
def qpQ (rows:Rows) (x:qc):qv rows rows.length x=rows++[x]:=by unfold qv; rw[if_neg (Nat.lt_irrefl _)]
def qpR (inv:Inv w0 own m S w rows):Yn m rows rows.length:=Yn.mk' inv (qTF _) (inv.none _ (qTF _))
def qwn {x:V} {u:Value} {xs:List V} {arr:Array Value} (h:RV m S w x u) (t:RVs m S w xs arr):RVs m S w (x::xs) (#[u]++arr) :=
 qh0 (Y1 h) t
def qEl {c:Cfg} (hc:COK c) {cs0:Bot} {cs:List Frame} {f:FuncId} {s:AS} {fo:Operand} {params:Array Tmp} {as body:Code} {k:List qL} {tmps:Array Value} {kr:List Item} {ds:List Deferred} {ro:Option Nat}
  (hb:Jj s.fr s.stack=f) (inv:Inv w0 own m S w s.rows) (henv:REs m S w s.fr.env tmps) (hk:JB m k kr) (hds:FDs m S w (qau cs0 s.stack) s.fr.dcl s.fr.marks ds) (hro:qc9 m s.fr.round ro) (hst:qa8 m S w cs0 s.stack cs) :
  qai c.P w0 own cs0 f (qp2 c s fo params as body k) (lone (rfr s.fr.fn tmps (.code (.rangeFunc fo params as body)::kr) ds ro) cs w):=by
 unfold qp2;split
 ·rename_i g caps hf;have hU:=qdX (fn:=s.fr.fn) (todo:=.code (.rangeFunc fo params as body)::kr) (ds:=ds) (ro:=ro) inv.glb henv;have hfv:=hU fo _ hf;generalize hfe:(rfr s.fr.fn tmps (.code (.rangeFunc fo params as body)::kr) ds ro).eval fo=fv at hfv
  cases hfv with
  | fn _ _ carr hcl hcd =>
  have hcaps:RVs m S w caps carr:=⟨hcl,hcd⟩
  split
  ·rename_i hrd;have hro':=hro;rw[hrd]at hro';have e:ro=none:=hro';subst e;simp only;split
   ·rename_i fr hen;obtain⟨k1,e1⟩:=inv.fresh (qpR inv) (.deferred (some [])) .dfr rfl (fun _=>qcu w _);rw[qpQ]at k1;have hlen:(s.rows++[qc.live Row.dfr]).length=s.rows.length+1:=by simp
    have hsz:(w.alloc (.deferred (some []))).heap.size=w.heap.size+1:=by simp
    obtain⟨k2,e2⟩:=k1.fresh (qpR k1) (.loop (qbT s.fr.fn tmps params as body w.heap.size)) (.loop .ready none s.fr.fn s.fr.env params.toList as body s.rows.length) rfl (fun ext =>
     ⟨qbT s.fr.fn tmps params as body w.heap.size,qcu _ _,rfl,rfl,rfl,(henv.ext e1).ext ext,rfl,rfl,rfl,0,ext.map _ _ (by simp[qU,qbT])⟩)
    rw[qpQ,hlen]at k2;rw[hlen]at e2;have e12:=e1.trans e2;have hy:RV (qU (qU m s.rows.length (w.heap.size,0)) (s.rows.length+1) ((w.alloc (.deferred (some []))).heap.size,0)) S ((w.alloc (.deferred (some []))).alloc (.loop (qbT s.fr.fn tmps params as body w.heap.size)))
      (.yl (s.rows.length+1)) (.func (.yield (w.heap.size+1)) #[] #[]):=by
     refine .yl _ _ 0 ?_;simp[qU]
    obtain⟨gf,h1,h2,h3,tmps',todo',h4,hfr⟩:=qe3 hc hen (qwn hy (hcaps.ext e12));have hstep:=qDf (P:=c.P) (fn:=s.fr.fn) (tmps:=tmps) (ds:=ds) (k:=kr) (cs:=cs) (w:=w) (params:=params) (as:=as) (body:=body) hfe h1 h2 h3;rw[h4]at hstep;refine⟨_,.one hstep,?_,_,S,_,tmps',todo',[],none,_,rfl,k2,hfr,?_⟩
    ·show Jj _ s.stack=f;rw[J5]at hb ⊢;exact hb
    ·refine .cons (a:={s.fr with todo:=.rf (s.rows.length+1)::k,marks:=s.rows.length::s.fr.marks}) ⟨henv.ext e12,.cons ⟨w.heap.size+1,0,by simp[qU],rfl⟩ (hk.mono e12.map),FDs.push (o:=0) (by
      refine e2.map _ _ ?_;simp[qU]) (hds.ext e12),hro.mono e12.map⟩ (hst.ext e12)
   ·trivial
  ·rename_i r hrd;have hro':=hro;rw[hrd]at hro';obtain⟨l,o,hm,e⟩:=hro';subst e;split
   ·rename_i st pend lfn lenv ps las lbd d hl;obtain⟨l',o',hm',L,g1,g2,g3,g4,g5,g6,g7,g8,od,g9⟩:=inv.row r _ (J4 s.rows r _ hl);rw[hm]at hm'; cases hm';simp only;split
    ·rename_i fr hen;obtain⟨k2,e2⟩:=inv.fresh (qpR inv) (.loop (qbT s.fr.fn tmps params as body L.defers)) (.loop .ready none s.fr.fn s.fr.env params.toList as body d) rfl (fun ext =>
      ⟨qbT s.fr.fn tmps params as body L.defers,qcu _ _,rfl,rfl,rfl,henv.ext ext,rfl,rfl,rfl,od,ext.map _ _ g9⟩)
     rw[qpQ]at k2;have hy:RV (qU m s.rows.length (w.heap.size,0)) S (w.alloc (.loop (qbT s.fr.fn tmps params as body L.defers))) (.yl s.rows.length) (.func (.yield w.heap.size) #[] #[]):=by
      refine .yl _ _ 0 ?_;simp[qU]
     obtain⟨gf,h1,h2,h3,tmps',todo',h4,hfr⟩:=qe3 hc hen (qwn hy (hcaps.ext e2));have hstep:=qDg (P:=c.P) (fn:=s.fr.fn) (tmps:=tmps) (ds:=ds) (k:=kr) (cs:=cs) (w:=w) (params:=params) (as:=as) (body:=body) g1 hfe h1 h2 h3;rw[h4]at hstep;refine⟨_,.one hstep,?_,_,S,_,tmps',todo',[],none,_,rfl,k2,hfr,?_⟩
     ·show Jj _ s.stack=f;rw[J5]at hb ⊢;exact hb
     ·exact .cons (a:={s.fr with todo:=.rf s.rows.length::k}) ⟨henv.ext e2,.cons ⟨w.heap.size,0,by simp[qU],rfl⟩ (hk.mono e2.map),hds.ext e2,hro.mono e2.map⟩ (hst.ext e2)
    ·trivial
   ·trivial
 ·trivial
def qe4 {c:Cfg} (hc:COK c) {cs0:Bot} {f:FuncId} {s:AS} {M:Machine} (hs:qba c.P w0 own cs0 f s M):qai c.P w0 own cs0 f (qcE c s) M:=by
 obtain⟨hb,m,S,w,tmps,todo,ds,ro,cs,rfl,inv,hfr,hst⟩:=hs;have to:∀{k':List qL} {kr':List Item},step c.P (lone (rfr s.fr.fn tmps todo ds ro) cs w)=.next (lone (rfr s.fr.fn tmps kr' ds ro) cs w)->JB m k' kr' ->
   qai c.P w0 own cs0 f (toA s k') (lone (rfr s.fr.fn tmps todo ds ro) cs w):=by
  intro k' kr' h1 h2;refine⟨_,.one h1,?_,m,S,w,tmps,kr',ds,ro,cs,rfl,inv,⟨hfr.env,h2,hfr.ds,hfr.ro⟩,hst⟩;show Jj _ s.stack=f;rw[J5]at hb ⊢;exact hb
 have hself:∀fr':AF,fr'.fn=s.fr.fn->Jj fr' s.stack=f:=by
  intro fr' e;rw[J5]at hb ⊢;rw[e]; exact hb
 have ht:=hfr.todo;unfold qcE;split
 ·rename_i h0;rw[h0]at ht;cases ht;exact qpP hc hb inv hfr hst (.inl ⟨rfl,rfl⟩)
 ·trivial
 ·rename_i i k htodo;rw[htodo]at ht
  cases ht with
  | cons hi tl =>
  rename_i kr;cases hi;split
  ·
   rename_i cd;split
   ·exact qpP hc hb inv hfr hst (.inr (.inl ⟨kr,rfl,rfl⟩))
   ·exact to qC0 tl
   ·exact to qC1 tl
   ·exact to qC4 (.cons rfl (.cons rfl tl))
   ·split
    ·rename_i o x y _ b hv;have hU:=qdX (fn:=s.fr.fn) (todo:=.code (.cond o x y)::kr) (ds:=ds) (ro:=ro) inv.glb hfr.env;exact to (qC5 (qdb (hU o _ hv))) (.cons rfl tl)
    ·trivial
   ·exact to qC6 (.cons rfl (.cons rfl tl))
   ·exact to qC7 (.cons rfl (.cons rfl tl))
   ·exact to qC9 (.cons rfl (.cons rfl tl))
   ·split
    ·rename_i id k' he;obtain⟨l',h1,h2⟩:=qD6 tl he;exact to (qDa h1) h2
    ·rename_i id he;split
     ·rename_i r hrd;refine qpP hc hb inv hfr hst (.inr (.inr ⟨?_,_,_,rfl,qD7 tl he,rfl⟩));have:=hfr.ro;rw[hrd]at this;obtain⟨l,o,_,e⟩:=this;rw[e]; simp
     ·trivial
   ·split
    ·rename_i k' he;obtain⟨l',h1,h2⟩:=qD8 tl he;exact to (qDb h1) h2
    ·trivial
   ·exact to qDc (.cons rfl tl)
   ·split
    ·rename_i id ops _ st hreg;obtain⟨m',S',w',tmps',h1,h2,h3,h4⟩:=qwj (fn:=s.fr.fn) (id:=id) (k:=kr) (ds:=ds) (ro:=ro) (cs:=cs) hc hreg inv hfr.env;exact⟨_,h1,hself _ rfl,m',S',w',tmps',kr,ds,ro,cs,rfl,h2,⟨h3,tl.mono h4.map,hfr.ds.ext h4,hfr.ro.mono h4.map⟩,hst.ext h4⟩
    ·split
     ·rename_i st hcut;obtain⟨m',S',w',tmps',h1,h2,h3,h4⟩:=quR (fn:=s.fr.fn) (k:=kr) (ds:=ds) (ro:=ro) (cs:=cs) hc hcut inv hfr.env;exact⟨_,h1,hself _ rfl,m',S',w',tmps',_,ds,ro,cs,rfl,h2,⟨h3,.cons rfl (tl.mono h4.map),hfr.ds.ext h4,hfr.ro.mono h4.map⟩,hst.ext h4⟩
     ·split
      ·rename_i st hfrz;obtain⟨m',S',w',tmps',h1,h2,h3,h4⟩:=qCM (fn:=s.fr.fn) (k:=kr) (ds:=ds) (ro:=ro) (cs:=cs) hc hfrz inv hfr.env;exact⟨_,h1,hself _ rfl,m',S',w',tmps',kr,ds,ro,cs,rfl,h2,⟨h3,tl.mono h4.map,hfr.ds.ext h4,hfr.ro.mono h4.map⟩,hst.ext h4⟩
      ·trivial
   ·exact qEl hc hb inv hfr.env tl hfr.ds hfr.ro hst
   ·trivial
  ·exact to qC2 tl
  ·exact to qC3 tl
  ·exact to qC8 (.cons rfl (.cons rfl tl))
  ·exact to qvc tl
  ·exact qEk hc hb inv hfr.env tl hfr.ds hfr.ro hst htodo
  ·split
   ·rename_i r hrd;split
    ·rename_i pend fn env ps as bd d hl;have hro:=hfr.ro;rw[hrd]at hro;obtain⟨l,o,hm,e⟩:=hro;subst e;obtain⟨l',o2,L,hm',e1,e2,e3,e4,e5,e6,e7,e8,e9,k1,k2⟩:=qpN (st':=.busy) (pend':=pend) inv (J4 s.rows r _ hl);rw[hm]at hm'; cases hm';have hstep:=qDe (P:=c.P) (fn:=s.fr.fn) (tmps:=tmps) (ds:=ds) (k:=kr) (cs:=cs) e1 e2;have hL:({L with state:=LoopState.busy}:Loop)={L with state:=.busy,pending:=pend}:=by rw[<-e3]
     rw[hL]at hstep;exact⟨_,.one hstep,hself _ rfl,m,S,_,tmps,kr,ds,some l,cs,rfl,k1,⟨hfr.env.ext k2,tl,hfr.ds.ext k2,hfr.ro⟩,hst.ext k2⟩
    ·trivial
   ·trivial
  ·trivial
def qkS {c:Cfg} (hc:COK c) {cs0:Bot} {f:FuncId}:∀{n:Nat} {s:AS} {M:Machine},qba c.P w0 own cs0 f s M->qai c.P w0 own cs0 f (qdd c n s) M
 | 0,s,M,hs=>⟨M,Steps.refl _ _,hs⟩|n+1,s,M,hs=>by
  have h:=qe4 hc hs;simp only[qdd];split
  ·rename_i s' he;rw[he]at h;obtain⟨M',h1,h2⟩:=h;exact(qkS hc h2).of_steps h1
  ·exact h
def qpS {P:Program} {fr:Frame} {w:World} {e:Ending} (h0:fr.defers=[]) (h:Frame.leaving P {fr with defers:=[]} w e):Frame.leaving P fr w e:=by
 have:{fr with defers:=[]}=fr:=by cases fr; simp only at h0; subst h0; rfl
 rwa[this]at h
def qdY (cs:List Frame) (m:Mp) (w:World) (k:Nat):Bot :=
 {cs,k,B:=fun m' w'=>(∀r,r<k->∀p,m r=some p->m' r=some p)/\∀b,Yf w b<=Yf w' b,
  mono:=fun _ _ _ _ h1 h2 h=>⟨fun r hr p e=>h1 r hr p (h.1 r hr p e),fun b=>qT2 (h.2 b) (h2 b)⟩}
def qpT (cs:List Frame) (m:Mp) (w:World) (k:Nat):(qdY cs m w k).B m w:=⟨fun _ _ _ e=>e,fun _=>qTF _⟩
def qEm {c:Cfg} (hc:COK c) {g:FuncId} {args:List V} {fr:AF} {n:Nat} {v:V} {rows':Rows} (he:Y9 c g args=some fr) (hr:qdd c n {fr,stack:=[],rows}=.done v rows')
  (inv:Inv w0 own m S w rows) {as:Array Value} (ha:RVs m S w args as) :
  Calls c.P g as w fun e w'=>∃u,e=.returned u/\∃m' S',Inv w0 own m' S' w' rows'/\RV m' S' w' v u:=by
 intro cs;obtain⟨gf,h1,h2,h3,tmps,todo,h4,hfr⟩:=qe3 hc he ha;have hg:fr.fn=g:=by
  unfold Y9 at he;split at he
  ·split at he
   ·cases he; rfl
   ·cases he
  ·cases he
 have hsim:qba c.P w0 own (qdY cs m w 0) g {fr,stack:=[],rows} (lone (Frame.enter c.P g as .normal) cs w):=by
  refine⟨hg,m,S,w,tmps,todo,[],none,cs,by rw[h4],inv,hfr,.nil (cs0:=qdY cs m w 0) (qpT cs m w 0)⟩
 have h:=qkS hc (n:=n) hsim;rw[hr]at h;obtain⟨frR,w',m',S',u,s1,s2,s3,s4,s5,_⟩:=h;exact⟨.returned u,w',frR,⟨u,rfl,m',S',s4,s5⟩,s1,s2.1,qpS s2.2 s3⟩
def qEn {c:Cfg} (hc:COK c) {g:FuncId} {args:List V} {rows:Rows} {fr:AF} {n:Nat} {v:V} {rows':Rows} (he:Y9 c g args=some fr) (hr:qdd c n {fr,stack:=[],rows}=.done v rows') (k:Nat) :
  qM c.P g k args rows (fun x y=>x=v/\y=rows'):=by
 intro w0 own m S w as inv ha cs;obtain⟨gf,h1,h2,h3,tmps,todo,h4,hfr⟩:=qe3 hc he ha;have hg:fr.fn=g:=by
  unfold Y9 at he;split at he
  ·split at he
   ·cases he; rfl
   ·cases he
  ·cases he
 have hsim:qba c.P w0 own (qdY cs m w k) g {fr,stack:=[],rows} (lone (Frame.enter c.P g as .normal) cs w):=by
  refine⟨hg,m,S,w,tmps,todo,[],none,cs,by rw[h4],inv,hfr,.nil (cs0:=qdY cs m w k) (qpT cs m w k)⟩
 have h:=qkS hc (n:=n) hsim;rw[hr]at h;obtain⟨frR,w',m',S',u,s1,s2,s3,s4,s5,s6⟩:=h;exact⟨.returned u,w',frR,⟨u,v,rows',rfl,⟨rfl,rfl⟩,m',S',s4,s5,s6.1,s6.2⟩,s1,s2.1,qpS s2.2 s3⟩
end Go.Aev
end
