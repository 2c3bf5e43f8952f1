/- Lemmas for the statements of this seat: an abstract machine that the model follows, and contracts of functions. Conditions: none. -/
import Derived.Test.YtjchifhnckdnaaaGreatDoorA20
import Derived.Test.YtjchifhnckdnaaaGreatDoorA19
set_option linter.unusedVariables false
set_option linter.unusedSimpArgs false
set_option linter.unusedSectionVars false
section
namespace Go.Aev.M44
set_option maxRecDepth 1000000
open Go Go.Aev
noncomputable def cM:SCfg:=mk (fun _=>false) (fun _ _ _=>none)
theorem cM_ok:COK cM.cfg:=mk_ok (fun g args rows ps v h=>by cases h)
def orI (a b:Int):Int:=IntKind.u32.wrap (BitVec.ofInt 32 a ||| BitVec.ofInt 32 b).toNat
def xorI (a b:Int):Int:=IntKind.u32.wrap (BitVec.ofInt 32 a ^^^ BitVec.ofInt 32 b).toNat
def rotI (x:Int) (s r:Nat):Int:=orI (IntKind.u32.wrap (x * 2 ^ s)) (x.fdiv (2 ^ r))
def mixI (x:Int) (a a' b b' c c':Nat):Int:=xorI (xorI (rotI x a a') (rotI x b b')) (rotI x c c')
theorem mix1 (x:Int):RCs PP 359 [.d (.int .u32 x),I 6,I 11,I 25] [] (.d (.int .u32 (mixI x 26 6 21 11 7 25))) :=
 rcs_of cM_ok (by kernel_rfl) (Ends.toFin cM_ok (hints []) anyLoop 200 (ps:=[]) (v:=.d (.int .u32 (mixI x 26 6 21 11 7 25))) (rows:=[]) (by kernel_rfl) trivial rfl)
theorem mix2 (x:Int):RCs PP 359 [.d (.int .u32 x),I 2,I 13,I 22] [] (.d (.int .u32 (mixI x 30 2 19 13 10 22))) :=
 rcs_of cM_ok (by kernel_rfl) (Ends.toFin cM_ok (hints []) anyLoop 200 (ps:=[]) (v:=.d (.int .u32 (mixI x 30 2 19 13 10 22))) (rows:=[]) (by kernel_rfl) trivial rfl)
end Go.Aev.M44
end
section
namespace Go.Aev
variable [Glob]
def rangeAt (s:AS):Option (Oper × Operand × Array Oper × List Nat × List AItem × Nat × List (D × V) × List Nat) :=
 match s.fr.todo with
 | .it (.inRegion ops (i :: rest)) :: kk=>match ops[i]? with
  | some o=>match o.op with
   | .next x false=>match wantedA ops s.fr.env o,(evalO s.fr.env x).bind (iterOf (liveAt s.rows)) with
    | some true,some (r,es,seen)=>some (o,x,ops,rest,kk,r,es,seen)
    | _,_=>none
   | _=>none
  | none=>none
 | _=>none
def forkAt (s:AS) (j:Nat):Option AS :=
 match rangeAt s with
 | some (o,_,ops,rest,kk,r,es,seen)=>match nextAt es seen r j with
  | some res=>some { s with fr:={ s.fr with env:=setTmp s.fr.env o.dst res.v,todo:=.it (.inRegion ops rest) :: kk },rows:=applyUps res.ups s.rows }
  | none=>none
 | none=>none
def forks (s:AS):List Nat :=
 match rangeAt s with
 | some (_,_,_,_,_,_,es,seen)=>remI es.length seen
 | none=>[]
theorem Ends.next {c:SCfg} {k:Nat} {s:AS} {Q:V→Rows→Prop} (hne:forks s ≠ []) (h:∀ j ∈ forks s,∃ s',forkAt s j = some s'∧Ends c k s' Q):Ends c k s Q:=by
 intro w0 own bt f M hb hs
 obtain ⟨hbf,m,S,w,tmps,todo,ds,ro,cs,rfl,inv,hfr,hst⟩:=hs
 have ht:=hfr.todo
 have key:∃ j,j ∈ forks s∧∀ s',forkAt s j = some s'→∃ M',Steps c.P (lone (rfr s.fr.fn tmps todo ds ro) cs w) M'∧SimF c.P w0 own bt f s' M':=by
  unfold forks at hne ⊢
  unfold forkAt
  cases hra:rangeAt s with
  | none=>rw [hra] at hne; exact absurd rfl hne
  | some p =>
   obtain ⟨o,x,ops,rest,kk,r,es,seen⟩:=p
   rw [hra] at hne
   simp only at hne ⊢
   unfold rangeAt at hra
   split at hra
   ·rename_i ops' i rest' kk' htodo
    rw [htodo] at ht
    cases ht with
    | cons hi tl =>
    rename_i kr
    cases hi
    split at hra
    ·rename_i o' ho
     split at hra
     ·rename_i x' hop
      split at hra
      ·rename_i r' es' seen' hw hit
       simp only [Option.some.injEq,Prod.mk.injEq] at hra
       obtain ⟨rfl,rfl,rfl,rfl,rfl,rfl,rfl,rfl⟩:=hra
       obtain ⟨xv,hxv,hit'⟩:=Option.bind_eq_some_iff.1 hit
       have hρ:=opRel_of (fn:=s.fr.fn) (todo:=.inRegion ops' (i :: rest') :: kr) (ds:=ds) (ro:=ro) inv.glb hfr.env
       have hxr:=hρ _ _ hxv
       have hw':=wanted_rel hfr.env hw
       obtain ⟨b,hm,hrow,hxe,hrel⟩:=iterOf_rel (liveAt_ok s.rows) inv hit' hxr
       obtain ⟨_,mb,ents,hS,h1,h2,hbn,h3,h4⟩:=hrel
       obtain ⟨n1,n2⟩:=run_next (P:=c.P) (ty:=o'.type) h4 h1 h2 hbn
       obtain ⟨j,e,wd,hj,he,hwd,hrun⟩:=n2 hne
       refine ⟨j,hj,fun s' hs'=>?_⟩
       unfold nextAt at hs'
       split at hs'
       ·rename_i res hres
        split at hres
        ·rename_i e' he'
         cases hres
         cases hs'
         obtain ⟨k1,k2⟩:=take_inv inv hm hrow hS h1 h2 hbn h3 h4 hwd j
         obtain ⟨r1,r2⟩:=h3 j e' e he' he
         have hnd:∀ cc,o'.op ≠ .defer cc:=by rw [hop]; intro cc hcc; cases hcc
         have hrun':(execOp (rfr s.fr.fn tmps (.inRegion ops' (i :: rest') :: kr) ds ro).eval o').run c.P w = .ok (.value (.tuple #[.bool true,e.key,e.val])) { wd with heap:=wd.heap.setIfInBounds b (.mapIter (some mb) es'.length (seen' ++ [j]).toArray es'.length) }:=by
          obtain ⟨dst,op,type,pos,after,guard⟩:=o'
          simp only at hop
          subst hop
          have h5:∀ (sv:Sem Value) (u:Value) (w':World),sv.run c.P w = .ok u w'→(do pure (Next.value (← sv)):Sem Next).run c.P w = .ok (.value u) w':=fun sv u w' hh=>by simp [hh]
          refine h5 _ _ _ ?_
          rw [hxe]
          exact hrun
         refine ⟨_,.one (m_op ho hw' hnd hrun' (.inl rfl)),?_,m,S,_,_,_,ds,ro,cs,rfl,k1,⟨putT_rel (hfr.env.ext k2) (tup3 (.d _ _ (.bool _)) (.d _ _ (r1.ext k2)) (r2.ext k2)) o'.dst,.cons rfl tl,hfr.ds.ext k2,hfr.ro⟩,hst.ext k2⟩
         show botFn _ s.stack = f
         rw [botFn_eq] at hbf ⊢
         exact hbf
        ·cases hres
       ·cases hs'
      ·cases hra
     ·cases hra
    ·cases hra
   ·cases hra
 obtain ⟨j,hj,hk⟩:=key
 obtain ⟨s',e1,e2⟩:=h j hj
 obtain ⟨M',st,hs'⟩:=hk s' e1
 obtain ⟨v,rows',hq,hf⟩:=e2 w0 own bt f M' hb hs'
 exact ⟨v,rows',hq,hf.of_steps st⟩
end Go.Aev
end
