/- Lemmas for the statements of this seat: an abstract machine that the model follows, and contracts of functions. Conditions: none. -/
import Derived.Test.YtjchifhnckdnaaaGreatDoorAevTr
import Derived.Test.YtjchifhnckdnaaaGreatDoorA10
set_option linter.unusedVariables false
set_option linter.unusedSimpArgs false
set_option linter.unusedSectionVars false
namespace Go.Aev
variable [Glob]
structure FOp where
 gd:Option (Option Nat × Bool)
 dst:Option Nat
 op:Op
 xs:List Operand
 cv:Option (Operand × List Operand)
 rdT:List Nat
def cop (ops:Array Oper) (o:Oper):FOp :=
 {gd:=o.guard.map fun p=>((ops[p.1]?).bind (·.dst),p.2),dst:=o.dst,op:=o.op,xs:=opnds o.op,cv:=callView o.op,rdT:=readsT ops o }
def cops (ops:Array Oper):List FOp:=ops.toList.map (cop ops)
inductive FItem where
 | cd (c:Code)
 | blk (id:Nat)
 | lp (c:Code)
 | sc (c:Code)
 | ops (l:List FOp)
 | rf (r:Nat)
 | bg
abbrev Mks:=List Nat × List (FuncId × List V)
structure FF where
 fn:FuncId
 env:Tr V
 todo:List FItem
 round:Option Nat
 marks:Mks
structure FSt where
 fn:FuncId
 env:Tr V
 todo:List FItem
 round:Option Nat
 marks:Mks
 stack:List FF
 rows:Tr (Option Row)
 len:Nat
inductive FOut where
 | next (s:FSt)
 | done (v:V) (rows:Tr (Option Row)) (len:Nat)
 | fail
section
variable {β:Type}
noncomputable def rget (t:Tr (Option Row)) (r:Nat):Option Row :=
 Option.rec (motive:=fun _=>Option Row) none (fun x=>x) (t.get r)
noncomputable def rput (t:Tr (Option Row)) (r:Nat) (x:Option Row) (k:Tr (Option Row)→β):β:=t.insK x none r k
noncomputable def litN (n:Nat) (k:Nat→β):β:=Nat.rec (motive:=fun _=>β) (k 0) (fun p _=>k (Nat.succ p)) n
noncomputable def litI (n:Int) (k:Int→β):β:=Int.rec (motive:=fun _=>β) (fun m=>litN m fun m=>k (.ofNat m)) (fun m=>litN m fun m=>k (.negSucc m)) n
noncomputable def litD (d:D) (k:D→β):β :=
 match d with
 | .int kd n=>litI n fun n=>k (.int kd n)
 | .bool b=>Bool.rec (motive:=fun _=>β) (k (.bool false)) (k (.bool true)) b
 | d=>k d
def fknown (fl:β) (k:V→β) (v:V):β :=
 match v with
 | .any=>fl
 | v=>k v
noncomputable def fevT (e:Tr V) (fl:β) (k:V→β) (t:Nat):β:=Option.rec (motive:=fun _=>β) (k V.undef) (fknown fl k) (e.get t)
noncomputable def fevC (_:Tr V) (fl:β) (k:V→β) (v:Value):β:=Option.rec (motive:=fun _=>β) fl k (ofVal v)
noncomputable def fevG (fl:β) (k:V→β) (g:Nat):β:=Option.rec (motive:=fun _=>β) fl (fun x=>k (.dp x)) (Glob.gl g)
noncomputable def fev (e:Tr V) (x:Operand) (fl:β) (k:V→β):β :=
 Operand.rec (motive:=fun _=>β) (fevT e fl k) (fevC e fl k) (fevG fl k) (fun f=>k (.fn f [])) x
noncomputable def fevs (e:Tr V) (xs:List Operand) (fl:β) (k:List V→β):β :=
 List.rec (motive:=fun _=>(List V→β)→β) (fun k=>k []) (fun x _ ih k=>fev e x fl fun v=>ih fun l=>k (v :: l)) xs k
noncomputable def putE (e:Tr V) (dst:Option Nat) (v:V) (k:Tr V→β):β :=
 Option.rec (motive:=fun _=>β) (k e) (fun d=>e.setK v d k) dst
noncomputable def fwant2 (fl no yes:β) (want:Bool) (v:V):β :=
 match v with
 | .d (.bool b)=>Bool.rec (motive:=fun _=>β) (Bool.rec (motive:=fun _=>β) yes no want) (Bool.rec (motive:=fun _=>β) no yes want) b
 | .tup _=>no
 | _=>fl
noncomputable def fwant1 (e:Tr V) (fl no yes:β) (d:Option Nat) (want:Bool):β :=
 Option.rec (motive:=fun _=>β) fl (fun d=>Option.rec (motive:=fun _=>β) fl (fwant2 fl no yes want) (e.get d)) d
noncomputable def fwant (e:Tr V) (g:Option (Option Nat × Bool)) (fl no yes:β):β :=
 Option.rec (motive:=fun _=>β) yes (fun p=>Prod.rec (motive:=fun _=>β) (fwant1 e fl no yes) p) g
noncomputable def flook (t:Tr (Option Row)) (vs:List V):Look:=fun r=>if (vs.flatMap V.refs).contains r then rget t r else none
noncomputable def fups (us:List (Nat × Slot)) (t:Tr (Option Row)) (k:Tr (Option Row)→β):β :=
 List.rec (motive:=fun _=>Tr (Option Row)→(Tr (Option Row)→β)→β) (fun t k=>k t)
  (fun u _ ih t k=>rput t u.1 (match u.2 with | .live row=>some row | _=>none) fun t=>ih t k) us t k
noncomputable def freachStep (t:Tr (Option Row)) (rs:List Nat):List Nat :=
 (rs ++ rs.flatMap fun r=>rowRefs (rget t r)).eraseDups
noncomputable def freach (t:Tr (Option Row)) (vs:List V):List Nat:=freachStep t (freachStep t (freachStep t ((vs.flatMap (V.deepRefs 4)).eraseDups)))
end
noncomputable def ffrozen (t:Tr (Option Row)):List Nat→List (Nat × Slot)
 | []=>[]
 | r :: rs=>match rget t r with
  | some row=>if row.rw && !row.freeze.rw then (r,.live row.freeze) :: ffrozen t rs else ffrozen t rs
  | none=>ffrozen t rs
noncomputable def kmax (k:IntKind):Nat:=IntKind.rec (motive:=fun _=>Nat) 127 32767 2147483647 9223372036854775807 255 65535 4294967295 18446744073709551615 k
noncomputable def wrapF (k:IntKind) (n:Int):Int :=
 Int.rec (motive:=fun _=>Int) (fun m=>Bool.rec (motive:=fun _=>Int) (k.wrap (.ofNat m)) (.ofNat m) (Nat.ble m (kmax k)))
  (fun m=>k.wrap (.negSucc m)) n
noncomputable def ltF (a b:Int):Bool :=
 Int.rec (motive:=fun _=>Bool) (fun m=>Int.rec (motive:=fun _=>Bool) (fun n=>Nat.blt m n) (fun _=>false) b) (fun m=>Int.rec (motive:=fun _=>Bool) (fun _=>true) (fun n=>Nat.blt n m) b) a
noncomputable def eqF (a b:Int):Bool :=
 Int.rec (motive:=fun _=>Bool) (fun m=>Int.rec (motive:=fun _=>Bool) (fun n=>Nat.beq m n) (fun _=>false) b) (fun m=>Int.rec (motive:=fun _=>Bool) (fun _=>false) (fun n=>Nat.beq n m) b) a
noncomputable def retI (k:IntKind) (n:Int):Option Res:=litI n fun n=>some { v:=.d (.int k n) }
noncomputable def retB (b:Bool):Option Res:=Bool.rec (motive:=fun _=>Option Res) (some { v:=.d (.bool false) }) (some { v:=.d (.bool true) }) b
noncomputable def bitsF (f:Nat→Nat→Nat) (g:Option Res) (k:IntKind) (a b:Int):Option Res :=
 Int.rec (motive:=fun _=>Option Res) (fun m=>Int.rec (motive:=fun _=>Option Res) (fun n =>
  Bool.rec (motive:=fun _=>Option Res) g (Bool.rec (motive:=fun _=>Option Res) g (retI k (.ofNat (f m n))) (Nat.ble n (kmax k)))
   (Nat.ble m (kmax k))) (fun _=>g) b) (fun _=>g) a
noncomputable def slowBin (T:TypeId→Option Ty) (op:BinOp) (t:TypeId) (x y:V):Option Res :=
 match binA T op t x y with
 | some (.d d)=>litD d fun d=>some { v:=.d d }
 | some v=>some { v }
 | none=>none
noncomputable def intF (T:TypeId→Option Ty) (op:BinOp) (t:TypeId) (x y:V) (k:IntKind) (a b:Int):Option Res :=
 BinOp.rec (motive:=fun _=>Option Res)
  (retI k (wrapF k (Int.add a b))) (retI k (wrapF k (Int.sub a b))) (slowBin T op t x y) (slowBin T op t x y) (slowBin T op t x y)
  (bitsF Nat.land (slowBin T op t x y) k a b) (bitsF Nat.lor (slowBin T op t x y) k a b) (bitsF Nat.xor (slowBin T op t x y) k a b)
  (slowBin T op t x y) (slowBin T op t x y) (slowBin T op t x y)
  (retB (eqF a b)) (retB (not (eqF a b))) (retB (ltF a b)) (retB (not (ltF b a))) (retB (ltF b a)) (retB (not (ltF a b))) op
noncomputable def binF (T:TypeId→Option Ty) (op:BinOp) (t:TypeId) (x y:V):Option Res :=
 match x,y with
 | .d (.int k a),.d (.int k' b)=>Bool.rec (motive:=fun _=>Option Res) (slowBin T op t x y) (intF T op t x y k a b) (Nat.beq k.ctorIdx k'.ctorIdx)
 | x,y=>slowBin T op t x y
abbrev ActK:=(TypeId→Option Ty)→Look→Nat→List V→Option Res
def actRest (o:Op):ActK:=fun T g slot vs=>act T g slot o vs
noncomputable def lit1 (r:Option Res):Option Res :=
 match r with
 | some ⟨.d d,us,fr⟩=>litD d fun d=>some ⟨.d d,us,fr⟩
 | r=>r
def act1:ActK:=fun _ _ _ vs=>match vs with
 | [v]=>some { v }
 | _=>none
def actLoad (t:TypeId):ActK:=fun T g _ vs=>match vs with
 | [a]=>(loadA T g t a).map fun v=>{ v }
 | _=>none
def actStore (t:TypeId):ActK:=fun T g _ vs=>match vs with
 | [a,x]=>storeA T g t a x
 | _=>none
noncomputable def actBin (op:BinOp) (t:TypeId):ActK:=fun T _ _ vs=>match vs with
 | [x,y]=>match binF T op t x y with
  | some r=>some r
  | none=>(eqAggA T op t x y).map fun v=>{ v }
 | _=>none
noncomputable def actUn (op:UnOp):ActK:=fun _ _ _ vs=>match vs with
 | [x]=>lit1 ((unA op x).map fun v=>{ v })
 | _=>none
noncomputable def actConv (s d:TypeId):ActK:=fun T g _ vs=>match vs with
 | [x]=>lit1 (convR T g s d x)
 | _=>none
def actFieldAddr (s:TypeId) (f:Nat):ActK:=fun T _ _ vs=>match vs with
 | [x]=>(fieldAddrA T s f x).map fun v=>{ v }
 | _=>none
def actField (s:TypeId) (f:Nat):ActK:=fun T _ _ vs=>match vs with
 | [x]=>(fieldA T s f x).map fun v=>{ v }
 | _=>none
def actIndexAddr (s:TypeId):ActK:=fun T _ _ vs=>match vs with
 | [x,i]=>(indexAddrA T s x i).map fun v=>{ v }
 | _=>none
def actIndex (s:TypeId):ActK:=fun T _ _ vs=>match vs with
 | [x,i]=>(indexA T s x i).map fun v=>{ v }
 | _=>none
def actExtract (i:Nat):ActK:=fun _ _ _ vs=>match vs with
 | [.tup vs]=>match vs[i]? with
  | some v=>some { v }
  | none=>none
 | _=>none
noncomputable def actCall (c:Call) (o:Op):ActK:=fun T g slot vs=>lit1 (act T g slot o vs)
noncomputable def actF (o:Op):ActK :=
 Op.rec (motive:=fun _=>ActK) (fun _=>act1) (fun _=>act1) (fun c a b=>actRest (.pick c a b)) (fun e=>actRest (.alloc e)) (fun e v=>actRest (.box e v))
  (fun t ps=>actRest (.build t ps)) (fun t l ps=>actRest (.buildSlice t l ps)) (fun t m k v=>actRest (.insert t m k v)) (fun t _=>actLoad t) (fun t _ _=>actStore t)
  (fun g=>actRest (.ready g)) (fun g=>actRest (.waits g)) (fun x=>actRest (.nilCheck x)) (fun op t _ _ _=>actBin op t) (fun op _ _=>actUn op) (fun s d _=>actConv s d)
  (fun d x=>actRest (.sliceToArrayPointer d x)) (fun t x=>actRest (.makeInterface t x)) (fun f a b=>actRest (.makeFunc f a b)) (fun t r=>actRest (.makeMap t r)) (fun t s=>actRest (.makeChan t s))
  (fun t l c=>actRest (.makeSlice t l c)) (fun t x l h m=>actRest (.slice t x l h m)) (fun s _ f=>actFieldAddr s f) (fun s _ f=>actField s f) (fun s _ _=>actIndexAddr s) (fun s _ _=>actIndex s)
  (fun t x i c=>actRest (.lookup t x i c)) (fun t m k v=>actRest (.mapUpdate t m k v)) (fun t m k=>actRest (.mapEntry t m k)) (fun t m s v=>actRest (.entryStore t m s v)) (fun t x=>actRest (.range t x))
  (fun i s=>actRest (.next i s)) (fun i=>actRest (.entry i)) (fun x a b c=>actRest (.typeAssert x a b c)) (fun _ i=>actExtract i) (fun c=>actCall c (.call c)) (fun c=>actRest (.go c)) (fun c=>actRest (.defer c))
  (fun x=>actRest (.panic x)) (fun a b=>actRest (.send a b)) (fun a b c=>actRest (.recv a b c)) (fun a b=>actRest (.select a b)) o
noncomputable def fcallRC (c:Cfg) (g:FuncId) (args:List V) (t:Tr (Option Row)):Option Res :=
 let rs:=freach t args
 match compact (rget t) rs args with
 | some (args',rows')=>match c.RC g args' rows' with
  | some v=>if v.plain then some { v } else some { v,ups:=ffrozen t rs }
  | none=>none
 | none=>none
noncomputable def fcallX (c:Cfg) (slot:Nat) (g:FuncId) (args:List V) (t:Tr (Option Row)):Option Res :=
 match fcallRC c g args t with
 | some res=>some res
 | none=>callWC c (rget t) (freach t args) slot g args
section
variable {β:Type}
noncomputable def fargs (e:Tr V) (i:Nat):List V→Tr V:=fun l =>
 List.rec (motive:=fun _=>Nat→Tr V→Tr V) (fun _ e=>e) (fun v _ ih i e=>e.setK v i fun e=>ih (Nat.succ i) e) l i e
noncomputable def fenter (c:Cfg) (g:FuncId) (args:List V) (fl:β) (k:Tr V→Code→β):β :=
 match c.F g with
 | some gf=>match gf.body with
  | some b=>if args.length ≤ gf.ntmps then k (fargs (Tr.full V.undef gf.ntmps gf.ntmps 0 1) 0 args) b else fl
  | none=>fl
 | none=>fl
end
noncomputable def fexitTo (id:Nat):List FItem→Option (List FItem)
 | .blk id' :: k=>if id' == id then some k else fexitTo id k
 | _ :: k=>fexitTo id k
 | []=>none
noncomputable def fgotoIn (l:Nat):List FItem→Option (List FItem)
 | .sc body :: k=>match findLabel body l with
  | some rest=>some (.cd rest :: .sc body :: k)
  | none=>fgotoIn l k
 | _ :: k=>fgotoIn l k
 | []=>none
noncomputable def ffinish (fr:FF) (v:V) (t:Tr (Option Row)) (st:List FF) (n:Nat):FOut :=
 match fr.todo with
 | .ops (o :: l) :: k=>putE fr.env o.dst v fun e=>.next ⟨fr.fn,e,.ops l :: k,fr.round,fr.marks,st,t,n⟩
 | .rf r :: k=>match rget t r with
  | some (.loop ls pend fn env ps as bd d)=>match ls with
   | .busy=>.fail
   | _=>rput t r (some (.loop .exhausted pend fn env ps as bd d)) fun t=>.next ⟨fr.fn,fr.env,(pend.map FItem.cd).toList ++ k,fr.round,fr.marks,st,t,n⟩
  | _=>.fail
 | _=>.fail
noncomputable def fkill:List Nat→Tr (Option Row)→(Tr (Option Row)→FOut)→FOut
 | [],t,k=>k t
 | r :: rs,t,k=>match rget t r with
  | some .dfr=>rput t r none fun t=>fkill rs t k
  | _=>.fail
noncomputable def fdruns (c:Cfg):List (FuncId × List V)→Tr (Option Row)→(Tr (Option Row)→FOut)→FOut
 | [],t,k=>k t
 | d :: ds,t,k=>match dRun c (rget t) d.1 d.2 with
  | some us=>fups us t fun t=>fdruns c ds t k
  | none=>.fail
noncomputable def fresults (T:TypeId→Option Ty) (t:Tr (Option Row)) (e:Tr V):List ResultVar→Option (List V)
 | []=>some []
 | .tmp x :: r=>match known ((e.get x).getD V.undef),fresults T t e r with
  | some v,some l=>some (v :: l)
  | _,_=>none
 | .cell a y :: r=>match (known ((e.get a).getD V.undef)).bind (loadA T (rget t) y),fresults T t e r with
  | some v,some l=>some (v :: l)
  | _,_=>none
noncomputable def fpop (stack:List FF) (v:V) (t:Tr (Option Row)) (n:Nat):FOut :=
 match stack with
 | []=>.done v t n
 | caller :: st=>ffinish caller v t st n
noncomputable def envL (e:Tr V):Nat→Nat→Option (List V)
 | 0,_=>none
 | f + 1,i=>match e.get i with
  | none=>some []
  | some v=>match envL e f (i + 1) with
   | some l=>some (v :: l)
   | none=>none
noncomputable def ofL (l:List V):Tr V:=fargs (Tr.full V.undef l.length l.length 0 1) 0 l
noncomputable def fleave (c:Cfg) (fn:FuncId) (e:Tr V) (ro:Option Nat) (mk:Mks) (st:List FF) (t:Tr (Option Row)) (n:Nat) (jump:Option Code):FOut :=
 match ro with
 | none=>match jump with
  | none | some .ret=>match c.F fn with
   | some gf=>fkill mk.1 t fun t=>fdruns c mk.2 t fun t=>match fresults c.T t e gf.results.toList with
    | some vs=>fpop st (oneOr vs) t n
    | none=>.fail
   | none=>.fail
  | _=>.fail
 | some r=>match rget t r with
  | some (.loop _ _ fn env ps as bd d)=>match st with
   | []=>.fail
   | caller :: st=>rput t r (some (.loop (if jump.isNone then .ready else .done) jump fn env ps as bd d)) fun t=>fpop (caller :: st) (.d (.bool jump.isNone)) t n
  | _=>.fail
noncomputable def fsets (e:Tr V):List Tmp→List V→Tr V
 | p :: ps,v :: vs=>e.setK v p fun e=>fsets e ps vs
 | _,_=>e
noncomputable def fcallY (fn:FuncId) (e:Tr V) (l:List FOp) (k:List FItem) (ro:Option Nat) (mk:Mks) (st:List FF) (t:Tr (Option Row)) (n:Nat) (o:FOp) (vs:List V) (r:Nat):FOut :=
 match rget t r with
 | some (.loop _ _ fn' env ps as bd _) =>
  if ps.length = vs.length then
   .next ⟨fn',fsets (ofL env) ps vs,[.cd as,.bg,.cd bd],some r,([],[]),⟨fn,e,.ops (o :: l) :: k,ro,mk⟩ :: st,t,n⟩
  else .fail
 | _=>.fail
noncomputable def fopR (fn:FuncId) (e:Tr V) (l:List FOp) (k:List FItem) (ro:Option Nat) (mk:Mks) (st:List FF) (t:Tr (Option Row)) (n:Nat) (dst:Option Nat) (res:Res):FOut :=
 Res.rec (motive:=fun _=>FOut) (fun v ups fr=>Bool.rec (motive:=fun _=>FOut) .fail (fups ups t fun t=>Option.rec (motive:=fun _=>FOut)
  (putE e dst v fun e=>.next ⟨fn,e,.ops l :: k,ro,mk,st,t,n⟩)
  (fun row=>rput t n (some row) fun t=>putE e dst v fun e=>.next ⟨fn,e,.ops l :: k,ro,mk,st,t,Nat.succ n⟩) fr) (ups.all (fun u=>Nat.blt u.1 n))) res
noncomputable def fcallF (c:Cfg) (fn:FuncId) (e:Tr V) (l:List FOp) (k:List FItem) (ro:Option Nat) (mk:Mks) (st:List FF) (t:Tr (Option Row)) (n:Nat) (o:FOp) (g:FuncId) (as:List V):FOut :=
 if c.po g && c.rc g then
  match fcallX c n g as t with
  | some res=>fopR fn e l k ro mk st t n o.dst res
  | none=>.fail
 else fenter c g as .fail fun e' b=>.next ⟨g,e',[.cd b],none,([],[]),⟨fn,e,.ops (o :: l) :: k,ro,mk⟩ :: st,t,n⟩
noncomputable def fcall (c:Cfg) (fn:FuncId) (e:Tr V) (l:List FOp) (k:List FItem) (ro:Option Nat) (mk:Mks) (st:List FF) (t:Tr (Option Row)) (n:Nat) (o:FOp) (fv:V) (vs:List V):FOut :=
 match fv with
 | .yl r=>fcallY fn e l k ro mk st t n o vs r
 | fv=>match fnArgs fv vs with
  | some (g,as)=>fcallF c fn e l k ro mk st t n o g as
  | none=>.fail
noncomputable def fopN (c:Cfg) (fn:FuncId) (e:Tr V) (l:List FOp) (k:List FItem) (ro:Option Nat) (mk:Mks) (st:List FF) (t:Tr (Option Row)) (n:Nat) (o:FOp) (op:Op) (vs:List V):FOut :=
 match lenMapA c.T (rget t) op vs with
 | some v=>putE e o.dst v fun e=>.next ⟨fn,e,.ops l :: k,ro,mk,st,t,n⟩
 | none=>match op with
  | .defer ⟨.value f,as,_⟩=>fev e f .fail fun fv=>fevs e as.toList .fail fun vs=>match fnArgs fv vs with
   | some ga=>if ro.isNone && mk.1.isEmpty then putE e o.dst V.undef fun e=>.next ⟨fn,e,.ops l :: k,ro,(mk.1,ga :: mk.2),st,t,n⟩ else .fail
   | none=>.fail
  | .call ⟨.invoke recv name,_,_⟩=>fev e recv .fail fun rv=>match rv with
   | .ifc ty v=>match methA c (rget t) ty v name with
    | some (g,x)=>fenter c g (x :: vs) .fail fun e' b=>.next ⟨g,e',[.cd b],none,([],[]),⟨fn,e,.ops (o :: l) :: k,ro,mk⟩ :: st,t,n⟩
    | none=>.fail
   | _=>.fail
  | _=>.fail
noncomputable def fopA (c:Cfg) (fn:FuncId) (e:Tr V) (l:List FOp) (k:List FItem) (ro:Option Nat) (mk:Mks) (st:List FF) (t:Tr (Option Row)) (n:Nat) (o:FOp) (dst:Option Nat) (op:Op) (xs:List Operand):FOut :=
 fevs e xs .fail fun vs=>Option.rec (motive:=fun _=>FOut) (fopN c fn e l k ro mk st t n o op vs) (fopR fn e l k ro mk st t n dst) (actF op c.T (flook t vs) n vs)
noncomputable def fopC (c:Cfg) (fn:FuncId) (e:Tr V) (l:List FOp) (k:List FItem) (ro:Option Nat) (mk:Mks) (st:List FF) (t:Tr (Option Row)) (n:Nat) (o:FOp) (p:Operand × List Operand):FOut :=
 fev e p.1 .fail fun fv=>fevs e p.2 .fail fun vs=>fcall c fn e l k ro mk st t n o fv vs
noncomputable def fop (c:Cfg) (fn:FuncId) (e:Tr V) (l:List FOp) (k:List FItem) (ro:Option Nat) (mk:Mks) (st:List FF) (t:Tr (Option Row)) (n:Nat) (o:FOp):FOut :=
 FOp.rec (motive:=fun _=>FOut) (fun gd dst op xs cv rdT=>fwant e gd .fail (putE e dst V.undef fun e=>.next ⟨fn,e,.ops l :: k,ro,mk,st,t,n⟩)
  (Option.rec (motive:=fun _=>FOut) (fopA c fn e l k ro mk st t n ⟨gd,dst,op,xs,cv,rdT⟩ dst op xs) (fopC c fn e l k ro mk st t n ⟨gd,dst,op,xs,cv,rdT⟩) cv)) o
noncomputable def frange (c:Cfg) (fn:FuncId) (e:Tr V) (k:List FItem) (ro:Option Nat) (mk:Mks) (st:List FF) (t:Tr (Option Row)) (n:Nat) (f:Operand) (params:Array Tmp) (as body:Code):FOut :=
 fev e f .fail fun fv=>match fv with
 | .fn g caps=>match envL e 4096 0 with
  | some env=>match ro with
   | none=>fenter c g (.yl (Nat.succ n) :: caps) .fail fun e' b=>rput t n (some .dfr) fun t=>rput t (Nat.succ n) (some (.loop .ready none fn env params.toList as body n)) fun t =>
     .next ⟨g,e',[.cd b],none,([],[]),⟨fn,e,.rf (Nat.succ n) :: k,none,(n :: mk.1,mk.2)⟩ :: st,t,Nat.succ (Nat.succ n)⟩
   | some r=>match rget t r with
    | some (.loop _ _ _ _ _ _ _ d)=>fenter c g (.yl n :: caps) .fail fun e' b=>rput t n (some (.loop .ready none fn env params.toList as body d)) fun t =>
     .next ⟨g,e',[.cd b],none,([],[]),⟨fn,e,.rf n :: k,some r,mk⟩ :: st,t,Nat.succ n⟩
    | _=>.fail
  | none=>.fail
 | _=>.fail
noncomputable def fopReads (t:Tr (Option Row)) (o:Op) (vs:List V):List Nat :=
 if noLook o then [] else match o,vs with
  | .store _ _ _,.pt r k i f :: xs=>match rget t r with
   | some (.box _ _)=>[r]
   | _=>(V.pt r k i f :: xs).flatMap V.refs
  | _,vs=>vs.flatMap V.refs
noncomputable def fstepRA (c:Cfg) (n slot:Nat) (e:Tr V) (t:Tr (Option Row)) (dst:Option Nat) (op:Op) (xs:List Operand) (rdT:List Nat):Option Rec :=
 fevs e xs none fun vs=>Option.rec (motive:=fun _=>Option Rec) none (fun res=>Res.rec (motive:=fun _=>Option Rec) (fun v ups fr =>
  Bool.rec (motive:=fun _=>Option Rec) none (some { dst:=dst,v:=v,ups:=ups,fresh:=fr,slot:=slot,rdT:=rdT,rdR:=some (fopReads t op vs) }) (ups.all (fun u=>Nat.blt u.1 n))) res) (actF op c.T (flook t vs) slot vs)
noncomputable def fstepRF (c:Cfg) (n slot:Nat) (t:Tr (Option Row)) (dst:Option Nat) (rdT:List Nat) (fv:V) (vs:List V):Option Rec :=
 match fnArgs fv vs with
 | some (g,as)=>if c.rc g then match fcallX c slot g as t with
  | some res=>if res.ups.all (fun u=>Nat.blt u.1 n) then some { dst:=dst,v:=res.v,ups:=res.ups,fresh:=res.fresh,slot:=slot,rdT:=rdT,rdR:=some (freach t as) } else none
  | none=>none else none
 | none=>none
noncomputable def fstepRC (c:Cfg) (n slot:Nat) (e:Tr V) (t:Tr (Option Row)) (dst:Option Nat) (rdT:List Nat) (p:Operand × List Operand):Option Rec :=
 fev e p.1 none fun fv=>fevs e p.2 none fun vs=>fstepRF c n slot t dst rdT fv vs
noncomputable def fstepR (c:Cfg) (n slot:Nat) (e:Tr V) (t:Tr (Option Row)) (o:FOp):Option Rec :=
 FOp.rec (motive:=fun _=>Option Rec) (fun gd dst op xs cv rdT=>fwant e gd none (some { dst:=dst,v:=V.undef,slot:=slot,rdT:=rdT,rdR:=some [] })
  (Option.rec (motive:=fun _=>Option Rec) (fstepRA c n slot e t dst op xs rdT) (fstepRC c n slot e t dst rdT) cv)) o
noncomputable def fexec {β:Type} (a:Rec) (e:Tr V) (t:Tr (Option Row)) (k:Tr V→Tr (Option Row)→β):β :=
 Rec.rec (motive:=fun _=>β) (fun dst v ups fr slot _ _=>fups ups t fun t=>Option.rec (motive:=fun _=>β) (putE e dst v fun e=>k e t) (fun row=>rput t slot (some row) fun t=>putE e dst v fun e=>k e t) fr) a
noncomputable def frunAll {β:Type} (c:Cfg) (n:Nat) (fl:β) (l:List FOp):Nat→Tr V→Tr (Option Row)→List Rec→(List Rec→Tr V→Tr (Option Row)→β)→β :=
 List.rec (motive:=fun _=>Nat→Tr V→Tr (Option Row)→List Rec→(List Rec→Tr V→Tr (Option Row)→β)→β) (fun _ e t acc k=>k acc.reverse e t)
  (fun o _ ih slot e t acc k=>Option.rec (motive:=fun _=>β) fl (fun a=>fexec a e t fun e t=>ih (Nat.succ slot) e t (a :: acc) k) (fstepR c n slot e t o)) l
def tmpsOK (an:List (List Nat)) (os:List FOp):Bool :=
 os.zipIdx.all fun (b,k)=>os.zipIdx.all fun (a,i)=>Nat.ble k i || (an.getD k []).contains i || (disjoint a.dst.toList b.rdT && disjoint b.dst.toList a.rdT && disjoint a.dst.toList b.dst.toList)
def Rec.quiet (a:Rec):Bool:=a.ups.isEmpty && a.fresh.isNone
def Rec.idle (a:Rec):Bool:=match a.rdR with
 | some []=>a.quiet
 | _=>false
def rowsOK (an:List (List Nat)) (slot0 n:Nat) (rs:List Rec):Bool :=
  rs.all Rec.quiet ||
  (let act:=rs.zipIdx.filter fun p=>!p.1.idle
   act.all fun (b,k)=>(b.wr.all fun x=>Nat.blt x slot0 || Nat.beq x (Nat.add slot0 k) || Nat.ble (Nat.add slot0 n) x || (an.getD k []).contains (Nat.sub x slot0)) &&
    act.all fun (a,i)=>Nat.ble k i || (a.quiet && b.quiet) || (an.getD k []).contains i || (apartR b.rdR a.wr && apartR a.rdR b.wr && disjoint a.wr b.wr))
def regStatic (ops:Array Oper):Bool:=edgesOK ops && tmpsOK (ancs ops ops.size) (cops ops)
def cutStatic (ops:Array Oper) (k:Nat):Bool :=
 edgesOK ops && decide (k < ops.size) && decide (ops.size ≤ k + 2) && (List.range k).all (fun i=>((ancs ops ops.size).getD k []).contains i) &&
   (List.range' (k + 1) (ops.size - (k + 1))).all (fun i=>((ancs ops ops.size).getD i []).contains k) && tmpsOK (ancs ops k) ((cops ops).take k)
noncomputable def ffrz2 (c:Cfg) (fn:FuncId) (e0:Tr V) (k:List FItem) (ro:Option Nat) (mk:Mks) (st:List FF) (t0:Tr (Option Row)) (n:Nat) (ops:Array Oper) (n':Nat) (freg3:List Rec→Tr V→Tr (Option Row)→FOut) (rs:List Rec) (_:Tr V) (_:Tr (Option Row)):FOut :=
 fups (ffrozen t0 (frzList (rget t0) rs)) t0 fun t1=>frunAll c n' .fail (cops ops) n e0 t1 [] freg3
noncomputable def freg2 (fn:FuncId) (k:List FItem) (ro:Option Nat) (mk:Mks) (st:List FF) (n:Nat) (ops:Array Oper) (n':Nat) (cut:FOut) (rs:List Rec) (e:Tr V) (t:Tr (Option Row)):FOut :=
 Bool.rec (motive:=fun _=>FOut) cut (.next ⟨fn,e,k,ro,mk,st,t,n'⟩) (rowsOK (ancs ops ops.size) n ops.size rs)
noncomputable def ffrz (c:Cfg) (fn:FuncId) (e:Tr V) (k:List FItem) (ro:Option Nat) (mk:Mks) (st:List FF) (t:Tr (Option Row)) (n:Nat) (ops:Array Oper):FOut :=
 Bool.rec (motive:=fun _=>FOut) .fail
  (litN (Nat.add n ops.size) fun n'=>frunAll c n' .fail (cops ops) n e t [] (ffrz2 c fn e k ro mk st t n ops n' (freg2 fn k ro mk st n ops n' .fail))) (regStatic ops)
noncomputable def fcut2 (fn:FuncId) (k:List FItem) (ro:Option Nat) (mk:Mks) (st:List FF) (n:Nat) (ops:Array Oper) (q n':Nat) (frz:FOut) (rs:List Rec) (e:Tr V) (t:Tr (Option Row)):FOut :=
 Bool.rec (motive:=fun _=>FOut) frz (.next ⟨fn,e,.ops ((cops ops).drop q) :: k,ro,mk,st,t,n'⟩) (rowsOK (ancs ops q) n q rs)
noncomputable def fcut (c:Cfg) (fn:FuncId) (e:Tr V) (k:List FItem) (ro:Option Nat) (mk:Mks) (st:List FF) (t:Tr (Option Row)) (n:Nat) (ops:Array Oper):FOut :=
 Bool.rec (motive:=fun _=>FOut) (ffrz c fn e k ro mk st t n ops)
  (litN (Nat.add n ops.size) fun n'=>frunAll c n' (ffrz c fn e k ro mk st t n ops) ((cops ops).take (cutAt ops)) n e t [] (fcut2 fn k ro mk st n ops (cutAt ops) n' (ffrz c fn e k ro mk st t n ops))) (cutStatic ops (cutAt ops))
noncomputable def fregion (c:Cfg) (fn:FuncId) (e:Tr V) (k:List FItem) (ro:Option Nat) (mk:Mks) (st:List FF) (t:Tr (Option Row)) (n:Nat) (ops:Array Oper):FOut :=
 Bool.rec (motive:=fun _=>FOut) (fcut c fn e k ro mk st t n ops)
  (litN (Nat.add n ops.size) fun n'=>frunAll c n' (fcut c fn e k ro mk st t n ops) (cops ops) n e t [] (freg2 fn k ro mk st n ops n' (fcut c fn e k ro mk st t n ops))) (regStatic ops)
abbrev FK:=Cfg→FuncId→Tr V→List FItem→Option Nat→Mks→List FF→Tr (Option Row)→Nat→FOut
noncomputable def cSkip:FK:=fun _ fn e k ro mk st t n=>.next ⟨fn,e,k,ro,mk,st,t,n⟩
noncomputable def cRegion (ops:Array Oper) (draw:Bool):FK:=fun c fn e k ro mk st t n =>
 Bool.rec (motive:=fun _=>FOut) (.next ⟨fn,e,.ops (cops ops) :: k,ro,mk,st,t,n⟩) (fregion c fn e k ro mk st t n ops) draw
noncomputable def cSeq (a b:Code):FK:=fun _ fn e k ro mk st t n=>.next ⟨fn,e,.cd a :: .cd b :: k,ro,mk,st,t,n⟩
noncomputable def condV (x y:Code) (fn:FuncId) (e:Tr V) (k:List FItem) (ro:Option Nat) (mk:Mks) (st:List FF) (t:Tr (Option Row)) (n:Nat) (v:V):FOut :=
 match v with
 | .d (.bool b)=>Bool.rec (motive:=fun _=>FOut) (.next ⟨fn,e,.cd y :: k,ro,mk,st,t,n⟩) (.next ⟨fn,e,.cd x :: k,ro,mk,st,t,n⟩) b
 | _=>.fail
noncomputable def cCond (o:Operand) (x y:Code):FK:=fun _ fn e k ro mk st t n=>fev e o .fail (condV x y fn e k ro mk st t n)
noncomputable def cBlock (id:Nat) (b:Code):FK:=fun _ fn e k ro mk st t n=>.next ⟨fn,e,.cd b :: .blk id :: k,ro,mk,st,t,n⟩
noncomputable def cLoop (b:Code):FK:=fun _ fn e k ro mk st t n=>.next ⟨fn,e,.cd b :: .lp b :: k,ro,mk,st,t,n⟩
noncomputable def cScope (b:Code):FK:=fun _ fn e k ro mk st t n=>.next ⟨fn,e,.cd b :: .sc b :: k,ro,mk,st,t,n⟩
noncomputable def cRange (f:Operand) (ps:Array Tmp) (as body:Code):FK:=fun c fn e k ro mk st t n=>frange c fn e k ro mk st t n f ps as body
noncomputable def cExit (id:Nat):FK:=fun c fn e k ro mk st t n=>match fexitTo id k with
  | some k'=>.next ⟨fn,e,k',ro,mk,st,t,n⟩
  | none=>match ro with
   | some _=>fleave c fn e ro mk st t n (some (.exit id))
   | none=>.fail
noncomputable def cGoto (l:Nat):FK:=fun _ fn e k ro mk st t n=>match fgotoIn l k with
  | some k'=>.next ⟨fn,e,k',ro,mk,st,t,n⟩
  | none=>.fail
noncomputable def cRet:FK:=fun c fn e _ ro mk st t n=>fleave c fn e ro mk st t n (some .ret)
noncomputable def cFail:FK:=fun _ _ _ _ _ _ _ _ _=>.fail
noncomputable def fcode (cd:Code):FK :=
 Code.rec (motive:=fun _=>FK) cSkip (fun _ ops draw=>cRegion ops draw) (fun a b _ _=>cSeq a b) (fun o x y _ _=>cCond o x y) (fun id b _=>cBlock id b) (fun b _=>cLoop b)
  (fun f ps as body _ _=>cRange f ps as body) (fun id=>cExit id) (fun b _=>cScope b) (fun _=>cSkip) (fun l=>cGoto l) cRet (fun _=>cFail) cd
noncomputable def iOps (l:List FOp):FK:=fun c fn e k ro mk st t n =>
 List.rec (motive:=fun _=>FOut) (.next ⟨fn,e,k,ro,mk,st,t,n⟩) (fun o l _=>fop c fn e l k ro mk st t n o) l
noncomputable def iBg:FK:=fun _ fn e k ro mk st t n=>match ro with
 | some r=>match rget t r with
  | some (.loop .ready pend fn' env ps as bd d)=>rput t r (some (.loop .busy pend fn' env ps as bd d)) fun t=>.next ⟨fn,e,k,ro,mk,st,t,n⟩
  | _=>.fail
 | none=>.fail
noncomputable def fitem (i:FItem):FK :=
 FItem.rec (motive:=fun _=>FK) (fun cd=>fcode cd) (fun _=>cSkip) (fun b=>cLoop b) (fun _=>cSkip) (fun l=>iOps l) (fun _=>cFail) iBg i
noncomputable def fstep (c:Cfg) (s:FSt):FOut :=
 FSt.rec (motive:=fun _=>FOut) (fun fn e todo ro mk st t n=>List.rec (motive:=fun _=>FOut) (fleave c fn e ro mk st t n none) (fun i k _=>fitem i c fn e k ro mk st t n) todo) s
noncomputable def frun (c:Cfg) (n:Nat):FSt→FOut :=
 Nat.rec (motive:=fun _=>FSt→FOut) (fun s=>.next s) (fun _ ih s=>FOut.rec (motive:=fun _=>FOut) ih (fun v t n=>.done v t n) .fail (fstep c s)) n
noncomputable def ofRows:Rows→Nat→Tr (Option Row)→Tr (Option Row)
 | [],_,t=>t
 | .live row :: l,i,t=>rput t i (some row) fun t=>ofRows l (i + 1) t
 | _ :: l,i,t=>ofRows l (i + 1) t
noncomputable def Base.fcfg (b:Base):Nat→Cfg
 | 0=>{ P:=b.P,T:=b.T,F:=b.F,rc:=b.rc,po:=b.po,RC:=b.tab,WC:=fun _ _ _=>none }
 | n + 1 =>
  let c:=b.fcfg n
  {P:=b.P,T:=b.T,F:=b.F,rc:=b.rc,po:=b.po,RC:=fun g args rows=>match b.tab g args rows with
    | some v=>some v
    | none=>if b.wc g then none else fenter c g args none fun e cd =>
     match frun c b.fuel ⟨g,e,[.cd cd],none,([],[]),[],ofRows rows 0 .lf,rows.length⟩ with
     | .done v t _=>convV (rget t) v
     | _=>none,
   WC:=fun g args rows=>if b.wc g then fenter c g args none fun e cd =>
    match frun c b.fuel ⟨g,e,[.cd cd],none,([],[]),[],ofRows rows 0 .lf,rows.length⟩ with
    | .done v t _=>wcNorm (rget t) rows.length v
    | _=>none else none }
end Go.Aev
