/- Lemmas for the statements of this seat: an abstract machine that the model follows, and contracts of functions. Conditions: none. -/
import Derived.Test.YtjchifhnckdnaaaGreatDoorAevFast
set_option linter.unusedVariables false
set_option linter.unusedSimpArgs false
set_option linter.unusedSectionVars false
namespace Go.Aev
variable [Glob]
namespace Tr
variable {α β:Type}
theorem get_lf (n:Nat):(Tr.lf:Tr α).get n = none:=rfl
theorem get_zero (l r:Tr α) (a:α):(Tr.nd l a r).get 0 = some a:=rfl
theorem get_succ (l r:Tr α) (a:α) (m:Nat):(Tr.nd l a r).get (m + 1) = if m % 2 = 0 then l.get (m / 2) else r.get (m / 2):=by
 show Nat.rec (motive:=fun _=>Option α) (l.get (Nat.div m 2)) (fun _ _=>r.get (Nat.div m 2)) (Nat.mod m 2) = _
 have h:Nat.mod m 2 = m % 2:=rfl
 rw [h]
 rcases Nat.mod_two_eq_zero_or_one m with e | e <;> rw [e] <;> rfl
theorem setK_eq' (v:α) (t:Tr α):∀ (β:Type) (n:Nat) (k:Tr α→β),t.setK v n k = k (t.setK v n id):=by
 induction t with
 | lf=>intro β n k; rfl
 | nd l a r ihl ihr =>
  intro β n k
  cases n with
  | zero=>rfl
  | succ m =>
   show Nat.rec (motive:=fun _=>β) (l.setK v (Nat.div m 2) (fun l'=>k (.nd l' a r))) (fun _ _=>r.setK v (Nat.div m 2) (fun r'=>k (.nd l a r'))) (Nat.mod m 2) =
    k (Nat.rec (motive:=fun _=>Tr α) (l.setK v (Nat.div m 2) (fun l'=>id (.nd l' a r))) (fun _ _=>r.setK v (Nat.div m 2) (fun r'=>id (.nd l a r'))) (Nat.mod m 2))
   cases Nat.mod m 2 with
   | zero =>
    show l.setK v (Nat.div m 2) (fun l'=>k (.nd l' a r)) = k (l.setK v (Nat.div m 2) (fun l'=>id (.nd l' a r)))
    rw [ihl β,ihl (Tr α) _ (fun l'=>id (Tr.nd l' a r))]; rfl
   | succ q =>
    show r.setK v (Nat.div m 2) (fun r'=>k (.nd l a r')) = k (r.setK v (Nat.div m 2) (fun r'=>id (.nd l a r')))
    rw [ihr β,ihr (Tr α) _ (fun r'=>id (Tr.nd l a r'))]; rfl
theorem setK_eq (v:α) (t:Tr α) (n:Nat) (k:Tr α→β):t.setK v n k = k (t.setK v n id):=setK_eq' v t β n k
theorem get_setK (v:α) (t:Tr α):∀ (n m:Nat),(t.setK v n id).get m = if m = n then (t.get n).map (fun _=>v) else t.get m:=by
 induction t with
 | lf=>intro n m; show (none:Option α) = _; simp [get_lf]
 | nd l a r ihl ihr =>
  intro n m
  cases n with
  | zero =>
   show (Tr.nd l v r).get m = _
   cases m with
   | zero=>simp [get_zero]
   | succ q=>simp [get_succ]
  | succ p =>
   have e:(Tr.nd l a r).setK v (p + 1) id = if p % 2 = 0 then .nd (l.setK v (p / 2) id) a r else .nd l a (r.setK v (p / 2) id):=by
    show Nat.rec (motive:=fun _=>Tr α) (l.setK v (Nat.div p 2) (fun l'=>id (.nd l' a r))) (fun _ _=>r.setK v (Nat.div p 2) (fun r'=>id (.nd l a r'))) (Nat.mod p 2) = _
    have h:Nat.mod p 2 = p % 2:=rfl
    rw [h,setK_eq (k:=fun l'=>id (Tr.nd l' a r)),setK_eq (k:=fun r'=>id (Tr.nd l a r'))]
    rcases Nat.mod_two_eq_zero_or_one p with e | e <;> rw [e] <;> rfl
   rw [e]
   cases m with
   | zero =>
    have hne:¬ (0 = p + 1):=by omega
    rw [if_neg hne,get_zero]
    split <;> rfl
   | succ q =>
    rcases Nat.mod_two_eq_zero_or_one p with hp | hp <;> rcases Nat.mod_two_eq_zero_or_one q with hq | hq
    ·simp only [hp,if_true,get_succ,hq,ihl]
     by_cases hpq:q = p
     ·simp [hpq]
     ·have:q / 2 ≠ p / 2:=by omega
      simp [hpq,this]
    ·simp only [hp,if_true,get_succ,hq]
     have:q ≠ p:=by omega
     simp [this]
    ·simp only [hp,get_succ,hq]
     have:q ≠ p:=by omega
     simp [this,get_succ,hq]
    ·simp only [hp,get_succ,hq]
     by_cases hpq:q = p
     ·simp [hpq,get_succ,hp,ihr]
     ·have:q / 2 ≠ p / 2:=by omega
      simp [hpq,this,get_succ,hq,ihr]
noncomputable def pathF (v d:α) (f n:Nat):Tr α :=
 Nat.rec (motive:=fun _=>Nat→Tr α) (fun _=>.lf)
  (fun _ ih n=>Nat.rec (motive:=fun _=>Tr α) (.nd .lf v .lf)
   (fun m _=>Nat.rec (motive:=fun _=>Tr α) (.nd (ih (Nat.div m 2)) d .lf) (fun _ _=>.nd .lf d (ih (Nat.div m 2))) (Nat.mod m 2)) n) f n
theorem pathF_succ (v d:α) (f m:Nat):pathF v d (f + 1) (m + 1) = if m % 2 = 0 then .nd (pathF v d f (m / 2)) d .lf else .nd .lf d (pathF v d f (m / 2)):=by
 show Nat.rec (motive:=fun _=>Tr α) (.nd (pathF v d f (Nat.div m 2)) d .lf) (fun _ _=>.nd .lf d (pathF v d f (Nat.div m 2))) (Nat.mod m 2) = _
 have h:Nat.mod m 2 = m % 2:=rfl
 rw [h]
 rcases Nat.mod_two_eq_zero_or_one m with e | e <;> rw [e] <;> rfl
theorem pathF_get (v d:α):∀ (f n m:Nat),n < f→(if m = n then (pathF v d f n).get m = some v else ((pathF v d f n).get m = none ∨ (pathF v d f n).get m = some d))
 | 0,n,m,h=>by omega
 | f + 1,0,m,_=>by
  show (if m = 0 then (Tr.nd .lf v .lf).get m = some v else ((Tr.nd .lf v .lf).get m = none ∨ (Tr.nd .lf v .lf).get m = some d))
  cases m with
  | zero=>simp [get_zero]
  | succ q=>simp [get_succ,get_lf]
 | f + 1,p + 1,m,h=>by
  rw [pathF_succ]
  cases m with
  | zero =>
   have hne:¬ (0 = p + 1):=by omega
   rw [if_neg hne]
   by_cases hp:p % 2 = 0 <;> simp [hp,get_zero]
  | succ q =>
   have ih:=pathF_get v d f (p / 2) (q / 2) (by omega)
   rcases Nat.mod_two_eq_zero_or_one p with hp | hp <;> rcases Nat.mod_two_eq_zero_or_one q with hq | hq
   ·simp only [hp,if_true,get_succ,hq]
    by_cases hpq:q = p
    ·subst hpq; simpa using ih
    ·have:q / 2 ≠ p / 2:=by omega
     simp only [this,if_false] at ih
     simp [hpq,ih]
   ·have:q ≠ p:=by omega
    simp [hp,get_succ,hq,get_lf,this]
   ·have:q ≠ p:=by omega
    simp [hp,get_succ,hq,get_lf,this]
   ·simp only [hp,get_succ,hq]
    by_cases hpq:q = p
    ·subst hpq; simpa [get_succ,hq] using ih
    ·have:q / 2 ≠ p / 2:=by omega
     simp only [this,if_false] at ih
     simpa [hpq,get_succ,hq] using ih
theorem path_eq (v d:α) (n:Nat):path v d n = pathF v d (n + 1) n:=rfl
theorem insK_eq' (v d:α) (t:Tr α):∀ (β:Type) (n:Nat) (k:Tr α→β),t.insK v d n k = k (t.insK v d n id):=by
 induction t with
 | lf=>intro β n k; rfl
 | nd l a r ihl ihr =>
  intro β n k
  cases n with
  | zero=>rfl
  | succ m =>
   show Nat.rec (motive:=fun _=>β) (l.insK v d (Nat.div m 2) (fun l'=>k (.nd l' a r))) (fun _ _=>r.insK v d (Nat.div m 2) (fun r'=>k (.nd l a r'))) (Nat.mod m 2) =
    k (Nat.rec (motive:=fun _=>Tr α) (l.insK v d (Nat.div m 2) (fun l'=>id (.nd l' a r))) (fun _ _=>r.insK v d (Nat.div m 2) (fun r'=>id (.nd l a r'))) (Nat.mod m 2))
   cases Nat.mod m 2 with
   | zero =>
    show l.insK v d (Nat.div m 2) (fun l'=>k (.nd l' a r)) = k (l.insK v d (Nat.div m 2) (fun l'=>id (.nd l' a r)))
    rw [ihl β,ihl (Tr α) _ (fun l'=>id (Tr.nd l' a r))]; rfl
   | succ q =>
    show r.insK v d (Nat.div m 2) (fun r'=>k (.nd l a r')) = k (r.insK v d (Nat.div m 2) (fun r'=>id (.nd l a r')))
    rw [ihr β,ihr (Tr α) _ (fun r'=>id (Tr.nd l a r'))]; rfl
theorem insK_eq (v d:α) (t:Tr α) (n:Nat) (k:Tr α→β):t.insK v d n k = k (t.insK v d n id):=insK_eq' v d t β n k
theorem full_get (v:α) (n:Nat):∀ (f o s j:Nat),n < s * 2 ^ f→s ≤ o + 1→(full v n f o s).get j = if o + s * j < n then some v else none
 | 0,o,s,j,h,hs=>by
  show (none:Option α) = _
  rw [if_neg]
  have:0 ≤ s * j:=Nat.zero_le _
  simp only [Nat.pow_zero,Nat.mul_one] at h
  omega
 | f + 1,o,s,j,h,hs=>by
  show (Bool.rec (motive:=fun _=>Tr α) .lf (.nd (full v n f (o + s) (2 * s)) v (full v n f (o + 2 * s) (2 * s))) (Nat.blt o n)).get j = _
  by_cases ho:o < n
  ·have hb:Nat.blt o n = true:=by simp [Nat.blt]; omega
   rw [hb]
   simp only
   have hp:n < 2 * s * 2 ^ f:=by rw [Nat.pow_succ] at h; rw [Nat.mul_comm 2 s,Nat.mul_assoc,Nat.mul_comm 2]; exact h
   cases j with
   | zero=>simp [get_zero,ho]
   | succ q =>
    rw [get_succ,full_get v n f _ _ _ hp (by omega),full_get v n f _ _ _ hp (by omega)]
    rcases Nat.mod_two_eq_zero_or_one q with hq | hq
    ·have e:o + s + 2 * s * (q / 2) = o + s * (q + 1):=by
      have:q = 2 * (q / 2):=by omega
      rw [Nat.mul_add,Nat.mul_one,Nat.add_assoc,Nat.add_comm s]
      congr 2
      rw [Nat.mul_comm 2 s,Nat.mul_assoc,← this]
     simp [hq,e]
    ·have e:o + 2 * s + 2 * s * (q / 2) = o + s * (q + 1):=by
      have:q + 1 = 2 + 2 * (q / 2):=by omega
      rw [this,Nat.mul_add,Nat.add_assoc]
      congr 2
      ·exact Nat.mul_comm _ _
      ·rw [Nat.mul_comm 2 s,Nat.mul_assoc]
     simp [hq,e]
  ·have hb:Nat.blt o n = false:=by
    cases hb:Nat.blt o n with
    | false=>rfl
    | true=>simp [Nat.blt] at hb; omega
   rw [hb]
   show (Tr.lf:Tr α).get j = _
   rw [get_lf,if_neg]
   have:0 ≤ s * j:=Nat.zero_le _
   omega
end Tr
def ERel (e:Tr V) (l:List V):Prop:=∀ j,e.get j = l[j]?
def RRel (t:Tr (Option Row)) (rows:Rows):Prop:=∀ r,rget t r = liveAt rows r
theorem rget_eq (t:Tr (Option Row)) (r:Nat):rget t r = (t.get r).join:=by
 unfold rget
 cases t.get r with
 | none=>rfl
 | some x=>cases x <;> rfl
theorem rget_ins (t:Tr (Option Row)) (x:Option Row):∀ (n m:Nat),rget (t.insK x none n id) m = if m = n then x else rget t m:=by
 induction t with
 | lf =>
  intro n m
  show rget (Tr.path x none n) m = _
  rw [Tr.path_eq]
  have h:=Tr.pathF_get x (none:Option Row) (n + 1) n m (by omega)
  by_cases hmn:m = n
  ·rw [if_pos hmn] at h
   rw [if_pos hmn,rget_eq,h]
   cases x <;> rfl
  ·rw [if_neg hmn] at h
   rw [if_neg hmn,rget_eq,rget_eq,Tr.get_lf]
   rcases h with h | h <;> rw [h] <;> rfl
 | nd l a r ihl ihr =>
  intro n m
  cases n with
  | zero =>
   show rget (Tr.nd l x r) m = _
   cases m with
   | zero=>rw [rget_eq,Tr.get_zero]; cases x <;> rfl
   | succ q=>simp [rget_eq,Tr.get_succ]
  | succ p =>
   have e:(Tr.nd l a r).insK x none (p + 1) id = if p % 2 = 0 then .nd (l.insK x none (p / 2) id) a r else .nd l a (r.insK x none (p / 2) id):=by
    show Nat.rec (motive:=fun _=>Tr (Option Row)) (l.insK x none (Nat.div p 2) (fun l'=>id (.nd l' a r))) (fun _ _=>r.insK x none (Nat.div p 2) (fun r'=>id (.nd l a r'))) (Nat.mod p 2) = _
    have h:Nat.mod p 2 = p % 2:=rfl
    rw [h,Tr.insK_eq (k:=fun l'=>id (Tr.nd l' a r)),Tr.insK_eq (k:=fun r'=>id (Tr.nd l a r'))]
    rcases Nat.mod_two_eq_zero_or_one p with e | e <;> rw [e] <;> rfl
   rw [e]
   have hsuc:∀ (l r:Tr (Option Row)) (a:Option Row) (q:Nat),rget (Tr.nd l a r) (q + 1) = if q % 2 = 0 then rget l (q / 2) else rget r (q / 2):=by
    intro l r a q
    rw [rget_eq,Tr.get_succ]
    split <;> rw [rget_eq]
   have hzer:∀ (l r:Tr (Option Row)) (a:Option Row),rget (Tr.nd l a r) 0 = a:=by
    intro l r a
    rw [rget_eq,Tr.get_zero]; cases a <;> rfl
   cases m with
   | zero=>split <;> simp [hzer]
   | succ q =>
    rcases Nat.mod_two_eq_zero_or_one p with hp | hp <;> rcases Nat.mod_two_eq_zero_or_one q with hq | hq
    ·simp only [hp,if_true,hsuc,hq,ihl]
     by_cases hpq:q = p
     ·simp [hpq]
     ·have:q / 2 ≠ p / 2:=by omega
      simp [hpq,this]
    ·have:q ≠ p:=by omega
     simp [hp,hsuc,hq,this]
    ·have:q ≠ p:=by omega
     simp [hp,hsuc,hq,this]
    ·simp only [hp]
     by_cases hpq:q = p
     ·simp [hpq,hsuc,hp,ihr]
     ·have:q / 2 ≠ p / 2:=by omega
      simp [hpq,this,hsuc,hq,ihr]
theorem rput_spec {t:Tr (Option Row)} {r:Nat} {x:Option Row}:∃ t',(∀ (β:Type) (k:Tr (Option Row)→β),rput t r x k = k t')∧∀ m,rget t' m = if m = r then x else rget t m :=
 ⟨t.insK x none r id,fun _ k=>Tr.insK_eq x none t r k,rget_ins t x r⟩
theorem setK_rel {e:Tr V} {l:List V} (h:ERel e l) (d:Nat) (v:V):∃ e',(∀ (β:Type) (k:Tr V→β),e.setK v d k = k e')∧ERel e' (l.set d v) :=
 ⟨e.setK v d id,fun _ k=>Tr.setK_eq v e d k,fun j=>by
  rw [Tr.get_setK,h,h,List.getElem?_set]
  by_cases hj:j = d
  ·subst hj
   simp only [if_true]
   by_cases hl:j < l.length
   ·simp [hl]
   ·simp [hl]
  ·rw [if_neg hj,if_neg (fun e=>hj e.symm)]⟩
theorem putE_rel {e:Tr V} {l:List V} (h:ERel e l) (dst:Option Nat) (v:V):∃ e',(∀ (β:Type) (k:Tr V→β),putE e dst v k = k e')∧ERel e' (setTmp l dst v):=by
 cases dst with
 | none=>exact ⟨e,fun _ _=>rfl,h⟩
 | some d=>obtain ⟨e',h1,h2⟩:=setK_rel h d v; exact ⟨e',fun β k=>h1 β k,h2⟩
theorem litN_eq {β:Type} (n:Nat) (k:Nat→β):litN n k = k n:=by cases n <;> rfl
theorem litI_eq {β:Type} (n:Int) (k:Int→β):litI n k = k n:=by
 cases n with
 | ofNat m=>exact litN_eq m (fun m=>k (.ofNat m))
 | negSucc m=>exact litN_eq m (fun m=>k (.negSucc m))
theorem litD_eq {β:Type} (d:D) (k:D→β):litD d k = k d:=by
 cases d <;> first
  | rfl
  | (rename_i kd n; exact litI_eq n (fun n=>k (.int kd n)))
  | (rename_i b; cases b <;> rfl)
theorem fev_spec {β:Type} {e:Tr V} {l:List V} (h:ERel e l) (x:Operand) (fl:β) (k:V→β):fev e x fl k = match evalO l x with | some v=>k v | none=>fl:=by
 cases x with
 | tmp t =>
  show Option.rec (motive:=fun _=>β) (k V.undef) (fknown fl k) (e.get t) = match known (l.getD t V.undef) with | some v=>k v | none=>fl
  rw [h t,List.getD_eq_getElem?_getD]
  cases l[t]? with
  | none=>rfl
  | some v=>cases v <;> rfl
 | const v =>
  show Option.rec (motive:=fun _=>β) fl k (ofVal v) = _
  simp only [evalO]
  cases ofVal v <;> rfl
 | global g =>
  show Option.rec (motive:=fun _=>β) fl (fun x=>k (.dp x)) (Glob.gl g) = _
  simp only [evalO]
  cases Glob.gl g <;> rfl
 | func _=>rfl
theorem fevs_spec {β:Type} {e:Tr V} {l:List V} (h:ERel e l):∀ (xs:List Operand) (fl:β) (k:List V→β),fevs e xs fl k = match evalOs l xs with | some vs=>k vs | none=>fl
 | [],fl,k=>rfl
 | x :: xs,fl,k=>by
  show fev e x fl (fun v=>fevs e xs fl fun l=>k (v :: l)) = _
  rw [fev_spec h]
  simp only [evalOs]
  cases evalO l x with
  | none=>rfl
  | some v =>
   simp only
   rw [fevs_spec h xs]
   cases evalOs l xs <;> rfl
theorem fwant_spec {β:Type} {e:Tr V} {l:List V} (h:ERel e l) (ops:Array Oper) (o:Oper) (fl no yes:β) :
  fwant e (cop ops o).gd fl no yes = match wantedA ops l o with | none=>fl | some false=>no | some true=>yes:=by
 unfold wantedA cop
 simp only
 cases hg:o.guard with
 | none=>rfl
 | some p =>
  obtain ⟨j,want⟩:=p
  show fwant1 e fl no yes ((ops[j]?).bind (·.dst)) want = _
  simp only
  cases hd:(ops[j]?).bind (·.dst) with
  | none=>rfl
  | some d =>
   show Option.rec (motive:=fun _=>β) fl (fwant2 fl no yes want) (e.get d) = _
   simp only
   rw [h d]
   cases l[d]? with
   | none=>rfl
   | some v =>
    show fwant2 fl no yes want v = _
    cases v <;> first
     | rfl
     | (rename_i x; cases x <;> first
       | rfl
       | (rename_i b; cases b <;> cases want <;> rfl))
theorem flook_eq {t:Tr (Option Row)} {rows:Rows} (h:RRel t rows) (vs:List V):flook t vs = lookOf rows vs:=by
 funext r
 unfold flook lookOf
 rw [h r]
end Go.Aev
