/- Lemmas for the statements of this seat: an abstract machine that the model follows, and contracts of functions. Conditions: none. -/
import Derived.Test.YtjchifhnckdnaaaGreatDoorAevFastS4
set_option linter.unusedVariables false
set_option linter.unusedSimpArgs false
set_option linter.unusedSectionVars false
namespace Go.Aev
variable [Glob]
theorem fopReads_eq {t:Tr (Option Row)} {rows:Rows} (hr:RRel t rows) (o:Op) (vs:List V):fopReads t o vs = opReads rows o vs:=by
 have:rget t = liveAt rows:=funext hr
 unfold fopReads opReads
 rw [this]
 rfl
theorem wr_all (a:Rec) (n:Nat) (hs:a.slot < n):a.wr.all (fun r=>decide (r < n)) = a.ups.all (fun u=>Nat.blt u.1 n):=by
 unfold Rec.wr
 rw [List.all_append,List.all_map]
 have h1:(a.ups.all ((fun r=>decide (r < n)) ∘ (·.1))) = a.ups.all (fun u=>Nat.blt u.1 n):=by
  congr 1
  funext u
  rw [Bool.eq_iff_iff]
  simp [Nat.blt]
  omega
 rw [h1]
 have h2:(if a.fresh.isSome = true then [a.slot] else []).all (fun r=>decide (r < n)) = true:=by
  split <;> simp [hs]
 rw [h2,Bool.and_true]
theorem fstepR_rel {c:Cfg} {n slot0 i:Nat} {e:Tr V} {t:Tr (Option Row)} {s:St} {ops:Array Oper} {o:Oper} (ho:ops[i]? = some o) (he:ERel e s.env) (hr:RRel t s.rows) (hn:s.rows.length = n) (hs:slot0 + i < n) :
  fstepR c n (slot0 + i) e t (cop ops o) = none ∨ ∃ a,fstepR c n (slot0 + i) e t (cop ops o) = some a∧stepR c ops slot0 i s = some a∧a.slot = slot0 + i∧a.dst = o.dst∧a.rdT = readsT ops o:=by
 show fwant e (cop ops o).gd none (some { dst:=o.dst,v:=V.undef,slot:=slot0 + i,rdT:=readsT ops o,rdR:=some [] })
  (Option.rec (motive:=fun _=>Option Rec) (fstepRA c n (slot0 + i) e t o.dst o.op (opnds o.op) (readsT ops o)) (fstepRC c n (slot0 + i) e t o.dst (readsT ops o)) (callView o.op)) = none ∨ _
 have hrew:fstepR c n (slot0 + i) e t (cop ops o) = fwant e (cop ops o).gd none (some { dst:=o.dst,v:=V.undef,slot:=slot0 + i,rdT:=readsT ops o,rdR:=some [] })
  (Option.rec (motive:=fun _=>Option Rec) (fstepRA c n (slot0 + i) e t o.dst o.op (opnds o.op) (readsT ops o)) (fstepRC c n (slot0 + i) e t o.dst (readsT ops o)) (callView o.op)):=rfl
 rw [hrew,fwant_spec he]
 unfold stepR
 rw [ho]
 simp only
 cases wantedA ops s.env o with
 | none=>exact .inl rfl
 | some b =>
  cases b with
  | false=>exact .inr ⟨_,rfl,rfl,rfl,rfl,rfl⟩
  | true =>
   simp only
   unfold opRes readsR
   cases hcv:callView o.op with
   | some p =>
    obtain ⟨f,args⟩:=p
    simp only
    show fev e f none (fun fv=>fevs e args none fun vs=>fstepRF c n (slot0 + i) t o.dst (readsT ops o) fv vs) = none ∨ _
    have hrew2:fstepRC c n (slot0 + i) e t o.dst (readsT ops o) (f,args) = fev e f none (fun fv=>fevs e args none fun vs=>fstepRF c n (slot0 + i) t o.dst (readsT ops o) fv vs):=rfl
    rw [hrew2,fev_spec he]
    cases evalO s.env f with
    | none=>exact .inl rfl
    | some fv =>
     simp only
     rw [fevs_spec he]
     cases evalOs s.env args with
     | none=>exact .inl rfl
     | some vs =>
      simp only
      unfold fstepRF
      cases fnArgs fv vs with
      | none=>exact .inl rfl
      | some q =>
       obtain ⟨g,as⟩:=q
       simp only
       by_cases hrc:c.rc g = true
       ·rw [if_pos hrc,if_pos hrc,fcallX_eq hr]
        cases hres:callX c (slot0 + i) g as s.rows with
        | none=>exact .inl rfl
        | some res =>
         simp only
         by_cases hu:(res.ups.all fun u=>Nat.blt u.1 n) = true
         ·rw [if_pos hu,freach_eq hr]
          refine .inr ⟨_,rfl,?_,rfl,rfl,rfl⟩
          rw [wr_all _ _ (by rw [hn]; exact hs),hn,if_pos hu]
         ·rw [if_neg hu]; exact .inl rfl
       ·rw [if_neg hrc]; exact .inl rfl
   | none =>
    simp only
    have hrew2:fstepRA c n (slot0 + i) e t o.dst o.op (opnds o.op) (readsT ops o) = fevs e (opnds o.op) none fun vs=>Option.rec (motive:=fun _=>Option Rec) none (fun res=>Res.rec (motive:=fun _=>Option Rec) (fun v ups fr =>
     Bool.rec (motive:=fun _=>Option Rec) none (some { dst:=o.dst,v:=v,ups:=ups,fresh:=fr,slot:=slot0 + i,rdT:=readsT ops o,rdR:=some (fopReads t o.op vs) }) (ups.all (fun u=>Nat.blt u.1 n))) res) (actF o.op c.T (flook t vs) (slot0 + i) vs):=rfl
    rw [hrew2,fevs_spec he]
    cases evalOs s.env (opnds o.op) with
    | none=>exact .inl rfl
    | some vs =>
     simp only
     rw [actF_eq,flook_eq hr]
     cases act c.T (lookOf s.rows vs) (slot0 + i) o.op vs with
     | none=>exact .inl rfl
     | some res =>
      obtain ⟨v,ups,fr⟩:=res
      simp only
      cases hu:ups.all (fun u=>Nat.blt u.1 n) with
      | false=>exact .inl rfl
      | true =>
       simp only
       refine .inr ⟨_,rfl,?_,rfl,rfl,rfl⟩
       rw [fopReads_eq hr,wr_all _ _ (by rw [hn]; exact hs),hn]
       simp only [hu,if_true]
theorem fexec_rel {β:Type} {a:Rec} {e:Tr V} {t:Tr (Option Row)} {s:St} {n:Nat} (he:ERel e s.env) (hr:RRel t s.rows) (hn:s.rows.length = n) (hu:∀ u ∈ a.ups,u.1 < n) (hs:a.slot < n) :
  ∃ e' t',(∀ (k:Tr V→Tr (Option Row)→β),fexec a e t k = k e' t')∧ERel e' (a.exec s).env∧RRel t' (a.exec s).rows∧(a.exec s).rows.length = n:=by
 obtain ⟨dst,v,ups,fr,slot,rdT,rdR⟩:=a
 obtain ⟨t1,h1,h2⟩:=fups_rel hr (fun u h=>by rw [hn]; exact hu u h)
 obtain ⟨e1,h3,h4⟩:=putE_rel he dst v
 have hE:ERel e1 (Rec.exec ⟨dst,v,ups,fr,slot,rdT,rdR⟩ s).env:=by
  cases dst <;> exact h4
 cases fr with
 | none =>
  refine ⟨e1,t1,fun k=>?_,hE,?_,?_⟩
  ·show fups ups t (fun t=>putE e dst v fun e=>k e t) = _
   rw [h1,h3]
  ·show RRel t1 (setRows (ups ++ []) s.rows)
   rw [List.append_nil]; exact h2
  ·show (setRows (ups ++ []) s.rows).length = n
   rw [setRows_len]; exact hn
 | some row =>
  obtain ⟨t2,h5,h6⟩:=rput_spec (t:=t1) (r:=slot) (x:=some row)
  have happ:setRows (ups ++ [(slot,Slot.live row)]) s.rows = (setRows ups s.rows).set slot (.live row):=by
   simp [setRows,List.foldl_append]
  refine ⟨e1,t2,fun k=>?_,hE,?_,?_⟩
  ·show fups ups t (fun t=>rput t slot (some row) fun t=>putE e dst v fun e=>k e t) = _
   rw [h1,h5,h3]
  ·show RRel t2 (setRows (ups ++ [(slot,Slot.live row)]) s.rows)
   rw [happ]
   intro j
   rw [h6,liveAt_set _ (by rw [setRows_len,hn]; exact hs),h2 j]; rfl
  ·show (setRows (ups ++ [(slot,Slot.live row)]) s.rows).length = n
   rw [setRows_len]; exact hn
inductive DRel (ops:Array Oper):List FOp→List Rec→Prop
 | nil:DRel ops [] []
 | cons {o:FOp} {a:Rec} {l r} (h1:a.dst = o.dst) (h2:a.rdT = o.rdT) (t:DRel ops l r):DRel ops (o :: l) (a :: r)
theorem stepR_ups {c:Cfg} {ops:Array Oper} {slot0 i:Nat} {s:St} {a:Rec} (h:stepR c ops slot0 i s = some a):∀ u ∈ a.ups,u.1 < s.rows.length:=by
 intro u hu
 unfold stepR at h
 split at h
 ·cases h
 ·split at h
  ·cases h
  ·cases h; simp at hu
  ·split at h
   ·cases h
   ·simp only at h
    split at h
    ·rename_i hw
     cases h
     have:=(List.all_eq_true.1 hw) u.1 (by unfold Rec.wr; simp; exact .inl ⟨_,hu⟩)
     simpa using this
    ·cases h
theorem frunAll_rel {β:Type} {c:Cfg} {n slot0:Nat} {ops:Array Oper} {fl:β} (hn':slot0 + ops.size ≤ n):∀ {l:List FOp} {i:Nat} {idx:List Nat} {e:Tr V} {t:Tr (Option Row)} {s:St} {acc:List Rec} {k:List Rec→Tr V→Tr (Option Row)→β},
  OpsRel ops l idx→idx = List.range' i l.length→ERel e s.env→RRel t s.rows→s.rows.length = n →
  frunAll c n fl l (slot0 + i) e t acc k = fl ∨ ∃ rs e' t' s',frunAll c n fl l (slot0 + i) e t acc k = k (acc.reverse ++ rs) e' t'∧runAll c ops slot0 idx s = some (rs,s')∧ERel e' s'.env∧RRel t' s'.rows∧s'.rows.length = n∧DRel ops l rs
 | [],i,idx,e,t,s,acc,k,ho,hi,he,hr,hn=>by
  cases ho
  exact .inr ⟨[],e,t,s,by rw [List.append_nil]; rfl,rfl,he,hr,hn,.nil⟩
 | fo :: l,i,idx,e,t,s,acc,k,ho,hi,he,hr,hn=>by
  cases ho with
  | cons hop hot =>
   rename_i j o r
   rw [List.length_cons,List.range'_succ] at hi
   injection hi with hj hrest
   subst hj
   have hil:j < ops.size:=by
    rcases Nat.lt_or_ge j ops.size with h | h
    ·exact h
    ·rw [Array.getElem?_eq_none h] at hop; cases hop
   have hrew:frunAll c n fl (cop ops o :: l) (slot0 + j) e t acc k = Option.rec (motive:=fun _=>β) fl (fun a=>fexec a e t fun e t=>frunAll c n fl l (slot0 + j + 1) e t (a :: acc) k) (fstepR c n (slot0 + j) e t (cop ops o)):=rfl
   rw [hrew]
   rcases fstepR_rel (c:=c) (slot0:=slot0) hop he hr hn (by omega) with h | ⟨a,h1,h2,h3,h4,h5⟩
   ·rw [h]; exact .inl rfl
   ·rw [h1]
    simp only
    have hups:=stepR_ups h2
    rw [hn] at hups
    obtain ⟨e1,t1,g1,g2,g3,g4⟩:=fexec_rel (β:=β) he hr hn hups (by rw [h3]; omega)
    rw [g1]
    rcases frunAll_rel hn' (fl:=fl) (l:=l) (i:=j + 1) (idx:=r) (acc:=a :: acc) (k:=k) hot hrest g2 g3 g4 with h | ⟨rs,e',t',s',k1,k2,k3,k4,k5,k6⟩
    ·exact .inl h
    ·refine .inr ⟨a :: rs,e',t',s',?_,?_,k3,k4,k5,.cons h4 h5 k6⟩
     ·show frunAll c n fl l (slot0 + (j + 1)) e1 t1 (a :: acc) k = _
      rw [k1]; simp
     ·simp only [runAll,h2,k2]
theorem DRel.len {ops:Array Oper} {l:List FOp} {r:List Rec} (h:DRel ops l r):r.length = l.length:=by
 induction h with
 | nil=>rfl
 | cons _ _ _ ih=>simp [ih]
theorem DRel.get {ops:Array Oper} {l:List FOp} {r:List Rec} (h:DRel ops l r):∀ {i:Nat} {a:Rec},r[i]? = some a→∃ o,l[i]? = some o∧a.dst = o.dst∧a.rdT = o.rdT:=by
 induction h with
 | nil=>intro i a h; simp at h
 | cons h1 h2 _ ih =>
  intro i a h
  cases i with
  | zero=>simp at h; subst h; exact ⟨_,rfl,h1,h2⟩
  | succ i=>simp only [List.getElem?_cons_succ] at h ⊢; exact ih h
theorem quiet_wr {a:Rec} (h:a.quiet = true):a.wr = []:=by
 unfold Rec.quiet at h
 simp only [Bool.and_eq_true,List.isEmpty_iff,Option.isNone_iff_eq_none] at h
 unfold Rec.wr
 rw [h.1,h.2]; rfl
theorem disjoint_nil (a:List Nat):disjoint a [] = true:=by simp [disjoint]
theorem apartR_nil (r:Option (List Nat)):apartR r [] = true:=by
 cases r with
 | none=>rfl
 | some l=>exact disjoint_nil l
theorem rowsOK_spec {an:List (List Nat)} {slot0 n:Nat} {rs:List Rec} (h:rowsOK an slot0 n rs = true) (hlen:rs.length = n) {i k:Nat} {a b:Rec} (ha:rs[i]? = some a) (hb:rs[k]? = some b) :
  (i = k ∨ (an.getD i []).contains k = true ∨ a.wr.contains (slot0 + k) = false) ∧
  (k ≤ i ∨ (an.getD k []).contains i = true ∨ (apartR b.rdR a.wr = true∧apartR a.rdR b.wr = true∧disjoint a.wr b.wr = true)):=by
 have hk:k < n:=by rw [← hlen]; exact lt_of_get hb
 unfold rowsOK at h
 simp only [Bool.or_eq_true] at h
 rcases h with h | h
 ·have qa:=quiet_wr ((List.all_eq_true.1 h) a (List.mem_of_getElem? ha))
  have qb:=quiet_wr ((List.all_eq_true.1 h) b (List.mem_of_getElem? hb))
  refine ⟨.inr (.inr (by rw [qa]; rfl)),.inr (.inr ?_)⟩
  rw [qa,qb]
  exact ⟨apartR_nil _,apartR_nil _,rfl⟩
 ·have memA:a.idle = false→(a,i) ∈ rs.zipIdx.filter fun p=>!p.1.idle:=fun hi=>by
   rw [List.mem_filter]
   refine ⟨?_,by simp [hi]⟩
   rw [List.mem_zipIdx_iff_getElem?]; simpa using ha
  have memB:b.idle = false→(b,k) ∈ rs.zipIdx.filter fun p=>!p.1.idle:=fun hi=>by
   rw [List.mem_filter]
   refine ⟨?_,by simp [hi]⟩
   rw [List.mem_zipIdx_iff_getElem?]; simpa using hb
  have idleE:∀ {a:Rec},a.idle = true→a.wr = []∧a.rdR = some []:=by
   intro a hi
   unfold Rec.idle at hi
   split at hi
   ·rename_i hq; exact ⟨quiet_wr hi,hq⟩
   ·cases hi
  constructor
  ·cases hia:a.idle with
   | true=>exact .inr (.inr (by rw [(idleE hia).1]; rfl))
   | false =>
    have h1:=(List.all_eq_true.1 h) _ (memA hia)
    simp only [Bool.and_eq_true] at h1
    have h2:=h1.1
    by_cases hik:i = k
    ·exact .inl hik
    ·cases hw:a.wr.contains (slot0 + k) with
     | false=>exact .inr (.inr rfl)
     | true =>
      have hmem:slot0 + k ∈ a.wr:=by simpa using hw
      have h3:=(List.all_eq_true.1 h2) _ hmem
      simp only [Bool.or_eq_true] at h3
      rcases h3 with ((h3 | h3) | h3) | h3
      ·simp [Nat.blt] at h3; omega
      ·have:=Nat.eq_of_beq_eq_true h3
       exact absurd (by have:slot0 + k = slot0 + i:=this; omega) hik
      ·have:slot0 + n ≤ slot0 + k:=Nat.le_of_ble_eq_true h3
       omega
      ·have e:Nat.sub (slot0 + k) slot0 = k:=by show slot0 + k - slot0 = k; omega
       rw [e] at h3
       exact .inr (.inl h3)
  ·cases hia:a.idle with
   | true =>
    obtain ⟨e1,e2⟩:=idleE hia
    refine .inr (.inr ?_)
    rw [e1,e2]
    exact ⟨apartR_nil _,rfl,rfl⟩
   | false =>
    cases hib:b.idle with
    | true =>
     obtain ⟨e1,e2⟩:=idleE hib
     refine .inr (.inr ?_)
     rw [e1,e2]
     exact ⟨rfl,apartR_nil _,disjoint_nil _⟩
    | false =>
     have h1:=(List.all_eq_true.1 h) _ (memB hib)
     simp only [Bool.and_eq_true] at h1
     have h2:=(List.all_eq_true.1 h1.2) _ (memA hia)
     simp only [Bool.or_eq_true,Bool.and_eq_true] at h2
     rcases h2 with ((h2 | h2) | h2) | h2
     ·exact .inl (Nat.le_of_ble_eq_true h2)
     ·refine .inr (.inr ?_)
      rw [quiet_wr h2.1,quiet_wr h2.2]
      exact ⟨apartR_nil _,apartR_nil _,rfl⟩
     ·exact .inr (.inl h2)
     ·exact .inr (.inr ⟨h2.1.1,h2.1.2,h2.2⟩)
theorem pairs_of {ops:Array Oper} {an:List (List Nat)} {slot0 n:Nat} {l:List FOp} {rs:List Rec} (hd:DRel ops l rs) (hl:l.length = n) (h1:tmpsOK an l = true) (h2:rowsOK an slot0 n rs = true):pairsOK an slot0 rs = true:=by
 have hlen:rs.length = n:=by rw [hd.len,hl]
 unfold pairsOK
 rw [List.all_eq_true]
 rintro ⟨b,k⟩ hb
 rw [List.all_eq_true]
 rintro ⟨a,i⟩ ha
 rw [List.mem_zipIdx_iff_getElem?] at ha hb
 simp only at ha hb
 obtain ⟨c1,c2⟩:=rowsOK_spec h2 hlen ha hb
 obtain ⟨oa,ga,da,ra⟩:=hd.get ha
 obtain ⟨ob,gb,db,rb⟩:=hd.get hb
 have ht:=(List.all_eq_true.1 ((List.all_eq_true.1 h1) (ob,k) (by rw [List.mem_zipIdx_iff_getElem?]; simpa using gb))) (oa,i) (by rw [List.mem_zipIdx_iff_getElem?]; simpa using ga)
 simp only [Bool.or_eq_true,Bool.and_eq_true] at ht
 simp only [Bool.or_eq_true,Bool.and_eq_true,beq_iff_eq,decide_eq_true_eq,Bool.not_eq_true']
 by_cases hik:i = k
 ·exact .inl hik
 ·refine .inr ⟨?_,?_⟩
  ·rcases c1 with c | c | c
   ·exact absurd c hik
   ·exact .inl c
   ·exact .inr c
  ·rcases c2 with c | c | c
   ·exact .inl (.inl (by omega))
   ·exact .inl (.inr c)
   ·rcases ht with (ht | ht) | ht
    ·exact .inl (.inl (by have:=Nat.le_of_ble_eq_true ht; omega))
    ·exact .inl (.inr ht)
    ·refine .inr ?_
     unfold indep
     rw [da,db,ra,rb]
     simp only [Bool.and_eq_true]
     exact ⟨⟨⟨⟨⟨ht.1.1,ht.1.2⟩,ht.2⟩,c.1⟩,c.2.1⟩,c.2.2⟩
end Go.Aev
